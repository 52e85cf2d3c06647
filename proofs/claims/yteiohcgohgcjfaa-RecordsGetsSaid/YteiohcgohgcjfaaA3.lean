/- Contracts of the Writer's number, Byte, Short, Word, Long, Out. -/
import Derived.Test.YteiohcgohgcjfaaRows
import Derived.Test.YteiohcgohgcjfaaWords
import Derived.Test.YteiohcgohgcjfaaByts
import Derived.Test.YteiohcgohgcjfaaStrs
import Derived.Test.YteiohcgohgcjfaaFrame
import Derived.Test.YteiohcgohgcjfaaA1
import Derived.Test.YteiohcgohgcjfaaA2
namespace Go.Proofs.Yteiohcgohgcjfaa
open Go.RowKit Go.Proofs.Tail
set_option linter.unusedSimpArgs false
set_option linter.unusedVariables false
theorem Wrote.later {P : Nat} {v : Value} {xs : List Int} {w w1 : World} {e : Ending} {w' : World} (hb : Below w.heap.size w w1) (h : Wrote P v xs w1 e w') : Wrote P v xs w e w' := by
  obtain ⟨rfl, v', h1, h2, h3⟩ := h
  refine ⟨rfl, v', h1, (Fr.of_below hb).trans h2 (fun _ _ h => h), ?_⟩
  rcases h3 with e | ⟨b, e, hl⟩
  · exact .inl e
  · exact .inr ⟨b, e, Nat.le_trans hb.size hl⟩
theorem be_1 (n : Int) : be n 1 = [n % 256] := by
  simp only [be, List.nil_append, List.cons_append, List.cons.injEq, and_true]
  try omega
set_option maxRecDepth 100000 in
set_option maxHeartbeats 8000000 in
theorem number_1 (P : Nat) (v : Value) (xs : List Int) (n : Int) (w : World) (hW : Wr w P v xs) (h0 : 0 ≤ n) (h1 : n < 18446744073709551616) (hlim : xs.length + 8 ≤ 140737488355328) :
    Calls Try.prog 49 #[.pointer (some ⟨P, 0, none⟩), .int .u64 n, .int .i64 1] w (Wrote P v (xs ++ be n 1) w) := by
  have HW := Lib.hid (hW.below (below_new w (.cells #[.int .u8 (n / 72057594037927936), .int .u8 (n / 281474976710656 % 256), .int .u8 (n / 1099511627776 % 256), .int .u8 (n / 4294967296 % 256), .int .u8 (n / 16777216 % 256), .int .u8 (n / 65536 % 256), .int .u8 (n / 256 % 256), .int .u8 (n % 256)] 107)))
  have HD := Lib.hid (Blk.new w [.int .u8 (n / 72057594037927936), .int .u8 (n / 281474976710656 % 256), .int .u8 (n / 1099511627776 % 256), .int .u8 (n / 4294967296 % 256), .int .u8 (n / 16777216 % 256), .int .u8 (n / 65536 % 256), .int .u8 (n / 256 % 256), .int .u8 (n % 256)] 107 _ rfl)
  have HB := Lib.hid (below_new w (.cells #[.int .u8 (n / 72057594037927936), .int .u8 (n / 281474976710656 % 256), .int .u8 (n / 1099511627776 % 256), .int .u8 (n / 4294967296 % 256), .int .u8 (n / 16777216 % 256), .int .u8 (n / 65536 % 256), .int .u8 (n / 256 % 256), .int .u8 (n % 256)] 107))
  clear hW
  go_enter Try.func49, Try.ntmps49
  go_wp2_with fail
  refine wp_loop_rounds 9 ?_
  iterate 9 (rw [rounds_succ]; go_wp2_with fail)
  have HR := byts_blk HD.out 7 1 1 (be n 1) (be_length n 1) (by omega) (by omega) (fun j x hj => by
    rw [be_1 n] at hj
    match j, hj with
    | 0, hj => (injection hj with hj; rw [← hj]; rfl)
    | _ + 1, hj => simp at hj)
  refine (raw_any P v xs (be n 1) _ 1 1 _ HW.out HR (by omega)).mono ?_
  rintro e w1 hw
  have HX := Lib.hid (hw.later HB.out)
  obtain ⟨rfl, _⟩ := hw
  clear HR
  go_wp2_with fail
  go_end0
  exact HX.out
theorem be_2 (n : Int) : be n 2 = [n / 256 % 256, n % 256] := by
  simp only [be, List.nil_append, List.cons_append, List.cons.injEq, and_true]
  try omega
theorem be_4 (n : Int) : be n 4 = [n / 16777216 % 256, n / 65536 % 256, n / 256 % 256, n % 256] := by
  simp only [be, List.nil_append, List.cons_append, List.cons.injEq, and_true]
  try omega
set_option maxRecDepth 100000 in
set_option maxHeartbeats 8000000 in
theorem number_4 (P : Nat) (v : Value) (xs : List Int) (n : Int) (w : World) (hW : Wr w P v xs) (h0 : 0 ≤ n) (h1 : n < 18446744073709551616) (hlim : xs.length + 8 ≤ 140737488355328) :
    Calls Try.prog 49 #[.pointer (some ⟨P, 0, none⟩), .int .u64 n, .int .i64 4] w (Wrote P v (xs ++ be n 4) w) := by
  have HW := Lib.hid (hW.below (below_new w (.cells #[.int .u8 (n / 72057594037927936), .int .u8 (n / 281474976710656 % 256), .int .u8 (n / 1099511627776 % 256), .int .u8 (n / 4294967296 % 256), .int .u8 (n / 16777216 % 256), .int .u8 (n / 65536 % 256), .int .u8 (n / 256 % 256), .int .u8 (n % 256)] 107)))
  have HD := Lib.hid (Blk.new w [.int .u8 (n / 72057594037927936), .int .u8 (n / 281474976710656 % 256), .int .u8 (n / 1099511627776 % 256), .int .u8 (n / 4294967296 % 256), .int .u8 (n / 16777216 % 256), .int .u8 (n / 65536 % 256), .int .u8 (n / 256 % 256), .int .u8 (n % 256)] 107 _ rfl)
  have HB := Lib.hid (below_new w (.cells #[.int .u8 (n / 72057594037927936), .int .u8 (n / 281474976710656 % 256), .int .u8 (n / 1099511627776 % 256), .int .u8 (n / 4294967296 % 256), .int .u8 (n / 16777216 % 256), .int .u8 (n / 65536 % 256), .int .u8 (n / 256 % 256), .int .u8 (n % 256)] 107))
  clear hW
  go_enter Try.func49, Try.ntmps49
  go_wp2_with fail
  refine wp_loop_rounds 9 ?_
  iterate 9 (rw [rounds_succ]; go_wp2_with fail)
  have HR := byts_blk HD.out 4 4 4 (be n 4) (be_length n 4) (by omega) (by omega) (fun j x hj => by
    rw [be_4 n] at hj
    match j, hj with
    | 0, hj => (injection hj with hj; rw [← hj]; rfl)
    | 1, hj => (injection hj with hj; rw [← hj]; rfl)
    | 2, hj => (injection hj with hj; rw [← hj]; rfl)
    | 3, hj => (injection hj with hj; rw [← hj]; rfl)
    | _ + 4, hj => simp at hj)
  refine (raw_any P v xs (be n 4) _ 4 4 _ HW.out HR (by omega)).mono ?_
  rintro e w1 hw
  have HX := Lib.hid (hw.later HB.out)
  obtain ⟨rfl, _⟩ := hw
  clear HR
  go_wp2_with fail
  go_end0
  exact HX.out
theorem be_8 (n : Int) (h0 : 0 ≤ n) (h1 : n < 18446744073709551616) : be n 8 = [n / 72057594037927936, n / 281474976710656 % 256, n / 1099511627776 % 256, n / 4294967296 % 256, n / 16777216 % 256, n / 65536 % 256, n / 256 % 256, n % 256] := by
  simp only [be, List.nil_append, List.cons_append, List.cons.injEq, and_true]
  try omega
set_option maxRecDepth 100000 in
set_option maxHeartbeats 8000000 in
theorem number_8 (P : Nat) (v : Value) (xs : List Int) (n : Int) (w : World) (hW : Wr w P v xs) (h0 : 0 ≤ n) (h1 : n < 18446744073709551616) (hlim : xs.length + 8 ≤ 140737488355328) :
    Calls Try.prog 49 #[.pointer (some ⟨P, 0, none⟩), .int .u64 n, .int .i64 8] w (Wrote P v (xs ++ be n 8) w) := by
  have HW := Lib.hid (hW.below (below_new w (.cells #[.int .u8 (n / 72057594037927936), .int .u8 (n / 281474976710656 % 256), .int .u8 (n / 1099511627776 % 256), .int .u8 (n / 4294967296 % 256), .int .u8 (n / 16777216 % 256), .int .u8 (n / 65536 % 256), .int .u8 (n / 256 % 256), .int .u8 (n % 256)] 107)))
  have HD := Lib.hid (Blk.new w [.int .u8 (n / 72057594037927936), .int .u8 (n / 281474976710656 % 256), .int .u8 (n / 1099511627776 % 256), .int .u8 (n / 4294967296 % 256), .int .u8 (n / 16777216 % 256), .int .u8 (n / 65536 % 256), .int .u8 (n / 256 % 256), .int .u8 (n % 256)] 107 _ rfl)
  have HB := Lib.hid (below_new w (.cells #[.int .u8 (n / 72057594037927936), .int .u8 (n / 281474976710656 % 256), .int .u8 (n / 1099511627776 % 256), .int .u8 (n / 4294967296 % 256), .int .u8 (n / 16777216 % 256), .int .u8 (n / 65536 % 256), .int .u8 (n / 256 % 256), .int .u8 (n % 256)] 107))
  clear hW
  go_enter Try.func49, Try.ntmps49
  go_wp2_with fail
  refine wp_loop_rounds 9 ?_
  iterate 9 (rw [rounds_succ]; go_wp2_with fail)
  have HR := byts_blk HD.out 0 8 8 (be n 8) (be_length n 8) (by omega) (by omega) (fun j x hj => by
    rw [be_8 n h0 h1] at hj
    match j, hj with
    | 0, hj => (injection hj with hj; rw [← hj]; rfl)
    | 1, hj => (injection hj with hj; rw [← hj]; rfl)
    | 2, hj => (injection hj with hj; rw [← hj]; rfl)
    | 3, hj => (injection hj with hj; rw [← hj]; rfl)
    | 4, hj => (injection hj with hj; rw [← hj]; rfl)
    | 5, hj => (injection hj with hj; rw [← hj]; rfl)
    | 6, hj => (injection hj with hj; rw [← hj]; rfl)
    | 7, hj => (injection hj with hj; rw [← hj]; rfl)
    | _ + 8, hj => simp at hj)
  refine (raw_any P v xs (be n 8) _ 8 8 _ HW.out HR (by omega)).mono ?_
  rintro e w1 hw
  have HX := Lib.hid (hw.later HB.out)
  obtain ⟨rfl, _⟩ := hw
  clear HR
  go_wp2_with fail
  go_end0
  exact HX.out
set_option maxHeartbeats 4000000 in
theorem wbyte_any (P : Nat) (v : Value) (xs : List Int) (n : Int) (w : World) (hW : Wr w P v xs) (h0 : 0 ≤ n) (h1 : n < 256) (hlim : xs.length + 8 ≤ 140737488355328) :
    Calls Try.prog 24 #[.pointer (some ⟨P, 0, none⟩), .int .u8 n] w (Wrote P v (xs ++ be n 1) w) := by
  have H := Lib.hid (number_1 P v xs n w hW h0 (by omega) hlim)
  clear hW hlim
  go_enter Try.func24, Try.ntmps24
  go_wp2_with fail
  refine H.out.mono ?_
  rintro e w1 hw
  have HX := Lib.hid hw
  obtain ⟨rfl, _⟩ := hw
  go_wp2_with fail
  go_end0
  exact HX.out
set_option maxHeartbeats 4000000 in
theorem wword_any (P : Nat) (v : Value) (xs : List Int) (n : Int) (w : World) (hW : Wr w P v xs) (h0 : 0 ≤ n) (h1 : n < 4294967296) (hlim : xs.length + 8 ≤ 140737488355328) :
    Calls Try.prog 52 #[.pointer (some ⟨P, 0, none⟩), .int .u32 n] w (Wrote P v (xs ++ be n 4) w) := by
  have H := Lib.hid (number_4 P v xs n w hW h0 (by omega) hlim)
  clear hW hlim
  go_enter Try.func52, Try.ntmps52
  go_wp2_with fail
  refine H.out.mono ?_
  rintro e w1 hw
  have HX := Lib.hid hw
  obtain ⟨rfl, _⟩ := hw
  go_wp2_with fail
  go_end0
  exact HX.out
set_option maxHeartbeats 4000000 in
theorem wlong_any (P : Nat) (v : Value) (xs : List Int) (n : Int) (w : World) (hW : Wr w P v xs) (h0 : 0 ≤ n) (h1 : n < 18446744073709551616) (hlim : xs.length + 8 ≤ 140737488355328) :
    Calls Try.prog 25 #[.pointer (some ⟨P, 0, none⟩), .int .u64 n] w (Wrote P v (xs ++ be n 8) w) := by
  have H := Lib.hid (number_8 P v xs n w hW h0 (by omega) hlim)
  clear hW hlim
  go_enter Try.func25, Try.ntmps25
  go_wp2_with fail
  refine H.out.mono ?_
  rintro e w1 hw
  have HX := Lib.hid hw
  obtain ⟨rfl, _⟩ := hw
  go_wp2_with fail
  go_end0
  exact HX.out
set_option maxHeartbeats 4000000 in
theorem out_any (P : Nat) (v : Value) (xs : List Int) (w : World) (hW : Wr w P v xs) (hlim : xs.length ≤ 140737488355328) :
    Calls Try.prog 29 #[.pointer (some ⟨P, 0, none⟩)] w (GivesRow1 xs w) := by
  have HW := Lib.hid hW
  have hlx := hlim
  obtain ⟨A, c, rfl, hr⟩ := own_bytes hW.own (by omega)
  have HR := Lib.hid hr
  have c0 : w.cell? ⟨P, 0, none⟩ = some (.slice A xs.length c) := hW.blk.cell 0
  clear hW hr
  by_cases h0 : xs = []
  · subst h0
    go_enter Try.func29, Try.ntmps29
    go_wp2_with fail
    go_ret
    exact ⟨_, rfl, World.ownsRow_nil _ _ _ _, Below.refl _ _⟩
  · have hp : 0 < xs.length := List.length_pos_iff.2 h0
    have hne : ((xs.length : Int) == 0) = false := by simp; exact h0
    go_enter Try.func29, Try.ntmps29
    go_wp2_with (at_builtin; (refine own_append_bytes (W := w) rfl _ (.tmp 16) 36 5 rfl Try.underlying36 infoBy w.heap.size (.slice none 0 0) [] A xs.length c xs rfl rfl (World.ownsRow_nil _ _ _ _) HR.out (by simp; omega) (Nat.le_refl _) ?_); intro v1 w1 hown hgr hat; have HO := Lib.hid hown; have HB := Lib.hid (below_grown (Below.refl w.heap.size w) hgr (fun k hk => by simp [Value.ownBlock] at hk)); clear hown hgr hat)
    go_ret
    exact ⟨_, rfl, HO.out, HB.out⟩
end Go.Proofs.Yteiohcgohgcjfaa
