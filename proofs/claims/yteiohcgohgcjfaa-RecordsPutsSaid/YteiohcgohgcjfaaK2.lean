/- The reference's number, Bytes. -/
import Derived.Test.YteiohcgohgcjfaaRows
import Derived.IntWalk
import Derived.Test.YteiohcgohgcjfaaWords
import Derived.Test.YteiohcgohgcjfaaByts
import Derived.Test.YteiohcgohgcjfaaStrs
import Derived.Test.YteiohcgohgcjfaaFrame
import Derived.Test.YteiohcgohgcjfaaElems
import Derived.Test.YteiohcgohgcjfaaS1
import Derived.Test.YteiohcgohgcjfaaS2
import Derived.Test.YteiohcgohgcjfaaEqs
import Derived.Test.YteiohcgohgcjfaaS11
import Derived.Test.YteiohcgohgcjfaaA1
import Derived.Test.YteiohcgohgcjfaaD1
import Derived.Test.YteiohcgohgcjfaaD5
import Derived.Test.YteiohcgohgcjfaaD6
import Derived.Test.YteiohcgohgcjfaaD7
import Derived.Test.YteiohcgohgcjfaaD9
import Derived.Test.YteiohcgohgcjfaaE4
import Derived.Test.YteiohcgohgcjfaaE5
import Derived.Test.YteiohcgohgcjfaaB0
import Derived.Test.YteiohcgohgcjfaaP0
import Derived.Test.YteiohcgohgcjfaaP2
namespace Go.Proofs.Yteiohcgohgcjfaa
open Go Go.RowKit Go.Proofs.Tail
set_option linter.unusedSimpArgs false
set_option linter.unusedVariables false
/-- A row of bytes, read. -/
def GivesBy (k : Nat) (xs : List Int) (w : World) (e : Ending) (w' : World) : Prop := ∃ A c, e = .returned (.slice A k c) ∧ Byts w' A k c xs ∧ Below w.heap.size w w'
theorem num_any (n : Int) (k : Nat) (w : World) (hk : k ≤ 8) : Calls Try.prog 21 #[.int .i64 n, .int .i64 k] w (GivesBy k (be (u64 n) k) w) := by
  have HC := Lib.hid (bytes_any k (u64 n) w hk (u64_in n).1 (u64_in n).2)
  have hw := wrap_u64' n
  go_enter Try.func21, Try.ntmps21
  go_wp2_with fail
  refine HC.out.mono ?_
  rintro e w1 ⟨v, rfl, ho, hb⟩
  obtain ⟨A, c, rfl, hy⟩ := own_bytes ho (by rw [be_length]; omega)
  have HY := Lib.hid hy
  have HB := Lib.hid hb
  have hl := be_length (u64 n) k
  clear ho hy hb
  go_wp2_with fail
  go_ret
  exact ⟨A, c, rfl, by have := HY.out; rw [hl] at this; exact this, HB.out⟩
theorem putb_any (t : T) (w : World) (h : t.rightB = true) : Calls Try.prog 22 #[.agg #[.int .i64 t.d, .int .i64 t.e, .int .i64 t.a, .int .i64 t.b, .int .i64 t.c]] w (fun e w' => ∃ A c, e = .returned (.tuple #[.slice A (putL t).length c, .int .i64 0]) ∧ Byts w' A (putL t).length c (putL t) ∧ Below w.heap.size w w') := by
  have hp := refput_any t w
  rw [show putE t = 0 by unfold putE; rw [if_pos h]] at hp
  refine hp.mono ?_
  rintro e w1 ⟨v, rfl, ho, hb⟩
  obtain ⟨A, c, rfl, hy⟩ := own_bytes ho (by have := putL_len t; omega)
  exact ⟨A, c, rfl, hy, hb⟩
/-- While bytes are written: the box, the row. -/
structure By (w : World) (m : Msg) (A : Option Addr) (c : Nat) (C : Option Addr) (d : Nat) (v : Value) (xs : List Int) (wr : World) : Prop where
  blk : Blk wr w.heap.size (m.cs A c C d) 34
  own : wr.ownsRow (w.heap.size + 1) 5 1 v xs.length (byV xs)
  b : Below w.heap.size w wr
section
variable {w wr w2 : World} {m : Msg} {A C : Option Addr} {c d : Nat} {v v2 : Value} {xs ys : List Int}
theorem By.below (h : By w m A c C d v xs wr) (hb : Below wr.heap.size wr w2) : By w m A c C d v xs w2 := ⟨h.blk.then hb, own_below h.own hb, below_then h.b hb⟩
theorem By.more (h : By w m A c C d v xs wr) (hown : w2.ownsRow (w.heap.size + 1) 5 1 v2 (xs ++ ys).length (byV (xs ++ ys))) (hgr : wr.grownBy w2 v.ownBlock) : By w m A c C d v2 (xs ++ ys) w2 :=
  ⟨h.blk.grown hgr (fun e => by have := own_lt h.own _ e; omega), hown, below_grown h.b hgr (fun k hk => by have := own_lt h.own k hk; omega)⟩
theorem By.la (h : By w m A c C d v xs wr) : ∀ o, wr.cell? ⟨w.heap.size, o, none⟩ = (Mb.cs ⟨0, m, A, c, C, d⟩)[o]? := fun o => by rw [h.blk.cell, Mb.cs, ← Msg.cs_eq]; simp
theorem By.size (h : By w m A c C d v xs wr) : w.heap.size + 1 ≤ wr.heap.size := h.blk.lt
/-- A change's box beside the row. -/
structure Up (wr : World) (B : Nat) (u : Upd) (v : Value) : Prop where
  blk : Blk wr B u.ucs 59
  ne : v.ownBlock ≠ some B
theorem Up.below {B : Nat} {u : Upd} (h : Up wr B u v) (hb : Below wr.heap.size wr w2) : Up w2 B u v := ⟨h.blk.then hb, h.ne⟩
theorem Up.more {B : Nat} {u : Upd} (h : Up wr B u v) (hgr : wr.grownBy w2 v.ownBlock) (hat : v2.ownBlock = v.ownBlock ∨ ∃ b, v2.ownBlock = some b ∧ wr.heap.size ≤ b) : Up w2 B u v2 :=
  ⟨h.blk.grown hgr h.ne, fun e => by
    rcases hat with h1 | ⟨b, h1, h2⟩
    · exact h.ne (by rw [← h1, e])
    · rw [e] at h1; injection h1 with h1; have := h.blk.lt; omega⟩
theorem Up.lu {B : Nat} {u : Upd} (h : Up wr B u v) : ∀ o, wr.cell? ⟨B, o, none⟩ = (#[.int .i64 u.n, .bool u.h, .int .i64 u.s.d, .int .i64 u.s.e, .int .i64 u.s.a, .int .i64 u.s.b, .int .i64 u.s.c, .int .i64 u.m] : Array Value)[o]? := fun o => by rw [h.blk.cell, Upd.ucs]; simp
end
theorem recs_len' (L : List Rc) : (L.flatMap recL).length ≤ L.length * 16 := by
  induction L with
  | nil => simp
  | cons x L ih => rw [List.flatMap_cons, List.length_append, List.length_cons]; have := recL_length x; omega
theorem upds_len' (L : List Upd) : (L.flatMap updL).length ≤ L.length * 16 := by
  induction L with
  | nil => simp
  | cons x L ih => rw [List.flatMap_cons, List.length_append, List.length_cons]; have := updL_length x; omega
theorem own_lit (W : World) (base : Nat) (x : Int) (hb : base ≤ W.heap.size) : (W.alloc (.cells #[.int .u8 x] 5)).ownsRow base 5 1 (.slice (some ⟨W.heap.size, 0, none⟩) 1 1) [x].length (byV [x]) :=
  ⟨rfl, .inr ⟨W.heap.size, 1, #[.int .u8 x], rfl, hb, heap_alloc_new W _, Nat.le_refl _, by unfold maxLen; omega, rfl, rfl⟩⟩
theorem at_or {v v2 : Value} {n : Nat} (h : v2.ownBlock = v.ownBlock ∨ v2.ownBlock = some n) : v2.ownBlock = v.ownBlock ∨ ∃ b, v2.ownBlock = some b ∧ n ≤ b := by
  rcases h with h | h
  · exact .inl h
  · exact .inr ⟨n, h, Nat.le_refl _⟩
set_option maxRecDepth 100000 in
set_option maxHeartbeats 16000000 in
theorem refbytes_one (m : Msg) (A C : Option Addr) (c d : Nat) (w : World) (hm : Mg w m A c C d) (h : mayB m = true) (hl : (msgL m).length ≤ 10000) (hk : m.k = 1) : Calls Try.prog 12 #[.agg (m.cs A c C d).toArray] w (GivesBy (msgL m).length (msgL m) w) := by
  obtain ⟨w1, hw1⟩ : ∃ w1, w1 = w.alloc (.cells (m.cs A c C d).toArray 34) := ⟨_, rfl⟩
  have hb1 : Below w.heap.size w w1 := by rw [hw1]; exact below_new w _
  have hx1 : Blk w1 w.heap.size (m.cs A c C d) 34 := by rw [hw1]; exact Blk.new w _ _ _ rfl
  have s1 : w1.heap.size = w.heap.size + 1 := by rw [hw1]; simp
  have HM := Lib.hid hm
  have S2 := Lib.hid (show By w m A c C d (.slice (some ⟨w1.heap.size, 0, none⟩) 1 1) [m.k] (w1.alloc (.cells #[.int .u8 m.k] 5)) from ⟨hx1.then (below_new w1 _), own_lit w1 _ _ (by omega), below_then hb1 (below_new w1 _)⟩)
  rw [s1] at S2
  have la := (show By w m A c C d (.slice none 0 0) [] w1 from ⟨hx1, World.ownsRow_nil _ _ _ _, hb1⟩).la
  dsimp only [Mb.cs] at la
  have lb := S2.out.la
  dsimp only [Mb.cs] at lb
  have e1 := hw1.symm
  rw [Msg.cs_eq] at e1
  rw [Msg.cs_eq]
  have HN := Lib.hid (fun n k W hk => num_any n k W hk)
  have HP := Lib.hid (fun t W ht => putb_any t W ht)
  have H256 : ∀ x : Int, IntKind.u8.wrap x = x % 256 := fun x => by simp [IntKind.wrap, IntKind.bits, IntKind.signed]
  obtain ⟨hf, ht, hi, hq0, hq1, hsr, hL, hU⟩ := mayB_one h hk
  have hs' := right_iff.2 hsr
  have k1 : (m.k == 1) = true := by simpa using hk
  have hpl := putL_len m.s
  have HLL := Lib.hid hL
  have HQ := Lib.hid (show u64 m.q = m.q by unfold u64; omega)
  have HLQ := Lib.hid (show u64 (m.L.length : Int) = m.L.length by unfold u64; omega)
  have HME := Lib.hid (show msgL m = [m.k] ++ [m.f % 256, m.t % 256, m.i % 256] ++ be m.q 8 ++ putL m.s ++ be m.L.length 4 ++ m.L.flatMap recL by
    unfold msgL; rw [if_pos hk, be_one, be_one, be_one, be_one, show m.k % 256 = m.k by omega]; rfl)
  have HLE := Lib.hid hl
  have hll : m.L.length ≤ 700 := by
    have := HLE.out
    rw [HME.out] at this
    simp only [List.length_append] at this
    have h9 : (m.L.flatMap recL).length = m.L.length * 16 := by
      rw [List.length_flatMap]
      rw [show (m.L.map fun a => (recL a).length) = m.L.map (fun _ => 16) from List.map_congr_left (fun a _ => recL_length a), List.map_const', List.sum_replicate_nat]
    omega
  clear hw1 hb1 hx1 hm h hsr hL hU hf ht hi hq0 hq1 hl hk
  go_enter Try.func12, Try.ntmps12
  go_wp2_with (at_builtin; (refine own_append_lit (W := w1.alloc (.cells #[.int .u8 m.k] 5)) rfl (.tmp 18) (.tmp 28) 36 5 (.int .u8 0) 1 1 rfl Try.underlying36 infoBy rfl (by omega) (by omega) (w.heap.size + 1) (.slice (some ⟨w.heap.size + 1, 0, none⟩) 1 1) 1 (byV [m.k]) 3 3 [.int .u8 (m.f % 256), .int .u8 (m.t % 256), .int .u8 (m.i % 256)] rfl (by show Value.slice (some ⟨w.heap.size + 1 + 1, 0, none⟩) 3 3 = _; simp [s1]) S2.out.own rfl (by intro x hx; simp only [List.mem_cons, List.not_mem_nil, or_false] at hx; rcases hx with rfl | rfl | rfl <;> rfl) (by omega) (by have := S2.out.size; omega) ?_; intro v3 w3 hown hgr hat; have S3 := Lib.hid (show By w m A c C d v3 ([m.k] ++ [m.f % 256, m.t % 256, m.i % 256]) w3 from S2.out.more hown hgr); clear la lb; have la := S3.out.la; dsimp only [Mb.cs] at la; clear hown hgr hat))
  clear S2 e1
  go_wp2_with fail
  refine (HN.out (m.q) 8 _ (by omega)).mono ?_
  rintro e w4 ⟨A4, c4, rfl, hy, hb⟩
  have HY := Lib.hid hy
  have S4 := Lib.hid (S3.out.below hb)
  clear hy hb
  go_wp2_with (at_builtin; (refine own_append_bytes (W := w4) rfl (.tmp 30) (.tmp 33) 36 5 rfl Try.underlying36 infoBy (w.heap.size + 1) v3 ([m.k] ++ [m.f % 256, m.t % 256, m.i % 256]) A4 8 c4 (be (u64 (m.q)) 8) rfl rfl S4.out.own HY.out (by simp only [List.length_append, List.length_cons, List.length_nil, be_length]; omega) (by have := S4.out.size; omega) ?_; intro v5 w5 hown hgr hat; have S5 := Lib.hid (S4.out.more hown hgr); (try clear la); have la := S5.out.la; dsimp only [Mb.cs] at la; clear hown hgr hat))
  clear HY S4
  rw [HQ.out] at S5
  go_wp2_with fail
  refine (HP.out m.s _ hs').mono ?_
  rintro e w6 ⟨A6, c6, rfl, hy, hb⟩
  have HY := Lib.hid hy
  have S6 := Lib.hid (S5.out.below hb)
  clear hy hb
  go_wp2_with (at_builtin; (refine own_append_bytes (W := w6) rfl (.tmp 41) (.tmp 42) 36 5 rfl Try.underlying36 infoBy (w.heap.size + 1) v5 ([m.k] ++ [m.f % 256, m.t % 256, m.i % 256] ++ be m.q 8) A6 (putL m.s).length c6 (putL m.s) rfl rfl S6.out.own HY.out (by simp only [List.length_append, List.length_cons, List.length_nil, be_length]; omega) (by have := S6.out.size; omega) ?_; intro v7 w7 hown hgr hat; have S7 := Lib.hid (S6.out.more hown hgr); (try clear la); have la := S7.out.la; dsimp only [Mb.cs] at la; clear hown hgr hat))
  clear HY S6
  go_wp2_with fail
  refine (HN.out ((m.L.length : Int)) 4 _ (by omega)).mono ?_
  rintro e w8 ⟨A8, c8, rfl, hy, hb⟩
  have HY := Lib.hid hy
  have S8 := Lib.hid (S7.out.below hb)
  clear hy hb
  go_wp2_with (at_builtin; (refine own_append_bytes (W := w8) rfl (.tmp 44) (.tmp 48) 36 5 rfl Try.underlying36 infoBy (w.heap.size + 1) v7 ([m.k] ++ [m.f % 256, m.t % 256, m.i % 256] ++ be m.q 8 ++ putL m.s) A8 4 c8 (be (u64 ((m.L.length : Int))) 4) rfl rfl S8.out.own HY.out (by simp only [List.length_append, List.length_cons, List.length_nil, be_length]; omega) (by have := S8.out.size; omega) ?_; intro v9 w9 hown hgr hat; have S9 := Lib.hid (S8.out.more hown hgr); (try clear la); have la := S9.out.la; dsimp only [Mb.cs] at la; clear hown hgr hat))
  clear HY S8
  rw [HLQ.out] at S9
  clear la
  go_wp2_with fail
  obtain ⟨PR, hPR⟩ : ∃ PR, PR = [m.k] ++ [m.f % 256, m.t % 256, m.i % 256] ++ be m.q 8 ++ putL m.s ++ be m.L.length 4 := ⟨_, rfl⟩
  rw [← hPR] at S9
  have HPL := Lib.hid (show PR.length ≤ 40 by rw [hPR]; simp only [List.length_append, List.length_cons, List.length_nil, be_length]; omega)
  have HPR := Lib.hid (show msgL m = PR ++ m.L.flatMap recL by rw [hPR, HME.out])
  clear hPR
  have S0 := Lib.hid (show By w m A c C d v9 (PR ++ (m.L.take 0).flatMap recL) w9 by rw [List.take_zero, List.flatMap_nil, List.append_nil]; exact S9.out)
  go_loopw [3, 6] (fun v i wr => ∃ k : Nat, k ≤ m.L.length ∧ i = .int .i64 k ∧ Hid (By w m A c C d v (PR ++ (m.L.take k).flatMap recL) wr)) (fun _ i _ => m.L.length - (intOf i).toNat)
  case atStart => exact ⟨0, Nat.zero_le _, rfl, S0⟩
  case round =>
    clear S0
    obtain ⟨k, hk9, rfl, SK⟩ := hrel
    have la := SK.out.la
    dsimp only [Mb.cs] at la
    obtain ⟨A20, c20, hform, hby20⟩ := own_bytes SK.out.own (by
      have h9 : ((m.L.take k).flatMap recL).length ≤ (m.L.take k).length * 16 := recs_len' _
      rw [List.length_take] at h9
      have := HPL.out
      rw [List.length_append]; omega)
    have HY20 := Lib.hid hby20
    have HF20 := Lib.hid hform
    clear hform hby20
    by_cases hlt : k < m.L.length
    · have hd : decide ((k : Int) < m.L.length) = true := decide_eq_true (by omega)
      have hd' : decide (k < m.L.length) = true := decide_eq_true hlt
      have hk0 : (0 : Int) ≤ k := by omega
      have hkn : (k : Int) < m.L.length := by omega
      obtain ⟨b1, o1, x, hA, ex, rx⟩ := HM.out.l.elem hlt
      subst hA
      have RX := Lib.hid rx
      have HE := Lib.hid ex
      have HLM := Lib.hid (show (PR ++ (m.L.take k).flatMap recL).length ≤ 20000 by
        have h9 : ((m.L.take k).flatMap recL).length ≤ (m.L.take k).length * 16 := recs_len' _
        rw [List.length_take] at h9
        have := HPL.out
        rw [List.length_append]; omega)
      obtain ⟨z0, z1⟩ := RRec.stays _ _ _ _ _ SK.out.b rx
      clear ex rx
      go_wp2_with fail
      refine (HN.out x.1 8 _ (by omega)).mono ?_
      rintro e w11 ⟨A11, c11, rfl, hy, hb⟩
      have HY := Lib.hid hy
      have S11 := Lib.hid (SK.out.below hb)
      clear hy hb
      clear z0 z1
      go_wp2_with (at_builtin; (refine own_append_bytes (W := w11) rfl (.tmp 57) (.tmp 64) 36 5 rfl Try.underlying36 infoBy (w.heap.size + 1) u3 (PR ++ (m.L.take k).flatMap recL) A11 8 c11 (be (Go.Proofs.Yteiohcgohgcjfaa.u64 x.1) 8) rfl rfl S11.out.own HY.out (by have := HLM.out; omega) (by have := S11.out.size; omega) ?_; intro v12 w12 hown hgr hat; have S12 := Lib.hid (S11.out.more hown hgr); (try clear la); have la := S12.out.la; dsimp only [Mb.cs] at la; obtain ⟨z0, z1⟩ := RRec.stays _ _ _ _ _ S12.out.b RX.out; clear hown hgr hat))
      clear HY S11
      go_wp2_with fail
      refine (HN.out x.2 8 _ (by omega)).mono ?_
      rintro e w13 ⟨A13, c13, rfl, hy, hb⟩
      have HY := Lib.hid hy
      have S13 := Lib.hid (S12.out.below hb)
      clear hy hb la z0 z1
      go_wp2_with (at_builtin; (refine own_append_bytes (W := w13) rfl (.tmp 66) (.tmp 73) 36 5 rfl Try.underlying36 infoBy (w.heap.size + 1) v12 (PR ++ (m.L.take k).flatMap recL ++ be (Go.Proofs.Yteiohcgohgcjfaa.u64 x.1) 8) A13 8 c13 (be (Go.Proofs.Yteiohcgohgcjfaa.u64 x.2) 8) rfl rfl S13.out.own HY.out (by have := HLM.out; rw [List.length_append, be_length]; omega) (by have := S13.out.size; omega) ?_; intro v14 w14 hown hgr hat; have S14 := Lib.hid (S13.out.more hown hgr); (try clear la); have la := S14.out.la; dsimp only [Mb.cs] at la; clear hown hgr hat))
      have HSN := Lib.hid (show By w m (some ⟨b1, o1, none⟩) c C d v14 (PR ++ (m.L.take (k + 1)).flatMap recL) w14 by
        have h9 := S14.out
        rw [show PR ++ (m.L.take k).flatMap recL ++ be (Go.Proofs.Yteiohcgohgcjfaa.u64 x.1) 8 ++ be (Go.Proofs.Yteiohcgohgcjfaa.u64 x.2) 8 = PR ++ (m.L.take (k + 1)).flatMap recL by
          rw [List.take_add_one, HE.out, List.flatMap_append]
          simp [recL]] at h9
        exact h9)
      clear HY S13 S12
      go_wp2_with fail
      go_roundw
      case rel => exact ⟨k + 1, by omega, by go_num, HSN⟩
      case measure => simp [intOf]; omega
    · have hd : decide ((k : Int) < m.L.length) = false := decide_eq_false (by omega)
      have hd' : decide (k < m.L.length) = false := decide_eq_false (by omega)
      have hke : k = m.L.length := by omega
      have HFIN := Lib.hid (show PR ++ (m.L.take k).flatMap recL = msgL m by rw [hke, List.take_length, HPR.out])
      rw [HFIN.out] at HY20 HF20
      have HVV := HF20.out
      go_wp2_with fail
      go_ret
      exact ⟨A20, c20, congrArg Ending.returned HVV, HY20.out, SK.out.b⟩
set_option maxRecDepth 100000 in
set_option maxHeartbeats 16000000 in
theorem refbytes_two (m : Msg) (A C : Option Addr) (c d : Nat) (w : World) (hm : Mg w m A c C d) (h : mayB m = true) (hl : (msgL m).length ≤ 10000) (hk : m.k ≠ 1) : Calls Try.prog 12 #[.agg (m.cs A c C d).toArray] w (GivesBy (msgL m).length (msgL m) w) := by
  obtain ⟨w1, hw1⟩ : ∃ w1, w1 = w.alloc (.cells (m.cs A c C d).toArray 34) := ⟨_, rfl⟩
  have hb1 : Below w.heap.size w w1 := by rw [hw1]; exact below_new w _
  have hx1 : Blk w1 w.heap.size (m.cs A c C d) 34 := by rw [hw1]; exact Blk.new w _ _ _ rfl
  have s1 : w1.heap.size = w.heap.size + 1 := by rw [hw1]; simp
  have HM := Lib.hid hm
  have S2 := Lib.hid (show By w m A c C d (.slice (some ⟨w1.heap.size, 0, none⟩) 1 1) [m.k] (w1.alloc (.cells #[.int .u8 m.k] 5)) from ⟨hx1.then (below_new w1 _), own_lit w1 _ _ (by omega), below_then hb1 (below_new w1 _)⟩)
  rw [s1] at S2
  have la := (show By w m A c C d (.slice none 0 0) [] w1 from ⟨hx1, World.ownsRow_nil _ _ _ _, hb1⟩).la
  dsimp only [Mb.cs] at la
  have lb := S2.out.la
  dsimp only [Mb.cs] at lb
  have e1 := hw1.symm
  rw [Msg.cs_eq] at e1
  rw [Msg.cs_eq]
  have HN := Lib.hid (fun n k W hk => num_any n k W hk)
  have HP := Lib.hid (fun t W ht => putb_any t W ht)
  have H256 : ∀ x : Int, IntKind.u8.wrap x = x % 256 := fun x => by simp [IntKind.wrap, IntKind.bits, IntKind.signed]
  obtain ⟨hk2, hU, hw, hbr⟩ := mayB_two h hk
  have k1 : (m.k == 1) = false := by simpa using hk
  have HLQ := Lib.hid (show Go.Proofs.Yteiohcgohgcjfaa.u64 (m.U.length : Int) = m.U.length by unfold Go.Proofs.Yteiohcgohgcjfaa.u64; omega)
  have HME := Lib.hid (show msgL m = [m.k] ++ be m.U.length 4 ++ m.U.flatMap updL by
    unfold msgL; rw [if_neg hk, be_one, show m.k % 256 = m.k by omega])
  have HLE := Lib.hid hl
  have hll : m.U.length ≤ 1000 := by
    have := HLE.out
    rw [HME.out] at this
    simp only [List.length_append] at this
    have h9 : m.U.length * 10 ≤ (m.U.flatMap updL).length := by
      have key : ∀ l : List Upd, l.length * 10 ≤ (l.flatMap updL).length := by
        intro l
        induction l with
        | nil => simp
        | cons x l ih =>
          rw [List.flatMap_cons, List.length_append, List.length_cons]
          have : 10 ≤ (updL x).length := by unfold updL; simp only [List.length_append, be_length]; omega
          omega
      exact key _
    omega
  have HWR := Lib.hid hw
  clear hw1 hb1 hx1 hm h hbr hU hk2 hl hk hw
  go_enter Try.func12, Try.ntmps12
  go_wp2_with fail
  clear la
  have la := S2.out.la
  dsimp only [Mb.cs] at la
  clear lb
  refine (HN.out ((m.U.length : Int)) 4 _ (by omega)).mono ?_
  rintro e w8 ⟨A8, c8, rfl, hy, hb⟩
  have HY := Lib.hid hy
  have S8 := Lib.hid (S2.out.below hb)
  clear hy hb
  go_wp2_with (at_builtin; (refine own_append_bytes (W := w8) rfl (.tmp 76) (.tmp 80) 36 5 rfl Try.underlying36 infoBy (w.heap.size + 1) (.slice (some ⟨w.heap.size + 1, 0, none⟩) 1 1) ([m.k]) A8 4 c8 (be (u64 ((m.U.length : Int))) 4) rfl rfl S8.out.own HY.out (by simp only [List.length_append, List.length_cons, List.length_nil, be_length]; omega) (by have := S8.out.size; omega) ?_; intro v9 w9 hown hgr hat; have S9 := Lib.hid (S8.out.more hown hgr); (try clear la); have la := S9.out.la; dsimp only [Mb.cs] at la; clear hown hgr hat))
  clear HY S8
  rw [HLQ.out] at S9
  clear la e1
  go_wp2_with fail
  obtain ⟨PR, hPR⟩ : ∃ PR, PR = [m.k] ++ be m.U.length 4 := ⟨_, rfl⟩
  rw [← hPR] at S9
  have HPL := Lib.hid (show PR.length ≤ 40 by rw [hPR]; simp only [List.length_append, List.length_cons, List.length_nil, be_length]; omega)
  have HPR := Lib.hid (show msgL m = PR ++ m.U.flatMap updL by rw [hPR, HME.out])
  clear hPR
  have S0 := Lib.hid (show By w m A c C d v9 (PR ++ (m.U.take 0).flatMap updL) w9 by rw [List.take_zero, List.flatMap_nil, List.append_nil]; exact S9.out)
  go_loopw [3, 7] (fun v i wr => ∃ k : Nat, k ≤ m.U.length ∧ i = .int .i64 k ∧ Hid (By w m A c C d v (PR ++ (m.U.take k).flatMap updL) wr)) (fun _ i _ => m.U.length - (intOf i).toNat)
  case atStart => exact ⟨0, Nat.zero_le _, rfl, S0⟩
  case round =>
    clear S0
    obtain ⟨k, hk9, rfl, SK⟩ := hrel
    have la := SK.out.la
    dsimp only [Mb.cs] at la
    have HLM := Lib.hid (show (PR ++ (m.U.take k).flatMap updL).length ≤ 20000 by
      have h9 : ((m.U.take k).flatMap updL).length ≤ (m.U.take k).length * 16 := upds_len' _
      rw [List.length_take] at h9
      have := HPL.out
      rw [List.length_append]; omega)
    obtain ⟨A20, c20, hform, hby20⟩ := own_bytes SK.out.own (by have := HLM.out; omega)
    have HY20 := Lib.hid hby20
    have HF20 := Lib.hid hform
    clear hform hby20
    by_cases hlt : k < m.U.length
    · have hd : decide ((k : Int) < m.U.length) = true := decide_eq_true (by omega)
      have hd' : decide (k < m.U.length) = true := decide_eq_true hlt
      have hk0 : (0 : Int) ≤ k := by omega
      have hkn : (k : Int) < m.U.length := by omega
      obtain ⟨b1, o1, u, hA, ex, rx⟩ := HM.out.u.elem hlt
      subst hA
      have hs' := right_iff.2 (HWR.out u (List.mem_of_getElem? ex)).2
      have hpl := putL_len u.s
      obtain ⟨un, uh, us, um⟩ := u
      obtain ⟨z0, z1, z2, z3, z4, z5, z6, z7⟩ := rx.below SK.out.b
      dsimp only at z0 z1 z2 z3 z4 z5 z6 z7 hs' hpl
      have HE := Lib.hid ex
      clear ex rx
      cases uh with
      | false =>
        obtain ⟨w10, hw10⟩ : ∃ w10, w10 = wr.alloc (.cells (Upd.ucs ⟨un, false, us, um⟩).toArray 59) := ⟨_, rfl⟩
        have hb10 : Below wr.heap.size wr w10 := by rw [hw10]; exact below_new _ _
        have S10 := Lib.hid (SK.out.below hb10)
        have U10 := Lib.hid (show Up w10 wr.heap.size ⟨un, false, us, um⟩ u3 from ⟨by rw [hw10]; exact Blk.new _ _ _ _ rfl, fun e => by have := (SK.out.own.lt _ e).2; omega⟩)
        have e10 := hw10.symm
        unfold Upd.ucs at e10
        have lu := U10.out.lu
        dsimp only at lu
        clear hb10 hw10
        go_wp2_with (at_builtin; (refine own_append_lit (W := w10) rfl (.tmp 96) (.tmp 101) 36 5 (.int .u8 0) 1 1 rfl Try.underlying36 infoBy rfl (by omega) (by omega) (w.heap.size + 1) u3 (PR ++ (m.U.take k).flatMap updL).length (byV (PR ++ (m.U.take k).flatMap updL)) 2 2 [.int .u8 (un % 256), .int .u8 0] rfl rfl S10.out.own rfl (by intro x hx; simp only [List.mem_cons, List.not_mem_nil, or_false] at hx; rcases hx with rfl | rfl <;> rfl) (by have := HLM.out; omega) (by have := S10.out.size; omega) ?_; intro v12 w12 hown hgr hat; have S12 := Lib.hid (show By w m A c (some ⟨b1, o1, none⟩) d v12 (PR ++ (m.U.take k).flatMap updL ++ [un % 256, 0]) w12 from S10.out.more (by rw [byV_append, List.length_append]; exact hown) hgr); have U12 := Lib.hid (U10.out.more hgr hat); (try clear lu); have lu := U12.out.lu; dsimp only at lu; clear hown hgr hat))
        clear la z0 z1 z2 z3 z4 z5 z6 z7 e10 U10 S10
        go_wp2_with fail
        refine (HP.out us _ hs').mono ?_
        rintro e w14 ⟨A14, c14, rfl, hy, hb⟩
        have HY := Lib.hid hy
        have S14 := Lib.hid (S12.out.below hb)
        have U14 := Lib.hid (U12.out.below hb)
        clear hy hb lu S12 U12
        go_wp2_with (at_builtin; (refine own_append_bytes (W := w14) rfl (.tmp 109) (.tmp 110) 36 5 rfl Try.underlying36 infoBy (w.heap.size + 1) v12 (PR ++ (m.U.take k).flatMap updL ++ [un % 256, 0]) A14 (putL us).length c14 (putL us) rfl rfl S14.out.own HY.out (by have := HLM.out; rw [List.length_append]; simp only [List.length_cons, List.length_nil]; omega) (by have := S14.out.size; omega) ?_; intro v15 w15 hown hgr hat; have S15 := Lib.hid (S14.out.more hown hgr); have U15 := Lib.hid (U14.out.more hgr (at_or hat)); have lu := U15.out.lu; dsimp only at lu; clear hown hgr hat))
        clear HY S14 U14
        go_wp2_with fail
        refine (HN.out um 8 _ (by omega)).mono ?_
        rintro e w16 ⟨A16, c16, rfl, hy, hb⟩
        have HY := Lib.hid hy
        have S16 := Lib.hid (S15.out.below hb)
        have U16 := Lib.hid (U15.out.below hb)
        clear hy hb lu S15 U15
        go_wp2_with (at_builtin; (refine own_append_bytes (W := w16) rfl (.tmp 112) (.tmp 115) 36 5 rfl Try.underlying36 infoBy (w.heap.size + 1) v15 (PR ++ (m.U.take k).flatMap updL ++ [un % 256, 0] ++ putL us) A16 8 c16 (be (Go.Proofs.Yteiohcgohgcjfaa.u64 um) 8) rfl rfl S16.out.own HY.out (by have := HLM.out; rw [List.length_append, List.length_append]; simp only [List.length_cons, List.length_nil]; omega) (by have := S16.out.size; omega) ?_; intro v17 w17 hown hgr hat; have S17 := Lib.hid (S16.out.more hown hgr); have U17 := Lib.hid (U16.out.more hgr (at_or hat)); have lu := U17.out.lu; dsimp only at lu; clear hown hgr hat))
        have HSN := Lib.hid (show By w m A c (some ⟨b1, o1, none⟩) d v17 (PR ++ (m.U.take (k + 1)).flatMap updL) w17 by
          have h9 := S17.out
          rw [show PR ++ (m.U.take k).flatMap updL ++ [un % 256, 0] ++ putL us ++ be (Go.Proofs.Yteiohcgohgcjfaa.u64 um) 8 = PR ++ (m.U.take (k + 1)).flatMap updL by
            rw [List.take_add_one, HE.out, List.flatMap_append]
            have hm9 : un % 256 % 256 = un % 256 := by omega
            simp [updL, be_one, heldI, hm9]] at h9
          exact h9)
        clear HY S16 U16 S17 U17 lu
        go_wp2_with fail
        go_roundw
        case rel => exact ⟨k + 1, by omega, by go_num, HSN⟩
        case measure => simp [intOf]; omega
      | true =>
        obtain ⟨w10, hw10⟩ : ∃ w10, w10 = wr.alloc (.cells (Upd.ucs ⟨un, true, us, um⟩).toArray 59) := ⟨_, rfl⟩
        have hb10 : Below wr.heap.size wr w10 := by rw [hw10]; exact below_new _ _
        have S10 := Lib.hid (SK.out.below hb10)
        have U10 := Lib.hid (show Up w10 wr.heap.size ⟨un, true, us, um⟩ u3 from ⟨by rw [hw10]; exact Blk.new _ _ _ _ rfl, fun e => by have := (SK.out.own.lt _ e).2; omega⟩)
        have e10 := hw10.symm
        unfold Upd.ucs at e10
        have lu := U10.out.lu
        dsimp only at lu
        clear hb10 hw10
        go_wp2_with (at_builtin; (refine own_append_lit (W := w10) rfl (.tmp 96) (.tmp 101) 36 5 (.int .u8 0) 1 1 rfl Try.underlying36 infoBy rfl (by omega) (by omega) (w.heap.size + 1) u3 (PR ++ (m.U.take k).flatMap updL).length (byV (PR ++ (m.U.take k).flatMap updL)) 2 2 [.int .u8 (un % 256), .int .u8 1] rfl rfl S10.out.own rfl (by intro x hx; simp only [List.mem_cons, List.not_mem_nil, or_false] at hx; rcases hx with rfl | rfl <;> rfl) (by have := HLM.out; omega) (by have := S10.out.size; omega) ?_; intro v12 w12 hown hgr hat; have S12 := Lib.hid (show By w m A c (some ⟨b1, o1, none⟩) d v12 (PR ++ (m.U.take k).flatMap updL ++ [un % 256, 1]) w12 from S10.out.more (by rw [byV_append, List.length_append]; exact hown) hgr); have U12 := Lib.hid (U10.out.more hgr hat); (try clear lu); have lu := U12.out.lu; dsimp only at lu; clear hown hgr hat))
        clear la z0 z1 z2 z3 z4 z5 z6 z7 e10 U10 S10
        go_wp2_with fail
        refine (HP.out us _ hs').mono ?_
        rintro e w14 ⟨A14, c14, rfl, hy, hb⟩
        have HY := Lib.hid hy
        have S14 := Lib.hid (S12.out.below hb)
        have U14 := Lib.hid (U12.out.below hb)
        clear hy hb lu S12 U12
        go_wp2_with (at_builtin; (refine own_append_bytes (W := w14) rfl (.tmp 109) (.tmp 110) 36 5 rfl Try.underlying36 infoBy (w.heap.size + 1) v12 (PR ++ (m.U.take k).flatMap updL ++ [un % 256, 1]) A14 (putL us).length c14 (putL us) rfl rfl S14.out.own HY.out (by have := HLM.out; rw [List.length_append]; simp only [List.length_cons, List.length_nil]; omega) (by have := S14.out.size; omega) ?_; intro v15 w15 hown hgr hat; have S15 := Lib.hid (S14.out.more hown hgr); have U15 := Lib.hid (U14.out.more hgr (at_or hat)); have lu := U15.out.lu; dsimp only at lu; clear hown hgr hat))
        clear HY S14 U14
        go_wp2_with fail
        refine (HN.out um 8 _ (by omega)).mono ?_
        rintro e w16 ⟨A16, c16, rfl, hy, hb⟩
        have HY := Lib.hid hy
        have S16 := Lib.hid (S15.out.below hb)
        have U16 := Lib.hid (U15.out.below hb)
        clear hy hb lu S15 U15
        go_wp2_with (at_builtin; (refine own_append_bytes (W := w16) rfl (.tmp 112) (.tmp 115) 36 5 rfl Try.underlying36 infoBy (w.heap.size + 1) v15 (PR ++ (m.U.take k).flatMap updL ++ [un % 256, 1] ++ putL us) A16 8 c16 (be (Go.Proofs.Yteiohcgohgcjfaa.u64 um) 8) rfl rfl S16.out.own HY.out (by have := HLM.out; rw [List.length_append, List.length_append]; simp only [List.length_cons, List.length_nil]; omega) (by have := S16.out.size; omega) ?_; intro v17 w17 hown hgr hat; have S17 := Lib.hid (S16.out.more hown hgr); have U17 := Lib.hid (U16.out.more hgr (at_or hat)); have lu := U17.out.lu; dsimp only at lu; clear hown hgr hat))
        have HSN := Lib.hid (show By w m A c (some ⟨b1, o1, none⟩) d v17 (PR ++ (m.U.take (k + 1)).flatMap updL) w17 by
          have h9 := S17.out
          rw [show PR ++ (m.U.take k).flatMap updL ++ [un % 256, 1] ++ putL us ++ be (Go.Proofs.Yteiohcgohgcjfaa.u64 um) 8 = PR ++ (m.U.take (k + 1)).flatMap updL by
            rw [List.take_add_one, HE.out, List.flatMap_append]
            have hm9 : un % 256 % 256 = un % 256 := by omega
            simp [updL, be_one, heldI, hm9]] at h9
          exact h9)
        clear HY S16 U16 S17 U17 lu
        go_wp2_with fail
        go_roundw
        case rel => exact ⟨k + 1, by omega, by go_num, HSN⟩
        case measure => simp [intOf]; omega
    · have hd : decide ((k : Int) < m.U.length) = false := decide_eq_false (by omega)
      have hd' : decide (k < m.U.length) = false := decide_eq_false (by omega)
      have hke : k = m.U.length := by omega
      have HFIN := Lib.hid (show PR ++ (m.U.take k).flatMap updL = msgL m by rw [hke, List.take_length, HPR.out])
      rw [HFIN.out] at HY20 HF20
      have HVV := HF20.out
      go_wp2_with fail
      go_ret
      exact ⟨A20, c20, congrArg Ending.returned HVV, HY20.out, SK.out.b⟩
theorem refbytes_any (m : Msg) (A C : Option Addr) (c d : Nat) (w : World) (hm : Mg w m A c C d) (h : mayB m = true) (hl : (msgL m).length ≤ 10000) : Calls Try.prog 12 #[.agg (m.cs A c C d).toArray] w (GivesBy (msgL m).length (msgL m) w) := by
  by_cases hk : m.k = 1
  · exact refbytes_one m A C c d w hm h hl hk
  · exact refbytes_two m A C c d w hm h hl hk
end Go.Proofs.Yteiohcgohgcjfaa
