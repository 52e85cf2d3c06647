/- Contracts of row, of records and of changes. -/
import Derived.Test.YteiohcgohgcjfaaRows
import Derived.IntWalk
import Derived.Test.YteiohcgohgcjfaaWords
import Derived.Test.YteiohcgohgcjfaaByts
import Derived.Test.YteiohcgohgcjfaaStrs
import Derived.Test.YteiohcgohgcjfaaFrame
import Derived.Test.YteiohcgohgcjfaaElems
import Derived.Test.YteiohcgohgcjfaaS1
import Derived.Test.YteiohcgohgcjfaaS2
import Derived.Test.YteiohcgohgcjfaaEqs
import Derived.Test.YteiohcgohgcjfaaS11
import Derived.Test.YteiohcgohgcjfaaA1
import Derived.Test.YteiohcgohgcjfaaA2
import Derived.Test.YteiohcgohgcjfaaA3
import Derived.Test.YteiohcgohgcjfaaD1
import Derived.Test.YteiohcgohgcjfaaD7
namespace Go.Proofs.Yteiohcgohgcjfaa
open Go Go.RowKit Go.Proofs.Tail
set_option linter.unusedSimpArgs false
set_option linter.unusedVariables false
theorem recs_len (L : List Rc) : (L.flatMap recL).length ≤ L.length * 16 := by
  induction L with
  | nil => simp
  | cons x L ih => rw [List.flatMap_cons, List.length_append, List.length_cons]; have := recL_length x; omega
set_option maxHeartbeats 8000000 in
theorem row_recs (P : Nat) (v : Value) (ys : List Int) (A : Option Addr) (n c : Nat) (L : List Rc) (w0 w : World) (hX : Recs w0 A n c L) (h0 : w0.heap.size ≤ P) (hb0 : Below w0.heap.size w0 w) (hW : Wr w P v ys) (hlim : ys.length ≤ 1000000) (hn : n ≤ 65536) :
    Calls Try.prog 27 #[.pointer (some ⟨P, 0, none⟩), .slice A n c, .func (.func 28) #[] #[.pointer (some ⟨P, 0, none⟩)]] w (Wrt P (ys ++ be n 4 ++ L.flatMap recL) w) := by
  have HX := Lib.hid hX
  have HL := Lib.hid hX.len
  have hbig := hX.big
  have H0 := Lib.hid h0
  have HLP := Lib.hid hW.lt
  have HW := Lib.hid hW
  have HWD := Lib.hid (wword_any P v ys n w hW (by omega) (by omega) (by omega))
  have HB0 := Lib.hid hb0
  have g1 : IntKind.u32.wrap (n : Int) = n := by simp [IntKind.wrap, IntKind.bits, IntKind.signed]; omega
  have HF := Lib.hid (fun v xs x W h hl => put1_any P v xs x W h hl)
  have HLIM := Lib.hid hlim
  clear hX h0 hb0 hW hlim
  go_enter Try.func27, Try.ntmps27
  go_wp2_with fail
  refine HWD.out.mono ?_
  rintro e w1 h1
  obtain ⟨rfl, h2, h3⟩ := wrt_of HW.out h1
  have K0 := Lib.hid (show ∃ v, Wr w1 P v (ys ++ be n 4 ++ (L.take 0).flatMap recL) by simpa using h2)
  have KB := Lib.hid h3
  clear h1 h2 h3 HWD HW g1
  go_wp2_with fail
  go_loopw [15] (fun i wr => ∃ k : Nat, k ≤ n ∧ i = .int .i64 k ∧ Hid (∃ v, Wr wr P v (ys ++ be n 4 ++ (L.take k).flatMap recL)) ∧ Hid (Below P w wr)) (fun i _ => n - (intOf i).toNat)
  case atStart => exact ⟨0, Nat.zero_le _, rfl, K0, KB⟩
  case round =>
    clear K0 KB
    obtain ⟨k, hk, rfl, K0, KB⟩ := hrel
    by_cases hlt : k < n
    · have hd : decide ((k : Int) < n) = true := decide_eq_true (by omega)
      have hd' : decide (k < n) = true := decide_eq_true (by omega)
      have hk0 : (0 : Int) ≤ k := by omega
      have hkn : (k : Int) < n := by omega
      obtain ⟨b1, o1, x, rfl, ex, rx⟩ := HX.out.elem hlt
      have rx2 := RRec.stays _ _ _ _ _ (HB0.out.trans (KB.out.mono H0.out)) rx
      have HN := Lib.hid (show (L.take (k + 1)).flatMap recL = (L.take k).flatMap recL ++ recL x by rw [List.take_add_one, ex, List.flatMap_append]; simp)
      obtain ⟨v1, hw1⟩ := K0.out
      have hba := below_new wr (.cells #[.int .i64 x.1, .int .i64 x.2] 50)
      have hlen := recs_len (L.take k)
      rw [List.length_take, HL.out] at hlen
      have HP := Lib.hid (HF.out v1 _ x _ (hw1.below hba) (by simp only [List.length_append, be_length]; have := HLIM.out; omega))
      have HBA := Lib.hid (hba.mono (Nat.le_of_lt hw1.lt))
      have y0 := rx2.1
      have y1 := rx2.2
      clear rx rx2 ex hw1 hba K0 hlen
      go_wp2_with fail
      refine HP.out.mono ?_
      rintro e w5 ⟨rfl, h2, h3⟩
      have K1 := Lib.hid (show ∃ v, Wr w5 P v (ys ++ be n 4 ++ (L.take (k + 1)).flatMap recL) by
        obtain ⟨v5, h2⟩ := h2
        exact ⟨v5, by rw [HN.out, ← List.append_assoc]; exact h2⟩)
      have KB1 := Lib.hid ((KB.out.trans HBA.out).trans h3)
      clear h2 h3 HP y0 y1
      go_wp2_with fail
      go_roundw
      case rel => exact ⟨k + 1, by omega, by go_num, K1, KB1⟩
      case measure => simp [intOf]; omega
    · have hd : decide ((k : Int) < n) = false := decide_eq_false (by omega)
      have hd' : decide (k < n) = false := decide_eq_false (by omega)
      have hkn : k = n := by omega
      have KE := Lib.hid (show L.take k = L by rw [hkn, ← HL.out, List.take_length])
      go_wp2_with fail
      go_end0
      refine ⟨rfl, ?_, KB.out⟩
      have := K0.out
      rwa [KE.out] at this
theorem upds_len (L : List Upd) : (L.flatMap updL).length ≤ L.length * 16 := by
  induction L with
  | nil => simp
  | cons x L ih => rw [List.flatMap_cons, List.length_append, List.length_cons]; have := updL_length x; omega
set_option maxHeartbeats 8000000 in
theorem row_upds (P : Nat) (v : Value) (ys : List Int) (A : Option Addr) (n c : Nat) (L : List Upd) (w0 w : World) (hX : Upds w0 A n c L) (h0 : w0.heap.size ≤ P) (hb0 : Below w0.heap.size w0 w) (hW : Wr w P v ys) (hlim : ys.length ≤ 1000000) (hn : n ≤ 65536) :
    Calls Try.prog 30 #[.pointer (some ⟨P, 0, none⟩), .slice A n c, .func (.func 31) #[] #[.pointer (some ⟨P, 0, none⟩)]] w (Wrt P (ys ++ be n 4 ++ L.flatMap updL) w) := by
  have HX := Lib.hid hX
  have HL := Lib.hid hX.len
  have hbig := hX.big
  have H0 := Lib.hid h0
  have HLP := Lib.hid hW.lt
  have HW := Lib.hid hW
  have HWD := Lib.hid (wword_any P v ys n w hW (by omega) (by omega) (by omega))
  have HB0 := Lib.hid hb0
  have g1 : IntKind.u32.wrap (n : Int) = n := by simp [IntKind.wrap, IntKind.bits, IntKind.signed]; omega
  have HF := Lib.hid (fun v xs x W h hl => put2_any P v xs x W h hl)
  have HLIM := Lib.hid hlim
  clear hX h0 hb0 hW hlim
  go_enter Try.func30, Try.ntmps30
  go_wp2_with fail
  refine HWD.out.mono ?_
  rintro e w1 h1
  obtain ⟨rfl, h2, h3⟩ := wrt_of HW.out h1
  have K0 := Lib.hid (show ∃ v, Wr w1 P v (ys ++ be n 4 ++ (L.take 0).flatMap updL) by simpa using h2)
  have KB := Lib.hid h3
  clear h1 h2 h3 HWD HW g1
  go_wp2_with fail
  go_loopw [15] (fun i wr => ∃ k : Nat, k ≤ n ∧ i = .int .i64 k ∧ Hid (∃ v, Wr wr P v (ys ++ be n 4 ++ (L.take k).flatMap updL)) ∧ Hid (Below P w wr)) (fun i _ => n - (intOf i).toNat)
  case atStart => exact ⟨0, Nat.zero_le _, rfl, K0, KB⟩
  case round =>
    clear K0 KB
    obtain ⟨k, hk, rfl, K0, KB⟩ := hrel
    by_cases hlt : k < n
    · have hd : decide ((k : Int) < n) = true := decide_eq_true (by omega)
      have hd' : decide (k < n) = true := decide_eq_true (by omega)
      have hk0 : (0 : Int) ≤ k := by omega
      have hkn : (k : Int) < n := by omega
      obtain ⟨b1, o1, x, rfl, ex, rx⟩ := HX.out.elem hlt
      have rx2 := RUpd.stays _ _ _ _ _ (HB0.out.trans (KB.out.mono H0.out)) rx
      have HN := Lib.hid (show (L.take (k + 1)).flatMap updL = (L.take k).flatMap updL ++ updL x by rw [List.take_add_one, ex, List.flatMap_append]; simp)
      obtain ⟨v1, hw1⟩ := K0.out
      have hba := below_new wr (.cells #[.int .i64 x.n, .bool x.h, .int .i64 x.s.d, .int .i64 x.s.e, .int .i64 x.s.a, .int .i64 x.s.b, .int .i64 x.s.c, .int .i64 x.m] 54)
      have hlen := upds_len (L.take k)
      rw [List.length_take, HL.out] at hlen
      have HP := Lib.hid (HF.out v1 _ x _ (hw1.below hba) (by simp only [List.length_append, be_length]; have := HLIM.out; omega))
      have HBA := Lib.hid (hba.mono (Nat.le_of_lt hw1.lt))
      obtain ⟨y0, y1, y2, y3, y4, y5, y6, y7⟩ := rx2
      clear rx ex hw1 hba K0 hlen
      go_wp2_with fail
      refine HP.out.mono ?_
      rintro e w5 ⟨rfl, h2, h3⟩
      have K1 := Lib.hid (show ∃ v, Wr w5 P v (ys ++ be n 4 ++ (L.take (k + 1)).flatMap updL) by
        obtain ⟨v5, h2⟩ := h2
        exact ⟨v5, by rw [HN.out, ← List.append_assoc]; exact h2⟩)
      have KB1 := Lib.hid ((KB.out.trans HBA.out).trans h3)
      clear h2 h3 HP y0 y1 y2 y3 y4 y5 y6 y7
      go_wp2_with fail
      go_roundw
      case rel => exact ⟨k + 1, by omega, by go_num, K1, KB1⟩
      case measure => simp [intOf]; omega
    · have hd : decide ((k : Int) < n) = false := decide_eq_false (by omega)
      have hd' : decide (k < n) = false := decide_eq_false (by omega)
      have hkn : k = n := by omega
      have KE := Lib.hid (show L.take k = L by rw [hkn, ← HL.out, List.take_length])
      go_wp2_with fail
      go_end0
      refine ⟨rfl, ?_, KB.out⟩
      have := K0.out
      rwa [KE.out] at this
end Go.Proofs.Yteiohcgohgcjfaa
