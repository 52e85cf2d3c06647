/- Contract of the statements' own 'works'. -/
import Derived.Test.YtnpiocbgbpnlmaaRows
import Derived.Test.YtnpiocbgbpnlmaaWords
import Derived.Test.YtnpiocbgbpnlmaaByts
import Derived.Test.YtnpiocbgbpnlmaaStrs
import Derived.Test.YtnpiocbgbpnlmaaFrame
import Derived.Test.YtnpiocbgbpnlmaaA1
import Derived.Test.YtnpiocbgbpnlmaaA2
import Derived.Test.YtnpiocbgbpnlmaaA3
import Derived.Test.YtnpiocbgbpnlmaaA4
import Derived.Test.YtnpiocbgbpnlmaaA5
import Derived.Test.YtnpiocbgbpnlmaaA6
import Derived.Test.YtnpiocbgbpnlmaaA7
import Derived.Test.YtnpiocbgbpnlmaaA8
import Derived.Test.YtnpiocbgbpnlmaaA9
import Derived.Test.YtnpiocbgbpnlmaaA10
namespace Go.Proofs.Ytnpiocbgbpnlmaa
open Go Go.Lib Go.RowKit Go.Proofs.Tail
set_option linter.unusedSimpArgs false
set_option linter.unusedVariables false
def wkT : List Th := [⟨1, 1, ⟨#[]⟩⟩, ⟨2, 2, ⟨#[]⟩⟩, ⟨4, 255, ⟨#[]⟩⟩, ⟨0, 0, ⟨#[7]⟩⟩]
def wkC : List Value := [.int .i8 1, .int .u64 1, .string ⟨#[]⟩, .int .i8 2, .int .u64 2, .string ⟨#[]⟩, .int .i8 4, .int .u64 255, .string ⟨#[]⟩, .int .i8 0, .int .u64 0, .string ⟨#[7]⟩]
theorem wk_txts : txts wkT = [1, 0, 2, 0, 0, 0, 255, 7] := by decide
theorem wk_ths {w : World} {B : Nat} (h : Blk w B wkC 42) : Ths w (some ⟨B, 0, none⟩) 4 4 wkT :=
  ⟨rfl, by omega, by omega, fun _ => ⟨B, 0, rfl, fun j x hj => by
    match j, hj with
    | 0, hj => injection hj with hj; subst hj; exact ⟨h.cell 0, h.cell 1, h.cell 2, ⟨by decide, by decide, by decide, by decide, by decide⟩⟩
    | 1, hj => injection hj with hj; subst hj; exact ⟨h.cell 3, h.cell 4, h.cell 5, ⟨by decide, by decide, by decide, by decide, by decide⟩⟩
    | 2, hj => injection hj with hj; subst hj; exact ⟨h.cell 6, h.cell 7, h.cell 8, ⟨by decide, by decide, by decide, by decide, by decide⟩⟩
    | 3, hj => injection hj with hj; subst hj; exact ⟨h.cell 9, h.cell 10, h.cell 11, ⟨by decide, by decide, by decide, by decide, by decide⟩⟩
    | j + 4, hj => simp [wkT] at hj⟩⟩
theorem wk_all (w : World) : Calls Try.prog 11 #[.slice (some ⟨w.heap.size, 0, none⟩) 4 4] (w.alloc (.cells #[.int .i8 1, .int .u64 1, .string ⟨#[]⟩, .int .i8 2, .int .u64 2, .string ⟨#[]⟩, .int .i8 4, .int .u64 255, .string ⟨#[]⟩, .int .i8 0, .int .u64 0, .string ⟨#[7]⟩] 42))
    (Made [1, 0, 2, 0, 0, 0, 255, 7] (w.alloc (.cells #[.int .i8 1, .int .u64 1, .string ⟨#[]⟩, .int .i8 2, .int .u64 2, .string ⟨#[]⟩, .int .i8 4, .int .u64 255, .string ⟨#[]⟩, .int .i8 0, .int .u64 0, .string ⟨#[7]⟩] 42))) := by
  have h := all_any (some ⟨w.heap.size, 0, none⟩) 4 4 wkT _ (wk_ths (Blk.new w wkC 42 _ rfl)) (by decide) (by decide)
  rw [wk_txts] at h
  exact h
theorem wk_open (w : World) : Calls Try.prog 15 #[.slice (some ⟨w.heap.size, 0, none⟩) 3 3] (w.alloc (.cells #[.int .u8 1, .int .u8 2, .int .u8 3] 5)) (Opened [1, 2, 3] (w.alloc (.cells #[.int .u8 1, .int .u8 2, .int .u8 3] 5))) :=
  open_any (some ⟨w.heap.size, 0, none⟩) 3 3 [1, 2, 3] _ (byts_blk (Blk.new w [.int .u8 1, .int .u8 2, .int .u8 3] 5 _ rfl) 0 3 3 [1, 2, 3] rfl (by omega) (by omega) (fun j x hj => by
    match j, hj with
    | 0, hj => injection hj with hj; rw [← hj]; rfl
    | 1, hj => injection hj with hj; rw [← hj]; rfl
    | 2, hj => injection hj with hj; rw [← hj]; rfl
    | j + 3, hj => simp at hj)) (by unfold InB; decide) (by omega)
set_option maxRecDepth 100000 in
set_option maxHeartbeats 8000000 in
theorem works_any (w : World) : Calls Try.prog 10 #[] w (Gives (.bool true) w) := by
  go_enter Try.func10, Try.ntmps10
  go_wp2_with fail
  refine (wk_all _).mono ?_
  rintro e w1 ⟨P, v, rfl, hW, hP, hb⟩
  have HB1 := Lib.hid (below_then (below_new w _) hb)
  have HW := Lib.hid hW
  clear hW hb hP
  go_wp2_with fail
  refine (wk_open _).mono ?_
  rintro e w2 ⟨Q, G, rfl, hR, hQ, hG, hb⟩
  have HB2 := Lib.hid (below_then HB1.out (below_then (below_new w1 _) hb))
  have HW2 := Lib.hid (HW.out.below (below_then (below_new w1 _) hb))
  have HR := Lib.hid hR
  have hq : w1.heap.size < Q := by simp at hQ; omega
  have HPQ := Lib.hid (show P ≠ Q ∧ (∀ k, v.ownBlock = some k → k ≠ Q) ∧ w.heap.size ≤ Q from ⟨by have := HW.out.lt; omega, fun k hk => by have := (HW.out.own.lt k hk).2; omega, by have := HB1.out.size; omega⟩)
  clear hR hb hQ hG HW hq HB1
  have C1 := Lib.hid (rshort_any Q G [1, 2, 3] false w2 HR.out)
  go_wp2_with fail
  refine C1.out.mono ?_
  rintro e w3 ⟨rfl, hR, hF⟩
  have HR3 := Lib.hid (show Rr w3 Q G [3] false from hR)
  have HF3 := Lib.hid hF
  clear hR hF C1 HR
  have e1 : numV (nxt [1, 2, 3] false 2).1 = 258 := by decide
  rw [e1]
  clear e1
  have C1 := Lib.hid (rshort_any Q G [3] false w3 HR3.out)
  go_wp2_with fail
  refine C1.out.mono ?_
  rintro e w4 ⟨rfl, hR, hF⟩
  have HR4 := Lib.hid (show Rr w4 Q G [] true from hR)
  have HF4 := Lib.hid (HF3.out.trans hF (fun _ _ h => h))
  clear hR hF C1 HR3 HF3
  have e1 : numV (nxt [3] false 2).1 = 0 := by decide
  rw [e1]
  clear e1
  have C1 := Lib.hid (rbyte_any Q G [] true w4 HR4.out)
  go_wp2_with fail
  refine C1.out.mono ?_
  rintro e w5 ⟨rfl, hR, hF⟩
  have HR5 := Lib.hid (show Rr w5 Q G [] true from hR)
  have HF5 := Lib.hid (HF4.out.trans hF (fun _ _ h => h))
  clear hR hF C1 HR4 HF4
  have e1 : numV (nxt [] true 1).1 = 0 := by decide
  rw [e1]
  clear e1
  have HW5 := Lib.hid (HW2.out.fr HF5.out HPQ.out.1 HPQ.out.2.1)
  have HB5 := Lib.hid (HB2.out.trans (HF5.out.below HB2.out.size (fun k hk e => by have := HPQ.out.2.2; omega)))
  clear HW2 HF5 HB2
  have C1 := Lib.hid (out_any P v _ w5 HW5.out (by decide))
  go_wp2_with fail
  refine C1.out.mono ?_
  rintro e w6 ⟨v', rfl, ho, hb⟩
  obtain ⟨A, c, rfl, hr⟩ := own_byts ho (by decide)
  have hcv := run_convert_byts w6 23 5 Try.underlying23 Try.underlying5 (show Byts w6 A 8 c [1, 0, 2, 0, 0, 0, 255, 7] from hr) 9 Try.underlying9
  have es : strOfNums [1, 0, 2, 0, 0, 0, 255, 7] = ⟨#[1, 0, 2, 0, 0, 0, 255, 7]⟩ := by decide
  rw [es] at hcv
  have HB6 := Lib.hid (below_then HB5.out hb)
  have HR6 := Lib.hid (HR5.out.below hb)
  clear ho hb hr es C1 HB5 HR5 HW5
  have C1 := Lib.hid (bad_any Q G [] true w6 HR6.out)
  go_wp2_with fail
  refine C1.out.mono ?_
  rintro e w7 ⟨rfl, rfl⟩
  go_wp2_with fail
  go_ret
  exact .bool rfl HB6.out
end Go.Proofs.Ytnpiocbgbpnlmaa
