/- FieldsBoth answers true for all things. -/
import Derived.Test.YtnpiocbgbpnlmaaRows
import Derived.Test.YtnpiocbgbpnlmaaRowB
import Derived.Test.YtnpiocbgbpnlmaaOpenB
import Derived.Test.YtnpiocbgbpnlmaaOpenZ
import Derived.Test.YtnpiocbgbpnlmaaL5
namespace Go.Proofs.Ytnpiocbgbpnlmaa
open Go.ChangeShapes Go.WideShapes Go.ChangeAt Go.RowKit Go.Proofs.Tail
set_option linter.unusedVariables false
set_option maxRecDepth 100000 in
theorem lifted_fieldsBoth (os : Os) (started : os.Started) (H : Type) (enc : TypeId × Value → H) :
    ReturnsInHanded {} Try.checked os 5 .any (Rows.fieldsBothSpec.pre6 enc Try.prog Try.f5 Rows.fieldsBothRow.domain false) (Rows.fieldsBothSpec.post enc Try.prog Try.f5 false true false false) := by
  refine returnsInHanded_of_change_sized (C := Try.checked) own started (by kernel_rfl) Try.func5
    (ChangeSpec.witness6 (enc := enc) (C := Try.checked) false ⟨#[], #[.slice none 0 0, .slice none 0 0], []⟩ 8 (by kernel_rfl) (by kernel_rfl) (by kernel_rfl) (by kernel_rfl)) ?_
  intro W base args ds gs before hval0 hW hcnd hsz0 _
  have hval : ∀ (j : Nat) t v, Try.f5.params[j]? = some t → args[j]? = some v → Value.okWide Try.prog W .any base t v := hval0
  have hW' := hW
  obtain ⟨p, q, hA0, hV, rfl, hfz, hnd⟩ := hW
  have hA : DataW.TrodAll enc Try.prog W 0 (fun _ => true) true Try.f5.params.toList args.toList ds p := hA0
  rw [Try.params5] at hA hval
  obtain ⟨v0, vs0, d0, ds0, p0, q0, hargs, rfl, rfl, h0, r0⟩ := trodAll_cons hA
  obtain ⟨v1, vs1, d1, ds1, p1, q1, rfl, rfl, rfl, h1, r1⟩ := trodAll_cons r0
  obtain ⟨rfl, rfl, rfl⟩ := trodAll_nil r1
  obtain rfl : args = #[v0, v1] := by cases args; simp_all
  obtain ⟨rfl, rfl⟩ := trodVars_none hV
  have k0 := h0
  have lt0 : ∀ x ∈ p0, x.block < W.heap.size := by obtain ⟨m, hm⟩ := k0; exact DataW.trod_lt m _ _ _ hm
  have hz0 : DReach Try.prog 22 d0 := DReach.each hsz0 0 (by rw [Try.params5]; rfl) rfl
  obtain ⟨l0, A0, n0, c0, e0, R0, Z0⟩ : ∃ l A n c, v0 = .slice A n c ∧ Rd 3 RTh W A n c l ∧ n * 32 ≤ 140737488351232 := by
    obtain ⟨a, len, cap, rfl⟩ := okWide_slice Try.underlying22 (hval 0 22 v0 rfl rfl)
    obtain ⟨m, hm⟩ := h0
    obtain ⟨l, A, n, c, e, hR, hb⟩ := opens_things _ _ _ hm hz0
    cases e
    exact ⟨l, _, _, _, rfl, hR, hb⟩
  subst e0
  have k1 := h1
  have lt1 : ∀ x ∈ p1, x.block < W.heap.size := by obtain ⟨m, hm⟩ := k1; exact DataW.trod_lt m _ _ _ hm
  have hz1 : DReach Try.prog 22 d1 := DReach.each hsz0 1 (by rw [Try.params5]; rfl) rfl
  obtain ⟨l1, A1, n1, c1, e1, R1, Z1⟩ : ∃ l A n c, v1 = .slice A n c ∧ Rd 3 RTh W A n c l ∧ n * 32 ≤ 140737488351232 := by
    obtain ⟨a, len, cap, rfl⟩ := okWide_slice Try.underlying22 (hval 1 22 v1 rfl rfl)
    obtain ⟨m, hm⟩ := h1
    obtain ⟨l, A, n, c, e, hR, hb⟩ := opens_things _ _ _ hm hz1
    cases e
    exact ⟨l, _, _, _, rfl, hR, hb⟩
  subst e1
  clear hA0 hval0 hsz0
  refine (law_both A0 A1 n0 c0 n1 c1 l0 l1 W R0 R1).mono fun e W' ⟨he, bel⟩ => ?_
  subst he
  exact ⟨_, rfl, _, _, _, [], _, [], hW', trodAll_mk1 (shut_bool Try.underlying4 _), (trodAll_cons_mk (Below.trod laidOut (by kernel_rfl) (of_decide_eq_true (by kernel_rfl)) k0 bel lt0) (trodAll_cons_mk (Below.trod laidOut (by kernel_rfl) (of_decide_eq_true (by kernel_rfl)) k1 bel lt1) trodAll_mk0)), rfl, bel.frame _, fun h => by cases h⟩
theorem fieldsBoth_holds : Rows.FieldsBothSaid :=
  OpenClaim.holds_of_wide 5 Try.f5 rfl rfl rfl rfl rfl rfl rfl ⟨rfl, rfl, rfl, rfl, rfl⟩ rfl rfl rfl rfl rfl (by kernel_rfl) Try.func5 (by kernel_rfl)
    (of_decide_eq_true (by kernel_rfl)) (by unfold Func.isWrapper; first | (rw [if_pos (by decide +kernel)]; kernel_rfl) | (rw [if_neg (by decide +kernel)]; exact ⟨rfl, rfl⟩))
    (fun os started H enc _ => lifted_fieldsBoth os started H enc)
#print axioms fieldsBoth_holds
end Go.Proofs.Ytnpiocbgbpnlmaa
