/- FieldsUnread answers true for all things and bytes. -/
import Derived.Test.YtnpiocbgbpnlmaaRows
import Derived.Test.YtnpiocbgbpnlmaaRowB
import Derived.Test.YtnpiocbgbpnlmaaOpenB
import Derived.Test.YtnpiocbgbpnlmaaOpenZ
import Derived.Test.YtnpiocbgbpnlmaaL6
namespace Go.Proofs.Ytnpiocbgbpnlmaa
open Go.ChangeShapes Go.WideShapes Go.ChangeAt Go.RowKit Go.Proofs.Tail
set_option linter.unusedVariables false
set_option maxRecDepth 100000 in
theorem lifted_fieldsUnread (os : Os) (started : os.Started) (H : Type) (enc : TypeId × Value → H) :
    ReturnsInHanded {} Try.checked os 6 .any (Rows.fieldsUnreadSpec.pre6 enc Try.prog Try.f6 Rows.fieldsUnreadRow.domain false) (Rows.fieldsUnreadSpec.post enc Try.prog Try.f6 false true false false) := by
  refine returnsInHanded_of_change_sized (C := Try.checked) own started (by kernel_rfl) Try.func6
    (ChangeSpec.witness6 (enc := enc) (C := Try.checked) false ⟨#[], #[.slice none 0 0, .slice none 0 0, .slice none 0 0], []⟩ 8 (by kernel_rfl) (by kernel_rfl) (by kernel_rfl) (by kernel_rfl)) ?_
  intro W base args ds gs before hval0 hW hcnd hsz0 _
  have hval : ∀ (j : Nat) t v, Try.f6.params[j]? = some t → args[j]? = some v → Value.okWide Try.prog W .any base t v := hval0
  have hW' := hW
  obtain ⟨p, q, hA0, hV, rfl, hfz, hnd⟩ := hW
  have hA : DataW.TrodAll enc Try.prog W 0 (fun _ => true) true Try.f6.params.toList args.toList ds p := hA0
  rw [Try.params6] at hA hval
  obtain ⟨v0, vs0, d0, ds0, p0, q0, hargs, rfl, rfl, h0, r0⟩ := trodAll_cons hA
  obtain ⟨v1, vs1, d1, ds1, p1, q1, rfl, rfl, rfl, h1, r1⟩ := trodAll_cons r0
  obtain ⟨v2, vs2, d2, ds2, p2, q2, rfl, rfl, rfl, h2, r2⟩ := trodAll_cons r1
  obtain ⟨rfl, rfl, rfl⟩ := trodAll_nil r2
  obtain rfl : args = #[v0, v1, v2] := by cases args; simp_all
  obtain ⟨rfl, rfl⟩ := trodVars_none hV
  have k0 := h0
  have lt0 : ∀ x ∈ p0, x.block < W.heap.size := by obtain ⟨m, hm⟩ := k0; exact DataW.trod_lt m _ _ _ hm
  have hz0 : DReach Try.prog 22 d0 := DReach.each hsz0 0 (by rw [Try.params6]; rfl) rfl
  obtain ⟨l0, A0, n0, c0, e0, R0, Z0⟩ : ∃ l A n c, v0 = .slice A n c ∧ Rd 3 RTh W A n c l ∧ n * 32 ≤ 140737488351232 := by
    obtain ⟨a, len, cap, rfl⟩ := okWide_slice Try.underlying22 (hval 0 22 v0 rfl rfl)
    obtain ⟨m, hm⟩ := h0
    obtain ⟨l, A, n, c, e, hR, hb⟩ := opens_things _ _ _ hm hz0
    cases e
    exact ⟨l, _, _, _, rfl, hR, hb⟩
  subst e0
  have k1 := h1
  have lt1 : ∀ x ∈ p1, x.block < W.heap.size := by obtain ⟨m, hm⟩ := k1; exact DataW.trod_lt m _ _ _ hm
  obtain ⟨l1, A1, n1, c1, e1, R1⟩ : ∃ l A n c, v1 = .slice A n c ∧ Rd 1 RByteB W A n c l := by
    obtain ⟨a, len, cap, rfl⟩ := okWide_slice Try.underlying23 (hval 1 23 v1 rfl rfl)
    obtain ⟨m, hm⟩ := h1
    obtain ⟨l, A, n, c, e, hR⟩ := opens_bytes Try.underlying23 Try.underlying5 (by kernel_rfl) _ _ _ hm
    cases e
    exact ⟨l, _, _, _, rfl, hR⟩
  subst e1
  have k2 := h2
  have lt2 : ∀ x ∈ p2, x.block < W.heap.size := by obtain ⟨m, hm⟩ := k2; exact DataW.trod_lt m _ _ _ hm
  obtain ⟨l2, A2, n2, c2, e2, R2⟩ : ∃ l A n c, v2 = .slice A n c ∧ Rd 1 RByteB W A n c l := by
    obtain ⟨a, len, cap, rfl⟩ := okWide_slice Try.underlying23 (hval 2 23 v2 rfl rfl)
    obtain ⟨m, hm⟩ := h2
    obtain ⟨l, A, n, c, e, hR⟩ := opens_bytes Try.underlying23 Try.underlying5 (by kernel_rfl) _ _ _ hm
    cases e
    exact ⟨l, _, _, _, rfl, hR⟩
  subst e2
  clear hA0 hval0 hsz0
  refine (law_unread A0 A1 A2 n0 c0 n1 c1 n2 c2 l0 l1 l2 W R0 (byts_of R1).1 (byts_of R2).1 (byts_of R1).2 (byts_of R2).2).mono fun e W' ⟨he, bel⟩ => ?_
  subst he
  exact ⟨_, rfl, _, _, _, [], _, [], hW', trodAll_mk1 (shut_bool Try.underlying4 _), (trodAll_cons_mk (Below.trod laidOut (by kernel_rfl) (of_decide_eq_true (by kernel_rfl)) k0 bel lt0) (trodAll_cons_mk (Below.trod laidOut (by kernel_rfl) (of_decide_eq_true (by kernel_rfl)) k1 bel lt1) (trodAll_cons_mk (Below.trod laidOut (by kernel_rfl) (of_decide_eq_true (by kernel_rfl)) k2 bel lt2) trodAll_mk0))), rfl, bel.frame _, fun h => by cases h⟩
theorem fieldsUnread_holds : Rows.FieldsUnreadSaid :=
  OpenClaim.holds_of_wide 6 Try.f6 rfl rfl rfl rfl rfl rfl rfl ⟨rfl, rfl, rfl, rfl, rfl⟩ rfl rfl rfl rfl rfl (by kernel_rfl) Try.func6 (by kernel_rfl)
    (of_decide_eq_true (by kernel_rfl)) (by unfold Func.isWrapper; first | (rw [if_pos (by decide +kernel)]; kernel_rfl) | (rw [if_neg (by decide +kernel)]; exact ⟨rfl, rfl⟩))
    (fun os started H enc _ => lifted_fieldsUnread os started H enc)
#print axioms fieldsUnread_holds
end Go.Proofs.Ytnpiocbgbpnlmaa
