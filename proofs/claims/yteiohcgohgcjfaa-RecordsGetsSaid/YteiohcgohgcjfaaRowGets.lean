/- RecordsGets answers true for all bytes. -/
import Derived.Test.YteiohcgohgcjfaaRows
import Derived.Test.YteiohcgohgcjfaaRowB
import Derived.Test.YteiohcgohgcjfaaOpenB
import Derived.Test.YteiohcgohgcjfaaN1
namespace Go.Proofs.Yteiohcgohgcjfaa
open Go.ChangeShapes Go.WideShapes Go.ChangeAt Go.RowKit Go.Proofs.Tail
set_option linter.unusedVariables false
theorem law_gets_at (G : Option Addr) (N g : Nat) (bs : List Int) (w : World) (hR : Rd 1 RByteB w G N g bs) : Calls Try.prog 4 #[.slice G N g] w (Gives (.bool true) w) := by
  obtain ⟨hy, hin⟩ := byts_of hR
  obtain rfl : bs.length = N := hy.len
  exact law_gets G g bs w hy hin
set_option maxRecDepth 100000 in
theorem lifted_recordsGets (os : Os) (started : os.Started) (H : Type) (enc : TypeId × Value → H) :
    ReturnsInHanded {} Try.checked os 4 .any (Rows.recordsGetsSpec.pre6 enc Try.prog Try.f4 Rows.recordsGetsRow.domain false) (Rows.recordsGetsSpec.post enc Try.prog Try.f4 false true false false) := by
  refine returnsInHanded_of_change_sized (C := Try.checked) own started (by kernel_rfl) Try.func4
    (ChangeSpec.witness6 (enc := enc) (C := Try.checked) false ⟨#[], #[.slice none 0 0], []⟩ 8 (by kernel_rfl) (by kernel_rfl) (by kernel_rfl) (by kernel_rfl)) ?_
  intro W base args ds gs before hval0 hW hcnd hsz0 _
  have hval : ∀ (j : Nat) t v, Try.f4.params[j]? = some t → args[j]? = some v → Value.okWide Try.prog W .any base t v := hval0
  have hW' := hW
  obtain ⟨p, q, hA0, hV, rfl, hfz, hnd⟩ := hW
  have hA : DataW.TrodAll enc Try.prog W 0 (fun _ => true) true Try.f4.params.toList args.toList ds p := hA0
  rw [Try.params4] at hA hval
  obtain ⟨v0, vs0, d0, ds0, p0, q0, hargs, rfl, rfl, h0, r0⟩ := trodAll_cons hA
  obtain ⟨rfl, rfl, rfl⟩ := trodAll_nil r0
  obtain rfl : args = #[v0] := by cases args; simp_all
  obtain ⟨rfl, rfl⟩ := trodVars_none hV
  have k0 := h0
  have lt0 : ∀ x ∈ p0, x.block < W.heap.size := by obtain ⟨m, hm⟩ := k0; exact DataW.trod_lt m _ _ _ hm
  obtain ⟨l0, A0, n0, c0, e0, R0⟩ : ∃ l A n c, v0 = .slice A n c ∧ Rd 1 RByteB W A n c l := by
    obtain ⟨a, len, cap, rfl⟩ := okWide_slice Try.underlying36 (hval 0 36 v0 rfl rfl)
    obtain ⟨m, hm⟩ := h0
    obtain ⟨l, A, n, c, e, hR⟩ := opens_bytes Try.underlying36 Try.underlying5 (by kernel_rfl) _ _ _ hm
    cases e
    exact ⟨l, _, _, _, rfl, hR⟩
  subst e0
  clear hA0 hval0 hsz0
  refine (law_gets_at A0 n0 c0 l0 W R0).mono fun e W' ⟨he, bel⟩ => ?_
  subst he
  exact ⟨_, rfl, _, _, _, [], _, [], hW', trodAll_mk1 (shut_bool Try.underlying4 _), (trodAll_cons_mk (Below.trod laidOut (by kernel_rfl) (of_decide_eq_true (by kernel_rfl)) k0 bel lt0) trodAll_mk0), rfl, bel.frame _, fun h => by cases h⟩
theorem recordsGets_holds : Rows.RecordsGetsSaid :=
  OpenClaim.holds_of_wide 4 Try.f4 rfl rfl rfl rfl rfl rfl rfl ⟨rfl, rfl, rfl, rfl, rfl⟩ rfl rfl rfl rfl rfl (by kernel_rfl) Try.func4 (by kernel_rfl)
    (of_decide_eq_true (by kernel_rfl)) (by unfold Func.isWrapper; first | (rw [if_pos (by decide +kernel)]; kernel_rfl) | (rw [if_neg (by decide +kernel)]; exact ⟨rfl, rfl⟩))
    (fun os started H enc _ => lifted_recordsGets os started H enc)
#print axioms recordsGets_holds
end Go.Proofs.Yteiohcgohgcjfaa
