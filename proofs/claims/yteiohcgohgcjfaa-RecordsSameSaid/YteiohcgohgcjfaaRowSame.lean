/- RecordsSame answers true for every two messages. -/
import Derived.Test.YteiohcgohgcjfaaRows
import Derived.Test.YteiohcgohgcjfaaRowB
import Derived.Test.YteiohcgohgcjfaaJ1
namespace Go.Proofs.Yteiohcgohgcjfaa
open Go.ChangeShapes Go.WideShapes Go.ChangeAt Go.RowKit Go.Proofs.Tail
set_option linter.unusedVariables false
theorem law_same_at (V V' : Array Value) (m n : Msg) (w : World) (h0 : VMsg w V.toList m) (h1 : VMsg w V'.toList n) : Calls Try.prog 6 #[.agg V, .agg V'] w (Gives (.bool true) w) := by
  obtain ⟨A0, c0, C0, d0, rfl, R0, K0, F0⟩ := msg_agg h0
  obtain ⟨A1, c1, C1, d1, rfl, R1, K1, F1⟩ := msg_agg h1
  exact law_same m n A0 C0 A1 C1 c0 d0 c1 d1 w R0 R1
set_option maxRecDepth 100000 in
theorem lifted_recordsSame (os : Os) (started : os.Started) (H : Type) (enc : TypeId × Value → H) :
    ReturnsInHanded {} Try.checked os 6 .any (Rows.recordsSameSpec.pre6 enc Try.prog Try.f6 Rows.recordsSameRow.domain false) (Rows.recordsSameSpec.post enc Try.prog Try.f6 false true false false) := by
  refine returnsInHanded_of_change_sized (C := Try.checked) own started (by kernel_rfl) Try.func6
    (ChangeSpec.witness6 (enc := enc) (C := Try.checked) false ⟨#[], #[.agg #[.int .u8 0, .int .i64 0, .int .i64 0, .int .i64 0, .int .i64 0, .int .i64 0, .int .i64 0, .int .i64 0, .int .i64 0, .int .i64 0, .slice none 0 0, .slice none 0 0], .agg #[.int .u8 0, .int .i64 0, .int .i64 0, .int .i64 0, .int .i64 0, .int .i64 0, .int .i64 0, .int .i64 0, .int .i64 0, .int .i64 0, .slice none 0 0, .slice none 0 0]], []⟩ 8 (by kernel_rfl) (by kernel_rfl) (by kernel_rfl) (by kernel_rfl)) ?_
  intro W base args ds gs before hval0 hW hcnd hsz0 _
  have hval : ∀ (j : Nat) t v, Try.f6.params[j]? = some t → args[j]? = some v → Value.okWide Try.prog W .any base t v := hval0
  have hW' := hW
  obtain ⟨p, q, hA0, hV, rfl, hfz, hnd⟩ := hW
  have hA : DataW.TrodAll enc Try.prog W 0 (fun _ => true) true Try.f6.params.toList args.toList ds p := hA0
  rw [Try.params6] at hA hval
  obtain ⟨v0, vs0, d0, ds0, p0, q0, hargs, rfl, rfl, h0, r0⟩ := trodAll_cons hA
  obtain ⟨v1, vs1, d1, ds1, p1, q1, rfl, rfl, rfl, h1, r1⟩ := trodAll_cons r0
  obtain ⟨rfl, rfl, rfl⟩ := trodAll_nil r1
  obtain rfl : args = #[v0, v1] := by cases args; simp_all
  obtain ⟨rfl, rfl⟩ := trodVars_none hV
  have k0 := h0
  have lt0 : ∀ x ∈ p0, x.block < W.heap.size := by obtain ⟨m, hm⟩ := k0; exact DataW.trod_lt m _ _ _ hm
  obtain ⟨x0, V0, e0⟩ : ∃ x, ∃ cs : Array Value, v0 = .agg cs ∧ VMsg W cs.toList x := by
    obtain ⟨cs, rfl, _⟩ := okWide_struct Try.underlying28 (hval 0 28 v0 rfl rfl)
    obtain ⟨m, hm⟩ := h0
    obtain ⟨x, hx⟩ := opens_msg _ _ _ hm
    exact ⟨x, cs, rfl, by simpa [Value.cells] using hx⟩
  obtain ⟨ev0, V0'⟩ := e0
  subst ev0
  have k1 := h1
  have lt1 : ∀ x ∈ p1, x.block < W.heap.size := by obtain ⟨m, hm⟩ := k1; exact DataW.trod_lt m _ _ _ hm
  obtain ⟨x1, V1, e1⟩ : ∃ x, ∃ cs : Array Value, v1 = .agg cs ∧ VMsg W cs.toList x := by
    obtain ⟨cs, rfl, _⟩ := okWide_struct Try.underlying28 (hval 1 28 v1 rfl rfl)
    obtain ⟨m, hm⟩ := h1
    obtain ⟨x, hx⟩ := opens_msg _ _ _ hm
    exact ⟨x, cs, rfl, by simpa [Value.cells] using hx⟩
  obtain ⟨ev1, V1'⟩ := e1
  subst ev1
  clear hA0 hval0 hsz0
  refine (law_same_at _ _ x0 x1 W V0' V1').mono fun e W' ⟨he, bel⟩ => ?_
  subst he
  exact ⟨_, rfl, _, _, _, [], _, [], hW', trodAll_mk1 (shut_bool Try.underlying4 _), (trodAll_cons_mk (Below.trod laidOut (by kernel_rfl) (of_decide_eq_true (by kernel_rfl)) k0 bel lt0) (trodAll_cons_mk (Below.trod laidOut (by kernel_rfl) (of_decide_eq_true (by kernel_rfl)) k1 bel lt1) trodAll_mk0)), rfl, bel.frame _, fun h => by cases h⟩
theorem recordsSame_holds : Rows.RecordsSameSaid :=
  OpenClaim.holds_of_wide 6 Try.f6 rfl rfl rfl rfl rfl rfl rfl ⟨rfl, rfl, rfl, rfl, rfl⟩ rfl rfl rfl rfl rfl (by kernel_rfl) Try.func6 (by kernel_rfl)
    (of_decide_eq_true (by kernel_rfl)) (by unfold Func.isWrapper; first | (rw [if_pos (by decide +kernel)]; kernel_rfl) | (rw [if_neg (by decide +kernel)]; exact ⟨rfl, rfl⟩))
    (fun os started H enc _ => lifted_recordsSame os started H enc)
#print axioms recordsSame_holds
end Go.Proofs.Yteiohcgohgcjfaa
