/- RecordsBack answers true for every two messages and all bytes. -/
import Derived.Test.YteiohcgohgcjfaaRows
import Derived.Test.YteiohcgohgcjfaaRowB
import Derived.Test.YteiohcgohgcjfaaB1
namespace Go.Proofs.Yteiohcgohgcjfaa
open Go.ChangeShapes Go.WideShapes Go.ChangeAt Go.RowKit Go.Proofs.Tail
set_option linter.unusedVariables false
theorem law_back_at (V V' : Array Value) (m n : Msg) (G : Option Addr) (N g : Nat) (bs : List Int) (w : World) (h0 : VMsg w V.toList m) (h1 : VMsg w V'.toList n) (hR : Rd 1 RByteB w G N g bs) : Calls Try.prog 5 #[.agg V, .agg V', .slice G N g] w (Gives (.bool true) w) := by
  obtain ⟨A0, c0, C0, d0, rfl, R0, K0, F0⟩ := msg_agg h0
  obtain ⟨A1, c1, C1, d1, rfl, R1, K1, F1⟩ := msg_agg h1
  obtain ⟨hy, hin⟩ := byts_of hR
  obtain rfl : bs.length = N := hy.len
  exact law_back m n A0 C0 A1 C1 G c0 d0 c1 d1 g bs w R0 R1 K0 K1 F0 F1 hy hin
set_option maxRecDepth 100000 in
theorem lifted_recordsBack (os : Os) (started : os.Started) (H : Type) (enc : TypeId × Value → H) :
    ReturnsInHanded {} Try.checked os 5 .any (Rows.recordsBackSpec.pre6 enc Try.prog Try.f5 Rows.recordsBackRow.domain false) (Rows.recordsBackSpec.post enc Try.prog Try.f5 false true false false) := by
  refine returnsInHanded_of_change_sized (C := Try.checked) own started (by kernel_rfl) Try.func5
    (ChangeSpec.witness6 (enc := enc) (C := Try.checked) false ⟨#[], #[.agg #[.int .u8 0, .int .i64 0, .int .i64 0, .int .i64 0, .int .i64 0, .int .i64 0, .int .i64 0, .int .i64 0, .int .i64 0, .int .i64 0, .slice none 0 0, .slice none 0 0], .agg #[.int .u8 0, .int .i64 0, .int .i64 0, .int .i64 0, .int .i64 0, .int .i64 0, .int .i64 0, .int .i64 0, .int .i64 0, .int .i64 0, .slice none 0 0, .slice none 0 0], .slice none 0 0], []⟩ 8 (by kernel_rfl) (by kernel_rfl) (by kernel_rfl) (by kernel_rfl)) ?_
  intro W base args ds gs before hval0 hW hcnd hsz0 _
  have hval : ∀ (j : Nat) t v, Try.f5.params[j]? = some t → args[j]? = some v → Value.okWide Try.prog W .any base t v := hval0
  have hW' := hW
  obtain ⟨p, q, hA0, hV, rfl, hfz, hnd⟩ := hW
  have hA : DataW.TrodAll enc Try.prog W 0 (fun _ => true) true Try.f5.params.toList args.toList ds p := hA0
  rw [Try.params5] at hA hval
  obtain ⟨v0, vs0, d0, ds0, p0, q0, hargs, rfl, rfl, h0, r0⟩ := trodAll_cons hA
  obtain ⟨v1, vs1, d1, ds1, p1, q1, rfl, rfl, rfl, h1, r1⟩ := trodAll_cons r0
  obtain ⟨v2, vs2, d2, ds2, p2, q2, rfl, rfl, rfl, h2, r2⟩ := trodAll_cons r1
  obtain ⟨rfl, rfl, rfl⟩ := trodAll_nil r2
  obtain rfl : args = #[v0, v1, v2] := by cases args; simp_all
  obtain ⟨rfl, rfl⟩ := trodVars_none hV
  have k0 := h0
  have lt0 : ∀ x ∈ p0, x.block < W.heap.size := by obtain ⟨m, hm⟩ := k0; exact DataW.trod_lt m _ _ _ hm
  obtain ⟨x0, V0, e0⟩ : ∃ x, ∃ cs : Array Value, v0 = .agg cs ∧ VMsg W cs.toList x := by
    obtain ⟨cs, rfl, _⟩ := okWide_struct Try.underlying28 (hval 0 28 v0 rfl rfl)
    obtain ⟨m, hm⟩ := h0
    obtain ⟨x, hx⟩ := opens_msg _ _ _ hm
    exact ⟨x, cs, rfl, by simpa [Value.cells] using hx⟩
  obtain ⟨ev0, V0'⟩ := e0
  subst ev0
  have k1 := h1
  have lt1 : ∀ x ∈ p1, x.block < W.heap.size := by obtain ⟨m, hm⟩ := k1; exact DataW.trod_lt m _ _ _ hm
  obtain ⟨x1, V1, e1⟩ : ∃ x, ∃ cs : Array Value, v1 = .agg cs ∧ VMsg W cs.toList x := by
    obtain ⟨cs, rfl, _⟩ := okWide_struct Try.underlying28 (hval 1 28 v1 rfl rfl)
    obtain ⟨m, hm⟩ := h1
    obtain ⟨x, hx⟩ := opens_msg _ _ _ hm
    exact ⟨x, cs, rfl, by simpa [Value.cells] using hx⟩
  obtain ⟨ev1, V1'⟩ := e1
  subst ev1
  have k2 := h2
  have lt2 : ∀ x ∈ p2, x.block < W.heap.size := by obtain ⟨m, hm⟩ := k2; exact DataW.trod_lt m _ _ _ hm
  obtain ⟨l2, A2, n2, c2, e2, R2⟩ : ∃ l A n c, v2 = .slice A n c ∧ Rd 1 RByteB W A n c l := by
    obtain ⟨a, len, cap, rfl⟩ := okWide_slice Try.underlying36 (hval 2 36 v2 rfl rfl)
    obtain ⟨m, hm⟩ := h2
    obtain ⟨l, A, n, c, e, hR⟩ := opens_bytes Try.underlying36 Try.underlying5 (by kernel_rfl) _ _ _ hm
    cases e
    exact ⟨l, _, _, _, rfl, hR⟩
  subst e2
  clear hA0 hval0 hsz0
  refine (law_back_at _ _ x0 x1 A2 n2 c2 l2 W V0' V1' R2).mono fun e W' ⟨he, bel⟩ => ?_
  subst he
  exact ⟨_, rfl, _, _, _, [], _, [], hW', trodAll_mk1 (shut_bool Try.underlying4 _), (trodAll_cons_mk (Below.trod laidOut (by kernel_rfl) (of_decide_eq_true (by kernel_rfl)) k0 bel lt0) (trodAll_cons_mk (Below.trod laidOut (by kernel_rfl) (of_decide_eq_true (by kernel_rfl)) k1 bel lt1) (trodAll_cons_mk (Below.trod laidOut (by kernel_rfl) (of_decide_eq_true (by kernel_rfl)) k2 bel lt2) trodAll_mk0))), rfl, bel.frame _, fun h => by cases h⟩
theorem recordsBack_holds : Rows.RecordsBackSaid :=
  OpenClaim.holds_of_wide 5 Try.f5 rfl rfl rfl rfl rfl rfl rfl ⟨rfl, rfl, rfl, rfl, rfl⟩ rfl rfl rfl rfl rfl (by kernel_rfl) Try.func5 (by kernel_rfl)
    (of_decide_eq_true (by kernel_rfl)) (by unfold Func.isWrapper; first | (rw [if_pos (by decide +kernel)]; kernel_rfl) | (rw [if_neg (by decide +kernel)]; exact ⟨rfl, rfl⟩))
    (fun os started H enc _ => lifted_recordsBack os started H enc)
#print axioms recordsBack_holds
end Go.Proofs.Yteiohcgohgcjfaa
