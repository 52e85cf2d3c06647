/- How the arguments of layer 19's statements are opened: tops, rules. -/
import Derived.Test.YtmlfnejmagjjpaaRows
import Derived.Test.YtmlfnejmagjjpaaOpen
import Derived.Test.YtmlfnejmagjjpaaA4
namespace Go.Proofs.Ytmlfnejmagjjpaa
open Go.ChangeShapes Go.WideShapes Go.ChangeAt Go.RowKit Go.Proofs.Tail
set_option linter.unusedVariables false
theorem own : ownKnob Try.prog.godebug = none := by kernel_rfl
theorem laidOut : laidOutB Try.prog = true := by kernel_rfl
theorem cells35 : Try.prog.cellsOf 35 = 3 := by kernel_rfl
theorem cells3 : Try.prog.cellsOf 3 = 1 := by kernel_rfl
theorem cells22 : Try.prog.cellsOf 22 = 1 := by kernel_rfl
/-- A rule's three cells. -/
def VRule (w : World) (cs : List Value) (r : Fx.R) : Prop := ∃ A n c, cs = [.int .i64 r.x, .int .i64 r.y, .slice A n c] ∧ Ints w A n c r.need
theorem opens_rule {H : Type} {enc : TypeId × Value → H} {w : World} {base : Nat} {spare : Nat → Bool} {held : Bool} : Opens enc Try.prog w base spare held 35 (VRule w) := fun fuel cs x h => by
  obtain ⟨hl, n, hf⟩ := opens_fields Try.underlying35 h
  rw [cells35] at hl
  match cs, hl with
  | [c0, c1, c2], _ =>
    obtain ⟨y0, e0⟩ := hf 0 _ rfl
    obtain ⟨y1, e1⟩ := hf 1 _ rfl
    obtain ⟨y2, e2⟩ := hf 2 _ rfl
    simp [cells3, cells22] at e0 e1 e2
    obtain ⟨a, h0, _⟩ := opens_int Try.underlying3 _ _ _ e0
    obtain ⟨b, h1, _⟩ := opens_int Try.underlying3 _ _ _ e1
    obtain ⟨l, A, m, c, h2, hR⟩ := opens_ints Try.underlying22 Try.underlying3 (by kernel_rfl) _ _ _ e2
    cases h0
    cases h1
    cases h2
    exact ⟨⟨a, b, l⟩, A, m, c, rfl, hR⟩
theorem opens_rules {H : Type} {enc : TypeId × Value → H} {w : World} {base : Nat} {spare : Nat → Bool} {held : Bool} : Opens enc Try.prog w base spare held 23 (VSlice 3 RRule w) :=
  opens_slice Try.underlying23 cells35 (by omega) opens_rule (by
    rintro b o cs y hl hcell ⟨A, n, c, rfl, hR⟩
    exact ⟨y, A, n, c, hcell 0 _ rfl, hcell 1 _ rfl, hcell 2 _ rfl, hR⟩)
end Go.Proofs.Ytmlfnejmagjjpaa
