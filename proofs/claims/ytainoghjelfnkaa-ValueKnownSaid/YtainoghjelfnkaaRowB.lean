/- How rows and records are opened. -/
import Derived.Test.YtainoghjelfnkaaRows
import Derived.Test.YtainoghjelfnkaaOpen
import Derived.Test.YtainoghjelfnkaaV1
namespace Go.Proofs.Ytainoghjelfnkaa
open Go.ChangeShapes Go.WideShapes Go.ChangeAt Go.RowKit Go.Proofs.Tail
set_option linter.unusedVariables false
theorem own : ownKnob Try.prog.godebug = none := by kernel_rfl
theorem laidOut : laidOutB Try.prog = true := by kernel_rfl
theorem cells_rec : Try.prog.cellsOf 32 = 2 := by kernel_rfl
theorem cells_i64 : Try.prog.cellsOf 2 = 1 := by kernel_rfl
def VRec (w : World) (cs : List Value) (x : Rc) : Prop := cs = [.int .i64 x.1, .int .i64 x.2]
theorem opens_rec {H : Type} {enc : TypeId × Value → H} {w : World} {base : Nat} {spare : Nat → Bool} {held : Bool} : Opens enc Try.prog w base spare held 32 (VRec w) := fun fuel cs x h => by
  obtain ⟨hl, n, hf⟩ := opens_fields Try.underlying32 h
  rw [cells_rec] at hl
  match cs, hl with
  | [c0, c1], _ =>
    obtain ⟨y0, e0⟩ := hf 0 _ rfl
    obtain ⟨y1, e1⟩ := hf 1 _ rfl
    simp [cells_i64] at e0 e1
    obtain ⟨a, h0, _⟩ := opens_int Try.underlying2 _ _ _ e0
    obtain ⟨b, h1, _⟩ := opens_int Try.underlying2 _ _ _ e1
    cases h0
    cases h1
    exact ⟨⟨a, b⟩, rfl⟩
theorem rec_cells {w : World} {V : Array Value} {x : Rc} (h : VRec w V.toList x) : V = #[.int .i64 x.1, .int .i64 x.2] := by
  obtain ⟨l⟩ := V
  exact congrArg Array.mk h
theorem opens_recs {H : Type} {enc : TypeId × Value → H} {w : World} {base : Nat} {spare : Nat → Bool} {held : Bool} : Opens enc Try.prog w base spare held 22 (VSlice 2 RRc w) :=
  opens_slice Try.underlying22 cells_rec (by omega) opens_rec (by
    rintro b o cs x hl hcell rfl
    exact ⟨x, hcell 0 _ rfl, hcell 1 _ rfl⟩)
end Go.Proofs.Ytainoghjelfnkaa
