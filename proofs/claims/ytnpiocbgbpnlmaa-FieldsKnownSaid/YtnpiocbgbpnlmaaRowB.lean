/- How things are opened. -/
import Derived.Test.YtnpiocbgbpnlmaaRows
import Derived.Test.YtnpiocbgbpnlmaaOpenZ
import Derived.Test.YtnpiocbgbpnlmaaA10
namespace Go.Proofs.Ytnpiocbgbpnlmaa
open Go.ChangeShapes Go.WideShapes Go.ChangeAt Go.RowKit Go.Proofs.Tail
set_option linter.unusedVariables false
theorem own : ownKnob Try.prog.godebug = none := by kernel_rfl
theorem laidOut : laidOutB Try.prog = true := by kernel_rfl
theorem cells_thing : Try.prog.cellsOf 42 = 3 := by kernel_rfl
theorem cells_i8 : Try.prog.cellsOf 39 = 1 := by kernel_rfl
theorem cells_u64 : Try.prog.cellsOf 40 = 1 := by kernel_rfl
theorem cells_string : Try.prog.cellsOf 9 = 1 := by kernel_rfl
theorem bytes_thing : Try.prog.bytesOf 42 = 32 := by kernel_rfl
def VTh (cs : List Value) (x : Th) : Prop := cs = [.int .i8 x.s, .int .u64 x.n, .string x.b] ∧ x.ok
theorem opens_thing {H : Type} {enc : TypeId × Value → H} {w : World} {base : Nat} {spare : Nat → Bool} {held : Bool} : OpensZ enc Try.prog w base spare held 42 VTh := fun fuel cs x h hz => by
  obtain ⟨hl, n, hf⟩ := opensZ_fields Try.underlying42 h hz
  rw [cells_thing] at hl
  match cs, hl with
  | [c0, c1, c2], _ =>
    obtain ⟨y0, e0, _⟩ := hf 0 _ rfl
    obtain ⟨y1, e1, _⟩ := hf 1 _ rfl
    obtain ⟨y2, e2, z2⟩ := hf 2 _ rfl
    simp [cells_i8, cells_u64, cells_string] at e0 e1 e2
    obtain ⟨a, h0, wa⟩ := opens_int Try.underlying39 _ _ _ e0
    obtain ⟨b, h1, wb⟩ := opens_int Try.underlying40 _ _ _ e1
    obtain ⟨s, h2, ws⟩ := opensZ_string Try.underlying9 _ _ _ e2 z2
    cases h0
    cases h1
    cases h2
    have := bounds_i8 wa
    have := bounds_u64 wb
    exact ⟨⟨a, b, s⟩, rfl, ⟨by dsimp only; omega, by dsimp only; omega, by dsimp only; omega, by dsimp only; omega, ws⟩⟩
theorem opens_things {H : Type} {enc : TypeId × Value → H} {w : World} {base : Nat} {spare : Nat → Bool} {held : Bool} : OpensZ enc Try.prog w base spare held 22 (VSliceZ 3 32 RTh w) :=
  opensZ_slice Try.underlying22 cells_thing (by omega) bytes_thing opens_thing (by
    rintro b o cs x hl hcell ⟨rfl, ok⟩
    exact ⟨x, hcell 0 _ rfl, hcell 1 _ rfl, hcell 2 _ rfl, ok⟩)
end Go.Proofs.Ytnpiocbgbpnlmaa
