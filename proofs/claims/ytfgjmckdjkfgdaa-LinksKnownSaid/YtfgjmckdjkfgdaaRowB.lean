/- How a row of calls is opened, that a statement is asked of. -/
import Derived.Test.YtfgjmckdjkfgdaaRows
import Derived.Test.YtfgjmckdjkfgdaaOpen
import Derived.Test.YtfgjmckdjkfgdaaOpenB
import Derived.Test.YtfgjmckdjkfgdaaT1
namespace Go.Proofs.Ytfgjmckdjkfgdaa
open Go.ChangeShapes Go.WideShapes Go.ChangeAt Go.RowKit Go.Proofs.Tail
set_option linter.unusedVariables false
theorem own : ownKnob Try.prog.godebug = none := by kernel_rfl
theorem laidOut : laidOutB Try.prog = true := by kernel_rfl
theorem cells_call : Try.prog.cellsOf 32 = 4 := by kernel_rfl
theorem cells_int : Try.prog.cellsOf 3 = 1 := by kernel_rfl
theorem cells_u8 : Try.prog.cellsOf 5 = 1 := by kernel_rfl
theorem cells_bytes : Try.prog.cellsOf 30 = 1 := by kernel_rfl
def VCall (w : World) (cs : List Value) (x : CallS) : Prop := ∃ A c, cs = [.int .u8 x.k, .int .i64 x.f, .int .i64 x.t, .slice A x.b.length c] ∧ (0 ≤ x.k ∧ x.k < 256) ∧ Byts w A x.b.length c x.b
set_option maxRecDepth 100000 in
theorem opens_call {H : Type} {enc : TypeId × Value → H} {w : World} {base : Nat} {spare : Nat → Bool} {held : Bool} : Opens enc Try.prog w base spare held 32 (VCall w) := fun fuel cs x h => by
  obtain ⟨hl, n, hf⟩ := opens_fields Try.underlying32 h
  rw [cells_call] at hl
  match cs, hl with
  | [c0, c1, c2, c3], _ =>
    obtain ⟨y0, e0⟩ := hf 0 _ rfl
    obtain ⟨y1, e1⟩ := hf 1 _ rfl
    obtain ⟨y2, e2⟩ := hf 2 _ rfl
    obtain ⟨y3, e3⟩ := hf 3 _ rfl
    simp [cells_int, cells_u8, cells_bytes] at e0 e1 e2 e3
    obtain ⟨a, h0, wa⟩ := opens_int Try.underlying5 _ _ _ e0
    obtain ⟨b, h1, _⟩ := opens_int Try.underlying3 _ _ _ e1
    obtain ⟨c, h2, _⟩ := opens_int Try.underlying3 _ _ _ e2
    obtain ⟨l, A, m, cp, h3, hr⟩ := opens_bytes Try.underlying30 Try.underlying5 cells_u8 _ _ _ e3
    cases h0
    cases h1
    cases h2
    cases h3
    have := bounds_u8 wa
    have hm := hr.len
    subst hm
    exact ⟨⟨a, b, c, l⟩, A, cp, rfl, ⟨by dsimp only; omega, by dsimp only; omega⟩, (byts_of hr).1⟩
theorem opens_calls {H : Type} {enc : TypeId × Value → H} {w : World} {base : Nat} {spare : Nat → Bool} {held : Bool} : Opens enc Try.prog w base spare held 22 (VSlice 4 RCall w) :=
  opens_slice Try.underlying22 cells_call (by omega) opens_call (by
    rintro b o cs x hl hcell ⟨A, c, rfl, hk, hb⟩
    exact ⟨x, hk, hcell 0 _ rfl, hcell 1 _ rfl, hcell 2 _ rfl, A, c, hcell 3 _ rfl, hb⟩)
end Go.Proofs.Ytfgjmckdjkfgdaa
