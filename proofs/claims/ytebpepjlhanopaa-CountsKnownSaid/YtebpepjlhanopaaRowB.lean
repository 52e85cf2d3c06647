/- How a time is opened, that a statement is asked of. -/
import Derived.Test.YtebpepjlhanopaaRows
import Derived.Test.YtebpepjlhanopaaOpen
import Derived.Test.YtebpepjlhanopaaS1
import Derived.Test.YtebpepjlhanopaaR0
namespace Go.Proofs.Ytebpepjlhanopaa
open Go.ChangeShapes Go.WideShapes Go.ChangeAt Go.RowKit Go.Proofs.Tail
set_option linter.unusedVariables false
theorem own : ownKnob Try.prog.godebug = none := by kernel_rfl
theorem laidOut : laidOutB Try.prog = true := by kernel_rfl
theorem cells_stamp : Try.prog.cellsOf 28 = 5 := by kernel_rfl
theorem cells_int : Try.prog.cellsOf 3 = 1 := by kernel_rfl
theorem cells_loops : Try.prog.cellsOf 26 = 3 := by kernel_rfl
def VStamp (w : World) (cs : List Value) (t : T) : Prop := cs = [.int .i64 t.d, .int .i64 t.e, .int .i64 t.a, .int .i64 t.b, .int .i64 t.c] ∧ -9223372036854775808 ≤ t.d ∧ t.d ≤ 9223372036854775807
set_option maxRecDepth 100000 in
theorem opens_stamp {H : Type} {enc : TypeId × Value → H} {w : World} {base : Nat} {spare : Nat → Bool} {held : Bool} : Opens enc Try.prog w base spare held 28 (VStamp w) := fun fuel cs x h => by
  obtain ⟨hl, n, hf⟩ := opens_fields Try.underlying28 h
  rw [cells_stamp] at hl
  match cs, hl with
  | [c0, c1, c2, c3, c4], _ =>
    obtain ⟨y0, e0⟩ := hf 0 _ rfl
    obtain ⟨y1, e1⟩ := hf 1 _ rfl
    obtain ⟨y2, e2⟩ := hf 2 _ rfl
    simp [cells_int, cells_loops] at e0 e1 e2
    obtain ⟨a, h0, wa⟩ := opens_int Try.underlying3 _ _ _ e0
    obtain ⟨b, h1, _⟩ := opens_int Try.underlying3 _ _ _ e1
    cases h0
    cases h1
    obtain ⟨xs, m, _, _, _, hlx, hel⟩ := DataW.trod_array Try.underlying26 e2
    have f0 := (hel 0 (by omega)).trans (List.getElem?_eq_getElem (by omega))
    have f1 := (hel 1 (by omega)).trans (List.getElem?_eq_getElem (by omega))
    have f2 := (hel 2 (by omega)).trans (List.getElem?_eq_getElem (by omega))
    simp [cells_int] at f0 f1 f2
    obtain ⟨p, h2, _⟩ := opens_int Try.underlying3 _ _ _ f0
    obtain ⟨q, h3, _⟩ := opens_int Try.underlying3 _ _ _ f1
    obtain ⟨r, h4, _⟩ := opens_int Try.underlying3 _ _ _ f2
    cases h2
    cases h3
    cases h4
    exact ⟨⟨a, b, p, q, r⟩, rfl, bounds_i64 wa⟩
theorem stamp_cells {w : World} {V : Array Value} {x : T} (h : VStamp w V.toList x) : V = #[.int .i64 x.d, .int .i64 x.e, .int .i64 x.a, .int .i64 x.b, .int .i64 x.c] := by
  obtain ⟨l⟩ := V
  exact congrArg Array.mk h.1
theorem opens_tms {H : Type} {enc : TypeId × Value → H} {w : World} {base : Nat} {spare : Nat → Bool} {held : Bool} : Opens enc Try.prog w base spare held 33 (VSlice 5 At w) :=
  opens_slice Try.underlying33 cells_stamp (by omega) opens_stamp (by
    rintro b o cs x hl hcell ⟨rfl, _⟩
    exact ⟨x, hcell 0 _ rfl, hcell 1 _ rfl, hcell 2 _ rfl, hcell 3 _ rfl, hcell 4 _ rfl⟩)
theorem cells_step : Try.prog.cellsOf 30 = 6 := by kernel_rfl
theorem cells_i64 : Try.prog.cellsOf 2 = 1 := by kernel_rfl
def VStep (w : World) (cs : List Value) (p : T × Int) : Prop := cs = [.int .i64 p.1.d, .int .i64 p.1.e, .int .i64 p.1.a, .int .i64 p.1.b, .int .i64 p.1.c, .int .i64 p.2]
set_option maxRecDepth 100000 in
theorem opens_step {H : Type} {enc : TypeId × Value → H} {w : World} {base : Nat} {spare : Nat → Bool} {held : Bool} : Opens enc Try.prog w base spare held 30 (VStep w) := fun fuel cs x h => by
  obtain ⟨hl, n, hf⟩ := opens_fields Try.underlying30 h
  rw [cells_step] at hl
  match cs, hl with
  | [c0, c1, c2, c3, c4, c5], _ =>
    obtain ⟨y0, e0⟩ := hf 0 _ rfl
    obtain ⟨y1, e1⟩ := hf 1 _ rfl
    simp [cells_stamp, cells_i64] at e0 e1
    obtain ⟨t, ht, _⟩ := opens_stamp _ _ _ e0
    obtain ⟨a, h0, _⟩ := opens_int Try.underlying2 _ _ _ e1
    cases h0
    simp only [List.cons.injEq, and_true] at ht
    obtain ⟨rfl, rfl, rfl, rfl, rfl⟩ := ht
    exact ⟨(t, a), rfl⟩
theorem opens_steps {H : Type} {enc : TypeId × Value → H} {w : World} {base : Nat} {spare : Nat → Bool} {held : Bool} : Opens enc Try.prog w base spare held 22 (VSlice 6 RCo w) :=
  opens_slice Try.underlying22 cells_step (by omega) opens_step (by
    rintro b o cs x hl hcell rfl
    exact ⟨x, ⟨hcell 0 _ rfl, hcell 1 _ rfl, hcell 2 _ rfl, hcell 3 _ rfl, hcell 4 _ rfl⟩, hcell 5 _ rfl⟩)
end Go.Proofs.Ytebpepjlhanopaa
