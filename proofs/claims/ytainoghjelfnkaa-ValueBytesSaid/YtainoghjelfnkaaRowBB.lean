/- How rows of records are opened, with their bounds. -/
import Derived.Test.YtainoghjelfnkaaRows
import Derived.Test.YtainoghjelfnkaaOpen
import Derived.Test.YtainoghjelfnkaaV1
import Derived.Test.YtainoghjelfnkaaN2
import Derived.Test.YtainoghjelfnkaaRowB
namespace Go.Proofs.Ytainoghjelfnkaa
open Go.ChangeShapes Go.WideShapes Go.ChangeAt Go.RowKit Go.Proofs.Tail
set_option linter.unusedVariables false
def VRecB (w : World) (cs : List Value) (x : Rc) : Prop := cs = [.int .i64 x.1, .int .i64 x.2] ∧ In64 x.1 ∧ In64 x.2
def RRcB (w : World) (b o : Nat) (x : Rc) : Prop := RRc w b o x ∧ In64 x.1 ∧ In64 x.2
theorem opens_recB {H : Type} {enc : TypeId × Value → H} {w : World} {base : Nat} {spare : Nat → Bool} {held : Bool} : Opens enc Try.prog w base spare held 32 (VRecB w) := fun fuel cs x h => by
  obtain ⟨hl, n, hf⟩ := opens_fields Try.underlying32 h
  rw [cells_rec] at hl
  match cs, hl with
  | [c0, c1], _ =>
    obtain ⟨y0, e0⟩ := hf 0 _ rfl
    obtain ⟨y1, e1⟩ := hf 1 _ rfl
    simp [cells_i64] at e0 e1
    obtain ⟨a, h0, wa⟩ := opens_int Try.underlying2 _ _ _ e0
    obtain ⟨b, h1, wb⟩ := opens_int Try.underlying2 _ _ _ e1
    cases h0
    cases h1
    exact ⟨⟨a, b⟩, rfl, bounds_i64 wa, bounds_i64 wb⟩
theorem opens_recsB {H : Type} {enc : TypeId × Value → H} {w : World} {base : Nat} {spare : Nat → Bool} {held : Bool} : Opens enc Try.prog w base spare held 22 (VSlice 2 RRcB w) :=
  opens_slice Try.underlying22 cells_rec (by omega) opens_recB (by
    rintro b o cs x hl hcell ⟨rfl, h1, h2⟩
    exact ⟨x, ⟨hcell 0 _ rfl, hcell 1 _ rfl⟩, h1, h2⟩)
theorem recs_of {w : World} {A : Option Addr} {n c : Nat} {l : List Rc} (h : Rd 2 RRcB w A n c l) : Recs w A n c l ∧ ∀ x ∈ l, In64 x.1 ∧ In64 x.2 := by
  refine ⟨⟨h.len, h.cap, h.big, fun hp => ?_⟩, fun x hx => ?_⟩
  · obtain ⟨b, off, rfl, hc⟩ := h.at_ hp
    exact ⟨b, off, rfl, fun j x hj => (hc j x hj).1⟩
  · obtain ⟨j, hj, e⟩ := List.getElem_of_mem hx
    obtain ⟨b, off, _, hc⟩ := h.at_ (by rw [← h.len]; omega)
    exact (hc j x (by rw [List.getElem?_eq_getElem hj, e])).2
end Go.Proofs.Ytainoghjelfnkaa
