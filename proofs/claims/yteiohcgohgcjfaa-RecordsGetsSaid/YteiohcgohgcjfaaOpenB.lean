/- General: an argument []byte opened: bytes that are read, each of them a byte. -/
import Derived.Test.YteiohcgohgcjfaaOpen
import Derived.Test.YteiohcgohgcjfaaByts
namespace Go.Proofs.Tail
open Go Go.Lib Go.RowKit
def RByteB (w : World) (b o : Nat) (x : Int) : Prop := RByte w b o x ∧ 0 ≤ x ∧ x < 256
theorem opens_bytes {H : Type} {enc : TypeId × Value → H} {P : Program} {w : World} {base : Nat} {spare : Nat → Bool} {held : Bool} {t e : TypeId} (ht : P.underlying t = some (.slice e)) (he : P.underlying e = some (.int .u8)) (hc : P.cellsOf e = 1) :
    Opens enc P w base spare held t (VSlice 1 RByteB w) :=
  opens_slice ht hc (by omega) (opens_int he) (by
    rintro b o cs a hl hcell ⟨rfl, wf⟩
    have := bounds_u8 wf
    exact ⟨a, hcell 0 _ rfl, this.1, by omega⟩)
theorem byts_of {w : World} {A : Option Addr} {n c : Nat} {xs : List Int} (h : Rd 1 RByteB w A n c xs) : Byts w A n c xs ∧ InB xs := by
  refine ⟨⟨h.len, h.cap, h.big, fun hp => ?_⟩, fun x hx => ?_⟩
  · obtain ⟨b, o, rfl, hc⟩ := h.at_ hp
    exact ⟨b, o, rfl, fun j x hj => (hc j x hj).1⟩
  · obtain ⟨j, hj, rfl⟩ := List.getElem_of_mem hx
    obtain ⟨b, o, rfl, hc⟩ := h.at_ (by rw [← h.len]; omega)
    exact (hc j _ (List.getElem?_eq_getElem hj)).2
end Go.Proofs.Tail
