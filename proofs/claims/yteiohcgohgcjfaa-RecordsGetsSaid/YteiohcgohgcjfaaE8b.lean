/- Rows of one's own of records and of changes are read. -/
import Derived.Test.YteiohcgohgcjfaaRows
import Derived.Test.YteiohcgohgcjfaaWords
import Derived.Test.YteiohcgohgcjfaaByts
import Derived.Test.YteiohcgohgcjfaaStrs
import Derived.Test.YteiohcgohgcjfaaFrame
import Derived.Test.YteiohcgohgcjfaaElems
import Derived.Test.YteiohcgohgcjfaaS1
import Derived.Test.YteiohcgohgcjfaaD1
import Derived.Test.YteiohcgohgcjfaaE1
import Derived.Test.YteiohcgohgcjfaaE2
import Derived.Test.YteiohcgohgcjfaaE3
import Derived.Test.YteiohcgohgcjfaaE4
import Derived.Test.YteiohcgohgcjfaaE5
namespace Go.Proofs.Yteiohcgohgcjfaa
open Go Go.RowKit Go.Proofs.Tail
set_option linter.unusedSimpArgs false
set_option linter.unusedVariables false
theorem rcs_len (L : List Rc) : (L.flatMap Rc.rcs).length = L.length * 2 := by
  induction L with
  | nil => rfl
  | cons x L ih => rw [List.flatMap_cons, List.length_append, ih, List.length_cons]; simp [Rc.rcs]; omega
theorem ucs_len (L : List Upd) : (L.flatMap Upd.ucs).length = L.length * 8 := by
  induction L with
  | nil => rfl
  | cons x L ih => rw [List.flatMap_cons, List.length_append, ih, List.length_cons]; simp [Upd.ucs]; omega
theorem rcs_cells (L : List Rc) : Cells 2 (fun x vs => vs = Rc.rcs x) (L.flatMap Rc.rcs) L := by
  induction L with
  | nil => exact Cells.nil _ _
  | cons x L ih => exact (Cells.one (V := fun x vs => vs = Rc.rcs x) (k := 2) (vs := Rc.rcs x) rfl rfl).append ih
theorem ucs_cells (L : List Upd) : Cells 8 (fun x vs => vs = Upd.ucs x) (L.flatMap Upd.ucs) L := by
  induction L with
  | nil => exact Cells.nil _ _
  | cons x L ih => exact (Cells.one (V := fun x vs => vs = Upd.ucs x) (k := 8) (vs := Upd.ucs x) rfl rfl).append ih
theorem own_recs {w : World} {base n : Nat} {e : TypeId} {v : Value} {L : List Rc} (h : w.ownsRow base e 2 v n (L.flatMap Rc.rcs)) (hb : n ≤ 9223372036854775807) : ∃ A c, v = .slice A n c ∧ Recs w A n c L := by
  have hl : L.length = n := by have := h.1; rw [rcs_len] at this; omega
  exact own_rd h hl hb (rcs_cells L) fun b o x vs hv hc => by
    subst hv
    exact ⟨hc 0 _ rfl, hc 1 _ rfl⟩
theorem own_upds {w : World} {base n : Nat} {e : TypeId} {v : Value} {L : List Upd} (h : w.ownsRow base e 8 v n (L.flatMap Upd.ucs)) (hb : n ≤ 9223372036854775807) : ∃ A c, v = .slice A n c ∧ Upds w A n c L := by
  have hl : L.length = n := by have := h.1; rw [ucs_len] at this; omega
  exact own_rd h hl hb (ucs_cells L) fun b o x vs hv hc => by
    subst hv
    exact ⟨hc 0 _ rfl, hc 1 _ rfl, hc 2 _ rfl, hc 3 _ rfl, hc 4 _ rfl, hc 5 _ rfl, hc 6 _ rfl, hc 7 _ rfl⟩
/-- Rows beyond a bound stay when what lies below is turned. -/
theorem own_beyond {S : Nat → Prop} {w w' : World} {base : Nat} {e : TypeId} {size n : Nat} {v : Value} {xs : List Value} (h : w.ownsRow base e size v n xs) (hf : Fr S w w') (hs : ∀ k, S k → k < base) : w'.ownsRow base e size v n xs :=
  own_fr h hf (fun k hk e => by have := own_lt h k hk; have := hs k e; omega)
end Go.Proofs.Yteiohcgohgcjfaa
