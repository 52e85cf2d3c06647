/- Plain laws: what the statements ask of rows. -/
import Derived.Test.YtainoghjelfnkaaRows
import Derived.Test.YtainoghjelfnkaaV1
import Derived.Test.YtainoghjelfnkaaV4
import Derived.Test.YtainoghjelfnkaaP1
namespace Go.Proofs.Ytainoghjelfnkaa
open Go Go.RowKit Go.Proofs.Tail Go.Sort
set_option linter.unusedSimpArgs false
set_option linter.unusedVariables false
theorem LS_len {xs ys l : List Rc} (h : LS xs ys = some l) : xs.length = l.length + ys.length := by
  have := (LS_some h).1.length_eq; simpa using this
theorem LS_of {xs ys m : List Rc} (h : xs.Perm (m ++ ys)) : ∃ l, LS xs ys = some l ∧ l.Perm m := by
  cases e : LS xs ys with
  | none => exact absurd ⟨m, h⟩ (LS_none e)
  | some l => exact ⟨l, rfl, (List.perm_append_right_iff _).1 ((LS_some e).1.symm.trans h)⟩
/-- Both ways: they are the same. -/
theorem LS_both {xs ys l m : List Rc} (h : LS xs ys = some l) (k : LS ys xs = some m) : l = [] ∧ m = [] ∧ sortR xs = sortR ys := by
  have h1 := LS_len h
  have h2 := LS_len k
  have e1 : l = [] := List.eq_nil_of_length_eq_zero (by omega)
  have e2 : m = [] := List.eq_nil_of_length_eq_zero (by omega)
  subst e1
  exact ⟨rfl, e2, sortR_congr.2 (by have := (LS_some h).1; simpa using this)⟩
theorem LS_one {xs ys l : List Rc} (h : LS xs ys = some l) (k : LS ys xs = none) : sortR xs ≠ sortR ys := fun e =>
  LS_none k ⟨[], (sortR_congr.1 e).symm⟩
theorem LS_back {xs ys l : List Rc} (h : LS xs ys = some l) : sortR (sortR (l ++ ys)) = sortR xs :=
  sortR_congr.2 ((sortR_perm _).trans (LS_some h).1.symm)
theorem LS_add (xs ys : List Rc) : ∃ l, LS (sortR (xs ++ ys)) ys = some l ∧ sortR l = sortR xs := by
  obtain ⟨l, h1, h2⟩ := LS_of (xs := sortR (xs ++ ys)) (ys := ys) (m := xs) (sortR_perm _)
  exact ⟨l, h1, sortR_congr.2 h2⟩
end Go.Proofs.Ytainoghjelfnkaa
