/- What two results are, said for the laws' walks. -/
import Derived.Test.YtamniepfgddecaaRows
import Derived.Test.YtamniepfgddecaaWords
import Derived.Test.YtamniepfgddecaaByts
import Derived.Test.YtamniepfgddecaaFrame
import Derived.Test.YtamniepfgddecaaElems
import Derived.Test.YtamniepfgddecaaS1
import Derived.Test.YtamniepfgddecaaS2
import Derived.Test.YtamniepfgddecaaS4
import Derived.Test.YtamniepfgddecaaU1
import Derived.Test.YtamniepfgddecaaU2
import Derived.Test.YtamniepfgddecaaA1
import Derived.Test.YtamniepfgddecaaA2
import Derived.Test.YtamniepfgddecaaA3
import Derived.Test.YtamniepfgddecaaA4
import Derived.Test.YtamniepfgddecaaA5
import Derived.Test.YtamniepfgddecaaB1
import Derived.Test.YtamniepfgddecaaB5
import Derived.Test.YtamniepfgddecaaB6
namespace Go.Proofs.Ytamniepfgddecaa
open Go Go.RowKit Go.Proofs.Tail Go.Sort
set_option linter.unusedSimpArgs false
set_option linter.unusedVariables false
/-- A row q of m times, new, and an error. -/
def GivesQ (q : List T) (m : Nat) (er : Int) (w : World) (e : Ending) (w' : World) : Prop :=
  ∃ A c, e = .returned (.tuple #[.slice A m c, .int .i64 er]) ∧ w'.ownsRow w.heap.size 32 5 (.slice A m c) m (recT q) ∧ Tms w' A m c q ∧ Below w.heap.size w w'
theorem GivesOf.q {r : Option (List T)} {q : List T} {m : Nat} {er : Int} (hq : r.getD [] = q) (hm : q.length = m) (he : errT r = er) (hb : m ≤ 9223372036854775807) {w : World} {e : Ending} {w' : World} (h : GivesOf r w e w') : GivesQ q m er w e w' := by
  obtain ⟨v, rfl, ho, hb'⟩ := h
  rw [hq, hm] at ho
  obtain ⟨A, c, ev, hr⟩ := own_tms ho hb
  subst ev
  exact ⟨A, c, by rw [he], ho, hr, hb'⟩
/-- r's row and error. -/
structure Is (r : Option (List T)) (q : List T) (m : Nat) (er : Int) : Prop where
  row : r.getD [] = q
  len : q.length = m
  err : errT r = er
  le : m ≤ 1000000
theorem Is.of (r : Option (List T)) (hb : (r.getD []).length ≤ 1000000) : ∃ q m er, Is r q m er := ⟨_, _, _, rfl, rfl, rfl, hb⟩
theorem Is.none {q : List T} {m : Nat} {er : Int} (h : Is none q m er) : q = [] ∧ m = 0 ∧ er = 50 := by
  obtain ⟨h1, h2, h3, _⟩ := h
  subst h1
  exact ⟨rfl, h2.symm, h3.symm⟩
theorem Is.some {l q : List T} {m : Nat} {er : Int} (h : Is (some l) q m er) : q = l ∧ m = l.length ∧ er = 0 := by
  obtain ⟨h1, h2, h3, _⟩ := h
  subst h1
  exact ⟨rfl, h2.symm, h3.symm⟩
theorem Is.gives {r : Option (List T)} {q : List T} {m : Nat} {er : Int} (h : Is r q m er) {w : World} {e : Ending} {w' : World} (g : GivesOf r w e w') : GivesQ q m er w e w' := g.q h.row h.len h.err (by have := h.le; omega)
end Go.Proofs.Ytamniepfgddecaa
