/- Contract of value.Get. -/
import Derived.RangeFuncLeaves
import Derived.Test.YtainoghjelfnkaaRows
import Derived.Test.YtainoghjelfnkaaWords
import Derived.Test.YtainoghjelfnkaaByts
import Derived.Test.YtainoghjelfnkaaElems
import Derived.Test.YtainoghjelfnkaaV1
import Derived.Test.YtainoghjelfnkaaV2
import Derived.Test.YtainoghjelfnkaaV10
import Derived.Test.YtainoghjelfnkaaN1
import Derived.Test.YtainoghjelfnkaaN2
import Derived.Test.YtainoghjelfnkaaN3
import Derived.Test.YtainoghjelfnkaaG1
import Derived.Test.YtainoghjelfnkaaG2
import Derived.Test.YtainoghjelfnkaaG3
namespace Go.Proofs.Ytainoghjelfnkaa
open Go Go.RowKit Go.Proofs.Tail
set_option linter.unusedSimpArgs false
set_option linter.unusedVariables false
theorem get_any (A : Option Addr) (n c : Nat) (xs : List Int) (w : World) (hX : Byts w A n c xs) (hi : InB xs) (hlim : n ≤ 100000) :
    Calls Try.prog 23 #[.slice A n c] w (GivesGet (getB xs) w) := by
  have lx := hX.len
  by_cases hm : n % 16 = 0
  · obtain ⟨m, rfl⟩ : ∃ m, n = 16 * m := ⟨n / 16, by omega⟩
    have hq : getB xs = some (recsK xs m) := by
      unfold getB recs recsK
      rw [lx, if_pos hm, show 16 * m / 16 = m by omega]
    rw [hq]
    refine (callsIn_wide (n := 4)).1 ?_
    by_cases h0 : m = 0
    · exact get_yes 0 0 m c A xs w (.inr h0) hX hi (by omega)
    · obtain ⟨b, off, rfl, _⟩ := hX.at_ (by omega)
      exact get_yes b off m c _ xs w (.inl rfl) hX hi (by omega)
  · have hq : getB xs = none := by unfold getB; rw [lx, if_neg hm]
    rw [hq]
    exact (callsIn_wide (n := 4)).1 (get_no A n c xs w hm)
end Go.Proofs.Ytainoghjelfnkaa
