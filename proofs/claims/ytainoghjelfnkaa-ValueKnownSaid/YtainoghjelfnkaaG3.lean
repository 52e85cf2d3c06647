/- value.Get: what is no row of sixteens is refused. -/
import Derived.RangeFuncNested
import Derived.RangeFuncBound
import Derived.RangeFuncCalls
import Derived.RangeFuncLeaves
import Derived.RangeFuncBox
import Derived.Shelf.Abstract
import Derived.Shelf.RegionOpen
import Derived.WalkKit
import Derived.OwnWalkIn
import Derived.TacticsInMore
import Derived.LoopNIn
import Derived.LoopIn
import Derived.Test.YtainoghjelfnkaaRows
import Derived.Test.YtainoghjelfnkaaWords
import Derived.Test.YtainoghjelfnkaaByts
import Derived.Test.YtainoghjelfnkaaElems
import Derived.Test.YtainoghjelfnkaaV1
import Derived.Test.YtainoghjelfnkaaV2
import Derived.Test.YtainoghjelfnkaaV10
import Derived.Test.YtainoghjelfnkaaN1
import Derived.Test.YtainoghjelfnkaaN2
import Derived.Test.YtainoghjelfnkaaN3
namespace Go.Proofs.Ytainoghjelfnkaa
open Go Go.RowKit Go.Proofs.Tail Go.Shelf
attribute [local go_sem] Oper.semAt_some
set_option linter.unusedSimpArgs false
set_option linter.unusedVariables false
theorem get_no (A : Option Addr) (n c : Nat) (xs : List Int) (w : World) (hm : ¬ n % 16 = 0) :
    CallsIn Fence.wide 4 Try.prog 23 #[.slice A n c] w (GivesGet none w) := by
  have z1 : (((n : Int).tmod 16) != 0) = true := by rw [Int.tmod_eq_emod_of_nonneg (by omega)]; simp; omega
  have z1' : (((n : Int) % 16) != 0) = true := by simp; omega
  have hq : GivesGet none w (.returned (.tuple #[.slice none 0 0, .int .i64 2])) w := ⟨_, rfl, World.ownsRow_nil _ _ _ _, Below.refl _ _⟩
  have HQ := Lib.hid hq
  clear hq
  refine callsIn_of_wp_marks Try.func23 rfl trivial ?_ rfl
  simp only [Try.ntmps23, List.size_toArray, List.length_cons, List.length_nil, Nat.reduceAdd, Nat.reduceSub, Array.replicate_succ, Array.replicate_zero, List.push_toArray, List.append_toArray, List.nil_append, List.cons_append]
  gi_wp2
  exact ⟨_, results_tmp2 rfl _ _ _, ⟨_, rfl, World.ownsRow_nil _ _ _ _, Below.refl _ _⟩⟩
end Go.Proofs.Ytainoghjelfnkaa
