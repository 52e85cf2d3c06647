/- New, of whatever number. -/
import Derived.Test.YtfgjmckdjkfgdaaRows
import Derived.IntWalk
import Derived.Test.YtfgjmckdjkfgdaaWords
import Derived.Test.YtfgjmckdjkfgdaaByts
import Derived.Test.YtfgjmckdjkfgdaaFrame
import Derived.Test.YtfgjmckdjkfgdaaN5
namespace Go.Proofs.Ytfgjmckdjkfgdaa
open Go Go.RowKit Go.Proofs.Tail
set_option linter.unusedSimpArgs false
set_option linter.unusedVariables false
/-- How many ends a new net has. -/
def endsN (E : Int) : Nat := (max 1 (min 64 E)).toNat
theorem endsN_in (E : Int) : 1 ≤ endsN E ∧ endsN E ≤ 64 := by unfold endsN; omega
theorem new_low (E : Int) (w : World) (h : E < 1) : Calls Try.prog 8 #[.int .i64 E] w (fun e w' => e = .returned (.pointer (some ⟨w.heap.size, 0, none⟩)) ∧ w' = w.alloc (.cells (zNet.setIfInBounds 0 (.int .i64 1)) 56)) := by
  have HZ := zero_net w
  have HN := zNet_ne
  have hs : (zNet.setIfInBounds 0 (.int .i64 1)).size = 4099 := by rw [Array.size_setIfInBounds, zNet_size]
  have h2 : E < 64 := by omega
  go_enter Try.func8, Try.ntmps8
  go_wp2_with fail
  go_ret
  exact ⟨rfl, rfl⟩
theorem new_one (E : Int) (w : World) (h : E = 1) : Calls Try.prog 8 #[.int .i64 E] w (fun e w' => e = .returned (.pointer (some ⟨w.heap.size, 0, none⟩)) ∧ w' = w.alloc (.cells (zNet.setIfInBounds 0 (.int .i64 1)) 56)) := by
  have HZ := zero_net w
  have HN := zNet_ne
  have hs : (zNet.setIfInBounds 0 (.int .i64 1)).size = 4099 := by rw [Array.size_setIfInBounds, zNet_size]
  subst h
  go_enter Try.func8, Try.ntmps8
  go_wp2_with fail
  go_ret
  exact ⟨rfl, rfl⟩
theorem new_high (E : Int) (w : World) (h : 64 < E) : Calls Try.prog 8 #[.int .i64 E] w (fun e w' => e = .returned (.pointer (some ⟨w.heap.size, 0, none⟩)) ∧ w' = w.alloc (.cells (zNet.setIfInBounds 0 (.int .i64 64)) 56)) := by
  have HZ := zero_net w
  have HN := zNet_ne
  have hs : (zNet.setIfInBounds 0 (.int .i64 64)).size = 4099 := by rw [Array.size_setIfInBounds, zNet_size]
  have h2 : ¬ E < 64 := by omega
  have h3 : 1 < E := by omega
  go_enter Try.func8, Try.ntmps8
  go_wp2_with fail
  go_ret
  exact ⟨rfl, rfl⟩
theorem new_top (E : Int) (w : World) (h : E = 64) : Calls Try.prog 8 #[.int .i64 E] w (fun e w' => e = .returned (.pointer (some ⟨w.heap.size, 0, none⟩)) ∧ w' = w.alloc (.cells (zNet.setIfInBounds 0 (.int .i64 64)) 56)) := by
  have HZ := zero_net w
  have HN := zNet_ne
  have hs : (zNet.setIfInBounds 0 (.int .i64 64)).size = 4099 := by rw [Array.size_setIfInBounds, zNet_size]
  subst h
  go_enter Try.func8, Try.ntmps8
  go_wp2_with fail
  go_ret
  exact ⟨rfl, rfl⟩
theorem new_any (E : Int) (w : World) : Calls Try.prog 8 #[.int .i64 E] w (fun e w' => e = .returned (.pointer (some ⟨w.heap.size, 0, none⟩)) ∧ w' = w.alloc (.cells (zNet.setIfInBounds 0 (.int .i64 (endsN E))) 56)) := by
  by_cases h1 : E < 1
  · have : (endsN E : Int) = 1 := by unfold endsN; omega
    rw [this]; exact new_low E w h1
  by_cases h2 : E = 1
  · have : (endsN E : Int) = 1 := by unfold endsN; omega
    rw [this]; exact new_one E w h2
  by_cases h3 : 64 < E
  · have : (endsN E : Int) = 64 := by unfold endsN; omega
    rw [this]; exact new_high E w h3
  by_cases h4 : E = 64
  · have : (endsN E : Int) = 64 := by unfold endsN; omega
    rw [this]; exact new_top E w h4
  have : (endsN E : Int) = E := by unfold endsN; omega
  rw [this]; exact new_mid E w (by omega) (by omega)
end Go.Proofs.Ytfgjmckdjkfgdaa
