/- New. -/
import Derived.Test.YtfgjmckdjkfgdaaRows
import Derived.IntWalk
import Derived.Test.YtfgjmckdjkfgdaaWords
import Derived.Test.YtfgjmckdjkfgdaaByts
import Derived.Test.YtfgjmckdjkfgdaaFrame
namespace Go.Proofs.Ytfgjmckdjkfgdaa
open Go Go.RowKit Go.Proofs.Tail
set_option linter.unusedSimpArgs false
set_option linter.unusedVariables false
/-- The cells of a net that is new. -/
noncomputable def zNet : Array Value := match (Try.prog.info? 56).bind (fun i => i.zero) with | some (.agg cs) => cs | _ => #[]
theorem zNet_size : zNet.size = 4099 := by kernel_rfl
theorem zNet_zero : (Try.prog.info? 56).bind (fun i => i.zero) = some (.agg zNet) := by kernel_rfl
theorem zero_net (w : World) : (zeroValue 56).run Try.prog w = .ok (.agg zNet) w := by
  obtain ⟨i, hi, hz⟩ := Option.bind_eq_some_iff.1 zNet_zero
  simp [zeroValue, typeInfo, hi, hz]
theorem zNet_ne : (zNet = #[]) = False := eq_false fun h => by have := zNet_size; rw [h] at this; cases this
theorem new_mid (E : Int) (w : World) (h1 : 1 < E) (h2 : E < 64) : Calls Try.prog 8 #[.int .i64 E] w (fun e w' => e = .returned (.pointer (some ⟨w.heap.size, 0, none⟩)) ∧ w' = w.alloc (.cells (zNet.setIfInBounds 0 (.int .i64 E)) 56)) := by
  have HZ := zero_net w
  have HN := zNet_ne
  have hs : (zNet.setIfInBounds 0 (.int .i64 E)).size = 4099 := by rw [Array.size_setIfInBounds, zNet_size]
  go_enter Try.func8, Try.ntmps8
  go_wp2_with fail
  go_ret
  exact ⟨rfl, rfl⟩
end Go.Proofs.Ytfgjmckdjkfgdaa
