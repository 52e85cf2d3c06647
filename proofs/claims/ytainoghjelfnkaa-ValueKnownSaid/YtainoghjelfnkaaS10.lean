/- Contract of the kit's SameBytes. -/
import Derived.Test.YtainoghjelfnkaaRows
import Derived.Test.YtainoghjelfnkaaWords
import Derived.Test.YtainoghjelfnkaaByts
namespace Go.Proofs.Ytainoghjelfnkaa
open Go.RowKit Go.Proofs.Tail
set_option linter.unusedSimpArgs false
set_option linter.unusedVariables false
theorem samebytes_any (A A' : Option Addr) (n c n' c' : Nat) (xs ys : List Int) (w : World) (hx : Byts w A n c xs) (hy : Byts w A' n' c' ys) (bx : InB xs) (bY : InB ys) :
    Calls Try.prog 25 #[.slice A n c, .slice A' n' c'] w (Tells (.bool (decide (xs = ys))) w) := by
  have h1 := run_convert_byts w 37 5 Try.underlying37 Try.underlying5 hx 9 Try.underlying9
  have h2 := run_convert_byts w 37 5 Try.underlying37 Try.underlying5 hy 9 Try.underlying9
  have HQ := Lib.hid (str_beq bx bY)
  clear hx hy bx bY
  go_enter Try.func25, Try.ntmps25
  go_wp2
  go_ret
  refine .bool ?_
  exact HQ.out
end Go.Proofs.Ytainoghjelfnkaa
