/- Send. -/
import Derived.Test.YtfgjmckdjkfgdaaRows
import Derived.IntWalk
import Derived.Test.YtfgjmckdjkfgdaaWords
import Derived.Test.YtfgjmckdjkfgdaaByts
import Derived.Test.YtfgjmckdjkfgdaaFrame
import Derived.Test.YtfgjmckdjkfgdaaN1
import Derived.Test.YtfgjmckdjkfgdaaN2
import Derived.Test.YtfgjmckdjkfgdaaN3
import Derived.Test.YtfgjmckdjkfgdaaN4
namespace Go.Proofs.Ytfgjmckdjkfgdaa
open Go Go.RowKit Go.Proofs.Tail
set_option linter.unusedSimpArgs false
set_option linter.unusedVariables false
theorem send_no {P n c : Nat} {a b E : Int} {A : Option Addr} {w : World} (h : w.cell? ⟨P, 0, none⟩ = some (.int .i64 E)) (hn : ¬ (0 ≤ a ∧ 0 ≤ b ∧ a < E ∧ b < E)) :
    Calls Try.prog 14 #[.pointer (some ⟨P, 0, none⟩), .int .i64 a, .int .i64 b, .slice A n c] w (Tells (.int .i64 2) w) := by
  have HE := Lib.hid (link_no h hn)
  go_enter Try.func14, Try.ntmps14
  go_wp2_with fail
  with_reducible refine HE.out.mono ?_
  rintro e w1 ⟨rfl, rfl⟩
  go_wp2_with fail
  go_ret
  exact ⟨rfl, rfl⟩
theorem send_long {P n c a b E : Nat} {A : Option Addr} {w : World} (h : w.cell? ⟨P, 0, none⟩ = some (.int .i64 E)) (hE : E ≤ 64) (ha : a < E) (hb : b < E) (hn : 1048576 < n) :
    Calls Try.prog 14 #[.pointer (some ⟨P, 0, none⟩), .int .i64 a, .int .i64 b, .slice A n c] w (Tells (.int .i64 3) w) := by
  have HE := Lib.hid (link_yes h hE ha hb)
  have d1 : decide (1048576 < (n : Int)) = true := decide_eq_true (by omega)
  have d2 : decide (1048576 < n) = true := decide_eq_true (by omega)
  go_enter Try.func14, Try.ntmps14
  go_wp2_with fail
  with_reducible refine HE.out.mono ?_
  rintro e w1 ⟨rfl, rfl⟩
  go_wp2_with fail
  go_ret
  exact ⟨rfl, rfl⟩
theorem send_full {P n c a b E m c1 : Nat} {A A1 : Option Addr} {w : World} (h : w.cell? ⟨P, 0, none⟩ = some (.int .i64 E)) (hE : E ≤ 64) (ha : a < E) (hb : b < E) (hn : n ≤ 1048576) (hr : w.cell? ⟨P, 1 + a * 64 + b, none⟩ = some (.slice A1 m c1)) (hm : 4096 ≤ m) :
    Calls Try.prog 14 #[.pointer (some ⟨P, 0, none⟩), .int .i64 a, .int .i64 b, .slice A n c] w (Tells (.int .i64 31) w) := by
  have HE := Lib.hid (link_yes h hE ha hb)
  have d1 : decide (1048576 < (n : Int)) = false := decide_eq_false (by omega)
  have d2 : decide (1048576 < n) = false := decide_eq_false (by omega)
  have d3 : decide (4096 ≤ (m : Int)) = true := decide_eq_true (by omega)
  have d4 : decide (4096 ≤ m) = true := decide_eq_true (by omega)
  go_enter Try.func14, Try.ntmps14
  go_wp2_with fail
  with_reducible refine HE.out.mono ?_
  rintro e w1 ⟨rfl, rfl⟩
  go_wp2_with fail
  go_ret
  exact ⟨rfl, rfl⟩
end Go.Proofs.Ytfgjmckdjkfgdaa
