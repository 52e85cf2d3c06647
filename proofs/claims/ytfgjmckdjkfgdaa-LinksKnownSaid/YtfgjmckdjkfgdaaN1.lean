/- Contracts of a net's parts: Ends, link. -/
import Derived.Test.YtfgjmckdjkfgdaaRows
import Derived.IntWalk
import Derived.Test.YtfgjmckdjkfgdaaWords
namespace Go.Proofs.Ytfgjmckdjkfgdaa
open Go Go.RowKit Go.Proofs.Tail
set_option linter.unusedSimpArgs false
set_option linter.unusedVariables false
theorem ends_any {P : Nat} {E : Int} {w : World} (h : w.cell? ⟨P, 0, none⟩ = some (.int .i64 E)) : Calls Try.prog 19 #[.pointer (some ⟨P, 0, none⟩)] w (Tells (.int .i64 E) w) := by
  go_enter Try.func19, Try.ntmps19
  go_wp2
  go_ret
  exact ⟨rfl, rfl⟩
theorem ends_nil (w : World) : Calls Try.prog 19 #[.pointer none] w (Tells (.int .i64 0) w) := by
  go_enter Try.func19, Try.ntmps19
  go_wp2
  go_ret
  exact ⟨rfl, rfl⟩
/-- Of a link that there is. -/
theorem link_yes {P a b E : Nat} {w : World} (h : w.cell? ⟨P, 0, none⟩ = some (.int .i64 E)) (hE : E ≤ 64) (ha : a < E) (hb : b < E) :
    Calls Try.prog 26 #[.pointer (some ⟨P, 0, none⟩), .int .i64 a, .int .i64 b] w (Tells (.pointer (some ⟨P, 1 + a * 64 + b, none⟩)) w) := by
  have HE := Lib.hid (ends_any h)
  have d1 : decide ((a : Int) < 0) = false := decide_eq_false (by omega)
  have d2 : decide ((b : Int) < 0) = false := decide_eq_false (by omega)
  have d3 : decide ((E : Int) ≤ a) = false := decide_eq_false (by omega)
  have d4 : decide ((E : Int) ≤ b) = false := decide_eq_false (by omega)
  have d5 : decide (E ≤ a) = false := decide_eq_false (by omega)
  have d6 : decide (E ≤ b) = false := decide_eq_false (by omega)
  have a0 : (0 : Int) ≤ a := by omega
  have a1 : (a : Int) < 64 := by omega
  have b0 : (0 : Int) ≤ b := by omega
  have b1 : (b : Int) < 64 := by omega
  go_enter Try.func26, Try.ntmps26
  by_cases hba : b < a
  · go_wp2_with fail
    with_reducible refine HE.out.mono ?_
    rintro e w1 ⟨rfl, rfl⟩
    go_wp2_with fail
    go_ret
    exact ⟨rfl, rfl⟩
  · by_cases hab : a < b
    · go_wp2_with fail
      with_reducible refine HE.out.mono ?_
      rintro e w1 ⟨rfl, rfl⟩
      go_wp2_with fail
      go_ret
      exact ⟨rfl, rfl⟩
    · go_wp2_with fail
      with_reducible refine HE.out.mono ?_
      rintro e w1 ⟨rfl, rfl⟩
      go_wp2_with fail
      go_ret
      exact ⟨rfl, rfl⟩
/-- Of a link that there is not. -/
theorem link_no {P : Nat} {a b E : Int} {w : World} (h : w.cell? ⟨P, 0, none⟩ = some (.int .i64 E)) (hn : ¬ (0 ≤ a ∧ 0 ≤ b ∧ a < E ∧ b < E)) :
    Calls Try.prog 26 #[.pointer (some ⟨P, 0, none⟩), .int .i64 a, .int .i64 b] w (Tells (.pointer none) w) := by
  have HE := Lib.hid (ends_any h)
  by_cases hba : b < a
  · by_cases h0 : b < 0
    · have d1 : decide (b < 0) = true := decide_eq_true h0
      go_enter Try.func26, Try.ntmps26
      go_wp2_with fail
      go_ret
      exact ⟨rfl, rfl⟩
    · have d1 : decide (b < 0) = false := decide_eq_false h0
      have d2 : decide (E ≤ a) = true := decide_eq_true (by omega)
      go_enter Try.func26, Try.ntmps26
      go_wp2_with fail
      with_reducible refine HE.out.mono ?_
      rintro e w1 ⟨rfl, rfl⟩
      go_wp2_with fail
      go_ret
      exact ⟨rfl, rfl⟩
  · by_cases h0 : a < 0
    · have d1 : decide (a < 0) = true := decide_eq_true h0
      go_enter Try.func26, Try.ntmps26
      go_wp2_with fail
      go_ret
      exact ⟨rfl, rfl⟩
    · have d1 : decide (a < 0) = false := decide_eq_false h0
      by_cases hab : a < b
      · have d2 : decide (E ≤ b) = true := decide_eq_true (by omega)
        go_enter Try.func26, Try.ntmps26
        go_wp2_with fail
        with_reducible refine HE.out.mono ?_
        rintro e w1 ⟨rfl, rfl⟩
        go_wp2_with fail
        go_ret
        exact ⟨rfl, rfl⟩
      · have d2 : decide (E ≤ a) = true := decide_eq_true (by omega)
        go_enter Try.func26, Try.ntmps26
        go_wp2_with fail
        with_reducible refine HE.out.mono ?_
        rintro e w1 ⟨rfl, rfl⟩
        go_wp2_with fail
        go_ret
        exact ⟨rfl, rfl⟩
end Go.Proofs.Ytfgjmckdjkfgdaa
