/- Contracts of a net's parts: Len, the counters. -/
import Derived.Test.YtfgjmckdjkfgdaaRows
import Derived.IntWalk
import Derived.Laws.LoneSync
import Derived.Test.YtfgjmckdjkfgdaaWords
import Derived.Test.YtfgjmckdjkfgdaaN1
namespace Go.Proofs.Ytfgjmckdjkfgdaa
open Go Go.RowKit Go.Proofs.Tail
set_option linter.unusedSimpArgs false
set_option linter.unusedVariables false
theorem len_yes {P a b E n c : Nat} {A : Option Addr} {w : World} (h : w.cell? ⟨P, 0, none⟩ = some (.int .i64 E)) (hE : E ≤ 64) (ha : a < E) (hb : b < E) (hr : w.cell? ⟨P, 1 + a * 64 + b, none⟩ = some (.slice A n c)) :
    Calls Try.prog 20 #[.pointer (some ⟨P, 0, none⟩), .int .i64 a, .int .i64 b] w (Tells (.int .i64 n) w) := by
  have HE := Lib.hid (link_yes h hE ha hb)
  go_enter Try.func20, Try.ntmps20
  go_wp2_with fail
  with_reducible refine HE.out.mono ?_
  rintro e w1 ⟨rfl, rfl⟩
  go_wp2_with fail
  go_ret
  exact ⟨rfl, rfl⟩
theorem len_no {P : Nat} {a b E : Int} {w : World} (h : w.cell? ⟨P, 0, none⟩ = some (.int .i64 E)) (hn : ¬ (0 ≤ a ∧ 0 ≤ b ∧ a < E ∧ b < E)) :
    Calls Try.prog 20 #[.pointer (some ⟨P, 0, none⟩), .int .i64 a, .int .i64 b] w (Tells (.int .i64 0) w) := by
  have HE := Lib.hid (link_no h hn)
  go_enter Try.func20, Try.ntmps20
  go_wp2_with fail
  with_reducible refine HE.out.mono ?_
  rintro e w1 ⟨rfl, rfl⟩
  go_wp2_with fail
  go_ret
  exact ⟨rfl, rfl⟩
theorem load_any {P o : Nat} {x : Int} {w : World} (h : w.cell? ⟨P, o, none⟩ = some (.int .i64 x)) : Calls Try.prog 31 #[.pointer (some ⟨P, o, none⟩)] w (Tells (.int .i64 x) w) := by
  have hl := run_call_load (P := Try.prog) Try.func36 (by kernel_rfl) (by kernel_rfl) (by kernel_rfl) .i64 (by kernel_rfl) h
  go_enter Try.func31, Try.ntmps31
  go_wp2
  go_ret
  exact ⟨rfl, rfl⟩
/-- One more. -/
theorem more_any {P o : Nat} {x : Int} {w : World} (h : w.cell? ⟨P, o, none⟩ = some (.int .i64 x)) (hz : w.frozen? ⟨P, o, none⟩ = false) : Calls Try.prog 27 #[.pointer (some ⟨P, o, none⟩), .int .i64 1] w (Tells (.int .i64 (wrap64 (x + 1))) (w.setCell ⟨P, o, none⟩ (.int .i64 (wrap64 (x + 1))))) := by
  have hl := run_call_add (P := Try.prog) Try.func34 (by kernel_rfl) (by kernel_rfl) (by kernel_rfl) .i64 (by kernel_rfl) (y := 1) (s := wrap64 (x + 1)) h hz (by simp [go_sem, wrap64, IntKind.wrap_i64])
  go_enter Try.func27, Try.ntmps27
  go_wp2
  go_ret
  exact ⟨rfl, rfl⟩
theorem sent_any {P : Nat} {x : Int} {w : World} (h : w.cell? ⟨P, 4097, none⟩ = some (.int .i64 x)) : Calls Try.prog 16 #[.pointer (some ⟨P, 0, none⟩)] w (Tells (.int .i64 x) w) := by
  have HE := Lib.hid (load_any h)
  go_enter Try.func16, Try.ntmps16
  go_wp2_with fail
  with_reducible refine HE.out.mono ?_
  rintro e w1 ⟨rfl, rfl⟩
  go_wp2_with fail
  go_ret
  exact ⟨rfl, rfl⟩
theorem taken_any {P : Nat} {x : Int} {w : World} (h : w.cell? ⟨P, 4098, none⟩ = some (.int .i64 x)) : Calls Try.prog 17 #[.pointer (some ⟨P, 0, none⟩)] w (Tells (.int .i64 x) w) := by
  have HE := Lib.hid (load_any h)
  go_enter Try.func17, Try.ntmps17
  go_wp2_with fail
  with_reducible refine HE.out.mono ?_
  rintro e w1 ⟨rfl, rfl⟩
  go_wp2_with fail
  go_ret
  exact ⟨rfl, rfl⟩
end Go.Proofs.Ytfgjmckdjkfgdaa
