/- Contracts of counts.New, within, Count, Add. -/
import Derived.Test.YtebpepjlhanopaaRows
import Derived.IntWalk
import Derived.Deep.RegionHeld3
import Derived.Laws.Pointers
import Derived.Test.YtebpepjlhanopaaWords
import Derived.Test.YtebpepjlhanopaaFrame
import Derived.Test.YtebpepjlhanopaaElems
import Derived.Test.YtebpepjlhanopaaMapOwn
import Derived.Test.YtebpepjlhanopaaS1
import Derived.Test.YtebpepjlhanopaaS2
import Derived.Test.YtebpepjlhanopaaEqs
import Derived.Test.YtebpepjlhanopaaM1
namespace Go.Proofs.Ytebpepjlhanopaa
open Go Go.RowKit Go.Proofs.Tail
set_option linter.unusedSimpArgs false
set_option linter.unusedVariables false
/-- A new Counts. -/
def GivesCs (d : Int) (C : List (T × Int)) (w : World) (e : Ending) (w' : World) : Prop :=
  ∃ P b, e = .returned (.pointer (some ⟨P, 0, none⟩)) ∧ Cs w' P b d C ∧ w.heap.size ≤ P ∧ w.heap.size ≤ b ∧ Below w.heap.size w w'
theorem cpl_nil : Cpl [] [] := fun t => rfl
set_option maxHeartbeats 2000000 in
theorem new_any (d : Int) (w : World) (h0 : 0 ≤ d) (h3 : d ≤ 3) : Calls Try.prog 9 #[.int .i64 d] w (GivesCs d [] w) := by
  have hmm := @run_makeMap Try.prog
  have HC : Hid (Cs ((w.alloc (.map #[] 0)).alloc (.cells #[.int .i64 d, .map (some w.heap.size)] 54)) (w.heap.size + 1) w.heap.size d []) := Lib.hid
    ⟨Blk.new _ [.int .i64 d, .map (some w.heap.size)] _ _ (by simp), [], (Mp.made eT w).below (below_new _ _), cpl_nil⟩
  have HB := Lib.hid (below_alloc (below_new w (.map #[] 0)) (.cells #[.int .i64 d, .map (some w.heap.size)] 54))
  go_enter Try.func9, Try.ntmps9
  go_wp2
  go_ret
  exact ⟨_, _, rfl, HC.out, by omega, by omega, HB.out⟩
set_option maxHeartbeats 2000000 in
theorem new_not (d : Int) (w : World) (h : d < 0 ∨ 3 < d) : Calls Try.prog 9 #[.int .i64 d] w (Gives (.pointer none) w) := by
  rcases h with h | h
  · go_enter Try.func9, Try.ntmps9
    go_wp2
    go_ret
    exact ⟨rfl, Below.refl _ _⟩
  · have h0 : ¬ d < 0 := by omega
    go_enter Try.func9, Try.ntmps9
    go_wp2
    go_ret
    exact ⟨rfl, Below.refl _ _⟩
def inB (n : Int) : Bool := decide (-1099511627776 ≤ n ∧ n ≤ 1099511627776)
theorem cwithin_any (n : Int) (w : World) : Calls Try.prog 26 #[.int .i64 n] w (Gives (.bool (inB n)) w) := by
  unfold inB
  by_cases h0 : -1099511627776 ≤ n
  · by_cases h1 : n ≤ 1099511627776
    · go_enter Try.func26, Try.ntmps26
      go_wp2
      go_ret
      exact .bool (by simp [h0, h1]) (Below.refl _ _)
    · go_enter Try.func26, Try.ntmps26
      go_wp2
      go_ret
      exact .bool (by simp [h0, h1]) (Below.refl _ _)
  · go_enter Try.func26, Try.ntmps26
    go_wp2
    go_ret
    exact .bool (by simp; omega) (Below.refl _ _)
theorem refin_any (n : Int) (w : World) : Calls Try.prog 36 #[.int .i64 n] w (Gives (.bool (inB n)) w) := by
  unfold inB
  by_cases h0 : -1099511627776 ≤ n
  · by_cases h1 : n ≤ 1099511627776
    · go_enter Try.func36, Try.ntmps36
      go_wp2
      go_ret
      exact .bool (by simp [h0, h1]) (Below.refl _ _)
    · go_enter Try.func36, Try.ntmps36
      go_wp2
      go_ret
      exact .bool (by simp [h0, h1]) (Below.refl _ _)
  · go_enter Try.func36, Try.ntmps36
    go_wp2
    go_ret
    exact .bool (by simp; omega) (Below.refl _ _)
set_option maxHeartbeats 4000000 in
theorem count_any (P b : Nat) (d : Int) (C : List (T × Int)) (t : T) (w : World) (hC : Cs w P b d C) :
    Calls Try.prog 13 #[.pointer (some ⟨P, 0, none⟩), .agg #[.int .i64 t.d, .int .i64 t.e, .int .i64 t.a, .int .i64 t.b, .int .i64 t.c]] w (Gives (.int .i64 (cnt C t)) w) := by
  have HB := Lib.hid (below_new w (.cells #[.int .i64 t.d, .int .i64 t.e, .int .i64 t.a, .int .i64 t.b, .int .i64 t.c] 28))
  have hC1 := hC.below (below_new w (.cells #[.int .i64 t.d, .int .i64 t.e, .int .i64 t.a, .int .i64 t.b, .int .i64 t.c] 28))
  have p1 := fun p : After (w.alloc (.cells #[.int .i64 t.d, .int .i64 t.e, .int .i64 t.a, .int .i64 t.b, .int .i64 t.c] 28)) => ((hC1.below p.below).blk.cell 1)
  have x0 := Bx.new w t _ rfl
  have y0 := fun p : After (w.alloc (.cells #[.int .i64 t.d, .int .i64 t.e, .int .i64 t.a, .int .i64 t.b, .int .i64 t.c] 28)) => (x0.below p.below).cells.1
  have y1 := fun p : After (w.alloc (.cells #[.int .i64 t.d, .int .i64 t.e, .int .i64 t.a, .int .i64 t.b, .int .i64 t.c] 28)) => (x0.below p.below).cells.2.1
  have y2 := fun p : After (w.alloc (.cells #[.int .i64 t.d, .int .i64 t.e, .int .i64 t.a, .int .i64 t.b, .int .i64 t.c] 28)) => (x0.below p.below).cells.2.2.1
  have y3 := fun p : After (w.alloc (.cells #[.int .i64 t.d, .int .i64 t.e, .int .i64 t.a, .int .i64 t.b, .int .i64 t.c] 28)) => (x0.below p.below).cells.2.2.2.1
  have y4 := fun p : After (w.alloc (.cells #[.int .i64 t.d, .int .i64 t.e, .int .i64 t.a, .int .i64 t.b, .int .i64 t.c] 28)) => (x0.below p.below).cells.2.2.2.2
  have lk := fun p : After (w.alloc (.cells #[.int .i64 t.d, .int .i64 t.e, .int .i64 t.a, .int .i64 t.b, .int .i64 t.c] 28)) => (hC1.below p.below).look t
  clear hC hC1 x0
  go_enter Try.func13, Try.ntmps13
  go_wp2_with fail
  refine quiet_after (by kernel_rfl) (by kernel_rfl) ?_
  repeat (first | go_big_quiet_step (fail) | quiet_step (fail))
  refine wpQuiet_nil ?_
  intro wz hw'
  obtain ⟨p, rfl⟩ := hw'
  obtain ⟨w5, hbq⟩ := p
  dsimp only
  have HB5 := Lib.hid (below_then HB.out hbq)
  clear y0 y1 y2 y3 y4 p1 lk hbq
  go_wp2_with fail
  go_ret
  exact .int rfl HB5.out
theorem count_nil (t : T) (w : World) : Calls Try.prog 13 #[.pointer none, .agg #[.int .i64 t.d, .int .i64 t.e, .int .i64 t.a, .int .i64 t.b, .int .i64 t.c]] w (Gives (.int .i64 0) w) := by
  have HB := Lib.hid (below_new w (.cells #[.int .i64 t.d, .int .i64 t.e, .int .i64 t.a, .int .i64 t.b, .int .i64 t.c] 28))
  go_enter Try.func13, Try.ntmps13
  go_wp2_with fail
  go_ret
  exact .int rfl HB.out
end Go.Proofs.Ytebpepjlhanopaa
