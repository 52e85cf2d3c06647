/- Contracts of cmp.Compare, cmp.Or, of the reference's sign and Leq. -/
import Derived.Test.YtebpepjlhanopaaRows
import Derived.Test.YtebpepjlhanopaaWords
import Derived.Test.YtebpepjlhanopaaS1
import Derived.Test.YtebpepjlhanopaaS2
import Derived.Test.YtebpepjlhanopaaS4
namespace Go.Proofs.Ytebpepjlhanopaa
open Go.RowKit Go.Proofs.Tail
set_option linter.unusedSimpArgs false
set_option linter.unusedVariables false
def sgn (x y : Int) : Int := if x < y then -1 else if y < x then 1 else 0
def orI (x y : Int) : Int := if x = 0 then y else x
theorem nan_any (x : Int) (w : World) : Calls Try.prog 63 #[.int .i64 x] w (Tells (.bool false) w) := by
  go_enter Try.func63, Try.ntmps63
  go_wp2
  go_ret
  exact .bool (by simp)
theorem sign_any (x y : Int) (w : World) : Calls Try.prog 65 #[.int .i64 x, .int .i64 y] w (Tells (.int .i64 (sgn x y)) w) := by
  go_enter Try.func65, Try.ntmps65
  go_wp2
  all_goals
    go_ret
    exact .int (by unfold sgn; split <;> (try split) <;> first | rfl | omega)
theorem compare_any (x y : Int) (w : World) : Calls Try.prog 48 #[.int .i64 x, .int .i64 y] w (Tells (.int .i64 (sgn x y)) w) := by
  have h1 := Lib.hid (nan_any x w)
  have h2 := Lib.hid (nan_any y w)
  go_enter Try.func48, Try.ntmps48
  go_wp2_with fail
  refine h1.out.mono ?_
  rintro e1 w1 ⟨rfl, rfl⟩
  go_wp2_with fail
  refine h2.out.mono ?_
  rintro e1 w1 ⟨rfl, rfl⟩
  go_wp2
  all_goals
    go_ret
    exact .int (by unfold sgn; split <;> (try split) <;> first | rfl | omega)
set_option maxHeartbeats 2000000 in
theorem or_any (x y : Int) (B : Nat) (w : World) (h0 : w.cell? ⟨B, 0, none⟩ = some (.int .i64 x)) (h1 : w.cell? ⟨B, 1, none⟩ = some (.int .i64 y)) : Calls Try.prog 47 #[.slice (some ⟨B, 0, none⟩) 2 2] w (Tells (.int .i64 (orI x y)) w) := by
  have HQ : Hid (orI x y = if x = 0 then y else x) := Lib.hid rfl
  by_cases g : x = 0
  · have t0 : (x != 0) = false := by simpa using g
    have Q := Lib.hid (show orI x y = y by unfold orI; simp [g])
    clear g HQ
    by_cases g : y = 0
    · have t1 : (y != 0) = false := by simpa using g
      have G := Lib.hid g
      clear g
      go_enter Try.func47, Try.ntmps47
      go_wp2
      refine wp_loop_rounds 3 ?_
      rw [rounds_succ]; go_wp2
      rw [rounds_succ]; go_wp2
      rw [rounds_succ]; go_wp2
      go_ret
      exact .int (by rw [Q.out, G.out])
    · have t1 : (y != 0) = true := by simpa using g
      clear g
      go_enter Try.func47, Try.ntmps47
      go_wp2
      refine wp_loop_rounds 3 ?_
      rw [rounds_succ]; go_wp2
      rw [rounds_succ]; go_wp2
      go_ret
      exact .int Q.out.symm
  · have t0 : (x != 0) = true := by simpa using g
    have Q := Lib.hid (show orI x y = x by unfold orI; simp [g])
    clear g HQ
    go_enter Try.func47, Try.ntmps47
    go_wp2
    refine wp_loop_rounds 3 ?_
    rw [rounds_succ]; go_wp2
    go_ret
    exact .int Q.out.symm
set_option maxRecDepth 100000 in
set_option maxHeartbeats 8000000 in
theorem refleq_any (s t : T) (w : World) : Calls Try.prog 56 #[.agg #[.int .i64 s.d, .int .i64 s.e, .int .i64 s.a, .int .i64 s.b, .int .i64 s.c], .agg #[.int .i64 t.d, .int .i64 t.e, .int .i64 t.a, .int .i64 t.b, .int .i64 t.c]] w (Gives (.bool (leqB s t)) w) := by
  have BX := Lib.hid ((Bx.new w s _ rfl).below (below_new _ (.cells #[.int .i64 t.d, .int .i64 t.e, .int .i64 t.a, .int .i64 t.b, .int .i64 t.c] 28)))
  have BY := Lib.hid (Bx.new (w.alloc (.cells #[.int .i64 s.d, .int .i64 s.e, .int .i64 s.a, .int .i64 s.b, .int .i64 s.c] 28)) t (w.heap.size + 1) (by simp))
  have HB := Lib.hid (below_alloc (below_new w (.cells #[.int .i64 s.d, .int .i64 s.e, .int .i64 s.a, .int .i64 s.b, .int .i64 s.c] 28)) (.cells #[.int .i64 t.d, .int .i64 t.e, .int .i64 t.a, .int .i64 t.b, .int .i64 t.c] 28))
  have H1 := Lib.hid (refright_any s)
  have H2 := Lib.hid (refright_any t)
  by_cases r : s.right
  · rw [rightB_of r] at H1
    by_cases r2 : t.right
    · rw [rightB_of r2] at H2
      have HQ := Lib.hid (show decide (s.d = t.d ∧ s.e ≤ t.e ∧ s.a ≤ t.a ∧ s.b ≤ t.b ∧ s.c ≤ t.c) = leqB s t by unfold leqB leP; simp [r, r2])
      clear r r2
      go_enter Try.func56, Try.ntmps56
      go_wp2_with fail
      refine (H1.out _).mono ?_
      rintro e1 w1 ⟨rfl, hb1⟩
      obtain ⟨y0, y1, y2, y3, y4⟩ := (BY.out.below hb1).cells
      have HB1 := Lib.hid (below_then HB.out hb1)
      have BX1 := Lib.hid (BX.out.below hb1)
      have BY1 := Lib.hid (BY.out.below hb1)
      clear hb1
      go_wp2_with fail
      refine (H2.out _).mono ?_
      rintro e2 w2 ⟨rfl, hb2⟩
      clear y0 y1 y2 y3 y4
      obtain ⟨x0, x1, x2, x3, x4⟩ := (BX1.out.below hb2).cells
      obtain ⟨y0, y1, y2, y3, y4⟩ := (BY1.out.below hb2).cells
      have HB2 := Lib.hid (below_then HB1.out hb2)
      clear hb2
      by_cases g : s.d = t.d ∧ s.e ≤ t.e
      · obtain ⟨g1, g2⟩ := g
        have t1 : (s.d != t.d) = false := by simpa using g1
        have t2 : decide (t.e < s.e) = false := by simp; omega
        have G := Lib.hid (And.intro g1 g2)
        clear g1 g2
        go_wp2
        refine wp_loop_rounds 4 ?_
        rw [rounds_succ]; go_wp2_with fail; go_region; go_wp2
        all_goals (try (rw [rounds_succ]; go_wp2_with fail; go_region; go_wp2))
        all_goals (try (rw [rounds_succ]; go_wp2_with fail; go_region; go_wp2))
        all_goals (try (rw [rounds_succ]; go_wp2))
        all_goals (have g1 := G.out.1; have g2 := G.out.2)
        all_goals
          go_ret
          refine .bool ?_ (by repeat (first | exact HB2.out | refine below_drew ?_))
          rw [← HQ.out]
          (try simp only [Bool.not_eq_true', decide_eq_false_iff_not, Bool.not_eq_false', decide_eq_true_eq, Bool.not_not, bne_iff_ne, beq_iff_eq] at *)
          first
          | (rw [eq_comm, decide_eq_true_eq]; omega)
          | (rw [eq_comm, decide_eq_false_iff_not]; omega)
      · have HQ2 := Lib.hid (show false = leqB s t by rw [← HQ.out, eq_comm, decide_eq_false_iff_not]; omega)
        have g' : s.d ≠ t.d ∨ t.e < s.e := by omega
        by_cases g1 : s.d = t.d
        · have t1 : (s.d != t.d) = false := by simpa using g1
          have t2 : decide (t.e < s.e) = true := by simp; omega
          clear g g' g1
          go_wp2
          go_ret
          exact .bool HQ2.out HB2.out
        · have t1 : (s.d != t.d) = true := by simpa using g1
          clear g g' g1
          go_wp2
          go_ret
          exact .bool HQ2.out HB2.out
    · rw [rightB_not r2] at H2
      have HQ := Lib.hid (show false = leqB s t by unfold leqB leP; simp [r2])
      clear r r2
      go_enter Try.func56, Try.ntmps56
      go_wp2_with fail
      refine (H1.out _).mono ?_
      rintro e1 w1 ⟨rfl, hb1⟩
      obtain ⟨y0, y1, y2, y3, y4⟩ := (BY.out.below hb1).cells
      have HB1 := Lib.hid (below_then HB.out hb1)
      clear hb1
      go_wp2_with fail
      refine (H2.out _).mono ?_
      rintro e2 w2 ⟨rfl, hb2⟩
      have HB2 := Lib.hid (below_then HB1.out hb2)
      clear hb2 y0 y1 y2 y3 y4
      go_wp2
      go_ret
      exact .bool HQ.out HB2.out
  · rw [rightB_not r] at H1
    have HQ := Lib.hid (show false = leqB s t by unfold leqB leP; simp [r])
    clear r
    go_enter Try.func56, Try.ntmps56
    go_wp2_with fail
    refine (H1.out _).mono ?_
    rintro e1 w1 ⟨rfl, hb1⟩
    have HB1 := Lib.hid (below_then HB.out hb1)
    clear hb1
    go_wp2
    go_ret
    exact .bool HQ.out HB1.out
end Go.Proofs.Ytebpepjlhanopaa
