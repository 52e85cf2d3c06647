/- Contracts of stamp's Step and Into. -/
import Derived.Test.YtbojefdbkegimaaRows
import Derived.Test.YtbojefdbkegimaaWords
import Derived.Test.YtbojefdbkegimaaS1
import Derived.Test.YtbojefdbkegimaaS2
import Derived.Test.YtbojefdbkegimaaS3
import Derived.Laws.ResultCell
namespace Go.Proofs.Ytbojefdbkegimaa
open Go.RowKit Go.Proofs.Tail
set_option linter.unusedSimpArgs false
set_option linter.unusedVariables false
set_option maxHeartbeats 8000000 in
theorem step_any (t : T) (w : World) : Calls Try.prog 15 #[.agg #[.int .i64 t.d, .int .i64 t.e, .int .i64 t.a, .int .i64 t.b, .int .i64 t.c]] w (Gives (.tuple #[.agg #[.int .i64 (stepT t).d, .int .i64 (stepT t).e, .int .i64 (stepT t).a, .int .i64 (stepT t).b, .int .i64 (stepT t).c], .bool (stepB t)]) w) := by
  have N0 := Lib.hid (Box2.new w t)
  have H1 := Lib.hid (right_any t)
  by_cases r : t.right
  · rw [rightB_of r] at H1
    obtain ⟨d, e, a, b, c⟩ := t
    have r' := r
    unfold T.right at r'
    dsimp only at r'
    obtain ⟨r0, r1, r2, r3, r4, r5, r6, r7, r8, r9, r10, r11, r12⟩ := r'
    have hd : d = 0 ∨ d = 1 ∨ d = 2 ∨ d = 3 := by omega
    obtain rfl | rfl | rfl | rfl := hd
    · obtain ⟨q1, q2⟩ := stepT_not (t := ⟨0, e, a, b, c⟩) (by simp)
      rw [q1, q2]
      clear q1 q2 r r0 r1 r2 r3 r4 r5 r6 r7 r8 r9 r10 r11 r12
      go_enter Try.func15, Try.ntmps15
      go_wp2_with fail
      refine (H1.out _).mono ?_
      rintro e1 w1 ⟨rfl, hb1⟩
      have N1 := Lib.hid (N0.out.below hb1)
      clear hb1
      obtain ⟨⟨x0, x1, x2, x3, x4⟩, ⟨z0, z1, z2, z3, z4⟩, fx, fz⟩ := N1.out.facts
      (try dsimp only at x0 x1 x2 x3 x4)
      go_wp2
      (try simp only [Exit.inBlock, Exit.then])
      refine bodyPost_ret (v := .tuple #[.agg #[.int .i64 0, .int .i64 0, .int .i64 0, .int .i64 0, .int .i64 0], .bool false]) ?_ rfl ⟨rfl, ?_⟩
      · rw [results_cell_tmp rfl]; go_simp
      · (repeat' with_reducible (first | exact N1.out.b | refine Below.setCell ?_ (by dsimp only; omega) _ | refine Below.drew ?_))
    · by_cases g : a < 15
      · obtain ⟨q1, q2⟩ := stepT_of (t := ⟨1, e, a, b, c⟩) ⟨r, by simp, by simpa using g⟩
        have q3 : stepT ⟨1, e, a, b, c⟩ = ⟨1, e, (a + 1), b, c⟩ := by rw [q2]; simp
        have H2 := Lib.hid (right_any ⟨1, e, (a + 1), b, c⟩)
        rw [rightB_of (t := ⟨1, e, (a + 1), b, c⟩) (by unfold T.right; dsimp only; omega)] at H2
        rw [q1, q3]
        clear q1 q2 q3 r r0 r1 r2 r3 r6 r7 r8 r9 r10 r11 r12
        go_enter Try.func15, Try.ntmps15
        go_wp2_with fail
        refine (H1.out _).mono ?_
        rintro e1 w1 ⟨rfl, hb1⟩
        have N1 := Lib.hid (N0.out.below hb1)
        clear hb1
        obtain ⟨⟨x0, x1, x2, x3, x4⟩, ⟨z0, z1, z2, z3, z4⟩, fx, fz⟩ := N1.out.facts
        (try dsimp only at x0 x1 x2 x3 x4)
        have N2 := Lib.hid (N1.out.set 2 (.int .i64 (a + 1)) ⟨1, e, (a + 1), b, c⟩ rfl)
        obtain ⟨p0, p1, p2, p3, p4⟩ := N2.out.x.cells
        (try dsimp only at p0 p1 p2 p3 p4)
        go_wp2_with fail
        clear x0 x1 x2 x3 x4 z0 z1 z2 z3 z4 fx fz
        clear p0 p1 p2 p3 p4
        refine (H2.out _).mono ?_
        rintro e2 w2 ⟨rfl, hb2⟩
        have N3 := Lib.hid (N2.out.below hb2)
        clear hb2
        obtain ⟨⟨x0, x1, x2, x3, x4⟩, ⟨z0, z1, z2, z3, z4⟩, fx, fz⟩ := N3.out.facts
        (try dsimp only at x0 x1 x2 x3 x4)
        go_wp2
        (try simp only [Exit.inBlock, Exit.then])
        refine bodyPost_ret (v := .tuple #[.agg #[.int .i64 1, .int .i64 e, .int .i64 (a + 1), .int .i64 b, .int .i64 c], .bool true]) ?_ rfl ⟨rfl, ?_⟩
        · rw [results_cell_tmp rfl]; go_simp
        · (repeat' with_reducible (first | exact N3.out.b | refine Below.setCell ?_ (by dsimp only; omega) _ | refine Below.drew ?_))
      · obtain ⟨q1, q2⟩ := stepT_not (t := ⟨1, e, a, b, c⟩) (by simp; omega)
        have q3 := q2
        have H2 := Lib.hid (right_any ⟨1, e, (a + 1), b, c⟩)
        rw [rightB_not (t := ⟨1, e, (a + 1), b, c⟩) (by unfold T.right; dsimp only; omega)] at H2
        rw [q1, q3]
        clear q1 q2 q3 r r0 r1 r2 r3 r6 r7 r8 r9 r10 r11 r12
        go_enter Try.func15, Try.ntmps15
        go_wp2_with fail
        refine (H1.out _).mono ?_
        rintro e1 w1 ⟨rfl, hb1⟩
        have N1 := Lib.hid (N0.out.below hb1)
        clear hb1
        obtain ⟨⟨x0, x1, x2, x3, x4⟩, ⟨z0, z1, z2, z3, z4⟩, fx, fz⟩ := N1.out.facts
        (try dsimp only at x0 x1 x2 x3 x4)
        have N2 := Lib.hid (N1.out.set 2 (.int .i64 (a + 1)) ⟨1, e, (a + 1), b, c⟩ rfl)
        obtain ⟨p0, p1, p2, p3, p4⟩ := N2.out.x.cells
        (try dsimp only at p0 p1 p2 p3 p4)
        go_wp2_with fail
        clear x0 x1 x2 x3 x4 z0 z1 z2 z3 z4 fx fz
        clear p0 p1 p2 p3 p4
        refine (H2.out _).mono ?_
        rintro e2 w2 ⟨rfl, hb2⟩
        have N3 := Lib.hid (N2.out.below hb2)
        clear hb2
        obtain ⟨⟨x0, x1, x2, x3, x4⟩, ⟨z0, z1, z2, z3, z4⟩, fx, fz⟩ := N3.out.facts
        (try dsimp only at x0 x1 x2 x3 x4)
        go_wp2
        (try simp only [Exit.inBlock, Exit.then])
        refine bodyPost_ret (v := .tuple #[.agg #[.int .i64 0, .int .i64 0, .int .i64 0, .int .i64 0, .int .i64 0], .bool false]) ?_ rfl ⟨rfl, ?_⟩
        · rw [results_cell_tmp rfl]; go_simp
        · (repeat' with_reducible (first | exact N3.out.b | refine Below.setCell ?_ (by dsimp only; omega) _ | refine Below.drew ?_))
    · by_cases g : b < 15
      · obtain ⟨q1, q2⟩ := stepT_of (t := ⟨2, e, a, b, c⟩) ⟨r, by simp, by simpa using g⟩
        have q3 : stepT ⟨2, e, a, b, c⟩ = ⟨2, e, a, (b + 1), c⟩ := by rw [q2]; simp
        have H2 := Lib.hid (right_any ⟨2, e, a, (b + 1), c⟩)
        rw [rightB_of (t := ⟨2, e, a, (b + 1), c⟩) (by unfold T.right; dsimp only; omega)] at H2
        rw [q1, q3]
        clear q1 q2 q3 r r0 r1 r2 r3 r4 r5 r8 r9 r10 r11 r12
        go_enter Try.func15, Try.ntmps15
        go_wp2_with fail
        refine (H1.out _).mono ?_
        rintro e1 w1 ⟨rfl, hb1⟩
        have N1 := Lib.hid (N0.out.below hb1)
        clear hb1
        obtain ⟨⟨x0, x1, x2, x3, x4⟩, ⟨z0, z1, z2, z3, z4⟩, fx, fz⟩ := N1.out.facts
        (try dsimp only at x0 x1 x2 x3 x4)
        have N2 := Lib.hid (N1.out.set 3 (.int .i64 (b + 1)) ⟨2, e, a, (b + 1), c⟩ rfl)
        obtain ⟨p0, p1, p2, p3, p4⟩ := N2.out.x.cells
        (try dsimp only at p0 p1 p2 p3 p4)
        go_wp2_with fail
        clear x0 x1 x2 x3 x4 z0 z1 z2 z3 z4 fx fz
        clear p0 p1 p2 p3 p4
        refine (H2.out _).mono ?_
        rintro e2 w2 ⟨rfl, hb2⟩
        have N3 := Lib.hid (N2.out.below hb2)
        clear hb2
        obtain ⟨⟨x0, x1, x2, x3, x4⟩, ⟨z0, z1, z2, z3, z4⟩, fx, fz⟩ := N3.out.facts
        (try dsimp only at x0 x1 x2 x3 x4)
        go_wp2
        (try simp only [Exit.inBlock, Exit.then])
        refine bodyPost_ret (v := .tuple #[.agg #[.int .i64 2, .int .i64 e, .int .i64 a, .int .i64 (b + 1), .int .i64 c], .bool true]) ?_ rfl ⟨rfl, ?_⟩
        · rw [results_cell_tmp rfl]; go_simp
        · (repeat' with_reducible (first | exact N3.out.b | refine Below.setCell ?_ (by dsimp only; omega) _ | refine Below.drew ?_))
      · obtain ⟨q1, q2⟩ := stepT_not (t := ⟨2, e, a, b, c⟩) (by simp; omega)
        have q3 := q2
        have H2 := Lib.hid (right_any ⟨2, e, a, (b + 1), c⟩)
        rw [rightB_not (t := ⟨2, e, a, (b + 1), c⟩) (by unfold T.right; dsimp only; omega)] at H2
        rw [q1, q3]
        clear q1 q2 q3 r r0 r1 r2 r3 r4 r5 r8 r9 r10 r11 r12
        go_enter Try.func15, Try.ntmps15
        go_wp2_with fail
        refine (H1.out _).mono ?_
        rintro e1 w1 ⟨rfl, hb1⟩
        have N1 := Lib.hid (N0.out.below hb1)
        clear hb1
        obtain ⟨⟨x0, x1, x2, x3, x4⟩, ⟨z0, z1, z2, z3, z4⟩, fx, fz⟩ := N1.out.facts
        (try dsimp only at x0 x1 x2 x3 x4)
        have N2 := Lib.hid (N1.out.set 3 (.int .i64 (b + 1)) ⟨2, e, a, (b + 1), c⟩ rfl)
        obtain ⟨p0, p1, p2, p3, p4⟩ := N2.out.x.cells
        (try dsimp only at p0 p1 p2 p3 p4)
        go_wp2_with fail
        clear x0 x1 x2 x3 x4 z0 z1 z2 z3 z4 fx fz
        clear p0 p1 p2 p3 p4
        refine (H2.out _).mono ?_
        rintro e2 w2 ⟨rfl, hb2⟩
        have N3 := Lib.hid (N2.out.below hb2)
        clear hb2
        obtain ⟨⟨x0, x1, x2, x3, x4⟩, ⟨z0, z1, z2, z3, z4⟩, fx, fz⟩ := N3.out.facts
        (try dsimp only at x0 x1 x2 x3 x4)
        go_wp2
        (try simp only [Exit.inBlock, Exit.then])
        refine bodyPost_ret (v := .tuple #[.agg #[.int .i64 0, .int .i64 0, .int .i64 0, .int .i64 0, .int .i64 0], .bool false]) ?_ rfl ⟨rfl, ?_⟩
        · rw [results_cell_tmp rfl]; go_simp
        · (repeat' with_reducible (first | exact N3.out.b | refine Below.setCell ?_ (by dsimp only; omega) _ | refine Below.drew ?_))
    · by_cases g : c < 15
      · obtain ⟨q1, q2⟩ := stepT_of (t := ⟨3, e, a, b, c⟩) ⟨r, by simp, by simpa using g⟩
        have q3 : stepT ⟨3, e, a, b, c⟩ = ⟨3, e, a, b, (c + 1)⟩ := by rw [q2]; simp
        have H2 := Lib.hid (right_any ⟨3, e, a, b, (c + 1)⟩)
        rw [rightB_of (t := ⟨3, e, a, b, (c + 1)⟩) (by unfold T.right; dsimp only; omega)] at H2
        rw [q1, q3]
        clear q1 q2 q3 r r0 r1 r2 r3 r4 r5 r6 r7 r10 r11 r12
        go_enter Try.func15, Try.ntmps15
        go_wp2_with fail
        refine (H1.out _).mono ?_
        rintro e1 w1 ⟨rfl, hb1⟩
        have N1 := Lib.hid (N0.out.below hb1)
        clear hb1
        obtain ⟨⟨x0, x1, x2, x3, x4⟩, ⟨z0, z1, z2, z3, z4⟩, fx, fz⟩ := N1.out.facts
        (try dsimp only at x0 x1 x2 x3 x4)
        have N2 := Lib.hid (N1.out.set 4 (.int .i64 (c + 1)) ⟨3, e, a, b, (c + 1)⟩ rfl)
        obtain ⟨p0, p1, p2, p3, p4⟩ := N2.out.x.cells
        (try dsimp only at p0 p1 p2 p3 p4)
        go_wp2_with fail
        clear x0 x1 x2 x3 x4 z0 z1 z2 z3 z4 fx fz
        clear p0 p1 p2 p3 p4
        refine (H2.out _).mono ?_
        rintro e2 w2 ⟨rfl, hb2⟩
        have N3 := Lib.hid (N2.out.below hb2)
        clear hb2
        obtain ⟨⟨x0, x1, x2, x3, x4⟩, ⟨z0, z1, z2, z3, z4⟩, fx, fz⟩ := N3.out.facts
        (try dsimp only at x0 x1 x2 x3 x4)
        go_wp2
        (try simp only [Exit.inBlock, Exit.then])
        refine bodyPost_ret (v := .tuple #[.agg #[.int .i64 3, .int .i64 e, .int .i64 a, .int .i64 b, .int .i64 (c + 1)], .bool true]) ?_ rfl ⟨rfl, ?_⟩
        · rw [results_cell_tmp rfl]; go_simp
        · (repeat' with_reducible (first | exact N3.out.b | refine Below.setCell ?_ (by dsimp only; omega) _ | refine Below.drew ?_))
      · obtain ⟨q1, q2⟩ := stepT_not (t := ⟨3, e, a, b, c⟩) (by simp; omega)
        have q3 := q2
        have H2 := Lib.hid (right_any ⟨3, e, a, b, (c + 1)⟩)
        rw [rightB_not (t := ⟨3, e, a, b, (c + 1)⟩) (by unfold T.right; dsimp only; omega)] at H2
        rw [q1, q3]
        clear q1 q2 q3 r r0 r1 r2 r3 r4 r5 r6 r7 r10 r11 r12
        go_enter Try.func15, Try.ntmps15
        go_wp2_with fail
        refine (H1.out _).mono ?_
        rintro e1 w1 ⟨rfl, hb1⟩
        have N1 := Lib.hid (N0.out.below hb1)
        clear hb1
        obtain ⟨⟨x0, x1, x2, x3, x4⟩, ⟨z0, z1, z2, z3, z4⟩, fx, fz⟩ := N1.out.facts
        (try dsimp only at x0 x1 x2 x3 x4)
        have N2 := Lib.hid (N1.out.set 4 (.int .i64 (c + 1)) ⟨3, e, a, b, (c + 1)⟩ rfl)
        obtain ⟨p0, p1, p2, p3, p4⟩ := N2.out.x.cells
        (try dsimp only at p0 p1 p2 p3 p4)
        go_wp2_with fail
        clear x0 x1 x2 x3 x4 z0 z1 z2 z3 z4 fx fz
        clear p0 p1 p2 p3 p4
        refine (H2.out _).mono ?_
        rintro e2 w2 ⟨rfl, hb2⟩
        have N3 := Lib.hid (N2.out.below hb2)
        clear hb2
        obtain ⟨⟨x0, x1, x2, x3, x4⟩, ⟨z0, z1, z2, z3, z4⟩, fx, fz⟩ := N3.out.facts
        (try dsimp only at x0 x1 x2 x3 x4)
        go_wp2
        (try simp only [Exit.inBlock, Exit.then])
        refine bodyPost_ret (v := .tuple #[.agg #[.int .i64 0, .int .i64 0, .int .i64 0, .int .i64 0, .int .i64 0], .bool false]) ?_ rfl ⟨rfl, ?_⟩
        · rw [results_cell_tmp rfl]; go_simp
        · (repeat' with_reducible (first | exact N3.out.b | refine Below.setCell ?_ (by dsimp only; omega) _ | refine Below.drew ?_))
  · obtain ⟨q1, q2⟩ := stepT_not (t := t) (fun h => r h.1)
    rw [rightB_not r] at H1
    rw [q1, q2]
    clear q1 q2 r
    go_enter Try.func15, Try.ntmps15
    go_wp2_with fail
    refine (H1.out _).mono ?_
    rintro e1 w1 ⟨rfl, hb1⟩
    have N1 := Lib.hid (N0.out.below hb1)
    clear hb1
    obtain ⟨⟨x0, x1, x2, x3, x4⟩, ⟨z0, z1, z2, z3, z4⟩, fx, fz⟩ := N1.out.facts
    (try dsimp only at x0 x1 x2 x3 x4)
    go_wp2
    (try simp only [Exit.inBlock, Exit.then])
    refine bodyPost_ret (v := .tuple #[.agg #[.int .i64 0, .int .i64 0, .int .i64 0, .int .i64 0, .int .i64 0], .bool false]) ?_ rfl ⟨rfl, ?_⟩
    · rw [results_cell_tmp rfl]; go_simp
    · (repeat' with_reducible (first | exact N1.out.b | refine Below.setCell ?_ (by dsimp only; omega) _ | refine Below.drew ?_))
set_option maxHeartbeats 8000000 in
theorem into_any (t : T) (w : World) (hlo : -9223372036854775808 ≤ t.d) (hhi : t.d ≤ 9223372036854775807) : Calls Try.prog 11 #[.agg #[.int .i64 t.d, .int .i64 t.e, .int .i64 t.a, .int .i64 t.b, .int .i64 t.c]] w (Gives (.tuple #[.agg #[.int .i64 (intoT t).d, .int .i64 (intoT t).e, .int .i64 (intoT t).a, .int .i64 (intoT t).b, .int .i64 (intoT t).c], .bool (intoB t)]) w) := by
  have N0 := Lib.hid (Box2.new w t)
  by_cases r : t.right ∧ t.d < 3
  · obtain ⟨q1, q2⟩ := intoT_of r
    obtain ⟨d, e, a, b, c⟩ := t
    have r' := r.1
    have g := r.2
    unfold T.right at r'
    dsimp only at r' g hlo hhi
    obtain ⟨r0, r1, r2, r3, r4, r5, r6, r7, r8, r9, r10, r11, r12⟩ := r'
    have hd : d = 0 ∨ d = 1 ∨ d = 2 := by omega
    obtain rfl | rfl | rfl := hd
    · obtain rfl : a = 0 := r10 (by omega)
      have H1 := Lib.hid (right_any ⟨1, e, 0, b, c⟩)
      rw [rightB_of (t := ⟨1, e, 0, b, c⟩) (by unfold T.right; dsimp only; omega)] at H1
      rw [q1, q2]
      clear q1 q2 r r0 r1 r2 r3 r4 r5 r6 r7 r8 r9 r10 r11 r12 g hlo hhi
      go_enter Try.func11, Try.ntmps11
      go_wp2_with fail
      refine (H1.out _).mono ?_
      rintro e1 w1 ⟨rfl, hb1⟩
      first
      | have N1 := Lib.hid (Box2.below (Box2.new w ⟨1, e, 0, b, c⟩) hb1)
      | have N1 := Lib.hid (Box2.below (N0.out.set 0 (.int .i64 1) ⟨1, e, 0, b, c⟩ rfl) hb1)
      clear hb1
      obtain ⟨⟨x0, x1, x2, x3, x4⟩, ⟨z0, z1, z2, z3, z4⟩, fx, fz⟩ := N1.out.facts
      (try dsimp only at x0 x1 x2 x3 x4)
      go_wp2
      (try simp only [Exit.inBlock, Exit.then])
      refine bodyPost_ret (v := .tuple #[.agg #[.int .i64 1, .int .i64 e, .int .i64 0, .int .i64 b, .int .i64 c], .bool true]) ?_ rfl ⟨rfl, ?_⟩
      · rw [results_cell_tmp rfl]; go_simp
      · (repeat' with_reducible (first | exact N1.out.b | refine Below.setCell ?_ (by dsimp only; omega) _ | refine Below.drew ?_))
    · obtain rfl : b = 0 := r11 (by omega)
      have H1 := Lib.hid (right_any ⟨2, e, a, 0, c⟩)
      rw [rightB_of (t := ⟨2, e, a, 0, c⟩) (by unfold T.right; dsimp only; omega)] at H1
      rw [q1, q2]
      clear q1 q2 r r0 r1 r2 r3 r4 r5 r6 r7 r8 r9 r10 r11 r12 g hlo hhi
      go_enter Try.func11, Try.ntmps11
      go_wp2_with fail
      refine (H1.out _).mono ?_
      rintro e1 w1 ⟨rfl, hb1⟩
      first
      | have N1 := Lib.hid (Box2.below (Box2.new w ⟨2, e, a, 0, c⟩) hb1)
      | have N1 := Lib.hid (Box2.below (N0.out.set 0 (.int .i64 2) ⟨2, e, a, 0, c⟩ rfl) hb1)
      clear hb1
      obtain ⟨⟨x0, x1, x2, x3, x4⟩, ⟨z0, z1, z2, z3, z4⟩, fx, fz⟩ := N1.out.facts
      (try dsimp only at x0 x1 x2 x3 x4)
      go_wp2
      (try simp only [Exit.inBlock, Exit.then])
      refine bodyPost_ret (v := .tuple #[.agg #[.int .i64 2, .int .i64 e, .int .i64 a, .int .i64 0, .int .i64 c], .bool true]) ?_ rfl ⟨rfl, ?_⟩
      · rw [results_cell_tmp rfl]; go_simp
      · (repeat' with_reducible (first | exact N1.out.b | refine Below.setCell ?_ (by dsimp only; omega) _ | refine Below.drew ?_))
    · obtain rfl : c = 0 := r12 (by omega)
      have H1 := Lib.hid (right_any ⟨3, e, a, b, 0⟩)
      rw [rightB_of (t := ⟨3, e, a, b, 0⟩) (by unfold T.right; dsimp only; omega)] at H1
      rw [q1, q2]
      clear q1 q2 r r0 r1 r2 r3 r4 r5 r6 r7 r8 r9 r10 r11 r12 g hlo hhi
      go_enter Try.func11, Try.ntmps11
      go_wp2_with fail
      refine (H1.out _).mono ?_
      rintro e1 w1 ⟨rfl, hb1⟩
      first
      | have N1 := Lib.hid (Box2.below (Box2.new w ⟨3, e, a, b, 0⟩) hb1)
      | have N1 := Lib.hid (Box2.below (N0.out.set 0 (.int .i64 3) ⟨3, e, a, b, 0⟩ rfl) hb1)
      clear hb1
      obtain ⟨⟨x0, x1, x2, x3, x4⟩, ⟨z0, z1, z2, z3, z4⟩, fx, fz⟩ := N1.out.facts
      (try dsimp only at x0 x1 x2 x3 x4)
      go_wp2
      (try simp only [Exit.inBlock, Exit.then])
      refine bodyPost_ret (v := .tuple #[.agg #[.int .i64 3, .int .i64 e, .int .i64 a, .int .i64 b, .int .i64 0], .bool true]) ?_ rfl ⟨rfl, ?_⟩
      · rw [results_cell_tmp rfl]; go_simp
      · (repeat' with_reducible (first | exact N1.out.b | refine Below.setCell ?_ (by dsimp only; omega) _ | refine Below.drew ?_))
  · obtain ⟨q1, q2⟩ := intoT_not r
    rw [q1, q2]
    clear q1 q2
    obtain ⟨d, e, a, b, c⟩ := t
    dsimp only at hlo hhi
    by_cases hm : d = 9223372036854775807
    · subst hm
      clear hlo hhi r
      have hw : wrap64 9223372036854775808 = -9223372036854775808 := by first | rfl | kernel_rfl | (unfold wrap64; omega)
      have H1 := Lib.hid (right_any ⟨-9223372036854775808, e, a, b, c⟩)
      rw [rightB_not (t := ⟨-9223372036854775808, e, a, b, c⟩) (by unfold T.right; dsimp only; omega)] at H1
      
      go_enter Try.func11, Try.ntmps11
      go_wp2_with fail
      refine (H1.out _).mono ?_
      rintro e1 w1 ⟨rfl, hb1⟩
      first
      | have N1 := Lib.hid (Box2.below (Box2.new w ⟨-9223372036854775808, e, a, b, c⟩) hb1)
      | have N1 := Lib.hid (Box2.below (N0.out.set 0 (.int .i64 (-9223372036854775808)) ⟨-9223372036854775808, e, a, b, c⟩ rfl) hb1)
      clear hb1
      obtain ⟨⟨x0, x1, x2, x3, x4⟩, ⟨z0, z1, z2, z3, z4⟩, fx, fz⟩ := N1.out.facts
      (try dsimp only at x0 x1 x2 x3 x4)
      go_wp2
      (try simp only [Exit.inBlock, Exit.then])
      refine bodyPost_ret (v := .tuple #[.agg #[.int .i64 0, .int .i64 0, .int .i64 0, .int .i64 0, .int .i64 0], .bool false]) ?_ rfl ⟨rfl, ?_⟩
      · rw [results_cell_tmp rfl]; go_simp
      · (repeat' with_reducible (first | exact N1.out.b | refine Below.setCell ?_ (by dsimp only; omega) _ | refine Below.drew ?_))
    · by_cases h3 : 3 < d + 1
      · have t0 : decide (3 < d + 1) = true := by simpa using h3
        clear r
        go_enter Try.func11, Try.ntmps11
        go_wp2
        (try simp only [Exit.inBlock, Exit.then])
        refine bodyPost_ret (v := .tuple #[.agg #[.int .i64 0, .int .i64 0, .int .i64 0, .int .i64 0, .int .i64 0], .bool false]) ?_ rfl ⟨rfl, ?_⟩
        · rw [results_cell_tmp rfl]; go_simp
        · (repeat' with_reducible (first | exact Below.refl _ _ | refine below_alloc ?_ _ | refine Below.setCell ?_ (by dsimp only; omega) _ | refine Below.drew ?_))
      · by_cases hr : T.right ⟨d + 1, e, a, b, c⟩
        · have H1 := Lib.hid (right_any ⟨d + 1, e, a, b, c⟩)
          rw [rightB_of hr] at H1
          have hd : d = -1 ∨ d = 0 ∧ 0 < a ∨ d = 1 ∧ 0 < b ∨ d = 2 ∧ 0 < c := by
            unfold T.right at r hr
            dsimp only at r hr
            omega
          clear r hr
          obtain rfl | ⟨rfl, hx⟩ | ⟨rfl, hx⟩ | ⟨rfl, hx⟩ := hd
          · clear hlo hhi hm h3
            go_enter Try.func11, Try.ntmps11
            go_wp2_with fail
            refine (H1.out _).mono ?_
            rintro e1 w1 ⟨rfl, hb1⟩
            first
            | have N1 := Lib.hid (Box2.below (Box2.new w ⟨0, e, a, b, c⟩) hb1)
            | have N1 := Lib.hid (Box2.below (N0.out.set 0 (.int .i64 0) ⟨0, e, a, b, c⟩ rfl) hb1)
            clear hb1
            obtain ⟨⟨x0, x1, x2, x3, x4⟩, ⟨z0, z1, z2, z3, z4⟩, fx, fz⟩ := N1.out.facts
            (try dsimp only at x0 x1 x2 x3 x4)
            go_wp2
            (try simp only [Exit.inBlock, Exit.then])
            refine bodyPost_ret (v := .tuple #[.agg #[.int .i64 0, .int .i64 0, .int .i64 0, .int .i64 0, .int .i64 0], .bool false]) ?_ rfl ⟨rfl, ?_⟩
            · rw [results_cell_tmp rfl]; go_simp
            · (repeat' with_reducible (first | exact N1.out.b | refine Below.setCell ?_ (by dsimp only; omega) _ | refine Below.drew ?_))
          · clear hlo hhi hm h3
            go_enter Try.func11, Try.ntmps11
            go_wp2_with fail
            refine (H1.out _).mono ?_
            rintro e1 w1 ⟨rfl, hb1⟩
            first
            | have N1 := Lib.hid (Box2.below (Box2.new w ⟨1, e, a, b, c⟩) hb1)
            | have N1 := Lib.hid (Box2.below (N0.out.set 0 (.int .i64 1) ⟨1, e, a, b, c⟩ rfl) hb1)
            clear hb1
            obtain ⟨⟨x0, x1, x2, x3, x4⟩, ⟨z0, z1, z2, z3, z4⟩, fx, fz⟩ := N1.out.facts
            (try dsimp only at x0 x1 x2 x3 x4)
            go_wp2
            (try simp only [Exit.inBlock, Exit.then])
            refine bodyPost_ret (v := .tuple #[.agg #[.int .i64 0, .int .i64 0, .int .i64 0, .int .i64 0, .int .i64 0], .bool false]) ?_ rfl ⟨rfl, ?_⟩
            · rw [results_cell_tmp rfl]; go_simp
            · (repeat' with_reducible (first | exact N1.out.b | refine Below.setCell ?_ (by dsimp only; omega) _ | refine Below.drew ?_))
          · clear hlo hhi hm h3
            go_enter Try.func11, Try.ntmps11
            go_wp2_with fail
            refine (H1.out _).mono ?_
            rintro e1 w1 ⟨rfl, hb1⟩
            first
            | have N1 := Lib.hid (Box2.below (Box2.new w ⟨2, e, a, b, c⟩) hb1)
            | have N1 := Lib.hid (Box2.below (N0.out.set 0 (.int .i64 2) ⟨2, e, a, b, c⟩ rfl) hb1)
            clear hb1
            obtain ⟨⟨x0, x1, x2, x3, x4⟩, ⟨z0, z1, z2, z3, z4⟩, fx, fz⟩ := N1.out.facts
            (try dsimp only at x0 x1 x2 x3 x4)
            go_wp2
            (try simp only [Exit.inBlock, Exit.then])
            refine bodyPost_ret (v := .tuple #[.agg #[.int .i64 0, .int .i64 0, .int .i64 0, .int .i64 0, .int .i64 0], .bool false]) ?_ rfl ⟨rfl, ?_⟩
            · rw [results_cell_tmp rfl]; go_simp
            · (repeat' with_reducible (first | exact N1.out.b | refine Below.setCell ?_ (by dsimp only; omega) _ | refine Below.drew ?_))
          · clear hlo hhi hm h3
            go_enter Try.func11, Try.ntmps11
            go_wp2_with fail
            refine (H1.out _).mono ?_
            rintro e1 w1 ⟨rfl, hb1⟩
            first
            | have N1 := Lib.hid (Box2.below (Box2.new w ⟨3, e, a, b, c⟩) hb1)
            | have N1 := Lib.hid (Box2.below (N0.out.set 0 (.int .i64 3) ⟨3, e, a, b, c⟩ rfl) hb1)
            clear hb1
            obtain ⟨⟨x0, x1, x2, x3, x4⟩, ⟨z0, z1, z2, z3, z4⟩, fx, fz⟩ := N1.out.facts
            (try dsimp only at x0 x1 x2 x3 x4)
            go_wp2
            (try simp only [Exit.inBlock, Exit.then])
            refine bodyPost_ret (v := .tuple #[.agg #[.int .i64 0, .int .i64 0, .int .i64 0, .int .i64 0, .int .i64 0], .bool false]) ?_ rfl ⟨rfl, ?_⟩
            · rw [results_cell_tmp rfl]; go_simp
            · (repeat' with_reducible (first | exact N1.out.b | refine Below.setCell ?_ (by dsimp only; omega) _ | refine Below.drew ?_))
        · have H1 := Lib.hid (right_any ⟨d + 1, e, a, b, c⟩)
          rw [rightB_not hr] at H1
          clear r hr
          go_enter Try.func11, Try.ntmps11
          go_wp2_with fail
          refine (H1.out _).mono ?_
          rintro e1 w1 ⟨rfl, hb1⟩
          first
          | have N1 := Lib.hid (Box2.below (Box2.new w ⟨d + 1, e, a, b, c⟩) hb1)
          | have N1 := Lib.hid (Box2.below (N0.out.set 0 (.int .i64 (d + 1)) ⟨d + 1, e, a, b, c⟩ rfl) hb1)
          clear hb1
          obtain ⟨⟨x0, x1, x2, x3, x4⟩, ⟨z0, z1, z2, z3, z4⟩, fx, fz⟩ := N1.out.facts
          (try dsimp only at x0 x1 x2 x3 x4)
          go_wp2
          (try simp only [Exit.inBlock, Exit.then])
          refine bodyPost_ret (v := .tuple #[.agg #[.int .i64 0, .int .i64 0, .int .i64 0, .int .i64 0, .int .i64 0], .bool false]) ?_ rfl ⟨rfl, ?_⟩
          · rw [results_cell_tmp rfl]; go_simp
          · (repeat' with_reducible (first | exact N1.out.b | refine Below.setCell ?_ (by dsimp only; omega) _ | refine Below.drew ?_))
end Go.Proofs.Ytbojefdbkegimaa
