/- Contracts of stamp's Out, Step and the reference's Into, Out, Step, for every time. -/
import Derived.Test.YtbojefdbkegimaaRows
import Derived.Test.YtbojefdbkegimaaWords
import Derived.Test.YtbojefdbkegimaaS1
import Derived.Test.YtbojefdbkegimaaS2
import Derived.Laws.ResultCell
namespace Go.Proofs.Ytbojefdbkegimaa
open Go.RowKit Go.Proofs.Tail
set_option linter.unusedSimpArgs false
set_option linter.unusedVariables false
structure Box2 (w wx : World) (u : T) : Prop where
  x : Bx wx w.heap.size u
  z : Bx wx (w.heap.size + 1) T0
  b : Below w.heap.size w wx
theorem Box2.new (w : World) (t : T) : Box2 w ((w.alloc (.cells #[.int .i64 t.d, .int .i64 t.e, .int .i64 t.a, .int .i64 t.b, .int .i64 t.c] 24)).alloc (.cells #[.int .i64 T0.d, .int .i64 T0.e, .int .i64 T0.a, .int .i64 T0.b, .int .i64 T0.c] 24)) t := ⟨(Bx.new w t _ rfl).below (below_new _ (.cells #[.int .i64 T0.d, .int .i64 T0.e, .int .i64 T0.a, .int .i64 T0.b, .int .i64 T0.c] 24)), Bx.new (w.alloc (.cells #[.int .i64 t.d, .int .i64 t.e, .int .i64 t.a, .int .i64 t.b, .int .i64 t.c] 24)) T0 (w.heap.size + 1) (by simp), below_alloc (below_new w (.cells #[.int .i64 t.d, .int .i64 t.e, .int .i64 t.a, .int .i64 t.b, .int .i64 t.c] 24)) (.cells #[.int .i64 T0.d, .int .i64 T0.e, .int .i64 T0.a, .int .i64 T0.b, .int .i64 T0.c] 24)⟩
theorem Box2.below {w wx wy : World} {u : T} (h : Box2 w wx u) (hb : Below wx.heap.size wx wy) : Box2 w wy u := ⟨h.x.below hb, h.z.below hb, below_then h.b hb⟩
theorem Box2.drew {w wx : World} {u : T} (h : Box2 w wx u) : Box2 w wx.drew u := ⟨⟨h.x.h⟩, ⟨h.z.h⟩, h.b.drew⟩
theorem Box2.set {w wx : World} {u : T} (h : Box2 w wx u) (o : Nat) (v : Value) (u' : T) (h' : (#[.int .i64 u.d, .int .i64 u.e, .int .i64 u.a, .int .i64 u.b, .int .i64 u.c] : Array Value).setIfInBounds o v = #[.int .i64 u'.d, .int .i64 u'.e, .int .i64 u'.a, .int .i64 u'.b, .int .i64 u'.c]) : Box2 w (wx.setCell ⟨w.heap.size, o, none⟩ v) u' :=
  ⟨h.x.set o v u' h', h.z.other _ _ (by simp), h.b.setCell (Nat.le_refl _) _⟩
theorem Box2.facts {w wx : World} {u : T} (h : Box2 w wx u) :
    (wx.cell? ⟨w.heap.size, 0, none⟩ = some (.int .i64 u.d) ∧ wx.cell? ⟨w.heap.size, 1, none⟩ = some (.int .i64 u.e) ∧ wx.cell? ⟨w.heap.size, 2, none⟩ = some (.int .i64 u.a) ∧ wx.cell? ⟨w.heap.size, 3, none⟩ = some (.int .i64 u.b) ∧ wx.cell? ⟨w.heap.size, 4, none⟩ = some (.int .i64 u.c)) ∧
    (wx.cell? ⟨w.heap.size + 1, 0, none⟩ = some (.int .i64 0) ∧ wx.cell? ⟨w.heap.size + 1, 1, none⟩ = some (.int .i64 0) ∧ wx.cell? ⟨w.heap.size + 1, 2, none⟩ = some (.int .i64 0) ∧ wx.cell? ⟨w.heap.size + 1, 3, none⟩ = some (.int .i64 0) ∧ wx.cell? ⟨w.heap.size + 1, 4, none⟩ = some (.int .i64 0)) ∧
    (∀ o, wx.frozen? ⟨w.heap.size, o, none⟩ = false) ∧ (∀ o, wx.frozen? ⟨w.heap.size + 1, o, none⟩ = false) := ⟨h.x.cells, h.z.cells, h.x.frozen, h.z.frozen⟩
def outB (t : T) : Bool := decide (t.right ∧ 0 < t.d)
def outT (t : T) : T := if outB t = true then ⟨t.d - 1, t.e, if t.d = 1 then 0 else t.a, if t.d = 2 then 0 else t.b, if t.d = 3 then 0 else t.c⟩ else T0
theorem outT_not {t : T} (h : ¬ (t.right ∧ 0 < t.d)) : outB t = false ∧ outT t = T0 := by
  have : outB t = false := decide_eq_false h
  exact ⟨this, by unfold outT; rw [this]; rfl⟩
theorem outT_of {t : T} (h : t.right ∧ 0 < t.d) : outB t = true ∧ outT t = ⟨t.d - 1, t.e, if t.d = 1 then 0 else t.a, if t.d = 2 then 0 else t.b, if t.d = 3 then 0 else t.c⟩ := by
  have : outB t = true := decide_eq_true h
  exact ⟨this, by unfold outT; rw [this]; rfl⟩
def stepB (t : T) : Bool := decide (t.right ∧ 0 < t.d ∧ (if t.d = 1 then t.a else if t.d = 2 then t.b else t.c) < 15)
def stepT (t : T) : T := if stepB t = true then ⟨t.d, t.e, if t.d = 1 then t.a + 1 else t.a, if t.d = 2 then t.b + 1 else t.b, if t.d = 3 then t.c + 1 else t.c⟩ else T0
theorem stepT_not {t : T} (h : ¬ (t.right ∧ 0 < t.d ∧ (if t.d = 1 then t.a else if t.d = 2 then t.b else t.c) < 15)) : stepB t = false ∧ stepT t = T0 := by
  have : stepB t = false := decide_eq_false h
  exact ⟨this, by unfold stepT; rw [this]; rfl⟩
theorem stepT_of {t : T} (h : t.right ∧ 0 < t.d ∧ (if t.d = 1 then t.a else if t.d = 2 then t.b else t.c) < 15) : stepB t = true ∧ stepT t = ⟨t.d, t.e, if t.d = 1 then t.a + 1 else t.a, if t.d = 2 then t.b + 1 else t.b, if t.d = 3 then t.c + 1 else t.c⟩ := by
  have : stepB t = true := decide_eq_true h
  exact ⟨this, by unfold stepT; rw [this]; rfl⟩
def intoB (t : T) : Bool := decide (t.right ∧ t.d < 3)
def intoT (t : T) : T := if intoB t = true then ⟨t.d + 1, t.e, t.a, t.b, t.c⟩ else T0
theorem intoT_not {t : T} (h : ¬ (t.right ∧ t.d < 3)) : intoB t = false ∧ intoT t = T0 := by
  have : intoB t = false := decide_eq_false h
  exact ⟨this, by unfold intoT; rw [this]; rfl⟩
theorem intoT_of {t : T} (h : t.right ∧ t.d < 3) : intoB t = true ∧ intoT t = ⟨t.d + 1, t.e, t.a, t.b, t.c⟩ := by
  have : intoB t = true := decide_eq_true h
  exact ⟨this, by unfold intoT; rw [this]; rfl⟩
set_option maxHeartbeats 8000000 in
theorem out_any (t : T) (w : World) : Calls Try.prog 13 #[.agg #[.int .i64 t.d, .int .i64 t.e, .int .i64 t.a, .int .i64 t.b, .int .i64 t.c]] w (Gives (.tuple #[.agg #[.int .i64 (outT t).d, .int .i64 (outT t).e, .int .i64 (outT t).a, .int .i64 (outT t).b, .int .i64 (outT t).c], .bool (outB t)]) w) := by
  have N0 := Lib.hid (Box2.new w t)
  have H1 := Lib.hid (right_any t)
  by_cases r : t.right
  · rw [rightB_of r] at H1
    obtain ⟨d, e, a, b, c⟩ := t
    have r' := r
    unfold T.right at r'
    dsimp only at r'
    obtain ⟨r0, r1, r2, r3, r4, r5, r6, r7, r8, r9, r10, r11, r12⟩ := r'
    have hd : d = 0 ∨ d = 1 ∨ d = 2 ∨ d = 3 := by omega
    clear r0 r1 r2 r3 r10 r11 r12
    obtain rfl | rfl | rfl | rfl := hd
    · obtain ⟨q1, q2⟩ := outT_not (t := ⟨0, e, a, b, c⟩) (by simp)
      rw [q1, q2]
      clear q1 q2 r r4 r5 r6 r7 r8 r9
      go_enter Try.func13, Try.ntmps13
      go_wp2_with fail
      refine (H1.out _).mono ?_
      rintro e1 w1 ⟨rfl, hb1⟩
      have N1 := Lib.hid (N0.out.below hb1)
      clear hb1
      obtain ⟨⟨x0, x1, x2, x3, x4⟩, ⟨z0, z1, z2, z3, z4⟩, fx, fz⟩ := N1.out.facts
      (try dsimp only at x0 x1 x2 x3 x4)
      go_wp2
      (try simp only [Exit.inBlock, Exit.then])
      refine bodyPost_ret (v := .tuple #[.agg #[.int .i64 0, .int .i64 0, .int .i64 0, .int .i64 0, .int .i64 0], .bool false]) ?_ rfl ⟨rfl, ?_⟩
      · rw [results_cell_tmp rfl]; go_simp
      · (repeat' with_reducible (first | exact N1.out.b | refine Below.setCell ?_ (by dsimp only; omega) _ | refine Below.drew ?_))
    · obtain ⟨q1, q2⟩ := outT_of (t := ⟨1, e, a, b, c⟩) ⟨r, by simp⟩
      have q3 : outT ⟨1, e, a, b, c⟩ = ⟨0, e, 0, b, c⟩ := by rw [q2]; simp
      rw [q1, q3]
      clear q3
      clear q1 q2 r r4 r5 r6 r7 r8 r9
      go_enter Try.func13, Try.ntmps13
      go_wp2_with fail
      refine (H1.out _).mono ?_
      rintro e1 w1 ⟨rfl, hb1⟩
      have N1 := Lib.hid (N0.out.below hb1)
      clear hb1
      obtain ⟨⟨x0, x1, x2, x3, x4⟩, ⟨z0, z1, z2, z3, z4⟩, fx, fz⟩ := N1.out.facts
      (try dsimp only at x0 x1 x2 x3 x4)
      go_wp2
      (try simp only [Exit.inBlock, Exit.then])
      refine bodyPost_ret (v := .tuple #[.agg #[.int .i64 0, .int .i64 e, .int .i64 0, .int .i64 b, .int .i64 c], .bool true]) ?_ rfl ⟨rfl, ?_⟩
      · rw [results_cell_tmp rfl]; go_simp
      · (repeat' with_reducible (first | exact N1.out.b | refine Below.setCell ?_ (by dsimp only; omega) _ | refine Below.drew ?_))
    · obtain ⟨q1, q2⟩ := outT_of (t := ⟨2, e, a, b, c⟩) ⟨r, by simp⟩
      have q3 : outT ⟨2, e, a, b, c⟩ = ⟨1, e, a, 0, c⟩ := by rw [q2]; simp
      rw [q1, q3]
      clear q3
      clear q1 q2 r r4 r5 r6 r7 r8 r9
      go_enter Try.func13, Try.ntmps13
      go_wp2_with fail
      refine (H1.out _).mono ?_
      rintro e1 w1 ⟨rfl, hb1⟩
      have N1 := Lib.hid (N0.out.below hb1)
      clear hb1
      obtain ⟨⟨x0, x1, x2, x3, x4⟩, ⟨z0, z1, z2, z3, z4⟩, fx, fz⟩ := N1.out.facts
      (try dsimp only at x0 x1 x2 x3 x4)
      go_wp2
      (try simp only [Exit.inBlock, Exit.then])
      refine bodyPost_ret (v := .tuple #[.agg #[.int .i64 1, .int .i64 e, .int .i64 a, .int .i64 0, .int .i64 c], .bool true]) ?_ rfl ⟨rfl, ?_⟩
      · rw [results_cell_tmp rfl]; go_simp
      · (repeat' with_reducible (first | exact N1.out.b | refine Below.setCell ?_ (by dsimp only; omega) _ | refine Below.drew ?_))
    · obtain ⟨q1, q2⟩ := outT_of (t := ⟨3, e, a, b, c⟩) ⟨r, by simp⟩
      have q3 : outT ⟨3, e, a, b, c⟩ = ⟨2, e, a, b, 0⟩ := by rw [q2]; simp
      rw [q1, q3]
      clear q3
      clear q1 q2 r r4 r5 r6 r7 r8 r9
      go_enter Try.func13, Try.ntmps13
      go_wp2_with fail
      refine (H1.out _).mono ?_
      rintro e1 w1 ⟨rfl, hb1⟩
      have N1 := Lib.hid (N0.out.below hb1)
      clear hb1
      obtain ⟨⟨x0, x1, x2, x3, x4⟩, ⟨z0, z1, z2, z3, z4⟩, fx, fz⟩ := N1.out.facts
      (try dsimp only at x0 x1 x2 x3 x4)
      go_wp2
      (try simp only [Exit.inBlock, Exit.then])
      refine bodyPost_ret (v := .tuple #[.agg #[.int .i64 2, .int .i64 e, .int .i64 a, .int .i64 b, .int .i64 0], .bool true]) ?_ rfl ⟨rfl, ?_⟩
      · rw [results_cell_tmp rfl]; go_simp
      · (repeat' with_reducible (first | exact N1.out.b | refine Below.setCell ?_ (by dsimp only; omega) _ | refine Below.drew ?_))
  · obtain ⟨q1, q2⟩ := outT_not (t := t) (fun h => r h.1)
    rw [rightB_not r] at H1
    rw [q1, q2]
    clear q1 q2 r
    go_enter Try.func13, Try.ntmps13
    go_wp2_with fail
    refine (H1.out _).mono ?_
    rintro e1 w1 ⟨rfl, hb1⟩
    have N1 := Lib.hid (N0.out.below hb1)
    clear hb1
    obtain ⟨⟨x0, x1, x2, x3, x4⟩, ⟨z0, z1, z2, z3, z4⟩, fx, fz⟩ := N1.out.facts
    (try dsimp only at x0 x1 x2 x3 x4)
    go_wp2
    (try simp only [Exit.inBlock, Exit.then])
    refine bodyPost_ret (v := .tuple #[.agg #[.int .i64 0, .int .i64 0, .int .i64 0, .int .i64 0, .int .i64 0], .bool false]) ?_ rfl ⟨rfl, ?_⟩
    · rw [results_cell_tmp rfl]; go_simp
    · (repeat' with_reducible (first | exact N1.out.b | refine Below.setCell ?_ (by dsimp only; omega) _ | refine Below.drew ?_))
set_option maxHeartbeats 8000000 in
theorem refout_any (t : T) (w : World) : Calls Try.prog 14 #[.agg #[.int .i64 t.d, .int .i64 t.e, .int .i64 t.a, .int .i64 t.b, .int .i64 t.c]] w (Gives (.tuple #[.agg #[.int .i64 (outT t).d, .int .i64 (outT t).e, .int .i64 (outT t).a, .int .i64 (outT t).b, .int .i64 (outT t).c], .bool (outB t)]) w) := by
  have N0 := Lib.hid (Box2.new w t)
  have H1 := Lib.hid (refright_any t)
  by_cases r : t.right
  · rw [rightB_of r] at H1
    obtain ⟨d, e, a, b, c⟩ := t
    have r' := r
    unfold T.right at r'
    dsimp only at r'
    obtain ⟨r0, r1, r2, r3, r4, r5, r6, r7, r8, r9, r10, r11, r12⟩ := r'
    have hd : d = 0 ∨ d = 1 ∨ d = 2 ∨ d = 3 := by omega
    clear r0 r1 r2 r3 r10 r11 r12
    obtain rfl | rfl | rfl | rfl := hd
    · obtain ⟨q1, q2⟩ := outT_not (t := ⟨0, e, a, b, c⟩) (by simp)
      rw [q1, q2]
      clear q1 q2 r r4 r5 r6 r7 r8 r9
      go_enter Try.func14, Try.ntmps14
      go_wp2_with fail
      refine (H1.out _).mono ?_
      rintro e1 w1 ⟨rfl, hb1⟩
      have N1 := Lib.hid (N0.out.below hb1)
      clear hb1
      obtain ⟨⟨x0, x1, x2, x3, x4⟩, ⟨z0, z1, z2, z3, z4⟩, fx, fz⟩ := N1.out.facts
      (try dsimp only at x0 x1 x2 x3 x4)
      go_wp2
      (try simp only [Exit.inBlock, Exit.then])
      refine bodyPost_ret (v := .tuple #[.agg #[.int .i64 0, .int .i64 0, .int .i64 0, .int .i64 0, .int .i64 0], .bool false]) ?_ rfl ⟨rfl, ?_⟩
      · rw [results_cell_tmp rfl]; go_simp
      · (repeat' with_reducible (first | exact N1.out.b | refine Below.setCell ?_ (by dsimp only; omega) _ | refine Below.drew ?_))
    · obtain ⟨q1, q2⟩ := outT_of (t := ⟨1, e, a, b, c⟩) ⟨r, by simp⟩
      have q3 : outT ⟨1, e, a, b, c⟩ = ⟨0, e, 0, b, c⟩ := by rw [q2]; simp
      rw [q1, q3]
      clear q3
      clear q1 q2 r r4 r5 r6 r7 r8 r9
      go_enter Try.func14, Try.ntmps14
      go_wp2_with fail
      refine (H1.out _).mono ?_
      rintro e1 w1 ⟨rfl, hb1⟩
      have N1 := Lib.hid (N0.out.below hb1)
      clear hb1
      obtain ⟨⟨x0, x1, x2, x3, x4⟩, ⟨z0, z1, z2, z3, z4⟩, fx, fz⟩ := N1.out.facts
      (try dsimp only at x0 x1 x2 x3 x4)
      go_wp2
      (try simp only [Exit.inBlock, Exit.then])
      refine bodyPost_ret (v := .tuple #[.agg #[.int .i64 0, .int .i64 e, .int .i64 0, .int .i64 b, .int .i64 c], .bool true]) ?_ rfl ⟨rfl, ?_⟩
      · rw [results_cell_tmp rfl]; go_simp
      · (repeat' with_reducible (first | exact N1.out.b | refine Below.setCell ?_ (by dsimp only; omega) _ | refine Below.drew ?_))
    · obtain ⟨q1, q2⟩ := outT_of (t := ⟨2, e, a, b, c⟩) ⟨r, by simp⟩
      have q3 : outT ⟨2, e, a, b, c⟩ = ⟨1, e, a, 0, c⟩ := by rw [q2]; simp
      rw [q1, q3]
      clear q3
      clear q1 q2 r r4 r5 r6 r7 r8 r9
      go_enter Try.func14, Try.ntmps14
      go_wp2_with fail
      refine (H1.out _).mono ?_
      rintro e1 w1 ⟨rfl, hb1⟩
      have N1 := Lib.hid (N0.out.below hb1)
      clear hb1
      obtain ⟨⟨x0, x1, x2, x3, x4⟩, ⟨z0, z1, z2, z3, z4⟩, fx, fz⟩ := N1.out.facts
      (try dsimp only at x0 x1 x2 x3 x4)
      go_wp2
      (try simp only [Exit.inBlock, Exit.then])
      refine bodyPost_ret (v := .tuple #[.agg #[.int .i64 1, .int .i64 e, .int .i64 a, .int .i64 0, .int .i64 c], .bool true]) ?_ rfl ⟨rfl, ?_⟩
      · rw [results_cell_tmp rfl]; go_simp
      · (repeat' with_reducible (first | exact N1.out.b | refine Below.setCell ?_ (by dsimp only; omega) _ | refine Below.drew ?_))
    · obtain ⟨q1, q2⟩ := outT_of (t := ⟨3, e, a, b, c⟩) ⟨r, by simp⟩
      have q3 : outT ⟨3, e, a, b, c⟩ = ⟨2, e, a, b, 0⟩ := by rw [q2]; simp
      rw [q1, q3]
      clear q3
      clear q1 q2 r r4 r5 r6 r7 r8 r9
      go_enter Try.func14, Try.ntmps14
      go_wp2_with fail
      refine (H1.out _).mono ?_
      rintro e1 w1 ⟨rfl, hb1⟩
      have N1 := Lib.hid (N0.out.below hb1)
      clear hb1
      obtain ⟨⟨x0, x1, x2, x3, x4⟩, ⟨z0, z1, z2, z3, z4⟩, fx, fz⟩ := N1.out.facts
      (try dsimp only at x0 x1 x2 x3 x4)
      go_wp2
      (try simp only [Exit.inBlock, Exit.then])
      refine bodyPost_ret (v := .tuple #[.agg #[.int .i64 2, .int .i64 e, .int .i64 a, .int .i64 b, .int .i64 0], .bool true]) ?_ rfl ⟨rfl, ?_⟩
      · rw [results_cell_tmp rfl]; go_simp
      · (repeat' with_reducible (first | exact N1.out.b | refine Below.setCell ?_ (by dsimp only; omega) _ | refine Below.drew ?_))
  · obtain ⟨q1, q2⟩ := outT_not (t := t) (fun h => r h.1)
    rw [rightB_not r] at H1
    rw [q1, q2]
    clear q1 q2 r
    go_enter Try.func14, Try.ntmps14
    go_wp2_with fail
    refine (H1.out _).mono ?_
    rintro e1 w1 ⟨rfl, hb1⟩
    have N1 := Lib.hid (N0.out.below hb1)
    clear hb1
    obtain ⟨⟨x0, x1, x2, x3, x4⟩, ⟨z0, z1, z2, z3, z4⟩, fx, fz⟩ := N1.out.facts
    (try dsimp only at x0 x1 x2 x3 x4)
    go_wp2
    (try simp only [Exit.inBlock, Exit.then])
    refine bodyPost_ret (v := .tuple #[.agg #[.int .i64 0, .int .i64 0, .int .i64 0, .int .i64 0, .int .i64 0], .bool false]) ?_ rfl ⟨rfl, ?_⟩
    · rw [results_cell_tmp rfl]; go_simp
    · (repeat' with_reducible (first | exact N1.out.b | refine Below.setCell ?_ (by dsimp only; omega) _ | refine Below.drew ?_))
set_option maxHeartbeats 8000000 in
theorem refinto_any (t : T) (w : World) : Calls Try.prog 12 #[.agg #[.int .i64 t.d, .int .i64 t.e, .int .i64 t.a, .int .i64 t.b, .int .i64 t.c]] w (Gives (.tuple #[.agg #[.int .i64 (intoT t).d, .int .i64 (intoT t).e, .int .i64 (intoT t).a, .int .i64 (intoT t).b, .int .i64 (intoT t).c], .bool (intoB t)]) w) := by
  have N0 := Lib.hid (Box2.new w t)
  have H1 := Lib.hid (refright_any t)
  by_cases r : t.right
  · rw [rightB_of r] at H1
    obtain ⟨d, e, a, b, c⟩ := t
    have r' := r
    unfold T.right at r'
    dsimp only at r'
    obtain ⟨r0, r1, r2, r3, r4, r5, r6, r7, r8, r9, r10, r11, r12⟩ := r'
    have hd : d = 0 ∨ d = 1 ∨ d = 2 ∨ d = 3 := by omega
    clear r0 r1 r2 r3 r10 r11 r12
    obtain rfl | rfl | rfl | rfl := hd
    · obtain ⟨q1, q2⟩ := intoT_of (t := ⟨0, e, a, b, c⟩) ⟨r, by simp⟩
      have q3 : intoT ⟨0, e, a, b, c⟩ = ⟨1, e, a, b, c⟩ := by rw [q2]; simp
      rw [q1, q3]
      clear q3
      clear q1 q2 r r4 r5 r6 r7 r8 r9
      go_enter Try.func12, Try.ntmps12
      go_wp2_with fail
      refine (H1.out _).mono ?_
      rintro e1 w1 ⟨rfl, hb1⟩
      have N1 := Lib.hid (N0.out.below hb1)
      clear hb1
      obtain ⟨⟨x0, x1, x2, x3, x4⟩, ⟨z0, z1, z2, z3, z4⟩, fx, fz⟩ := N1.out.facts
      (try dsimp only at x0 x1 x2 x3 x4)
      go_wp2
      (try simp only [Exit.inBlock, Exit.then])
      refine bodyPost_ret (v := .tuple #[.agg #[.int .i64 1, .int .i64 e, .int .i64 a, .int .i64 b, .int .i64 c], .bool true]) ?_ rfl ⟨rfl, ?_⟩
      · rw [results_cell_tmp rfl]; go_simp
      · (repeat' with_reducible (first | exact N1.out.b | refine Below.setCell ?_ (by dsimp only; omega) _ | refine Below.drew ?_))
    · obtain ⟨q1, q2⟩ := intoT_of (t := ⟨1, e, a, b, c⟩) ⟨r, by simp⟩
      have q3 : intoT ⟨1, e, a, b, c⟩ = ⟨2, e, a, b, c⟩ := by rw [q2]; simp
      rw [q1, q3]
      clear q3
      clear q1 q2 r r4 r5 r6 r7 r8 r9
      go_enter Try.func12, Try.ntmps12
      go_wp2_with fail
      refine (H1.out _).mono ?_
      rintro e1 w1 ⟨rfl, hb1⟩
      have N1 := Lib.hid (N0.out.below hb1)
      clear hb1
      obtain ⟨⟨x0, x1, x2, x3, x4⟩, ⟨z0, z1, z2, z3, z4⟩, fx, fz⟩ := N1.out.facts
      (try dsimp only at x0 x1 x2 x3 x4)
      go_wp2
      (try simp only [Exit.inBlock, Exit.then])
      refine bodyPost_ret (v := .tuple #[.agg #[.int .i64 2, .int .i64 e, .int .i64 a, .int .i64 b, .int .i64 c], .bool true]) ?_ rfl ⟨rfl, ?_⟩
      · rw [results_cell_tmp rfl]; go_simp
      · (repeat' with_reducible (first | exact N1.out.b | refine Below.setCell ?_ (by dsimp only; omega) _ | refine Below.drew ?_))
    · obtain ⟨q1, q2⟩ := intoT_of (t := ⟨2, e, a, b, c⟩) ⟨r, by simp⟩
      have q3 : intoT ⟨2, e, a, b, c⟩ = ⟨3, e, a, b, c⟩ := by rw [q2]; simp
      rw [q1, q3]
      clear q3
      clear q1 q2 r r4 r5 r6 r7 r8 r9
      go_enter Try.func12, Try.ntmps12
      go_wp2_with fail
      refine (H1.out _).mono ?_
      rintro e1 w1 ⟨rfl, hb1⟩
      have N1 := Lib.hid (N0.out.below hb1)
      clear hb1
      obtain ⟨⟨x0, x1, x2, x3, x4⟩, ⟨z0, z1, z2, z3, z4⟩, fx, fz⟩ := N1.out.facts
      (try dsimp only at x0 x1 x2 x3 x4)
      go_wp2
      (try simp only [Exit.inBlock, Exit.then])
      refine bodyPost_ret (v := .tuple #[.agg #[.int .i64 3, .int .i64 e, .int .i64 a, .int .i64 b, .int .i64 c], .bool true]) ?_ rfl ⟨rfl, ?_⟩
      · rw [results_cell_tmp rfl]; go_simp
      · (repeat' with_reducible (first | exact N1.out.b | refine Below.setCell ?_ (by dsimp only; omega) _ | refine Below.drew ?_))
    · obtain ⟨q1, q2⟩ := intoT_not (t := ⟨3, e, a, b, c⟩) (by simp)
      rw [q1, q2]
      clear q1 q2 r r4 r5 r6 r7 r8 r9
      go_enter Try.func12, Try.ntmps12
      go_wp2_with fail
      refine (H1.out _).mono ?_
      rintro e1 w1 ⟨rfl, hb1⟩
      have N1 := Lib.hid (N0.out.below hb1)
      clear hb1
      obtain ⟨⟨x0, x1, x2, x3, x4⟩, ⟨z0, z1, z2, z3, z4⟩, fx, fz⟩ := N1.out.facts
      (try dsimp only at x0 x1 x2 x3 x4)
      go_wp2
      (try simp only [Exit.inBlock, Exit.then])
      refine bodyPost_ret (v := .tuple #[.agg #[.int .i64 0, .int .i64 0, .int .i64 0, .int .i64 0, .int .i64 0], .bool false]) ?_ rfl ⟨rfl, ?_⟩
      · rw [results_cell_tmp rfl]; go_simp
      · (repeat' with_reducible (first | exact N1.out.b | refine Below.setCell ?_ (by dsimp only; omega) _ | refine Below.drew ?_))
  · obtain ⟨q1, q2⟩ := intoT_not (t := t) (fun h => r h.1)
    rw [rightB_not r] at H1
    rw [q1, q2]
    clear q1 q2 r
    go_enter Try.func12, Try.ntmps12
    go_wp2_with fail
    refine (H1.out _).mono ?_
    rintro e1 w1 ⟨rfl, hb1⟩
    have N1 := Lib.hid (N0.out.below hb1)
    clear hb1
    obtain ⟨⟨x0, x1, x2, x3, x4⟩, ⟨z0, z1, z2, z3, z4⟩, fx, fz⟩ := N1.out.facts
    (try dsimp only at x0 x1 x2 x3 x4)
    go_wp2
    (try simp only [Exit.inBlock, Exit.then])
    refine bodyPost_ret (v := .tuple #[.agg #[.int .i64 0, .int .i64 0, .int .i64 0, .int .i64 0, .int .i64 0], .bool false]) ?_ rfl ⟨rfl, ?_⟩
    · rw [results_cell_tmp rfl]; go_simp
    · (repeat' with_reducible (first | exact N1.out.b | refine Below.setCell ?_ (by dsimp only; omega) _ | refine Below.drew ?_))
set_option maxHeartbeats 8000000 in
theorem refstep_any (t : T) (w : World) : Calls Try.prog 16 #[.agg #[.int .i64 t.d, .int .i64 t.e, .int .i64 t.a, .int .i64 t.b, .int .i64 t.c]] w (Gives (.tuple #[.agg #[.int .i64 (stepT t).d, .int .i64 (stepT t).e, .int .i64 (stepT t).a, .int .i64 (stepT t).b, .int .i64 (stepT t).c], .bool (stepB t)]) w) := by
  have N0 := Lib.hid (Box2.new w t)
  have H1 := Lib.hid (refright_any t)
  by_cases r : t.right
  · rw [rightB_of r] at H1
    obtain ⟨d, e, a, b, c⟩ := t
    have r' := r
    unfold T.right at r'
    dsimp only at r'
    obtain ⟨r0, r1, r2, r3, r4, r5, r6, r7, r8, r9, r10, r11, r12⟩ := r'
    have hd : d = 0 ∨ d = 1 ∨ d = 2 ∨ d = 3 := by omega
    clear r0 r1 r2 r3 r10 r11 r12
    obtain rfl | rfl | rfl | rfl := hd
    · obtain ⟨q1, q2⟩ := stepT_not (t := ⟨0, e, a, b, c⟩) (by simp)
      rw [q1, q2]
      clear q1 q2 r r4 r5 r6 r7 r8 r9
      go_enter Try.func16, Try.ntmps16
      go_wp2_with fail
      refine (H1.out _).mono ?_
      rintro e1 w1 ⟨rfl, hb1⟩
      have N1 := Lib.hid (N0.out.below hb1)
      clear hb1
      obtain ⟨⟨x0, x1, x2, x3, x4⟩, ⟨z0, z1, z2, z3, z4⟩, fx, fz⟩ := N1.out.facts
      (try dsimp only at x0 x1 x2 x3 x4)
      go_wp2
      (try simp only [Exit.inBlock, Exit.then])
      refine bodyPost_ret (v := .tuple #[.agg #[.int .i64 0, .int .i64 0, .int .i64 0, .int .i64 0, .int .i64 0], .bool false]) ?_ rfl ⟨rfl, ?_⟩
      · rw [results_cell_tmp rfl]; go_simp
      · (repeat' with_reducible (first | exact N1.out.b | refine Below.setCell ?_ (by dsimp only; omega) _ | refine Below.drew ?_))
    · by_cases g : a < 15
      · obtain ⟨q1, q2⟩ := stepT_of (t := ⟨1, e, a, b, c⟩) ⟨r, by simp, by simpa using g⟩
        have q3 : stepT ⟨1, e, a, b, c⟩ = ⟨1, e, (a + 1), b, c⟩ := by rw [q2]; simp
        rw [q1, q3]
        clear q3
        clear q1 q2 r r6 r7 r8 r9
        go_enter Try.func16, Try.ntmps16
        go_wp2_with fail
        refine (H1.out _).mono ?_
        rintro e1 w1 ⟨rfl, hb1⟩
        have N1 := Lib.hid (N0.out.below hb1)
        clear hb1
        obtain ⟨⟨x0, x1, x2, x3, x4⟩, ⟨z0, z1, z2, z3, z4⟩, fx, fz⟩ := N1.out.facts
        (try dsimp only at x0 x1 x2 x3 x4)
        go_wp2
        (try simp only [Exit.inBlock, Exit.then])
        refine bodyPost_ret (v := .tuple #[.agg #[.int .i64 1, .int .i64 e, .int .i64 (a + 1), .int .i64 b, .int .i64 c], .bool true]) ?_ rfl ⟨rfl, ?_⟩
        · rw [results_cell_tmp rfl]; go_simp
        · (repeat' with_reducible (first | exact N1.out.b | refine Below.setCell ?_ (by dsimp only; omega) _ | refine Below.drew ?_))
      · obtain ⟨q1, q2⟩ := stepT_not (t := ⟨1, e, a, b, c⟩) (by simp; omega)
        rw [q1, q2]
        clear q1 q2 r r6 r7 r8 r9
        go_enter Try.func16, Try.ntmps16
        go_wp2_with fail
        refine (H1.out _).mono ?_
        rintro e1 w1 ⟨rfl, hb1⟩
        have N1 := Lib.hid (N0.out.below hb1)
        clear hb1
        obtain ⟨⟨x0, x1, x2, x3, x4⟩, ⟨z0, z1, z2, z3, z4⟩, fx, fz⟩ := N1.out.facts
        (try dsimp only at x0 x1 x2 x3 x4)
        go_wp2
        (try simp only [Exit.inBlock, Exit.then])
        refine bodyPost_ret (v := .tuple #[.agg #[.int .i64 0, .int .i64 0, .int .i64 0, .int .i64 0, .int .i64 0], .bool false]) ?_ rfl ⟨rfl, ?_⟩
        · rw [results_cell_tmp rfl]; go_simp
        · (repeat' with_reducible (first | exact N1.out.b | refine Below.setCell ?_ (by dsimp only; omega) _ | refine Below.drew ?_))
    · by_cases g : b < 15
      · obtain ⟨q1, q2⟩ := stepT_of (t := ⟨2, e, a, b, c⟩) ⟨r, by simp, by simpa using g⟩
        have q3 : stepT ⟨2, e, a, b, c⟩ = ⟨2, e, a, (b + 1), c⟩ := by rw [q2]; simp
        rw [q1, q3]
        clear q3
        clear q1 q2 r r4 r5 r8 r9
        go_enter Try.func16, Try.ntmps16
        go_wp2_with fail
        refine (H1.out _).mono ?_
        rintro e1 w1 ⟨rfl, hb1⟩
        have N1 := Lib.hid (N0.out.below hb1)
        clear hb1
        obtain ⟨⟨x0, x1, x2, x3, x4⟩, ⟨z0, z1, z2, z3, z4⟩, fx, fz⟩ := N1.out.facts
        (try dsimp only at x0 x1 x2 x3 x4)
        go_wp2
        (try simp only [Exit.inBlock, Exit.then])
        refine bodyPost_ret (v := .tuple #[.agg #[.int .i64 2, .int .i64 e, .int .i64 a, .int .i64 (b + 1), .int .i64 c], .bool true]) ?_ rfl ⟨rfl, ?_⟩
        · rw [results_cell_tmp rfl]; go_simp
        · (repeat' with_reducible (first | exact N1.out.b | refine Below.setCell ?_ (by dsimp only; omega) _ | refine Below.drew ?_))
      · obtain ⟨q1, q2⟩ := stepT_not (t := ⟨2, e, a, b, c⟩) (by simp; omega)
        rw [q1, q2]
        clear q1 q2 r r4 r5 r8 r9
        go_enter Try.func16, Try.ntmps16
        go_wp2_with fail
        refine (H1.out _).mono ?_
        rintro e1 w1 ⟨rfl, hb1⟩
        have N1 := Lib.hid (N0.out.below hb1)
        clear hb1
        obtain ⟨⟨x0, x1, x2, x3, x4⟩, ⟨z0, z1, z2, z3, z4⟩, fx, fz⟩ := N1.out.facts
        (try dsimp only at x0 x1 x2 x3 x4)
        go_wp2
        (try simp only [Exit.inBlock, Exit.then])
        refine bodyPost_ret (v := .tuple #[.agg #[.int .i64 0, .int .i64 0, .int .i64 0, .int .i64 0, .int .i64 0], .bool false]) ?_ rfl ⟨rfl, ?_⟩
        · rw [results_cell_tmp rfl]; go_simp
        · (repeat' with_reducible (first | exact N1.out.b | refine Below.setCell ?_ (by dsimp only; omega) _ | refine Below.drew ?_))
    · by_cases g : c < 15
      · obtain ⟨q1, q2⟩ := stepT_of (t := ⟨3, e, a, b, c⟩) ⟨r, by simp, by simpa using g⟩
        have q3 : stepT ⟨3, e, a, b, c⟩ = ⟨3, e, a, b, (c + 1)⟩ := by rw [q2]; simp
        rw [q1, q3]
        clear q3
        clear q1 q2 r r4 r5 r6 r7
        go_enter Try.func16, Try.ntmps16
        go_wp2_with fail
        refine (H1.out _).mono ?_
        rintro e1 w1 ⟨rfl, hb1⟩
        have N1 := Lib.hid (N0.out.below hb1)
        clear hb1
        obtain ⟨⟨x0, x1, x2, x3, x4⟩, ⟨z0, z1, z2, z3, z4⟩, fx, fz⟩ := N1.out.facts
        (try dsimp only at x0 x1 x2 x3 x4)
        go_wp2
        (try simp only [Exit.inBlock, Exit.then])
        refine bodyPost_ret (v := .tuple #[.agg #[.int .i64 3, .int .i64 e, .int .i64 a, .int .i64 b, .int .i64 (c + 1)], .bool true]) ?_ rfl ⟨rfl, ?_⟩
        · rw [results_cell_tmp rfl]; go_simp
        · (repeat' with_reducible (first | exact N1.out.b | refine Below.setCell ?_ (by dsimp only; omega) _ | refine Below.drew ?_))
      · obtain ⟨q1, q2⟩ := stepT_not (t := ⟨3, e, a, b, c⟩) (by simp; omega)
        rw [q1, q2]
        clear q1 q2 r r4 r5 r6 r7
        go_enter Try.func16, Try.ntmps16
        go_wp2_with fail
        refine (H1.out _).mono ?_
        rintro e1 w1 ⟨rfl, hb1⟩
        have N1 := Lib.hid (N0.out.below hb1)
        clear hb1
        obtain ⟨⟨x0, x1, x2, x3, x4⟩, ⟨z0, z1, z2, z3, z4⟩, fx, fz⟩ := N1.out.facts
        (try dsimp only at x0 x1 x2 x3 x4)
        go_wp2
        (try simp only [Exit.inBlock, Exit.then])
        refine bodyPost_ret (v := .tuple #[.agg #[.int .i64 0, .int .i64 0, .int .i64 0, .int .i64 0, .int .i64 0], .bool false]) ?_ rfl ⟨rfl, ?_⟩
        · rw [results_cell_tmp rfl]; go_simp
        · (repeat' with_reducible (first | exact N1.out.b | refine Below.setCell ?_ (by dsimp only; omega) _ | refine Below.drew ?_))
  · obtain ⟨q1, q2⟩ := stepT_not (t := t) (fun h => r h.1)
    rw [rightB_not r] at H1
    rw [q1, q2]
    clear q1 q2 r
    go_enter Try.func16, Try.ntmps16
    go_wp2_with fail
    refine (H1.out _).mono ?_
    rintro e1 w1 ⟨rfl, hb1⟩
    have N1 := Lib.hid (N0.out.below hb1)
    clear hb1
    obtain ⟨⟨x0, x1, x2, x3, x4⟩, ⟨z0, z1, z2, z3, z4⟩, fx, fz⟩ := N1.out.facts
    (try dsimp only at x0 x1 x2 x3 x4)
    go_wp2
    (try simp only [Exit.inBlock, Exit.then])
    refine bodyPost_ret (v := .tuple #[.agg #[.int .i64 0, .int .i64 0, .int .i64 0, .int .i64 0, .int .i64 0], .bool false]) ?_ rfl ⟨rfl, ?_⟩
    · rw [results_cell_tmp rfl]; go_simp
    · (repeat' with_reducible (first | exact N1.out.b | refine Below.setCell ?_ (by dsimp only; omega) _ | refine Below.drew ?_))
end Go.Proofs.Ytbojefdbkegimaa
