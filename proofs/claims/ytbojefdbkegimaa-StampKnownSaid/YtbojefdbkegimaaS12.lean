/- The statements' works: it returns true. -/
import Derived.Test.YtbojefdbkegimaaRows
import Derived.Test.YtbojefdbkegimaaWords
import Derived.Test.YtbojefdbkegimaaByts
import Derived.Test.YtbojefdbkegimaaS1
import Derived.Test.YtbojefdbkegimaaS2
import Derived.Test.YtbojefdbkegimaaEqs
import Derived.Test.YtbojefdbkegimaaS3
import Derived.Test.YtbojefdbkegimaaS4
import Derived.Test.YtbojefdbkegimaaS6
import Derived.Test.YtbojefdbkegimaaS9
import Derived.Test.YtbojefdbkegimaaS10
import Derived.Test.YtbojefdbkegimaaS11
namespace Go.Proofs.Ytbojefdbkegimaa
open Go.RowKit Go.Proofs.Tail
set_option linter.unusedSimpArgs false
set_option linter.unusedVariables false
def w1T : T := ⟨1, 1, 2, 0, 0⟩
def w2T : T := ⟨1, 2, 1, 0, 0⟩
def wjT : T := ⟨1, 2, 2, 0, 0⟩
def wmT : T := ⟨1, 1, 1, 0, 0⟩
def waT : T := ⟨1, 4, 0, 0, 0⟩
def wbT : T := ⟨1, 4, 1, 0, 0⟩
def wcT : T := ⟨0, 4, 0, 0, 0⟩
def wzT : T := ⟨1, 4, 15, 0, 0⟩
def wpT : T := ⟨1, 258, 7, 0, 0⟩
theorem byts_fresh (w : World) (xs : List Int) (hn : 0 < xs.length) (hm : xs.length ≤ maxLen) : Byts (w.alloc (.cells (byV xs).toArray 5)) (some ⟨w.heap.size, 0, none⟩) xs.length xs.length xs := by
  have h := own_fresh w w.heap.size (Nat.le_refl _) 5 (byV xs) (by rw [byV_length]; exact hm)
  rw [byV_length] at h
  obtain ⟨A, c, h1, h2⟩ := own_bytes h (by unfold maxLen at hm; omega)
  injection h1 with h1 _ h3
  subst h1 h3
  exact h2
theorem wk_same {A A' : Option Addr} {n c n' c' : Nat} {w : World} (hx : Byts w A n c [1, 1, 2, 7]) (hy : Byts w A' n' c' [1, 1, 2, 7]) : Calls Try.prog 32 #[.slice A n c, .slice A' n' c'] w (Tells (.bool true) w) := by
  have hb : InB [1, 1, 2, 7] := by intro x hx; simp at hx; omega
  exact samebytes_any A A' n c n' c' _ _ w hx hy hb hb
theorem wk_join (w : World) : Calls Try.prog 22 #[.agg #[.int .i64 1, .int .i64 1, .int .i64 2, .int .i64 0, .int .i64 0], .agg #[.int .i64 1, .int .i64 2, .int .i64 1, .int .i64 0, .int .i64 0]] w (Gives (.tuple #[.agg #[.int .i64 1, .int .i64 2, .int .i64 2, .int .i64 0, .int .i64 0], .bool true]) w) := by
  have h := join_any w1T w2T w
  rwa [show joinT w1T w2T = wjT by kernel_rfl, show alikeB w1T w2T = true by kernel_rfl] at h
theorem wk_meet (w : World) : Calls Try.prog 24 #[.agg #[.int .i64 1, .int .i64 1, .int .i64 2, .int .i64 0, .int .i64 0], .agg #[.int .i64 1, .int .i64 2, .int .i64 1, .int .i64 0, .int .i64 0]] w (Gives (.tuple #[.agg #[.int .i64 1, .int .i64 1, .int .i64 1, .int .i64 0, .int .i64 0], .bool true]) w) := by
  have h := meet_any w1T w2T w
  rwa [show meetT w1T w2T = wmT by kernel_rfl, show alikeB w1T w2T = true by kernel_rfl] at h
theorem wk_into (w : World) : Calls Try.prog 11 #[.agg #[.int .i64 0, .int .i64 4, .int .i64 0, .int .i64 0, .int .i64 0]] w (Gives (.tuple #[.agg #[.int .i64 1, .int .i64 4, .int .i64 0, .int .i64 0, .int .i64 0], .bool true]) w) := by
  have h := into_any wcT w (by decide) (by decide)
  rwa [show intoT wcT = waT by kernel_rfl, show intoB wcT = true by kernel_rfl] at h
theorem wk_step (w : World) : Calls Try.prog 15 #[.agg #[.int .i64 1, .int .i64 4, .int .i64 0, .int .i64 0, .int .i64 0]] w (Gives (.tuple #[.agg #[.int .i64 1, .int .i64 4, .int .i64 1, .int .i64 0, .int .i64 0], .bool true]) w) := by
  have h := step_any waT w
  rwa [show stepT waT = wbT by kernel_rfl, show stepB waT = true by kernel_rfl] at h
theorem wk_out (w : World) : Calls Try.prog 13 #[.agg #[.int .i64 1, .int .i64 4, .int .i64 1, .int .i64 0, .int .i64 0]] w (Gives (.tuple #[.agg #[.int .i64 0, .int .i64 4, .int .i64 0, .int .i64 0, .int .i64 0], .bool true]) w) := by
  have h := out_any wbT w
  rwa [show outT wbT = wcT by kernel_rfl, show outB wbT = true by kernel_rfl] at h
theorem wk_last (w : World) : Calls Try.prog 15 #[.agg #[.int .i64 1, .int .i64 4, .int .i64 15, .int .i64 0, .int .i64 0]] w (Gives (.tuple #[.agg #[.int .i64 0, .int .i64 0, .int .i64 0, .int .i64 0, .int .i64 0], .bool false]) w) := by
  have h := step_any wzT w
  rwa [show stepT wzT = T0 by kernel_rfl, show stepB wzT = false by kernel_rfl] at h
theorem wk_put (w : World) : Calls Try.prog 17 #[.agg #[.int .i64 1, .int .i64 258, .int .i64 7, .int .i64 0, .int .i64 0]] w (GivesRow [1, 1, 2, 7] 0 w) := by
  have h := put_any wpT w
  rwa [show putL wpT = [1, 1, 2, 7] by kernel_rfl, show putE wpT = 0 by kernel_rfl] at h
theorem wk_leq (w : World) : Calls Try.prog 26 #[.agg #[.int .i64 1, .int .i64 1, .int .i64 2, .int .i64 0, .int .i64 0], .agg #[.int .i64 1, .int .i64 2, .int .i64 1, .int .i64 0, .int .i64 0]] w (Gives (.bool false) w) := by
  have h := leq_any w1T w2T w
  rwa [show leqB w1T w2T = false by kernel_rfl] at h
theorem wk_cmp (w : World) : Calls Try.prog 28 #[.agg #[.int .i64 1, .int .i64 1, .int .i64 2, .int .i64 0, .int .i64 0], .agg #[.int .i64 1, .int .i64 2, .int .i64 1, .int .i64 0, .int .i64 0]] w (Gives (.int .i64 (-1)) w) := by
  have h := cmp_any w1T w2T w
  rwa [show cmpP w1T w2T 3 = -1 by kernel_rfl] at h
theorem wk_leq2 (w : World) : Calls Try.prog 26 #[.agg #[.int .i64 1, .int .i64 1, .int .i64 1, .int .i64 0, .int .i64 0], .agg #[.int .i64 1, .int .i64 1, .int .i64 2, .int .i64 0, .int .i64 0]] w (Gives (.bool true) w) := by
  have h := leq_any wmT w1T w
  rwa [show leqB wmT w1T = true by kernel_rfl] at h
set_option maxRecDepth 100000 in
set_option maxHeartbeats 16000000 in
theorem works_any (w : World) : Calls Try.prog 21 #[] w (Gives (.bool true) w) := by
  have HB := Lib.hid (below_alloc (below_new w (.cells #[.int .i64 w1T.d, .int .i64 w1T.e, .int .i64 w1T.a, .int .i64 w1T.b, .int .i64 w1T.c] 24)) (.cells #[.int .i64 w2T.d, .int .i64 w2T.e, .int .i64 w2T.a, .int .i64 w2T.b, .int .i64 w2T.c] 24))
  have X1 := Lib.hid ((Bx.new w w1T _ rfl).below (below_new _ (.cells #[.int .i64 w2T.d, .int .i64 w2T.e, .int .i64 w2T.a, .int .i64 w2T.b, .int .i64 w2T.c] 24)))
  have X2 := Lib.hid (Bx.new (w.alloc (.cells #[.int .i64 w1T.d, .int .i64 w1T.e, .int .i64 w1T.a, .int .i64 w1T.b, .int .i64 w1T.c] 24)) w2T (w.heap.size + 1) (by simp))
  go_enter Try.func21, Try.ntmps21
  go_wp2_with fail
  (try dsimp only)
  refine (wk_join _).mono ?_
  rintro e1 w1 ⟨rfl, hb1⟩
  have Y1 := Lib.hid (below_then HB.out hb1)
  replace X1 := Lib.hid ((X1.out.below hb1).below (below_new w1 (.cells #[.int .i64 wjT.d, .int .i64 wjT.e, .int .i64 wjT.a, .int .i64 wjT.b, .int .i64 wjT.c] 24)))
  replace X2 := Lib.hid ((X2.out.below hb1).below (below_new w1 (.cells #[.int .i64 wjT.d, .int .i64 wjT.e, .int .i64 wjT.a, .int .i64 wjT.b, .int .i64 wjT.c] 24)))
  have Xj := Lib.hid (Bx.new w1 wjT _ rfl)
  replace HB := Lib.hid (below_alloc Y1.out (.cells #[.int .i64 wjT.d, .int .i64 wjT.e, .int .i64 wjT.a, .int .i64 wjT.b, .int .i64 wjT.c] 24))
  clear hb1 Y1
  obtain ⟨p0, p1, p2, p3, p4⟩ := X1.out.cells
  dsimp only [w1T, w2T, wjT, wmT, waT, wbT, wcT, T0] at p0 p1 p2 p3 p4
  obtain ⟨q0, q1, q2, q3, q4⟩ := X2.out.cells
  dsimp only [w1T, w2T, wjT, wmT, waT, wbT, wcT, T0] at q0 q1 q2 q3 q4
  go_wp2_with fail
  (try dsimp only)
  clear p0 p1 p2 p3 p4 q0 q1 q2 q3 q4
  refine (wk_meet _).mono ?_
  rintro e2 w2 ⟨rfl, hb2⟩
  have Y2 := Lib.hid (below_then HB.out hb2)
  replace X1 := Lib.hid ((X1.out.below hb2).below (below_new w2 (.cells #[.int .i64 wmT.d, .int .i64 wmT.e, .int .i64 wmT.a, .int .i64 wmT.b, .int .i64 wmT.c] 24)))
  replace X2 := Lib.hid ((X2.out.below hb2).below (below_new w2 (.cells #[.int .i64 wmT.d, .int .i64 wmT.e, .int .i64 wmT.a, .int .i64 wmT.b, .int .i64 wmT.c] 24)))
  replace Xj := Lib.hid ((Xj.out.below hb2).below (below_new w2 (.cells #[.int .i64 wmT.d, .int .i64 wmT.e, .int .i64 wmT.a, .int .i64 wmT.b, .int .i64 wmT.c] 24)))
  have Xm := Lib.hid (Bx.new w2 wmT _ rfl)
  replace HB := Lib.hid (below_alloc Y2.out (.cells #[.int .i64 wmT.d, .int .i64 wmT.e, .int .i64 wmT.a, .int .i64 wmT.b, .int .i64 wmT.c] 24))
  clear hb2 Y2
  go_wp2_with fail
  (try dsimp only)
  refine (wk_into _).mono ?_
  rintro e3 w3 ⟨rfl, hb3⟩
  have Y3 := Lib.hid (below_then HB.out hb3)
  replace X1 := Lib.hid ((X1.out.below hb3).below (below_new w3 (.cells #[.int .i64 waT.d, .int .i64 waT.e, .int .i64 waT.a, .int .i64 waT.b, .int .i64 waT.c] 24)))
  replace X2 := Lib.hid ((X2.out.below hb3).below (below_new w3 (.cells #[.int .i64 waT.d, .int .i64 waT.e, .int .i64 waT.a, .int .i64 waT.b, .int .i64 waT.c] 24)))
  replace Xj := Lib.hid ((Xj.out.below hb3).below (below_new w3 (.cells #[.int .i64 waT.d, .int .i64 waT.e, .int .i64 waT.a, .int .i64 waT.b, .int .i64 waT.c] 24)))
  replace Xm := Lib.hid ((Xm.out.below hb3).below (below_new w3 (.cells #[.int .i64 waT.d, .int .i64 waT.e, .int .i64 waT.a, .int .i64 waT.b, .int .i64 waT.c] 24)))
  have Xa := Lib.hid (Bx.new w3 waT _ rfl)
  replace HB := Lib.hid (below_alloc Y3.out (.cells #[.int .i64 waT.d, .int .i64 waT.e, .int .i64 waT.a, .int .i64 waT.b, .int .i64 waT.c] 24))
  clear hb3 Y3
  go_wp2_with fail
  (try dsimp only)
  refine (wk_step _).mono ?_
  rintro e4 w4 ⟨rfl, hb4⟩
  have Y4 := Lib.hid (below_then HB.out hb4)
  replace X1 := Lib.hid ((X1.out.below hb4).below (below_new w4 (.cells #[.int .i64 wbT.d, .int .i64 wbT.e, .int .i64 wbT.a, .int .i64 wbT.b, .int .i64 wbT.c] 24)))
  replace X2 := Lib.hid ((X2.out.below hb4).below (below_new w4 (.cells #[.int .i64 wbT.d, .int .i64 wbT.e, .int .i64 wbT.a, .int .i64 wbT.b, .int .i64 wbT.c] 24)))
  replace Xj := Lib.hid ((Xj.out.below hb4).below (below_new w4 (.cells #[.int .i64 wbT.d, .int .i64 wbT.e, .int .i64 wbT.a, .int .i64 wbT.b, .int .i64 wbT.c] 24)))
  replace Xm := Lib.hid ((Xm.out.below hb4).below (below_new w4 (.cells #[.int .i64 wbT.d, .int .i64 wbT.e, .int .i64 wbT.a, .int .i64 wbT.b, .int .i64 wbT.c] 24)))
  replace Xa := Lib.hid ((Xa.out.below hb4).below (below_new w4 (.cells #[.int .i64 wbT.d, .int .i64 wbT.e, .int .i64 wbT.a, .int .i64 wbT.b, .int .i64 wbT.c] 24)))
  have Xb := Lib.hid (Bx.new w4 wbT _ rfl)
  replace HB := Lib.hid (below_alloc Y4.out (.cells #[.int .i64 wbT.d, .int .i64 wbT.e, .int .i64 wbT.a, .int .i64 wbT.b, .int .i64 wbT.c] 24))
  clear hb4 Y4
  go_wp2_with fail
  (try dsimp only)
  refine (wk_out _).mono ?_
  rintro e5 w5 ⟨rfl, hb5⟩
  have Y5 := Lib.hid (below_then HB.out hb5)
  replace X1 := Lib.hid ((X1.out.below hb5).below (below_new w5 (.cells #[.int .i64 wcT.d, .int .i64 wcT.e, .int .i64 wcT.a, .int .i64 wcT.b, .int .i64 wcT.c] 24)))
  replace X2 := Lib.hid ((X2.out.below hb5).below (below_new w5 (.cells #[.int .i64 wcT.d, .int .i64 wcT.e, .int .i64 wcT.a, .int .i64 wcT.b, .int .i64 wcT.c] 24)))
  replace Xj := Lib.hid ((Xj.out.below hb5).below (below_new w5 (.cells #[.int .i64 wcT.d, .int .i64 wcT.e, .int .i64 wcT.a, .int .i64 wcT.b, .int .i64 wcT.c] 24)))
  replace Xm := Lib.hid ((Xm.out.below hb5).below (below_new w5 (.cells #[.int .i64 wcT.d, .int .i64 wcT.e, .int .i64 wcT.a, .int .i64 wcT.b, .int .i64 wcT.c] 24)))
  replace Xa := Lib.hid ((Xa.out.below hb5).below (below_new w5 (.cells #[.int .i64 wcT.d, .int .i64 wcT.e, .int .i64 wcT.a, .int .i64 wcT.b, .int .i64 wcT.c] 24)))
  replace Xb := Lib.hid ((Xb.out.below hb5).below (below_new w5 (.cells #[.int .i64 wcT.d, .int .i64 wcT.e, .int .i64 wcT.a, .int .i64 wcT.b, .int .i64 wcT.c] 24)))
  have Xc := Lib.hid (Bx.new w5 wcT _ rfl)
  replace HB := Lib.hid (below_alloc Y5.out (.cells #[.int .i64 wcT.d, .int .i64 wcT.e, .int .i64 wcT.a, .int .i64 wcT.b, .int .i64 wcT.c] 24))
  clear hb5 Y5
  go_wp2_with fail
  (try dsimp only)
  refine (wk_last _).mono ?_
  rintro e6 w6 ⟨rfl, hb6⟩
  have Y6 := Lib.hid (below_then HB.out hb6)
  replace X1 := Lib.hid ((X1.out.below hb6).below (below_new w6 (.cells #[.int .i64 T0.d, .int .i64 T0.e, .int .i64 T0.a, .int .i64 T0.b, .int .i64 T0.c] 24)))
  replace X2 := Lib.hid ((X2.out.below hb6).below (below_new w6 (.cells #[.int .i64 T0.d, .int .i64 T0.e, .int .i64 T0.a, .int .i64 T0.b, .int .i64 T0.c] 24)))
  replace Xj := Lib.hid ((Xj.out.below hb6).below (below_new w6 (.cells #[.int .i64 T0.d, .int .i64 T0.e, .int .i64 T0.a, .int .i64 T0.b, .int .i64 T0.c] 24)))
  replace Xm := Lib.hid ((Xm.out.below hb6).below (below_new w6 (.cells #[.int .i64 T0.d, .int .i64 T0.e, .int .i64 T0.a, .int .i64 T0.b, .int .i64 T0.c] 24)))
  replace Xa := Lib.hid ((Xa.out.below hb6).below (below_new w6 (.cells #[.int .i64 T0.d, .int .i64 T0.e, .int .i64 T0.a, .int .i64 T0.b, .int .i64 T0.c] 24)))
  replace Xb := Lib.hid ((Xb.out.below hb6).below (below_new w6 (.cells #[.int .i64 T0.d, .int .i64 T0.e, .int .i64 T0.a, .int .i64 T0.b, .int .i64 T0.c] 24)))
  replace Xc := Lib.hid ((Xc.out.below hb6).below (below_new w6 (.cells #[.int .i64 T0.d, .int .i64 T0.e, .int .i64 T0.a, .int .i64 T0.b, .int .i64 T0.c] 24)))
  have Xz := Lib.hid (Bx.new w6 T0 _ rfl)
  replace HB := Lib.hid (below_alloc Y6.out (.cells #[.int .i64 T0.d, .int .i64 T0.e, .int .i64 T0.a, .int .i64 T0.b, .int .i64 T0.c] 24))
  clear hb6 Y6
  go_wp2_with fail
  (try dsimp only)
  refine (wk_put _).mono ?_
  rintro e7 w7 ⟨v7, rfl, ho7, hb7⟩
  obtain ⟨A7, c7, rfl, hB7⟩ := own_bytes ho7 (by decide)
  have HY := Lib.hid (hB7.below RByte.stays (below_new w7 (.cells #[.int .u8 1, .int .u8 1, .int .u8 2, .int .u8 7] 5)))
  have HZ := Lib.hid (byts_fresh w7 [1, 1, 2, 7] (by simp) (by simp [maxLen]))
  have HB7 := Lib.hid (below_then HB.out hb7)
  replace HB := Lib.hid (below_alloc HB7.out (.cells #[.int .u8 1, .int .u8 1, .int .u8 2, .int .u8 7] 5))
  replace X1 := Lib.hid (X1.out.below hb7)
  replace X2 := Lib.hid (X2.out.below hb7)
  replace Xj := Lib.hid (Xj.out.below hb7)
  replace Xm := Lib.hid (Xm.out.below hb7)
  replace Xa := Lib.hid (Xa.out.below hb7)
  replace Xb := Lib.hid (Xb.out.below hb7)
  replace Xc := Lib.hid (Xc.out.below hb7)
  clear hb7 ho7 hB7
  obtain ⟨j0, j1, j2, j3, j4⟩ := Xj.out.cells
  dsimp only [w1T, w2T, wjT, wmT, waT, wbT, wcT, T0] at j0 j1 j2 j3 j4
  clear j0 j3 j4
  obtain ⟨m0, m1, m2, m3, m4⟩ := Xm.out.cells
  dsimp only [w1T, w2T, wjT, wmT, waT, wbT, wcT, T0] at m0 m1 m2 m3 m4
  clear m0 m3 m4
  obtain ⟨a0, a1, a2, a3, a4⟩ := Xa.out.cells
  dsimp only [w1T, w2T, wjT, wmT, waT, wbT, wcT, T0] at a0 a1 a2 a3 a4
  clear a1 a2 a3 a4
  obtain ⟨b0, b1, b2, b3, b4⟩ := Xb.out.cells
  dsimp only [w1T, w2T, wjT, wmT, waT, wbT, wcT, T0] at b0 b1 b2 b3 b4
  clear b0 b1 b3 b4
  obtain ⟨c0, c1, c2, c3, c4⟩ := Xc.out.cells
  dsimp only [w1T, w2T, wjT, wmT, waT, wbT, wcT, T0] at c0 c1 c2 c3 c4
  replace X1 := Lib.hid (X1.out.below (below_new w7 (.cells #[.int .u8 1, .int .u8 1, .int .u8 2, .int .u8 7] 5)))
  replace X2 := Lib.hid (X2.out.below (below_new w7 (.cells #[.int .u8 1, .int .u8 1, .int .u8 2, .int .u8 7] 5)))
  replace Xm := Lib.hid (Xm.out.below (below_new w7 (.cells #[.int .u8 1, .int .u8 1, .int .u8 2, .int .u8 7] 5)))
  obtain ⟨p0, p1, p2, p3, p4⟩ := X1.out.cells
  dsimp only [w1T, w2T, wjT, wmT, waT, wbT, wcT, T0] at p0 p1 p2 p3 p4
  obtain ⟨q0, q1, q2, q3, q4⟩ := X2.out.cells
  dsimp only [w1T, w2T, wjT, wmT, waT, wbT, wcT, T0] at q0 q1 q2 q3 q4
  go_wp2_with fail
  (try dsimp only)
  refine (wk_same HY.out HZ.out).mono ?_
  rintro e8 w8 ⟨rfl, rfl⟩
  go_wp2_with fail
  (try dsimp only)
  refine (wk_leq _).mono ?_
  rintro e9 w9 ⟨rfl, hb9⟩
  clear p0 p1 p2 p3 p4 q0 q1 q2 q3 q4 j1 j2 m1 m2 a0 b2 c0 c1 c2 c3 c4
  replace X1 := Lib.hid (X1.out.below hb9)
  replace X2 := Lib.hid (X2.out.below hb9)
  replace Xm := Lib.hid (Xm.out.below hb9)
  replace HB := Lib.hid (below_then HB.out hb9)
  clear hb9
  obtain ⟨p0, p1, p2, p3, p4⟩ := X1.out.cells
  dsimp only [w1T, w2T, wjT, wmT, waT, wbT, wcT, T0] at p0 p1 p2 p3 p4
  obtain ⟨q0, q1, q2, q3, q4⟩ := X2.out.cells
  dsimp only [w1T, w2T, wjT, wmT, waT, wbT, wcT, T0] at q0 q1 q2 q3 q4
  go_wp2_with fail
  (try dsimp only)
  refine (wk_cmp _).mono ?_
  rintro e10 w10 ⟨rfl, hb10⟩
  clear p0 p1 p2 p3 p4 q0 q1 q2 q3 q4
  replace X1 := Lib.hid (X1.out.below hb10)
  replace Xm := Lib.hid (Xm.out.below hb10)
  replace HB := Lib.hid (below_then HB.out hb10)
  clear hb10
  obtain ⟨p0, p1, p2, p3, p4⟩ := X1.out.cells
  dsimp only [w1T, w2T, wjT, wmT, waT, wbT, wcT, T0] at p0 p1 p2 p3 p4
  obtain ⟨m0, m1, m2, m3, m4⟩ := Xm.out.cells
  dsimp only [w1T, w2T, wjT, wmT, waT, wbT, wcT, T0] at m0 m1 m2 m3 m4
  go_wp2_with fail
  (try dsimp only)
  refine (wk_leq2 _).mono ?_
  rintro e11 w11 ⟨rfl, hb11⟩
  have HE := Lib.hid (below_then HB.out hb11)
  clear hb11 p0 p1 p2 p3 p4 m0 m1 m2 m3 m4
  go_wp2
  go_ret
  exact .bool rfl HE.out
end Go.Proofs.Ytbojefdbkegimaa
