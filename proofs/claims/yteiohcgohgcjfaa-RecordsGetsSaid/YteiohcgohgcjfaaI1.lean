/- The reference's Same. -/
import Derived.Test.YteiohcgohgcjfaaRows
import Derived.IntWalk
import Derived.Test.YteiohcgohgcjfaaWords
import Derived.Test.YteiohcgohgcjfaaByts
import Derived.Test.YteiohcgohgcjfaaFrame
import Derived.Test.YteiohcgohgcjfaaElems
import Derived.Test.YteiohcgohgcjfaaS1
import Derived.Test.YteiohcgohgcjfaaS2
import Derived.Test.YteiohcgohgcjfaaEqs
import Derived.Test.YteiohcgohgcjfaaD1
import Derived.Test.YteiohcgohgcjfaaD5
import Derived.Test.YteiohcgohgcjfaaB0
namespace Go.Proofs.Yteiohcgohgcjfaa
open Go Go.RowKit Go.Proofs.Tail
set_option linter.unusedSimpArgs false
set_option linter.unusedVariables false
attribute [local go_sem high] eq_rec eq_upd
set_option maxRecDepth 100000 in
set_option maxHeartbeats 16000000 in
theorem refsame_any (a b : Msg) (A1 B1 A2 B2 : Option Addr) (c1 d1 c2 d2 : Nat) (w : World) (ha : Mg w a A1 c1 B1 d1) (hb : Mg w b A2 c2 B2 d2) :
    Calls Try.prog 16 #[.agg (a.cs A1 c1 B1 d1).toArray, .agg (b.cs A2 c2 B2 d2).toArray] w (Gives (.bool (sameB a b)) w) := by
  obtain ⟨w1, hw1⟩ : ∃ w1, w1 = w.alloc (.cells (a.cs A1 c1 B1 d1).toArray 34) := ⟨_, rfl⟩
  obtain ⟨w2, hw2⟩ : ∃ w2, w2 = w1.alloc (.cells (b.cs A2 c2 B2 d2).toArray 34) := ⟨_, rfl⟩
  have s1 : w1.heap.size = w.heap.size + 1 := by rw [hw1]; simp
  have hb1 : Below w.heap.size w w1 := by rw [hw1]; exact below_new w _
  have hb2 : Below w1.heap.size w1 w2 := by rw [hw2]; exact below_new w1 _
  have hx1 : Blk w1 w.heap.size (a.cs A1 c1 B1 d1) 34 := by rw [hw1]; exact Blk.new w _ _ _ rfl
  have hx2 : Blk w2 (w.heap.size + 1) (b.cs A2 c2 B2 d2) 34 := by rw [hw2]; exact Blk.new w1 _ _ _ s1
  have HA := Lib.hid ((ha.below hb1).below hb2)
  have HB := Lib.hid ((hb.below hb1).below hb2)
  have HBB := Lib.hid (below_then hb1 hb2)
  have LA := Lib.hid (show ∀ W, Below w2.heap.size w2 W → ∀ o, W.cell? ⟨w.heap.size, o, none⟩ = (Mb.cs ⟨0, a, A1, c1, B1, d1⟩)[o]? from fun W hW o => by rw [((hx1.then hb2).then hW).cell, Mb.cs, ← Msg.cs_eq]; simp)
  have LB := Lib.hid (show ∀ W, Below w2.heap.size w2 W → ∀ o, W.cell? ⟨w.heap.size + 1, o, none⟩ = (Mb.cs ⟨0, b, A2, c2, B2, d2⟩)[o]? from fun W hW o => by rw [(hx2.then hW).cell, Mb.cs, ← Msg.cs_eq]; simp)
  have la := LA.out w2 (Below.refl _ _)
  have lb := LB.out w2 (Below.refl _ _)
  dsimp only [Mb.cs] at la lb
  have e1 := hw1.symm
  have e2 := hw2.symm
  rw [Msg.cs_eq] at e1 e2
  rw [Msg.cs_eq, Msg.cs_eq]
  have HS := Lib.hid (show sameB a b = true ↔ a = b from sameB_iff)
  clear ha hb hb1 hb2 hx1 hx2 hw1 hw2
  by_cases h0 : a.k = b.k
  rotate_left
  · have g0 : (a.k != b.k) = true := by simpa using h0
    have HN := Lib.hid (show sameB a b = false from Bool.eq_false_iff.2 fun h9 => by have h := HS.out.1 h9; exact h0 (by rw [h]))
    clear h0
    go_enter Try.func16, Try.ntmps16
    go_wp2_with fail
    go_ret
    exact .bool (by rw [HN.out]) HBB.out
  have g0 : (a.k != b.k) = false := by rw [bne_eq_false_iff_eq]; rw [h0]
  have K0 := Lib.hid h0
  clear h0
  by_cases h0 : a.f = b.f
  rotate_left
  · have g1 : (a.f != b.f) = true := by simpa using h0
    have HN := Lib.hid (show sameB a b = false from Bool.eq_false_iff.2 fun h9 => by have h := HS.out.1 h9; exact h0 (by rw [h]))
    clear h0
    go_enter Try.func16, Try.ntmps16
    go_wp2_with fail
    go_ret
    exact .bool (by rw [HN.out]) HBB.out
  have g1 : (a.f != b.f) = false := by rw [bne_eq_false_iff_eq]; rw [h0]
  have K1 := Lib.hid h0
  clear h0
  by_cases h0 : a.t = b.t
  rotate_left
  · have g2 : (a.t != b.t) = true := by simpa using h0
    have HN := Lib.hid (show sameB a b = false from Bool.eq_false_iff.2 fun h9 => by have h := HS.out.1 h9; exact h0 (by rw [h]))
    clear h0
    go_enter Try.func16, Try.ntmps16
    go_wp2_with fail
    go_ret
    exact .bool (by rw [HN.out]) HBB.out
  have g2 : (a.t != b.t) = false := by rw [bne_eq_false_iff_eq]; rw [h0]
  have K2 := Lib.hid h0
  clear h0
  by_cases h0 : a.i = b.i
  rotate_left
  · have g3 : (a.i != b.i) = true := by simpa using h0
    have HN := Lib.hid (show sameB a b = false from Bool.eq_false_iff.2 fun h9 => by have h := HS.out.1 h9; exact h0 (by rw [h]))
    clear h0
    go_enter Try.func16, Try.ntmps16
    go_wp2_with fail
    go_ret
    exact .bool (by rw [HN.out]) HBB.out
  have g3 : (a.i != b.i) = false := by rw [bne_eq_false_iff_eq]; rw [h0]
  have K3 := Lib.hid h0
  clear h0
  by_cases h0 : a.q = b.q
  rotate_left
  · have g4 : (a.q != b.q) = true := by simpa using h0
    have HN := Lib.hid (show sameB a b = false from Bool.eq_false_iff.2 fun h9 => by have h := HS.out.1 h9; exact h0 (by rw [h]))
    clear h0
    go_enter Try.func16, Try.ntmps16
    go_wp2_with fail
    go_ret
    exact .bool (by rw [HN.out]) HBB.out
  have g4 : (a.q != b.q) = false := by rw [bne_eq_false_iff_eq]; rw [h0]
  have K4 := Lib.hid h0
  clear h0
  by_cases h0 : T.eqB ⟨a.s.d, a.s.e, a.s.a, a.s.b, a.s.c⟩ ⟨b.s.d, b.s.e, b.s.a, b.s.b, b.s.c⟩ = true
  rotate_left
  · have g5 : T.eqB ⟨a.s.d, a.s.e, a.s.a, a.s.b, a.s.c⟩ ⟨b.s.d, b.s.e, b.s.a, b.s.b, b.s.c⟩ = false := by simpa using h0
    have HN := Lib.hid (show sameB a b = false from Bool.eq_false_iff.2 fun h9 => by have h := HS.out.1 h9; exact h0 (T.eqB_iff.2 (by rw [h])))
    clear h0
    go_enter Try.func16, Try.ntmps16
    go_wp2_with fail
    go_ret
    exact .bool (by rw [HN.out]) HBB.out
  have g5 := h0
  have K5 := Lib.hid h0
  clear h0
  by_cases h0 : a.L.length = b.L.length
  rotate_left
  · have g6 : ((a.L.length : Int) != b.L.length) = true := by simpa using fun h => h0 (by omega)
    have HN := Lib.hid (show sameB a b = false from Bool.eq_false_iff.2 fun h9 => by have h := HS.out.1 h9; exact h0 (by rw [h]))
    clear h0
    go_enter Try.func16, Try.ntmps16
    go_wp2_with fail
    go_ret
    exact .bool (by rw [HN.out]) HBB.out
  have g6 : ((a.L.length : Int) != b.L.length) = false := by rw [bne_eq_false_iff_eq]; omega
  have K6 := Lib.hid h0
  clear h0
  by_cases h0 : a.U.length = b.U.length
  rotate_left
  · have g7 : ((a.U.length : Int) != b.U.length) = true := by simpa using fun h => h0 (by omega)
    have HN := Lib.hid (show sameB a b = false from Bool.eq_false_iff.2 fun h9 => by have h := HS.out.1 h9; exact h0 (by rw [h]))
    clear h0
    go_enter Try.func16, Try.ntmps16
    go_wp2_with fail
    go_ret
    exact .bool (by rw [HN.out]) HBB.out
  have g7 : ((a.U.length : Int) != b.U.length) = false := by rw [bne_eq_false_iff_eq]; omega
  have K7 := Lib.hid h0
  clear h0
  have H0 := Lib.hid (show a.L.take 0 = b.L.take 0 from rfl)
  have HB0 := Lib.hid (Below.refl w2.heap.size w2)
  have bg1 := HA.out.l.big
  have bg2 := HA.out.u.big
  go_enter Try.func16, Try.ntmps16
  go_wp2_with fail
  clear la lb e1 e2 g0 g1 g2 g3 g4 g5 g6 g7
  go_loopw [5] (fun i wr => ∃ k : Nat, k ≤ a.L.length ∧ i = .int .i64 k ∧ Hid (a.L.take k = b.L.take k) ∧ Hid (Below w2.heap.size w2 wr)) (fun i _ => a.L.length - (intOf i).toNat)
  case atStart => exact ⟨0, Nat.zero_le _, rfl, H0, HB0⟩
  case round =>
    clear H0 HB0
    obtain ⟨k, hk, rfl, HT, HBW⟩ := hrel
    have la := LA.out wr HBW.out
    have lb := LB.out wr HBW.out
    dsimp only [Mb.cs] at la lb
    by_cases hlt : k < a.L.length
    · have hd : decide ((k : Int) < a.L.length) = true := decide_eq_true (by omega)
      have hd' : decide (k < a.L.length) = true := decide_eq_true (by omega)
      have hk0 : (0 : Int) ≤ k := by omega
      have hkn : (k : Int) < a.L.length := by omega
      have hkm : (k : Int) < b.L.length := by have := K6.out; omega
      obtain ⟨b1, o1, x, hA1, ex, rx⟩ := HA.out.l.elem hlt
      obtain ⟨b2, o2, y, hA2, ey, ry⟩ := HB.out.l.elem (show k < b.L.length by have := K6.out; omega)
      subst hA1; subst hA2
      have rx2 := RRec.stays _ _ _ _ _ HBW.out rx
      have ry2 := RRec.stays _ _ _ _ _ HBW.out ry
      have HE := Lib.hid (And.intro ex ey)
      have p0 := fun p : After wr => LA.out p.val (below_then HBW.out p.below)
      have p1 := fun p : After wr => LB.out p.val (below_then HBW.out p.below)
      dsimp only [Mb.cs] at p0 p1
      have x0 := fun p : After wr => cell_after rx2.1 p
      have y0 := fun p : After wr => cell_after ry2.1 p
      have x1 := fun p : After wr => cell_after rx2.2 p
      have y1 := fun p : After wr => cell_after ry2.2 p
      clear rx ry rx2 ry2 ex ey
      by_cases hxy : recB x.1 x.2 y.1 y.2 = true
      · have HN := Lib.hid (show a.L.take (k + 1) = b.L.take (k + 1) by
          have e : x = y := recB_iff.1 hxy
          rw [List.take_add_one, List.take_add_one, HT.out, HE.out.1, HE.out.2, e])
        go_wp2_with fail
        refine quiet_after (by kernel_rfl) (by kernel_rfl) ?_
        repeat (first | go_big_quiet_step (fail) | quiet_step (fail))
        refine wpQuiet_nil ?_
        intro wz hw'
        obtain ⟨p, rfl⟩ := hw'
        obtain ⟨w5, hbq⟩ := p
        dsimp only
        have HB5 := Lib.hid (below_then HBW.out hbq)
        clear hbq p0 p1 la lb x0 y0 x1 y1
        go_wp2_with fail
        go_roundw
        case rel => exact ⟨k + 1, by omega, by go_num, HN, HB5⟩
        case measure => simp [intOf]; omega
      · have hxy' : recB x.1 x.2 y.1 y.2 = false := by simpa using hxy
        have HN := Lib.hid (show sameB a b = false from Bool.eq_false_iff.2 fun h9 => hxy (recB_iff.2 (by
          have h := HS.out.1 h9
          have h1 := HE.out.1
          rw [h, HE.out.2] at h1
          injection h1 with h1
          exact h1.symm)))
        clear hxy
        go_wp2_with fail
        refine quiet_after (by kernel_rfl) (by kernel_rfl) ?_
        repeat (first | go_big_quiet_step (fail) | quiet_step (fail))
        refine wpQuiet_nil ?_
        intro wz hw'
        obtain ⟨p, rfl⟩ := hw'
        obtain ⟨w5, hbq⟩ := p
        dsimp only
        have HB5 := Lib.hid (below_then HBW.out hbq)
        clear hbq p0 p1 la lb x0 y0 x1 y1
        go_wp2_with fail
        go_ret
        exact .bool (by rw [HN.out]) (below_then HBB.out HB5.out)
    · have hd : decide ((k : Int) < a.L.length) = false := decide_eq_false (by omega)
      have hd' : decide (k < a.L.length) = false := decide_eq_false (by omega)
      have hke : k = a.L.length := by omega
      have EL := Lib.hid (show a.L = b.L by
        have h1 := HT.out
        rw [hke, List.take_length, K6.out, List.take_length] at h1
        exact h1)
      clear hke
      have H0 := Lib.hid (show a.U.take 0 = b.U.take 0 from rfl)
      have HB0 := HBW
      go_wp2_with fail
      clear la lb hd hd' hlt hk HT HBW
      go_loopw [6] (fun i wr => ∃ k : Nat, k ≤ a.U.length ∧ i = .int .i64 k ∧ Hid (a.U.take k = b.U.take k) ∧ Hid (Below w2.heap.size w2 wr)) (fun i _ => a.U.length - (intOf i).toNat)
      case atStart => exact ⟨0, Nat.zero_le _, rfl, H0, HB0⟩
      case round =>
        clear H0 HB0
        obtain ⟨k, hk, rfl, HT, HBW⟩ := hrel
        have la := LA.out wr HBW.out
        have lb := LB.out wr HBW.out
        dsimp only [Mb.cs] at la lb
        by_cases hlt : k < a.U.length
        · have hd : decide ((k : Int) < a.U.length) = true := decide_eq_true (by omega)
          have hd' : decide (k < a.U.length) = true := decide_eq_true (by omega)
          have hk0 : (0 : Int) ≤ k := by omega
          have hkn : (k : Int) < a.U.length := by omega
          have hkm : (k : Int) < b.U.length := by have := K7.out; omega
          obtain ⟨b1, o1, x, hA1, ex, rx⟩ := HA.out.u.elem hlt
          obtain ⟨b2, o2, y, hA2, ey, ry⟩ := HB.out.u.elem (show k < b.U.length by have := K7.out; omega)
          subst hA1; subst hA2
          have rx2 := RUpd.stays _ _ _ _ _ HBW.out rx
          have ry2 := RUpd.stays _ _ _ _ _ HBW.out ry
          have HE := Lib.hid (And.intro ex ey)
          have p0 := fun p : After wr => LA.out p.val (below_then HBW.out p.below)
          have p1 := fun p : After wr => LB.out p.val (below_then HBW.out p.below)
          dsimp only [Mb.cs] at p0 p1
          have x0 := fun p : After wr => cell_after rx2.c0 p
          have y0 := fun p : After wr => cell_after ry2.c0 p
          have x1 := fun p : After wr => cell_after rx2.c1 p
          have y1 := fun p : After wr => cell_after ry2.c1 p
          have x2 := fun p : After wr => cell_after rx2.c2 p
          have y2 := fun p : After wr => cell_after ry2.c2 p
          have x3 := fun p : After wr => cell_after rx2.c3 p
          have y3 := fun p : After wr => cell_after ry2.c3 p
          have x4 := fun p : After wr => cell_after rx2.c4 p
          have y4 := fun p : After wr => cell_after ry2.c4 p
          have x5 := fun p : After wr => cell_after rx2.c5 p
          have y5 := fun p : After wr => cell_after ry2.c5 p
          have x6 := fun p : After wr => cell_after rx2.c6 p
          have y6 := fun p : After wr => cell_after ry2.c6 p
          have x7 := fun p : After wr => cell_after rx2.c7 p
          have y7 := fun p : After wr => cell_after ry2.c7 p
          clear rx ry rx2 ry2 ex ey
          by_cases hxy : Upd.eqB ⟨x.n, x.h, ⟨x.s.d, x.s.e, x.s.a, x.s.b, x.s.c⟩, x.m⟩ ⟨y.n, y.h, ⟨y.s.d, y.s.e, y.s.a, y.s.b, y.s.c⟩, y.m⟩ = true
          · have HN := Lib.hid (show a.U.take (k + 1) = b.U.take (k + 1) by
              have e : x = y := Upd.eqB_iff.1 hxy
              rw [List.take_add_one, List.take_add_one, HT.out, HE.out.1, HE.out.2, e])
            go_wp2_with fail
            refine quiet_after (by kernel_rfl) (by kernel_rfl) ?_
            repeat (first | go_big_quiet_step (fail) | quiet_step (fail))
            refine wpQuiet_nil ?_
            intro wz hw'
            obtain ⟨p, rfl⟩ := hw'
            obtain ⟨w5, hbq⟩ := p
            dsimp only
            have HB5 := Lib.hid (below_then HBW.out hbq)
            clear hbq p0 p1 la lb x0 y0 x1 y1 x2 y2 x3 y3 x4 y4 x5 y5 x6 y6 x7 y7
            go_wp2_with fail
            go_roundw
            case rel => exact ⟨k + 1, by omega, by go_num, HN, HB5⟩
            case measure => simp [intOf]; omega
          · have hxy' : Upd.eqB ⟨x.n, x.h, ⟨x.s.d, x.s.e, x.s.a, x.s.b, x.s.c⟩, x.m⟩ ⟨y.n, y.h, ⟨y.s.d, y.s.e, y.s.a, y.s.b, y.s.c⟩, y.m⟩ = false := by simpa using hxy
            have HN := Lib.hid (show sameB a b = false from Bool.eq_false_iff.2 fun h9 => hxy (Upd.eqB_iff.2 (by
              have h := HS.out.1 h9
              have h1 := HE.out.1
              rw [h, HE.out.2] at h1
              injection h1 with h1
              exact h1.symm)))
            clear hxy
            go_wp2_with fail
            refine quiet_after (by kernel_rfl) (by kernel_rfl) ?_
            repeat (first | go_big_quiet_step (fail) | quiet_step (fail))
            refine wpQuiet_nil ?_
            intro wz hw'
            obtain ⟨p, rfl⟩ := hw'
            obtain ⟨w5, hbq⟩ := p
            dsimp only
            have HB5 := Lib.hid (below_then HBW.out hbq)
            clear hbq p0 p1 la lb x0 y0 x1 y1 x2 y2 x3 y3 x4 y4 x5 y5 x6 y6 x7 y7
            go_wp2_with fail
            go_ret
            exact .bool (by rw [HN.out]) (below_then HBB.out HB5.out)
        · have hd : decide ((k : Int) < a.U.length) = false := decide_eq_false (by omega)
          have hd' : decide (k < a.U.length) = false := decide_eq_false (by omega)
          have hke : k = a.U.length := by omega
          have EU := Lib.hid (show a.U = b.U by
            have h1 := HT.out
            rw [hke, List.take_length, K7.out, List.take_length] at h1
            exact h1)
          clear hke
          have HN := Lib.hid (show sameB a b = true from HS.out.2 (by
            have q5 := T.eqB_iff.1 K5.out
            obtain ⟨k1, f1, t1, i1, q1, ⟨sd, se, sa, sb, sc⟩, L1, U1⟩ := a
            obtain ⟨k2, f2, t2, i2, q2, ⟨td, te, ta, tb, tc⟩, L2, U2⟩ := b
            have z0 := K0.out; have z1 := K1.out; have z2 := K2.out; have z3 := K3.out; have z4 := K4.out; have z6 := EL.out; have z7 := EU.out
            dsimp only at z0 z1 z2 z3 z4 q5 z6 z7
            rw [z0, z1, z2, z3, z4, q5, z6, z7]))
          go_wp2_with fail
          go_ret
          exact .bool (by rw [HN.out]) (below_then HBB.out HBW.out)
end Go.Proofs.Yteiohcgohgcjfaa
