/- Contracts of slices.Equal of records, of changes. -/
import Derived.Test.YteiohcgohgcjfaaRows
import Derived.IntWalk
import Derived.Test.YteiohcgohgcjfaaWords
import Derived.Test.YteiohcgohgcjfaaByts
import Derived.Test.YteiohcgohgcjfaaFrame
import Derived.Test.YteiohcgohgcjfaaElems
import Derived.Test.YteiohcgohgcjfaaS1
import Derived.Test.YteiohcgohgcjfaaS2
import Derived.Test.YteiohcgohgcjfaaEqs
import Derived.Test.YteiohcgohgcjfaaD1
namespace Go.Proofs.Yteiohcgohgcjfaa
open Go Go.RowKit Go.Proofs.Tail
set_option linter.unusedSimpArgs false
set_option linter.unusedVariables false
attribute [local go_sem high] eq_rec eq_chg
set_option maxHeartbeats 8000000 in
theorem eqrecs_any (A1 A2 : Option Addr) (n1 n2 c1 c2 : Nat) (xs ys : List Rc) (w : World) (hx : Recs w A1 n1 c1 xs) (hy : Recs w A2 n2 c2 ys) :
    Calls Try.prog 42 #[.slice A1 n1 c1, .slice A2 n2 c2] w (Gives (.bool (decide (xs = ys))) w) := by
  have HX := Lib.hid hx
  have HY := Lib.hid hy
  have hb1 := hx.big
  by_cases hn : n1 = n2
  · subst hn
    have HD := Lib.hid (show xs.length = n1 ∧ ys.length = n1 from ⟨hx.len, hy.len⟩)
    have h0 : ((n1 : Int) != n1) = false := by simp
    have H0 := Lib.hid (show xs.take 0 = ys.take 0 from rfl)
    have HB := Lib.hid (Below.refl w.heap.size w)
    clear hx hy
    go_enter Try.func42, Try.ntmps42
    go_wp2_with fail
    go_loopw [13] (fun i wr => ∃ k : Nat, k ≤ n1 ∧ i = .int .i64 k ∧ Hid (xs.take k = ys.take k) ∧ Hid (Below w.heap.size w wr)) (fun i _ => n1 - (intOf i).toNat)
    case atStart => exact ⟨0, Nat.zero_le _, rfl, H0, HB⟩
    case round =>
      clear H0 HB
      obtain ⟨k, hk, rfl, HT, HB⟩ := hrel
      by_cases hlt : k < n1
      · have hd : decide ((k : Int) < n1) = true := decide_eq_true (by omega)
        have hd' : decide (k < n1) = true := decide_eq_true (by omega)
        have hk0 : (0 : Int) ≤ k := by omega
        have hkn : (k : Int) < n1 := by omega
        obtain ⟨b1, o1, x, rfl, ex, rx⟩ := HX.out.elem hlt
        obtain ⟨b2, o2, y, rfl, ey, ry⟩ := HY.out.elem hlt
        have rx2 := RRec.stays _ _ _ _ _ HB.out rx
        have ry2 := RRec.stays _ _ _ _ _ HB.out ry
        have HE := Lib.hid (And.intro ex ey)
        have p0 := fun p : After wr => cell_after rx2.1 p
        have p1 := fun p : After wr => cell_after rx2.2 p
        have q0 := fun p : After wr => cell_after ry2.1 p
        have q1 := fun p : After wr => cell_after ry2.2 p
        clear rx ry rx2 ry2 ex ey
        by_cases hxy : recB x.1 x.2 y.1 y.2 = true
        · have HN := Lib.hid (show xs.take (k + 1) = ys.take (k + 1) by
            have e : x = y := recB_iff.1 hxy
            rw [List.take_add_one, List.take_add_one, HT.out, HE.out.1, HE.out.2, e])
          go_wp2_with fail
          refine quiet_after (by kernel_rfl) (by kernel_rfl) ?_
          repeat (first | go_big_quiet_step (fail) | quiet_step (fail))
          refine wpQuiet_nil ?_
          intro wz hw'
          obtain ⟨p, rfl⟩ := hw'
          obtain ⟨w5, hbq⟩ := p
          dsimp only
          have HB5 := Lib.hid (below_then HB.out hbq)
          clear hbq
          go_wp2_with fail
          go_roundw
          case rel => exact ⟨k + 1, by omega, by go_num, HN, HB5⟩
          case measure => simp [intOf]; omega
        · have hxy' : recB x.1 x.2 y.1 y.2 = false := by simpa using hxy
          have HN := Lib.hid (show decide (xs = ys) = false from decide_eq_false fun e => hxy (recB_iff.2 (by
            have h1 := HE.out.1
            rw [e, HE.out.2] at h1
            injection h1 with h1
            exact h1.symm)))
          clear hxy
          go_wp2_with fail
          refine quiet_after (by kernel_rfl) (by kernel_rfl) ?_
          repeat (first | go_big_quiet_step (fail) | quiet_step (fail))
          refine wpQuiet_nil ?_
          intro wz hw'
          obtain ⟨p, rfl⟩ := hw'
          obtain ⟨w5, hbq⟩ := p
          dsimp only
          have HB5 := Lib.hid (below_then HB.out hbq)
          clear hbq
          go_wp2_with fail
          go_ret
          exact .bool (by rw [HN.out]) HB5.out
      · have hd : decide ((k : Int) < n1) = false := decide_eq_false (by omega)
        have hd' : decide (k < n1) = false := decide_eq_false (by omega)
        have hkn : k = n1 := by omega
        have HN := Lib.hid (show decide (xs = ys) = true from decide_eq_true (by
          have h1 := HT.out
          rw [hkn, ← HD.out.1, List.take_length, HD.out.1, ← HD.out.2, List.take_length] at h1
          exact h1))
        go_wp2_with fail
        go_ret
        exact .bool (by rw [HN.out]) HB.out
  · have h0 : ((n1 : Int) != n2) = true := by simpa using fun h => hn (by omega)
    have HN := Lib.hid (show decide (xs = ys) = false from decide_eq_false fun e => hn (by rw [← hx.len, ← hy.len, e]))
    clear hx hy
    go_enter Try.func42, Try.ntmps42
    go_wp2_with fail
    go_ret
    exact .bool (by rw [HN.out]) (Below.refl _ _)
set_option maxHeartbeats 8000000 in
theorem equpds_any (A1 A2 : Option Addr) (n1 n2 c1 c2 : Nat) (xs ys : List Upd) (w : World) (hx : Upds w A1 n1 c1 xs) (hy : Upds w A2 n2 c2 ys) :
    Calls Try.prog 43 #[.slice A1 n1 c1, .slice A2 n2 c2] w (Gives (.bool (decide (xs = ys))) w) := by
  have HX := Lib.hid hx
  have HY := Lib.hid hy
  have hb1 := hx.big
  by_cases hn : n1 = n2
  · subst hn
    have HD := Lib.hid (show xs.length = n1 ∧ ys.length = n1 from ⟨hx.len, hy.len⟩)
    have h0 : ((n1 : Int) != n1) = false := by simp
    have H0 := Lib.hid (show xs.take 0 = ys.take 0 from rfl)
    have HB := Lib.hid (Below.refl w.heap.size w)
    clear hx hy
    go_enter Try.func43, Try.ntmps43
    go_wp2_with fail
    go_loopw [13] (fun i wr => ∃ k : Nat, k ≤ n1 ∧ i = .int .i64 k ∧ Hid (xs.take k = ys.take k) ∧ Hid (Below w.heap.size w wr)) (fun i _ => n1 - (intOf i).toNat)
    case atStart => exact ⟨0, Nat.zero_le _, rfl, H0, HB⟩
    case round =>
      clear H0 HB
      obtain ⟨k, hk, rfl, HT, HB⟩ := hrel
      by_cases hlt : k < n1
      · have hd : decide ((k : Int) < n1) = true := decide_eq_true (by omega)
        have hd' : decide (k < n1) = true := decide_eq_true (by omega)
        have hk0 : (0 : Int) ≤ k := by omega
        have hkn : (k : Int) < n1 := by omega
        obtain ⟨b1, o1, x, rfl, ex, rx⟩ := HX.out.elem hlt
        obtain ⟨b2, o2, y, rfl, ey, ry⟩ := HY.out.elem hlt
        have rx2 := RUpd.stays _ _ _ _ _ HB.out rx
        have ry2 := RUpd.stays _ _ _ _ _ HB.out ry
        have HE := Lib.hid (And.intro ex ey)
        have p0 := fun p : After wr => cell_after rx2.c0 p
        have p1 := fun p : After wr => cell_after rx2.c1 p
        have p2 := fun p : After wr => cell_after rx2.c2 p
        have p3 := fun p : After wr => cell_after rx2.c3 p
        have p4 := fun p : After wr => cell_after rx2.c4 p
        have p5 := fun p : After wr => cell_after rx2.c5 p
        have p6 := fun p : After wr => cell_after rx2.c6 p
        have p7 := fun p : After wr => cell_after rx2.c7 p
        have q0 := fun p : After wr => cell_after ry2.c0 p
        have q1 := fun p : After wr => cell_after ry2.c1 p
        have q2 := fun p : After wr => cell_after ry2.c2 p
        have q3 := fun p : After wr => cell_after ry2.c3 p
        have q4 := fun p : After wr => cell_after ry2.c4 p
        have q5 := fun p : After wr => cell_after ry2.c5 p
        have q6 := fun p : After wr => cell_after ry2.c6 p
        have q7 := fun p : After wr => cell_after ry2.c7 p
        clear rx ry rx2 ry2 ex ey
        by_cases hxy : Upd.eqB ⟨x.n, x.h, ⟨x.s.d, x.s.e, x.s.a, x.s.b, x.s.c⟩, x.m⟩ ⟨y.n, y.h, ⟨y.s.d, y.s.e, y.s.a, y.s.b, y.s.c⟩, y.m⟩ = true
        · have HN := Lib.hid (show xs.take (k + 1) = ys.take (k + 1) by
            have e : x = y := Upd.eqB_iff.1 hxy
            rw [List.take_add_one, List.take_add_one, HT.out, HE.out.1, HE.out.2, e])
          go_wp2_with fail
          refine quiet_after (by kernel_rfl) (by kernel_rfl) ?_
          repeat (first | go_big_quiet_step (fail) | quiet_step (fail))
          refine wpQuiet_nil ?_
          intro wz hw'
          obtain ⟨p, rfl⟩ := hw'
          obtain ⟨w5, hbq⟩ := p
          dsimp only
          have HB5 := Lib.hid (below_then HB.out hbq)
          clear hbq
          go_wp2_with fail
          go_roundw
          case rel => exact ⟨k + 1, by omega, by go_num, HN, HB5⟩
          case measure => simp [intOf]; omega
        · have hxy' : Upd.eqB ⟨x.n, x.h, ⟨x.s.d, x.s.e, x.s.a, x.s.b, x.s.c⟩, x.m⟩ ⟨y.n, y.h, ⟨y.s.d, y.s.e, y.s.a, y.s.b, y.s.c⟩, y.m⟩ = false := by simpa using hxy
          have HN := Lib.hid (show decide (xs = ys) = false from decide_eq_false fun e => hxy (Upd.eqB_iff.2 (by
            have h1 := HE.out.1
            rw [e, HE.out.2] at h1
            injection h1 with h1
            exact h1.symm)))
          clear hxy
          go_wp2_with fail
          refine quiet_after (by kernel_rfl) (by kernel_rfl) ?_
          repeat (first | go_big_quiet_step (fail) | quiet_step (fail))
          refine wpQuiet_nil ?_
          intro wz hw'
          obtain ⟨p, rfl⟩ := hw'
          obtain ⟨w5, hbq⟩ := p
          dsimp only
          have HB5 := Lib.hid (below_then HB.out hbq)
          clear hbq
          go_wp2_with fail
          go_ret
          exact .bool (by rw [HN.out]) HB5.out
      · have hd : decide ((k : Int) < n1) = false := decide_eq_false (by omega)
        have hd' : decide (k < n1) = false := decide_eq_false (by omega)
        have hkn : k = n1 := by omega
        have HN := Lib.hid (show decide (xs = ys) = true from decide_eq_true (by
          have h1 := HT.out
          rw [hkn, ← HD.out.1, List.take_length, HD.out.1, ← HD.out.2, List.take_length] at h1
          exact h1))
        go_wp2_with fail
        go_ret
        exact .bool (by rw [HN.out]) HB.out
  · have h0 : ((n1 : Int) != n2) = true := by simpa using fun h => hn (by omega)
    have HN := Lib.hid (show decide (xs = ys) = false from decide_eq_false fun e => hn (by rw [← hx.len, ← hy.len, e]))
    clear hx hy
    go_enter Try.func43, Try.ntmps43
    go_wp2_with fail
    go_ret
    exact .bool (by rw [HN.out]) (Below.refl _ _)
end Go.Proofs.Yteiohcgohgcjfaa
