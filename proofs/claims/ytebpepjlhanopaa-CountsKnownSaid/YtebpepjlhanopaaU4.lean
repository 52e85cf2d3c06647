/- Contracts of slices.Equal, of the reference's Same, of antichain.Same. -/
import Derived.Test.YtebpepjlhanopaaRows
import Derived.Test.YtebpepjlhanopaaWords
import Derived.Test.YtebpepjlhanopaaByts
import Derived.Test.YtebpepjlhanopaaFrame
import Derived.Test.YtebpepjlhanopaaElems
import Derived.Test.YtebpepjlhanopaaS1
import Derived.Test.YtebpepjlhanopaaEqs
import Derived.Test.YtebpepjlhanopaaU1
namespace Go.Proofs.Ytebpepjlhanopaa
open Go Go.RowKit Go.Proofs.Tail Go.Sort
set_option linter.unusedSimpArgs false
set_option linter.unusedVariables false
attribute [local go_sem high] eq_stamp
theorem eqT_of {x y : T} (h : x = y) : T.eqB ⟨x.d, x.e, x.a, x.b, x.c⟩ ⟨y.d, y.e, y.a, y.b, y.c⟩ = true := T.eqB_iff.2 h
theorem eqT_no {x y : T} (h : x ≠ y) : T.eqB ⟨x.d, x.e, x.a, x.b, x.c⟩ ⟨y.d, y.e, y.a, y.b, y.c⟩ = false := by
  cases e : T.eqB ⟨x.d, x.e, x.a, x.b, x.c⟩ ⟨y.d, y.e, y.a, y.b, y.c⟩ with
  | false => rfl
  | true => exact absurd (T.eqB_iff.1 e) h
theorem take_ext {α : Type} {xs ys : List α} {k : Nat} {x y : α} (h : xs.take k = ys.take k) (hx : xs[k]? = some x) (hy : ys[k]? = some y) (e : x = y) : xs.take (k + 1) = ys.take (k + 1) := by
  subst e
  have h1 := (List.getElem?_eq_some_iff.1 hx)
  have h2 := (List.getElem?_eq_some_iff.1 hy)
  obtain ⟨k1, e1⟩ := h1
  obtain ⟨k2, e2⟩ := h2
  rw [List.take_succ_eq_append_getElem k1, List.take_succ_eq_append_getElem k2, h, e1, e2]
set_option maxHeartbeats 8000000 in
theorem equal_any (A A' : Option Addr) (n c n' c' : Nat) (xs ys : List T) (w : World) (hX : Tms w A n c xs) (hY : Tms w A' n' c' ys) :
    Calls Try.prog 58 #[.slice A n c, .slice A' n' c'] w (Gives (.bool (decide (xs = ys))) w) := by
  have HX := Lib.hid hX
  have HY := Lib.hid hY
  have LX := Lib.hid hX.len
  have LY := Lib.hid hY.len
  have hbig := hX.big
  have hbig' := hY.big
  clear hX hY
  by_cases hn : n = n'
  · subst hn
    go_enter Try.func58, Try.ntmps58
    go_wp2_with fail
    have B0 := Lib.hid (Below.refl w.heap.size w)
    have T0 := Lib.hid (show xs.take 0 = ys.take 0 by simp)
    go_loopw [13] (fun i wr => ∃ k : Nat, k ≤ n ∧ i = .int .i64 k ∧ Hid (xs.take k = ys.take k) ∧ Hid (Below w.heap.size w wr)) (fun i _ => n - (intOf i).toNat)
    case atStart => exact ⟨0, Nat.zero_le _, rfl, T0, B0⟩
    case round =>
      clear T0 B0
      obtain ⟨k, hk, rfl, HT, HB⟩ := hrel
      by_cases hlt : k < n
      · obtain ⟨b, off, x, rfl, hx, hc⟩ := (HX.out.below At.stays HB.out).elem hlt
        obtain ⟨b', off', y, rfl, hy, hc'⟩ := (HY.out.below At.stays HB.out).elem hlt
        have p0 := fun p : After wr => cell_after hc.c0 p
        have p1 := fun p : After wr => cell_after hc.c1 p
        have p2 := fun p : After wr => cell_after hc.c2 p
        have p3 := fun p : After wr => cell_after hc.c3 p
        have p4 := fun p : After wr => cell_after hc.c4 p
        have q0 := fun p : After wr => cell_after hc'.c0 p
        have q1 := fun p : After wr => cell_after hc'.c1 p
        have q2 := fun p : After wr => cell_after hc'.c2 p
        have q3 := fun p : After wr => cell_after hc'.c3 p
        have q4 := fun p : After wr => cell_after hc'.c4 p
        have HXX := Lib.hid hx
        have HYY := Lib.hid hy
        clear hx hy hc hc'
        by_cases hxy : x = y
        · have he := eqT_of hxy
          have HE := Lib.hid hxy
          clear hxy
          go_wp2_with fail
          refine quiet_after (by kernel_rfl) (by kernel_rfl) ?_
          repeat (first | go_big_quiet_step (fail) | quiet_step (fail))
          refine wpQuiet_nil ?_
          intro wz hw'
          obtain ⟨p, rfl⟩ := hw'
          obtain ⟨w5, hbq⟩ := p
          dsimp only
          have HB5 := Lib.hid (below_then HB.out hbq)
          have HT5 := Lib.hid (take_ext HT.out HXX.out HYY.out HE.out)
          clear p0 p1 p2 p3 p4 q0 q1 q2 q3 q4 he HE HXX HYY HT HB hbq
          go_wp2_with fail
          go_roundw
          case rel => exact ⟨k + 1, by omega, by go_num, HT5, HB5⟩
          case measure => simp [intOf]; omega
        · have he := eqT_no hxy
          have HE := Lib.hid hxy
          clear hxy
          go_wp2_with fail
          refine quiet_after (by kernel_rfl) (by kernel_rfl) ?_
          repeat (first | go_big_quiet_step (fail) | quiet_step (fail))
          refine wpQuiet_nil ?_
          intro wz hw'
          obtain ⟨p, rfl⟩ := hw'
          obtain ⟨w5, hbq⟩ := p
          dsimp only
          have HB5 := Lib.hid (below_then HB.out hbq)
          have HQ := Lib.hid (show false = decide (xs = ys) from (decide_eq_false (fun e => HE.out (by have h1 := HXX.out; have h2 := HYY.out; rw [e] at h1; rw [h1] at h2; exact Option.some.inj h2))).symm)
          clear p0 p1 p2 p3 p4 q0 q1 q2 q3 q4 he HE HXX HYY HT HB hbq
          go_wp2_with fail
          go_ret
          exact .bool HQ.out HB5.out
      · have hkn : k = n := by omega
        subst hkn
        have HQ := Lib.hid (show true = decide (xs = ys) from (decide_eq_true (by have := HT.out; rwa [List.take_of_length_le (by rw [LX.out]; omega), List.take_of_length_le (by rw [LY.out]; omega)] at this)).symm)
        clear HT
        go_wp2_with fail
        go_ret
        exact .bool HQ.out HB.out
  · have hne : ((n : Int) == n') = false := by simp; omega
    have hne' : (n == n') = false := by simp; omega
    have HQ := Lib.hid (show false = decide (xs = ys) from (decide_eq_false (fun e => hn (by rw [← LX.out, ← LY.out, e]))).symm)
    clear hn
    go_enter Try.func58, Try.ntmps58
    go_wp2_with fail
    go_ret
    exact .bool HQ.out (Below.refl _ _)
set_option maxHeartbeats 8000000 in
theorem refsame_any (A A' : Option Addr) (n c n' c' : Nat) (xs ys : List T) (w : World) (hX : Tms w A n c xs) (hY : Tms w A' n' c' ys) :
    Calls Try.prog 14 #[.slice A n c, .slice A' n' c'] w (Gives (.bool (decide (xs = ys))) w) := by
  have HX := Lib.hid hX
  have HY := Lib.hid hY
  have LX := Lib.hid hX.len
  have LY := Lib.hid hY.len
  have hbig := hX.big
  have hbig' := hY.big
  clear hX hY
  by_cases hn : n = n'
  · subst hn
    go_enter Try.func14, Try.ntmps14
    go_wp2_with fail
    have B0 := Lib.hid (Below.refl w.heap.size w)
    have T0 := Lib.hid (show xs.take 0 = ys.take 0 by simp)
    go_loopw [5] (fun i wr => ∃ k : Nat, k ≤ n ∧ i = .int .i64 k ∧ Hid (xs.take k = ys.take k) ∧ Hid (Below w.heap.size w wr)) (fun i _ => n - (intOf i).toNat)
    case atStart => exact ⟨0, Nat.zero_le _, rfl, T0, B0⟩
    case round =>
      clear T0 B0
      obtain ⟨k, hk, rfl, HT, HB⟩ := hrel
      by_cases hlt : k < n
      · obtain ⟨b, off, x, rfl, hx, hc⟩ := (HX.out.below At.stays HB.out).elem hlt
        obtain ⟨b', off', y, rfl, hy, hc'⟩ := (HY.out.below At.stays HB.out).elem hlt
        have p0 := fun p : After wr => cell_after hc.c0 p
        have p1 := fun p : After wr => cell_after hc.c1 p
        have p2 := fun p : After wr => cell_after hc.c2 p
        have p3 := fun p : After wr => cell_after hc.c3 p
        have p4 := fun p : After wr => cell_after hc.c4 p
        have q0 := fun p : After wr => cell_after hc'.c0 p
        have q1 := fun p : After wr => cell_after hc'.c1 p
        have q2 := fun p : After wr => cell_after hc'.c2 p
        have q3 := fun p : After wr => cell_after hc'.c3 p
        have q4 := fun p : After wr => cell_after hc'.c4 p
        have HXX := Lib.hid hx
        have HYY := Lib.hid hy
        clear hx hy hc hc'
        by_cases hxy : x = y
        · have he := eqT_of hxy
          have HE := Lib.hid hxy
          clear hxy
          go_wp2_with fail
          refine quiet_after (by kernel_rfl) (by kernel_rfl) ?_
          repeat (first | go_big_quiet_step (fail) | quiet_step (fail))
          refine wpQuiet_nil ?_
          intro wz hw'
          obtain ⟨p, rfl⟩ := hw'
          obtain ⟨w5, hbq⟩ := p
          dsimp only
          have HB5 := Lib.hid (below_then HB.out hbq)
          have HT5 := Lib.hid (take_ext HT.out HXX.out HYY.out HE.out)
          clear p0 p1 p2 p3 p4 q0 q1 q2 q3 q4 he HE HXX HYY HT HB hbq
          go_wp2_with fail
          go_roundw
          case rel => exact ⟨k + 1, by omega, by go_num, HT5, HB5⟩
          case measure => simp [intOf]; omega
        · have he := eqT_no hxy
          have HE := Lib.hid hxy
          clear hxy
          go_wp2_with fail
          refine quiet_after (by kernel_rfl) (by kernel_rfl) ?_
          repeat (first | go_big_quiet_step (fail) | quiet_step (fail))
          refine wpQuiet_nil ?_
          intro wz hw'
          obtain ⟨p, rfl⟩ := hw'
          obtain ⟨w5, hbq⟩ := p
          dsimp only
          have HB5 := Lib.hid (below_then HB.out hbq)
          have HQ := Lib.hid (show false = decide (xs = ys) from (decide_eq_false (fun e => HE.out (by have h1 := HXX.out; have h2 := HYY.out; rw [e] at h1; rw [h1] at h2; exact Option.some.inj h2))).symm)
          clear p0 p1 p2 p3 p4 q0 q1 q2 q3 q4 he HE HXX HYY HT HB hbq
          go_wp2_with fail
          go_ret
          exact .bool HQ.out HB5.out
      · have hkn : k = n := by omega
        subst hkn
        have HQ := Lib.hid (show true = decide (xs = ys) from (decide_eq_true (by have := HT.out; rwa [List.take_of_length_le (by rw [LX.out]; omega), List.take_of_length_le (by rw [LY.out]; omega)] at this)).symm)
        clear HT
        go_wp2_with fail
        go_ret
        exact .bool HQ.out HB.out
  · have hne : ((n : Int) == n') = false := by simp; omega
    have hne' : (n == n') = false := by simp; omega
    have HQ := Lib.hid (show false = decide (xs = ys) from (decide_eq_false (fun e => hn (by rw [← LX.out, ← LY.out, e]))).symm)
    clear hn
    go_enter Try.func14, Try.ntmps14
    go_wp2_with fail
    go_ret
    exact .bool HQ.out (Below.refl _ _)
set_option maxHeartbeats 4000000 in
theorem same_any (A A' : Option Addr) (n c n' c' : Nat) (xs ys : List T) (w : World) (hX : Tms w A n c xs) (hY : Tms w A' n' c' ys) :
    Calls Try.prog 39 #[.slice A n c, .slice A' n' c'] w (Gives (.bool (decide (xs = ys))) w) := by
  have HE := Lib.hid (equal_any A A' n c n' c' xs ys w hX hY)
  clear hX hY
  go_enter Try.func39, Try.ntmps39
  go_wp2_with fail
  refine HE.out.mono ?_
  rintro e w1 ⟨rfl, hb⟩
  go_wp2_with fail
  go_ret
  exact .bool rfl hb
end Go.Proofs.Ytebpepjlhanopaa
