/- Contracts of slices.Equal, of the reference's Alike, of value.Same. -/
import Derived.Test.YtainoghjelfnkaaRows
import Derived.Test.YtainoghjelfnkaaWords
import Derived.Test.YtainoghjelfnkaaByts
import Derived.Test.YtainoghjelfnkaaFrame
import Derived.Test.YtainoghjelfnkaaElems
import Derived.Test.YtainoghjelfnkaaV1
import Derived.Test.YtainoghjelfnkaaV2
namespace Go.Proofs.Ytainoghjelfnkaa
open Go Go.RowKit Go.Proofs.Tail Go.Sort
set_option linter.unusedSimpArgs false
set_option linter.unusedVariables false
theorem eqRc_of {x y : Rc} (h : x = y) : eqRc (x.1, x.2) (y.1, y.2) = true := eqRc_iff.2 h
theorem eqRc_no {x y : Rc} (h : x ≠ y) : eqRc (x.1, x.2) (y.1, y.2) = false := by
  cases e : eqRc (x.1, x.2) (y.1, y.2) with
  | false => rfl
  | true => exact absurd (eqRc_iff.1 e) h
theorem take_ext {α : Type} {xs ys : List α} {k : Nat} {x y : α} (h : xs.take k = ys.take k) (hx : xs[k]? = some x) (hy : ys[k]? = some y) (e : x = y) : xs.take (k + 1) = ys.take (k + 1) := by
  subst e
  have h1 := (List.getElem?_eq_some_iff.1 hx)
  have h2 := (List.getElem?_eq_some_iff.1 hy)
  obtain ⟨k1, e1⟩ := h1
  obtain ⟨k2, e2⟩ := h2
  rw [List.take_succ_eq_append_getElem k1, List.take_succ_eq_append_getElem k2, h, e1, e2]
set_option maxHeartbeats 8000000 in
theorem equal_any (A A' : Option Addr) (n c n' c' : Nat) (xs ys : List Rc) (w : World) (hX : Recs w A n c xs) (hY : Recs w A' n' c' ys) :
    Calls Try.prog 29 #[.slice A n c, .slice A' n' c'] w (Gives (.bool (decide (xs = ys))) w) := by
  have HX := Lib.hid hX
  have HY := Lib.hid hY
  have LX := Lib.hid hX.len
  have LY := Lib.hid hY.len
  have hbig := hX.big
  have hbig' := hY.big
  clear hX hY
  by_cases hn : n = n'
  · subst hn
    go_enter Try.func29, Try.ntmps29
    go_wp2_with fail
    have B0 := Lib.hid (Below.refl w.heap.size w)
    have T0 := Lib.hid (show xs.take 0 = ys.take 0 by simp)
    go_loopw [13] (fun i wr => ∃ k : Nat, k ≤ n ∧ i = .int .i64 k ∧ Hid (xs.take k = ys.take k) ∧ Hid (Below w.heap.size w wr)) (fun i _ => n - (intOf i).toNat)
    case atStart => exact ⟨0, Nat.zero_le _, rfl, T0, B0⟩
    case round =>
      clear T0 B0
      obtain ⟨k, hk, rfl, HT, HB⟩ := hrel
      by_cases hlt : k < n
      · obtain ⟨b, off, x, rfl, hx, hc⟩ := (HX.out.below RRc.stays HB.out).elem hlt
        obtain ⟨b', off', y, rfl, hy, hc'⟩ := (HY.out.below RRc.stays HB.out).elem hlt
        have p0 := fun p : After wr => cell_after hc.c0 p
        have p1 := fun p : After wr => cell_after hc.c1 p
        have q0 := fun p : After wr => cell_after hc'.c0 p
        have q1 := fun p : After wr => cell_after hc'.c1 p
        have HXX := Lib.hid hx
        have HYY := Lib.hid hy
        clear hx hy hc hc'
        by_cases hxy : x = y
        · have he := eqRc_of hxy
          have HE := Lib.hid hxy
          clear hxy
          go_wp2_with fail
          refine quiet_after (by kernel_rfl) (by kernel_rfl) ?_
          repeat (first | go_big_quiet_step (fail) | quiet_step (fail))
          refine wpQuiet_nil ?_
          intro wz hw'
          obtain ⟨p, rfl⟩ := hw'
          obtain ⟨w5, hbq⟩ := p
          dsimp only
          have HB5 := Lib.hid (below_then HB.out hbq)
          have HT5 := Lib.hid (take_ext HT.out HXX.out HYY.out HE.out)
          clear p0 p1 q0 q1 he HE HXX HYY HT HB hbq
          go_wp2_with fail
          go_roundw
          case rel => exact ⟨k + 1, by omega, by go_num, HT5, HB5⟩
          case measure => simp [intOf]; omega
        · have he := eqRc_no hxy
          have HE := Lib.hid hxy
          clear hxy
          go_wp2_with fail
          refine quiet_after (by kernel_rfl) (by kernel_rfl) ?_
          repeat (first | go_big_quiet_step (fail) | quiet_step (fail))
          refine wpQuiet_nil ?_
          intro wz hw'
          obtain ⟨p, rfl⟩ := hw'
          obtain ⟨w5, hbq⟩ := p
          dsimp only
          have HB5 := Lib.hid (below_then HB.out hbq)
          have HQ := Lib.hid (show false = decide (xs = ys) from (decide_eq_false (fun e => HE.out (by have h1 := HXX.out; have h2 := HYY.out; rw [e] at h1; rw [h1] at h2; exact Option.some.inj h2))).symm)
          clear p0 p1 q0 q1 he HE HXX HYY HT HB hbq
          go_wp2_with fail
          go_ret
          exact .bool HQ.out HB5.out
      · have hkn : k = n := by omega
        subst hkn
        have HQ := Lib.hid (show true = decide (xs = ys) from (decide_eq_true (by have := HT.out; rwa [List.take_of_length_le (by rw [LX.out]; omega), List.take_of_length_le (by rw [LY.out]; omega)] at this)).symm)
        clear HT
        go_wp2_with fail
        go_ret
        exact .bool HQ.out HB.out
  · have hne : ((n : Int) == n') = false := by simp; omega
    have hne' : (n == n') = false := by simp; omega
    have HQ := Lib.hid (show false = decide (xs = ys) from (decide_eq_false (fun e => hn (by rw [← LX.out, ← LY.out, e]))).symm)
    clear hn
    go_enter Try.func29, Try.ntmps29
    go_wp2_with fail
    go_ret
    exact .bool HQ.out (Below.refl _ _)
set_option maxHeartbeats 8000000 in
theorem alike_any (A A' : Option Addr) (n c n' c' : Nat) (xs ys : List Rc) (w : World) (hX : Recs w A n c xs) (hY : Recs w A' n' c' ys) :
    Calls Try.prog 13 #[.slice A n c, .slice A' n' c'] w (Gives (.bool (decide (xs = ys))) w) := by
  have HX := Lib.hid hX
  have HY := Lib.hid hY
  have LX := Lib.hid hX.len
  have LY := Lib.hid hY.len
  have hbig := hX.big
  have hbig' := hY.big
  clear hX hY
  by_cases hn : n = n'
  · subst hn
    go_enter Try.func13, Try.ntmps13
    go_wp2_with fail
    have B0 := Lib.hid (Below.refl w.heap.size w)
    have T0 := Lib.hid (show xs.take 0 = ys.take 0 by simp)
    go_loopw [5] (fun i wr => ∃ k : Nat, k ≤ n ∧ i = .int .i64 k ∧ Hid (xs.take k = ys.take k) ∧ Hid (Below w.heap.size w wr)) (fun i _ => n - (intOf i).toNat)
    case atStart => exact ⟨0, Nat.zero_le _, rfl, T0, B0⟩
    case round =>
      clear T0 B0
      obtain ⟨k, hk, rfl, HT, HB⟩ := hrel
      by_cases hlt : k < n
      · obtain ⟨b, off, x, rfl, hx, hc⟩ := (HX.out.below RRc.stays HB.out).elem hlt
        obtain ⟨b', off', y, rfl, hy, hc'⟩ := (HY.out.below RRc.stays HB.out).elem hlt
        have p0 := fun p : After wr => cell_after hc.c0 p
        have p1 := fun p : After wr => cell_after hc.c1 p
        have q0 := fun p : After wr => cell_after hc'.c0 p
        have q1 := fun p : After wr => cell_after hc'.c1 p
        have HXX := Lib.hid hx
        have HYY := Lib.hid hy
        clear hx hy hc hc'
        by_cases hxy : x = y
        · have he := eqRc_of hxy
          have HE := Lib.hid hxy
          clear hxy
          go_wp2_with fail
          refine quiet_after (by kernel_rfl) (by kernel_rfl) ?_
          repeat (first | go_big_quiet_step (fail) | quiet_step (fail))
          refine wpQuiet_nil ?_
          intro wz hw'
          obtain ⟨p, rfl⟩ := hw'
          obtain ⟨w5, hbq⟩ := p
          dsimp only
          have HB5 := Lib.hid (below_then HB.out hbq)
          have HT5 := Lib.hid (take_ext HT.out HXX.out HYY.out HE.out)
          clear p0 p1 q0 q1 he HE HXX HYY HT HB hbq
          go_wp2_with fail
          go_roundw
          case rel => exact ⟨k + 1, by omega, by go_num, HT5, HB5⟩
          case measure => simp [intOf]; omega
        · have he := eqRc_no hxy
          have HE := Lib.hid hxy
          clear hxy
          go_wp2_with fail
          refine quiet_after (by kernel_rfl) (by kernel_rfl) ?_
          repeat (first | go_big_quiet_step (fail) | quiet_step (fail))
          refine wpQuiet_nil ?_
          intro wz hw'
          obtain ⟨p, rfl⟩ := hw'
          obtain ⟨w5, hbq⟩ := p
          dsimp only
          have HB5 := Lib.hid (below_then HB.out hbq)
          have HQ := Lib.hid (show false = decide (xs = ys) from (decide_eq_false (fun e => HE.out (by have h1 := HXX.out; have h2 := HYY.out; rw [e] at h1; rw [h1] at h2; exact Option.some.inj h2))).symm)
          clear p0 p1 q0 q1 he HE HXX HYY HT HB hbq
          go_wp2_with fail
          go_ret
          exact .bool HQ.out HB5.out
      · have hkn : k = n := by omega
        subst hkn
        have HQ := Lib.hid (show true = decide (xs = ys) from (decide_eq_true (by have := HT.out; rwa [List.take_of_length_le (by rw [LX.out]; omega), List.take_of_length_le (by rw [LY.out]; omega)] at this)).symm)
        clear HT
        go_wp2_with fail
        go_ret
        exact .bool HQ.out HB.out
  · have hne : ((n : Int) == n') = false := by simp; omega
    have hne' : (n == n') = false := by simp; omega
    have HQ := Lib.hid (show false = decide (xs = ys) from (decide_eq_false (fun e => hn (by rw [← LX.out, ← LY.out, e]))).symm)
    clear hn
    go_enter Try.func13, Try.ntmps13
    go_wp2_with fail
    go_ret
    exact .bool HQ.out (Below.refl _ _)
set_option maxHeartbeats 4000000 in
theorem same_any (A A' : Option Addr) (n c n' c' : Nat) (xs ys : List Rc) (w : World) (hX : Recs w A n c xs) (hY : Recs w A' n' c' ys) (l1 : n * 16 ≤ 140737488355328) (l2 : n' * 16 ≤ 140737488355328) :
    Calls Try.prog 15 #[.slice A n c, .slice A' n' c'] w (Gives (.bool (decide (sortR xs = sortR ys))) w) := by
  have H1 := Lib.hid (sorted_any A n c xs w hX l1)
  have H2 := Lib.hid (fun w' hb => sorted_any A' n' c' ys w' (hY.below RRc.stays hb) l2)
  have b1 : (sortR xs).length ≤ 140737488355328 := by rw [sortR_length, hX.len]; omega
  have b2 : (sortR ys).length ≤ 140737488355328 := by rw [sortR_length, hY.len]; omega
  clear hX hY
  generalize sortR xs = us at *
  generalize sortR ys = vs at *
  go_enter Try.func15, Try.ntmps15
  go_wp2_with fail
  refine H1.out.mono ?_
  rintro e w1 ⟨v, rfl, ho, hb⟩
  obtain ⟨A1, c1, rfl, hr⟩ := own_recs ho (by omega)
  have R1 := Lib.hid hr
  have HB1 := Lib.hid hb
  clear ho hb H1 hr
  go_wp2_with fail
  refine (H2.out _ HB1.out).mono ?_
  rintro e w2 ⟨v, rfl, ho, hb⟩
  obtain ⟨A2, c2, rfl, hr⟩ := own_recs ho (by omega)
  have R2 := Lib.hid (R1.out.below RRc.stays hb)
  have R3 := Lib.hid hr
  have HB2 := Lib.hid (below_then HB1.out hb)
  clear ho hb H2 hr R1 HB1
  have HE := Lib.hid (equal_any A1 A2 _ c1 _ c2 us vs w2 R2.out R3.out)
  go_wp2_with fail
  refine HE.out.mono ?_
  rintro e w3 ⟨rfl, hb⟩
  have HB3 := Lib.hid (below_then HB2.out hb)
  clear hb HE HB2
  go_wp2_with fail
  go_ret
  exact .bool rfl HB3.out
end Go.Proofs.Ytainoghjelfnkaa
