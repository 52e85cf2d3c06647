/- Contracts of antichain.alike, Within. -/
import Derived.Test.YtebpepjlhanopaaRows
import Derived.Test.YtebpepjlhanopaaWords
import Derived.Test.YtebpepjlhanopaaByts
import Derived.Test.YtebpepjlhanopaaFrame
import Derived.Test.YtebpepjlhanopaaElems
import Derived.Test.YtebpepjlhanopaaS1
import Derived.Test.YtebpepjlhanopaaS2
import Derived.Test.YtebpepjlhanopaaS4
import Derived.Test.YtebpepjlhanopaaU1
import Derived.Test.YtebpepjlhanopaaU3
import Derived.Test.YtebpepjlhanopaaU4
import Derived.Test.YtebpepjlhanopaaA1
import Derived.Test.YtebpepjlhanopaaA2
import Derived.Test.YtebpepjlhanopaaA3
namespace Go.Proofs.Ytebpepjlhanopaa
open Go Go.RowKit Go.Proofs.Tail Go.Sort
set_option linter.unusedSimpArgs false
set_option linter.unusedVariables false
theorem alikeF_cons (x y : T) (xs ys : List T) : alikeF (x :: xs) (y :: ys) = (rightF (x :: xs) && (rightF (y :: ys) && (x.d == y.d))) := rfl
theorem alikeF_nil1 (ys : List T) : alikeF [] ys = (rightF [] && rightF ys) := by unfold alikeF; simp
theorem alikeF_nil2 (xs : List T) : alikeF xs [] = (rightF xs && rightF []) := by unfold alikeF; simp
set_option maxRecDepth 100000 in
set_option maxHeartbeats 16000000 in
theorem alike_any' (A A' : Option Addr) (n c n' c' : Nat) (xs ys : List T) (w : World) (hX : Tms w A n c xs) (hY : Tms w A' n' c' ys) (l1 : n ≤ 1000000) (l2 : n' ≤ 1000000) :
    Calls Try.prog 40 #[.slice A n c, .slice A' n' c'] w (Gives (.bool (alikeF xs ys)) w) := by
  have CA := Lib.hid (fun p : After w => right_any' A n c xs p.val (hX.below At.stays p.below) l1)
  have CB := Lib.hid (fun p : After w => right_any' A' n' c' ys p.val (hY.below At.stays p.below) l2)
  cases h1 : rightF xs with
  | false =>
    rw [h1] at CA
    have HQ := Lib.hid (show alikeF xs ys = false by unfold alikeF; rw [h1]; rfl)
    clear h1 hX hY
    go_enter Try.func40, Try.ntmps40
    go_wp2_with fail
    refine quiet_after (by kernel_rfl) (by kernel_rfl) ?_
    repeat (first | go_big_quiet_step ((go_at_call 22; with_reducible exact calls_after (CA.out _))) | quiet_step ((go_at_call 22; with_reducible exact calls_after (CA.out _))))
    refine wpQuiet_nil ?_
    intro wz hw'
    obtain ⟨p, rfl⟩ := hw'
    obtain ⟨w5, hbq⟩ := p
    dsimp only
    have HB5 := Lib.hid hbq
    clear hbq
    go_wp2_with fail
    go_ret
    exact .bool HQ.out.symm HB5.out
  | true =>
    rw [h1] at CA
    have LX := hX.len
    have LY := hY.len
    cases h2 : rightF ys with
    | false =>
      rw [h2] at CB
      have HQ := Lib.hid (show alikeF xs ys = false by unfold alikeF; rw [h1, h2]; rfl)
      clear h1 h2 hX hY LX LY
      go_enter Try.func40, Try.ntmps40
      go_wp2_with fail
      refine quiet_after (by kernel_rfl) (by kernel_rfl) ?_
      repeat (first | go_big_quiet_step ((first | (go_at_call 22; first | with_reducible exact calls_after (CA.out _) | with_reducible exact calls_after (CB.out _)))) | quiet_step ((first | (go_at_call 22; first | with_reducible exact calls_after (CA.out _) | with_reducible exact calls_after (CB.out _)))))
      refine wpQuiet_nil ?_
      intro wz hw'
      obtain ⟨p, rfl⟩ := hw'
      obtain ⟨w5, hbq⟩ := p
      dsimp only
      have HB5 := Lib.hid hbq
      clear hbq
      go_wp2_with fail
      go_ret
      exact .bool HQ.out.symm HB5.out
    | true =>
      rw [h2] at CB
      cases xs with
      | nil =>
        obtain rfl : n = 0 := by rw [← LX]; rfl
        have HQ := Lib.hid (show alikeF [] ys = true by rw [alikeF_nil1, h1, h2]; rfl)
        clear h1 h2 hX hY LX LY
        go_enter Try.func40, Try.ntmps40
        go_wp2_with fail
        refine quiet_after (by kernel_rfl) (by kernel_rfl) ?_
        repeat (first | go_big_quiet_step ((first | (go_at_call 22; first | with_reducible exact calls_after (CA.out _) | with_reducible exact calls_after (CB.out _)))) | quiet_step ((first | (go_at_call 22; first | with_reducible exact calls_after (CA.out _) | with_reducible exact calls_after (CB.out _)))))
        refine wpQuiet_nil ?_
        intro wz hw'
        obtain ⟨p, rfl⟩ := hw'
        obtain ⟨w5, hbq⟩ := p
        dsimp only
        have HB5 := Lib.hid hbq
        clear hbq
        go_wp2_with fail
        go_ret
        exact .bool HQ.out.symm HB5.out
      | cons x xs =>
        have hn : 0 < n := by rw [← LX]; simp
        have e1 : ((n : Int) == 0) = false := by simp; omega
        have e1' : (n == 0) = false := by simp; omega
        cases ys with
        | nil =>
          obtain rfl : n' = 0 := by rw [← LY]; rfl
          have HQ := Lib.hid (show alikeF (x :: xs) [] = true by rw [alikeF_nil2, h1, h2]; rfl)
          clear h1 h2 hX hY LX LY
          go_enter Try.func40, Try.ntmps40
          go_wp2_with fail
          refine quiet_after (by kernel_rfl) (by kernel_rfl) ?_
          repeat (first | go_big_quiet_step ((first | (go_at_call 22; first | with_reducible exact calls_after (CA.out _) | with_reducible exact calls_after (CB.out _)))) | quiet_step ((first | (go_at_call 22; first | with_reducible exact calls_after (CA.out _) | with_reducible exact calls_after (CB.out _)))))
          refine wpQuiet_nil ?_
          intro wz hw'
          obtain ⟨p, rfl⟩ := hw'
          obtain ⟨w5, hbq⟩ := p
          dsimp only
          have HB5 := Lib.hid hbq
          clear hbq
          go_wp2_with fail
          go_ret
          exact .bool HQ.out.symm HB5.out
        | cons y ys =>
          have hn' : 0 < n' := by rw [← LY]; simp
          have e2 : ((n' : Int) == 0) = false := by simp; omega
          have e2' : (n' == 0) = false := by simp; omega
          have hbig := hX.big
          have hbig' := hY.big
          have hi1 : (0 : Int) < n := by omega
          have hi2 : (0 : Int) < n' := by omega
          have HQ := Lib.hid (show alikeF (x :: xs) (y :: ys) = (x.d == y.d) by rw [alikeF_cons, h1, h2]; rfl)
          obtain ⟨b, off, rfl, hc⟩ := hX.at_ hn
          obtain ⟨b', off', rfl, hc'⟩ := hY.at_ hn'
          have c0 := (hc 0 x rfl).c0
          have c1 := (hc' 0 y rfl).c0
          rw [Nat.zero_mul, Nat.add_zero] at c0 c1
          have m0 := fun p : After w => cell_after c0 p
          have m1 := fun p : After w => cell_after c1 p
          clear h1 h2 hX hY LX LY hc hc' c0 c1
          go_enter Try.func40, Try.ntmps40
          go_wp2_with fail
          refine quiet_after (by kernel_rfl) (by kernel_rfl) ?_
          repeat (first | go_big_quiet_step ((first | (go_at_call 22; first | with_reducible exact calls_after (CA.out _) | with_reducible exact calls_after (CB.out _)))) | quiet_step ((first | (go_at_call 22; first | with_reducible exact calls_after (CA.out _) | with_reducible exact calls_after (CB.out _)))))
          refine wpQuiet_nil ?_
          intro wz hw'
          obtain ⟨p, rfl⟩ := hw'
          obtain ⟨w5, hbq⟩ := p
          dsimp only
          have HB5 := Lib.hid hbq
          clear hbq m0 m1
          go_wp2_with fail
          go_ret
          exact .bool HQ.out.symm HB5.out
set_option maxHeartbeats 8000000 in
theorem within1_any (B : Nat) (A : Option Addr) (n c : Nat) (x : T) (ts : List T) (w : World) (hB : Blk w B [.slice A n c] 33) (hX : Tms w A n c ts) :
    Calls Try.prog 42 #[.agg #[.int .i64 x.d, .int .i64 x.e, .int .i64 x.a, .int .i64 x.b, .int .i64 x.c], .pointer (some ⟨B, 0, none⟩)] w (Gives (.bool (inF ts x)) w) := by
  have HW := below_new w (.cells #[.int .i64 x.d, .int .i64 x.e, .int .i64 x.a, .int .i64 x.b, .int .i64 x.c] 28)
  have b0 := (hB.then HW).cell 0
  obtain ⟨x0, x1, x2, x3, x4⟩ := (Bx.new w x _ rfl).cells
  have HB := Lib.hid HW
  have C1 := Lib.hid (in_any A n c ts x (w.alloc (.cells #[.int .i64 x.d, .int .i64 x.e, .int .i64 x.a, .int .i64 x.b, .int .i64 x.c] 28)) (hX.below At.stays HW))
  clear hB hX HW
  go_enter Try.func42, Try.ntmps42
  go_wp2_with fail
  refine C1.out.mono ?_
  rintro e w1 ⟨rfl, hb⟩
  have HB1 := Lib.hid (below_then HB.out hb)
  clear hb C1 b0 x0 x1 x2 x3 x4
  go_wp2_with fail
  go_ret
  exact .bool rfl HB1.out
set_option maxHeartbeats 8000000 in
theorem within_any (A A' : Option Addr) (n c n' c' : Nat) (xs ys : List T) (w : World) (hX : Tms w A n c xs) (hY : Tms w A' n' c' ys) (l1 : n ≤ 1000000) (l2 : n' ≤ 1000000) :
    Calls Try.prog 23 #[.slice A n c, .slice A' n' c'] w (Gives (.bool (withinF xs ys)) w) := by
  have b0 := Blk.new w [.slice A n c] 33 _ rfl
  have HW := below_new w (.cells #[.slice A n c] 33)
  have k0 := b0.cell 0
  have HBK := Lib.hid b0
  have HX := Lib.hid (hX.below At.stays HW)
  have HY := Lib.hid (hY.below At.stays HW)
  have HB := Lib.hid HW
  have C1 := Lib.hid (alike_any' A A' n c n' c' xs ys (w.alloc (.cells #[.slice A n c] 33)) HX.out HY.out l1 l2)
  clear hX hY HW b0
  go_enter Try.func23, Try.ntmps23
  go_wp2_with fail
  refine C1.out.mono ?_
  rintro e w1 ⟨rfl, hb⟩
  have HB1 := Lib.hid (below_then HB.out hb)
  have HX1 := Lib.hid (HX.out.below At.stays hb)
  have HY1 := Lib.hid (HY.out.below At.stays hb)
  have HBK1 := Lib.hid (HBK.out.then hb)
  clear hb C1 HB HX HY HBK k0
  cases h1 : alikeF xs ys with
  | false =>
    have HQ := Lib.hid (show withinF xs ys = false by unfold withinF; rw [h1]; rfl)
    clear h1
    go_wp2_with fail
    go_ret
    exact .bool HQ.out.symm HB1.out
  | true =>
    have HQ := Lib.hid (show withinF xs ys = !ys.any (inF xs) by unfold withinF; rw [h1]; rfl)
    clear h1
    have C2 := Lib.hid (contains_any A' n' c' _ _ (inF xs) ys w1 HY1.out enters4 fun x hx W hb => within1_any w.heap.size A n c x xs W (HBK1.out.then hb) (HX1.out.below At.stays hb))
    go_wp2_with fail
    refine C2.out.mono ?_
    rintro e w2 ⟨rfl, hb⟩
    have HB2 := Lib.hid (below_then HB1.out hb)
    clear hb C2 HB1 HX1 HY1 HBK1
    go_wp2_with fail
    go_ret
    exact .bool HQ.out.symm HB2.out
end Go.Proofs.Ytebpepjlhanopaa
