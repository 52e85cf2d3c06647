/- Contracts of the reference's alike, Holds, Within. -/
import Derived.Test.YtamniepfgddecaaRows
import Derived.Test.YtamniepfgddecaaWords
import Derived.Test.YtamniepfgddecaaByts
import Derived.Test.YtamniepfgddecaaFrame
import Derived.Test.YtamniepfgddecaaElems
import Derived.Test.YtamniepfgddecaaS1
import Derived.Test.YtamniepfgddecaaS2
import Derived.Test.YtamniepfgddecaaS4
import Derived.Test.YtamniepfgddecaaS7
import Derived.Test.YtamniepfgddecaaU1
import Derived.Test.YtamniepfgddecaaA1
import Derived.Test.YtamniepfgddecaaA2
import Derived.Test.YtamniepfgddecaaA3
import Derived.Test.YtamniepfgddecaaA4
import Derived.Test.YtamniepfgddecaaF1
import Derived.Test.YtamniepfgddecaaP1
import Derived.Test.YtamniepfgddecaaB1
namespace Go.Proofs.Ytamniepfgddecaa
open Go Go.RowKit Go.Proofs.Tail Go.Sort
set_option linter.unusedSimpArgs false
set_option linter.unusedVariables false
set_option maxRecDepth 100000 in
set_option maxHeartbeats 16000000 in
theorem refalike_any (A A' : Option Addr) (n c n' c' : Nat) (xs ys : List T) (w : World) (hX : Tms w A n c xs) (hY : Tms w A' n' c' ys) (l1 : n ≤ 1000000) (l2 : n' ≤ 1000000) :
    Calls Try.prog 41 #[.slice A n c, .slice A' n' c'] w (Gives (.bool (alikeF xs ys)) w) := by
  have CA := Lib.hid (fun p : After w => refright_all A n c xs p.val (hX.below At.stays p.below) l1)
  have CB := Lib.hid (fun p : After w => refright_all A' n' c' ys p.val (hY.below At.stays p.below) l2)
  cases h1 : rightF xs with
  | false =>
    rw [h1] at CA
    have HQ := Lib.hid (show alikeF xs ys = false by unfold alikeF; rw [h1]; rfl)
    clear h1 hX hY
    go_enter Try.func41, Try.ntmps41
    go_wp2_with fail
    refine quiet_after (by kernel_rfl) (by kernel_rfl) ?_
    repeat (first | go_big_quiet_step ((go_at_call 15; with_reducible exact calls_after (CA.out _))) | quiet_step ((go_at_call 15; with_reducible exact calls_after (CA.out _))))
    refine wpQuiet_nil ?_
    intro wz hw'
    obtain ⟨p, rfl⟩ := hw'
    obtain ⟨w5, hbq⟩ := p
    dsimp only
    have HB5 := Lib.hid hbq
    clear hbq
    go_wp2_with fail
    go_ret
    exact .bool HQ.out.symm HB5.out
  | true =>
    rw [h1] at CA
    have LX := hX.len
    have LY := hY.len
    cases h2 : rightF ys with
    | false =>
      rw [h2] at CB
      have HQ := Lib.hid (show alikeF xs ys = false by unfold alikeF; rw [h1, h2]; rfl)
      clear h1 h2 hX hY LX LY
      go_enter Try.func41, Try.ntmps41
      go_wp2_with fail
      refine quiet_after (by kernel_rfl) (by kernel_rfl) ?_
      repeat (first | go_big_quiet_step ((first | (go_at_call 15; first | with_reducible exact calls_after (CA.out _) | with_reducible exact calls_after (CB.out _)))) | quiet_step ((first | (go_at_call 15; first | with_reducible exact calls_after (CA.out _) | with_reducible exact calls_after (CB.out _)))))
      refine wpQuiet_nil ?_
      intro wz hw'
      obtain ⟨p, rfl⟩ := hw'
      obtain ⟨w5, hbq⟩ := p
      dsimp only
      have HB5 := Lib.hid hbq
      clear hbq
      go_wp2_with fail
      go_ret
      exact .bool HQ.out.symm HB5.out
    | true =>
      rw [h2] at CB
      cases xs with
      | nil =>
        obtain rfl : n = 0 := by rw [← LX]; rfl
        have HQ := Lib.hid (show alikeF [] ys = true by rw [alikeF_nil1, h1, h2]; rfl)
        clear h1 h2 hX hY LX LY
        go_enter Try.func41, Try.ntmps41
        go_wp2_with fail
        refine quiet_after (by kernel_rfl) (by kernel_rfl) ?_
        repeat (first | go_big_quiet_step ((first | (go_at_call 15; first | with_reducible exact calls_after (CA.out _) | with_reducible exact calls_after (CB.out _)))) | quiet_step ((first | (go_at_call 15; first | with_reducible exact calls_after (CA.out _) | with_reducible exact calls_after (CB.out _)))))
        refine wpQuiet_nil ?_
        intro wz hw'
        obtain ⟨p, rfl⟩ := hw'
        obtain ⟨w5, hbq⟩ := p
        dsimp only
        have HB5 := Lib.hid hbq
        clear hbq
        go_wp2_with fail
        go_ret
        exact .bool HQ.out.symm HB5.out
      | cons x xs =>
        have hn : 0 < n := by rw [← LX]; simp
        have e1 : ((n : Int) == 0) = false := by simp; omega
        have e1' : (n == 0) = false := by simp; omega
        cases ys with
        | nil =>
          obtain rfl : n' = 0 := by rw [← LY]; rfl
          have HQ := Lib.hid (show alikeF (x :: xs) [] = true by rw [alikeF_nil2, h1, h2]; rfl)
          clear h1 h2 hX hY LX LY
          go_enter Try.func41, Try.ntmps41
          go_wp2_with fail
          refine quiet_after (by kernel_rfl) (by kernel_rfl) ?_
          repeat (first | go_big_quiet_step ((first | (go_at_call 15; first | with_reducible exact calls_after (CA.out _) | with_reducible exact calls_after (CB.out _)))) | quiet_step ((first | (go_at_call 15; first | with_reducible exact calls_after (CA.out _) | with_reducible exact calls_after (CB.out _)))))
          refine wpQuiet_nil ?_
          intro wz hw'
          obtain ⟨p, rfl⟩ := hw'
          obtain ⟨w5, hbq⟩ := p
          dsimp only
          have HB5 := Lib.hid hbq
          clear hbq
          go_wp2_with fail
          go_ret
          exact .bool HQ.out.symm HB5.out
        | cons y ys =>
          have hn' : 0 < n' := by rw [← LY]; simp
          have e2 : ((n' : Int) == 0) = false := by simp; omega
          have e2' : (n' == 0) = false := by simp; omega
          have hbig := hX.big
          have hbig' := hY.big
          have hi1 : (0 : Int) < n := by omega
          have hi2 : (0 : Int) < n' := by omega
          have HQ := Lib.hid (show alikeF (x :: xs) (y :: ys) = (x.d == y.d) by rw [alikeF_cons, h1, h2]; rfl)
          obtain ⟨b, off, rfl, hc⟩ := hX.at_ hn
          obtain ⟨b', off', rfl, hc'⟩ := hY.at_ hn'
          have c0 := (hc 0 x rfl).c0
          have c1 := (hc' 0 y rfl).c0
          rw [Nat.zero_mul, Nat.add_zero] at c0 c1
          have m0 := fun p : After w => cell_after c0 p
          have m1 := fun p : After w => cell_after c1 p
          clear h1 h2 hX hY LX LY hc hc' c0 c1
          go_enter Try.func41, Try.ntmps41
          go_wp2_with fail
          refine quiet_after (by kernel_rfl) (by kernel_rfl) ?_
          repeat (first | go_big_quiet_step ((first | (go_at_call 15; first | with_reducible exact calls_after (CA.out _) | with_reducible exact calls_after (CB.out _)))) | quiet_step ((first | (go_at_call 15; first | with_reducible exact calls_after (CA.out _) | with_reducible exact calls_after (CB.out _)))))
          refine wpQuiet_nil ?_
          intro wz hw'
          obtain ⟨p, rfl⟩ := hw'
          obtain ⟨w5, hbq⟩ := p
          dsimp only
          have HB5 := Lib.hid hbq
          clear hbq m0 m1
          go_wp2_with fail
          go_ret
          exact .bool HQ.out.symm HB5.out
end Go.Proofs.Ytamniepfgddecaa
