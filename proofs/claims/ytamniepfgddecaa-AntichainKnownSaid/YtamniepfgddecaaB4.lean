/- Contracts of the reference's Within. -/
import Derived.Test.YtamniepfgddecaaRows
import Derived.Test.YtamniepfgddecaaWords
import Derived.Test.YtamniepfgddecaaByts
import Derived.Test.YtamniepfgddecaaFrame
import Derived.Test.YtamniepfgddecaaElems
import Derived.Test.YtamniepfgddecaaS1
import Derived.Test.YtamniepfgddecaaS2
import Derived.Test.YtamniepfgddecaaS4
import Derived.Test.YtamniepfgddecaaS7
import Derived.Test.YtamniepfgddecaaU1
import Derived.Test.YtamniepfgddecaaA1
import Derived.Test.YtamniepfgddecaaA2
import Derived.Test.YtamniepfgddecaaA3
import Derived.Test.YtamniepfgddecaaA4
import Derived.Test.YtamniepfgddecaaF1
import Derived.Test.YtamniepfgddecaaP1
import Derived.Test.YtamniepfgddecaaB1
import Derived.Test.YtamniepfgddecaaB2
import Derived.Test.YtamniepfgddecaaB3
namespace Go.Proofs.Ytamniepfgddecaa
open Go Go.RowKit Go.Proofs.Tail Go.Sort
set_option linter.unusedSimpArgs false
set_option linter.unusedVariables false
theorem alikeF_right {xs ys : List T} (h : alikeF xs ys = true) : rightF xs = true ∧ rightF ys = true := by
  unfold alikeF at h
  cases h1 : rightF xs <;> cases h2 : rightF ys <;> simp [h1, h2] at h <;> exact ⟨rfl, rfl⟩
theorem holdsF_in {xs ys : List T} (h : alikeF xs ys = true) {y : T} (hy : y ∈ ys) : holdsF xs y = inF xs y := by
  obtain ⟨h1, h2⟩ := alikeF_right h
  unfold holdsF
  rw [h1, ((rightF_iff.1 h2).1 y hy).1]
  rfl
set_option maxHeartbeats 8000000 in
theorem refwithin_any (A A' : Option Addr) (n c n' c' : Nat) (xs ys : List T) (w : World) (hX : Tms w A n c xs) (hY : Tms w A' n' c' ys) (l1 : n ≤ 1000000) (l2 : n' ≤ 1000000) :
    Calls Try.prog 25 #[.slice A n c, .slice A' n' c'] w (Gives (.bool (withinF xs ys)) w) := by
  have HX := Lib.hid hX
  have HY := Lib.hid hY
  have LY := Lib.hid hY.len
  have C1 := Lib.hid (refalike_any A A' n c n' c' xs ys w hX hY l1 l2)
  clear hX hY
  go_enter Try.func25, Try.ntmps25
  go_wp2_with fail
  refine C1.out.mono ?_
  rintro e w1 ⟨rfl, hb⟩
  have HB1 := Lib.hid hb
  clear hb C1
  cases h1 : alikeF xs ys with
  | false =>
    have HQ := Lib.hid (show withinF xs ys = false by unfold withinF; rw [h1]; rfl)
    clear h1
    go_wp2_with fail
    go_ret
    exact .bool HQ.out.symm HB1.out
  | true =>
    have HA := Lib.hid h1
    have HQ := Lib.hid (show withinF xs ys = !ys.any (inF xs) by unfold withinF; rw [h1]; rfl)
    clear h1
    have N0 := Lib.hid (show ∀ j y, j < 0 → ys[j]? = some y → inF xs y = false from fun j x h => absurd h (Nat.not_lt_zero _))
    go_wp2_with fail
    go_loopw [5] (fun i wr => ∃ k : Nat, k ≤ n' ∧ i = .int .i64 k ∧ Hid (∀ j y, j < k → ys[j]? = some y → inF xs y = false) ∧ Hid (Below w.heap.size w wr)) (fun i _ => n' - (intOf i).toNat)
    case atStart => exact ⟨0, Nat.zero_le _, rfl, N0, HB1⟩
    case round =>
      clear N0 HB1
      obtain ⟨k, hk, rfl, HN, HB⟩ := hrel
      by_cases hlt : k < n'
      · have hd : decide ((k : Int) < n') = true := decide_eq_true (by omega)
        have hd' : decide (k < n') = true := decide_eq_true (by omega)
        obtain ⟨b, off, y, rfl, hy, hc⟩ := (HY.out.below At.stays HB.out).elem hlt
        have c0 := hc.c0
        have c1 := hc.c1
        have c2 := hc.c2
        have c3 := hc.c3
        have c4 := hc.c4
        have HYE := Lib.hid hy
        have C2 := Lib.hid (refholds_any A n c xs y wr (HX.out.below At.stays HB.out) l1)
        rw [holdsF_in HA.out (List.mem_of_getElem? hy)] at C2
        clear hy hc
        go_wp2_with fail
        refine C2.out.mono ?_
        rintro e w5 ⟨rfl, hb⟩
        have HB5 := Lib.hid (below_then HB.out hb)
        cases g : inF xs y with
        | true =>
          have HQ2 := Lib.hid (show withinF xs ys = false by rw [HQ.out, List.any_eq_true.2 ⟨y, List.mem_of_getElem? HYE.out, g⟩]; rfl)
          clear g hb HN HB C2 c0 c1 c2 c3 c4
          go_wp2_with fail
          go_ret
          exact .bool HQ2.out.symm HB5.out
        | false =>
          have HNN := Lib.hid (show ∀ j z, j < k + 1 → ys[j]? = some z → inF xs z = false from fun j z hj hz => by
            rcases Nat.eq_or_lt_of_le (Nat.le_of_lt_succ hj) with e | e
            · subst e; rw [HYE.out] at hz; injection hz with hz; subst hz; exact g
            · exact HN.out j z e hz)
          clear g hb HN HB C2 c0 c1 c2 c3 c4
          go_wp2_with fail
          go_roundw
          case rel => exact ⟨k + 1, by omega, by go_num, HNN, HB5⟩
          case measure => simp [intOf]; omega
      · have hkn : k = n' := by omega
        subst hkn
        have hd : decide ((k : Int) < k) = false := decide_eq_false (by omega)
        have hd' : decide (k < k) = false := decide_eq_false (by omega)
        have HQ2 := Lib.hid (show withinF xs ys = true by
          rw [HQ.out, List.any_eq_false.2 (fun y hy => by
            obtain ⟨j, hj, e⟩ := List.getElem_of_mem hy
            rw [HN.out j y (by rw [LY.out] at hj; exact hj) (by rw [← e, List.getElem?_eq_getElem hj])]; simp)]
          rfl)
        clear HN
        go_wp2_with fail
        go_ret
        exact .bool HQ2.out.symm HB.out
end Go.Proofs.Ytamniepfgddecaa
