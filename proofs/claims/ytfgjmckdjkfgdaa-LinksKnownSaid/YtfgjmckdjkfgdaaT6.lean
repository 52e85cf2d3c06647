/- The walk of LinksPlays. -/
import Derived.Test.YtfgjmckdjkfgdaaRows
import Derived.IntWalk
import Derived.Test.YtfgjmckdjkfgdaaWords
import Derived.Test.YtfgjmckdjkfgdaaByts
import Derived.Test.YtfgjmckdjkfgdaaStrs
import Derived.Test.YtfgjmckdjkfgdaaFrame
import Derived.Test.YtfgjmckdjkfgdaaElems
import Derived.Test.YtfgjmckdjkfgdaaHeads
import Derived.Test.YtfgjmckdjkfgdaaN9
import Derived.Test.YtfgjmckdjkfgdaaN10
import Derived.Test.YtfgjmckdjkfgdaaN11
import Derived.Test.YtfgjmckdjkfgdaaR1
import Derived.Test.YtfgjmckdjkfgdaaR2
import Derived.Test.YtfgjmckdjkfgdaaR3
import Derived.Test.YtfgjmckdjkfgdaaP1
import Derived.Test.YtfgjmckdjkfgdaaT1
import Derived.Test.YtfgjmckdjkfgdaaT2
import Derived.Test.YtfgjmckdjkfgdaaT3
import Derived.Test.YtfgjmckdjkfgdaaT4
import Derived.Test.YtfgjmckdjkfgdaaT5
namespace Go.Proofs.Ytfgjmckdjkfgdaa
open Go Go.RowKit Go.Proofs.Tail
set_option linter.unusedSimpArgs false
set_option linter.unusedVariables false
def Lv (w : World) (P M k : Nat) (wr : World) : Prop := ∃ D1 D2 N R, St wr w.heap.size D1 D2 P M N R ∧ Below w.heap.size w wr ∧ R.L.length ≤ k
set_option maxRecDepth 100000 in
set_option maxHeartbeats 16000000 in
theorem law_plays (E : Int) (A : Option Addr) (n c : Nat) (l : List CallS) (w : World) (hX : Cls w A n c l) : Calls Try.prog 3 #[.int .i64 E, .slice A n c] w (Gives (.bool true) w) := by
  have HL := Lib.hid (large_any A n c l w hX)
  have HX := Lib.hid hX
  have HW := Lib.hid (fun W => works_any W)
  clear hX
  go_enter Try.func3, Try.ntmps3
  go_wp2_with fail
  refine HL.out.mono ?_
  rintro e w1 ⟨b, rfl, hb, rfl⟩
  cases b with
  | true =>
    clear HL HX hb
    go_wp2_with fail
    refine (HW.out _).mono ?_
    rintro e w1 ⟨rfl, hb⟩
    have HB := Lib.hid hb
    clear hb HW
    go_wp2_with fail
    go_ret
    exact .bool rfl HB.out
  | false =>
    have hs := hb rfl
    have HS := Lib.hid hs
    have hn : n ≤ 200 := by rw [← HX.out.len]; exact hs.1
    clear hb hs HL
    have HNN := Lib.hid (fun (e : Int) => nnew_any e w)
    by_cases h8 : 8 < E
    all_goals
      first | have h8' : decide (8 < E) = true := decide_eq_true h8 | have h8' : decide (8 < E) = false := decide_eq_false h8
      go_wp2_with fail
      refine (HNN.out _).mono ?_
      rintro e w1 ⟨rfl, hn1, hb1⟩
      have HR1 := Lib.hid (fun (e : Int) => refnew_any e w1)
      have HN1 := Lib.hid hn1
      have HB1 := Lib.hid hb1
      clear hn1 hb1 HNN h8'
      go_wp2_with fail
      refine (HR1.out _).mono ?_
      rintro e w2 ⟨rfl, hr2, hb2⟩
      have H0 : Hid (Lv w w.heap.size w1.heap.size 0 w2) := Lib.hid ⟨_, _, _, _, ⟨HN1.out.below hb2, hr2, (fun k h1 h2 => by have := HN1.out.lt k h1; omega), (fun k h1 => by rw [h1]; exact Nat.le_refl _), (fun k h2 => by rw [h2]; exact HB1.out.size), Sim.new _⟩, below_then HB1.out hb2, Nat.le_refl _⟩
      have hp1 : ((some (⟨w.heap.size, 0, none⟩ : Addr)) == none) = false := rfl
      clear hr2 hb2 HR1 HN1 HB1 h8
      go_wp2_with fail
      go_loopw [7] (fun i wr => ∃ k : Nat, k ≤ n ∧ i = .int .i64 k ∧ Hid (Lv w w.heap.size w1.heap.size k wr)) (fun i _ => n - (intOf i).toNat)
      case atStart => exact ⟨0, Nat.zero_le _, rfl, H0⟩
      case round =>
        clear H0
        obtain ⟨k, hk, rfl, HLV⟩ := hrel
        obtain ⟨D1, D2, N, R, hst, hbe, hle⟩ := HLV.out
        by_cases hlt : k < n
        · have hd : decide ((k : Int) < n) = true := decide_eq_true (by omega)
          have hd' : decide (k < n) = true := decide_eq_true (by omega)
          have hk0 : (0 : Int) ≤ k := by omega
          have hkn : (k : Int) < n := by omega
          obtain ⟨g, off, x, rfl, hx, hc⟩ := HX.out.elem hlt
          obtain ⟨_, x0, x1, x2, A1, c1, x3, hby⟩ := hc
          have y0 := below_cell hbe x0
          have y1 := below_cell hbe x1
          have y2 := below_cell hbe x2
          have y3 := below_cell hbe x3
          have HD := Lib.hid (does_any hst hbe (by omega) x A1 c1 hby (HS.out.2 k x hx))
          have HBE := Lib.hid hbe
          have HX0 := Lib.hid (And.intro x0 (And.intro x1 (And.intro x2 x3)))
          have HLE := Lib.hid hle
          clear hx hby hst hbe hle HLV x0 x1 x2 x3
          go_wp2_with fail
          refine HD.out.mono ?_
          rintro e w5 ⟨D1', D2', N', R', rfl, hst, hbe5, hle5⟩
          have HB5 := Lib.hid (HBE.out.trans hbe5)
          have z0 := below_cell HB5.out HX0.out.1
          have z1 := below_cell HB5.out HX0.out.2.1
          have z2 := below_cell HB5.out HX0.out.2.2.1
          have z3 := below_cell HB5.out HX0.out.2.2.2
          have HT := Lib.hid (tells_any hst x A1 c1)
          have HST := Lib.hid hst
          have HL5 := Lib.hid hle5
          clear hst hbe5 hle5 y0 y1 y2 y3 HD HBE
          go_wp2_with fail
          refine HT.out.mono ?_
          rintro e w6 ⟨rfl, hb6⟩
          have HN := Lib.hid (show Lv w w.heap.size w1.heap.size (k + 1) w6 from ⟨D1', D2', N', R', HST.out.below hb6, HB5.out.trans (hb6.mono HB5.out.size), by have := HL5.out; have := HLE.out; omega⟩)
          clear hb6 HT HST z0 z1 z2 z3
          go_wp2_with fail
          go_roundw
          case rel => exact ⟨k + 1, by omega, by go_num, HN⟩
          case measure => simp [intOf]; omega
        · have hd : decide ((k : Int) < n) = false := decide_eq_false (by omega)
          have hd' : decide (k < n) = false := decide_eq_false (by omega)
          have HBE := Lib.hid hbe
          clear hst hbe hle HLV
          go_wp2_with fail
          refine (HW.out _).mono ?_
          rintro e w9 ⟨rfl, hb⟩
          have HB := Lib.hid (HBE.out.trans (hb.mono HBE.out.size))
          clear hb HBE
          go_wp2_with fail
          go_ret
          exact .bool rfl HB.out
end Go.Proofs.Ytfgjmckdjkfgdaa
