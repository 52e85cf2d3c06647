/- works. -/
import Derived.Test.YteiohcgohgcjfaaRows
import Derived.IntWalk
import Derived.Test.YteiohcgohgcjfaaWords
import Derived.Test.YteiohcgohgcjfaaByts
import Derived.Test.YteiohcgohgcjfaaStrs
import Derived.Test.YteiohcgohgcjfaaFrame
import Derived.Test.YteiohcgohgcjfaaElems
import Derived.Test.YteiohcgohgcjfaaBitsW
import Derived.Test.YteiohcgohgcjfaaS1
import Derived.Test.YteiohcgohgcjfaaS2
import Derived.Test.YteiohcgohgcjfaaEqs
import Derived.Test.YteiohcgohgcjfaaS11
import Derived.Test.YteiohcgohgcjfaaA1
import Derived.Test.YteiohcgohgcjfaaA2
import Derived.Test.YteiohcgohgcjfaaA3
import Derived.Test.YteiohcgohgcjfaaD1
import Derived.Test.YteiohcgohgcjfaaD5
import Derived.Test.YteiohcgohgcjfaaD6
import Derived.Test.YteiohcgohgcjfaaD7
import Derived.Test.YteiohcgohgcjfaaD8
import Derived.Test.YteiohcgohgcjfaaD9
import Derived.Test.YteiohcgohgcjfaaE1
import Derived.Test.YteiohcgohgcjfaaE9
namespace Go.Proofs.Yteiohcgohgcjfaa
open Go Go.RowKit Go.Proofs.Tail
set_option linter.unusedSimpArgs false
set_option linter.unusedVariables false
def wm1 : Msg := ⟨1, 1, 2, 0, 3, ⟨0, 4, 0, 0, 0⟩, [], []⟩
def wm2 : Msg := ⟨2, 0, 0, 0, 0, T0, [], []⟩
def wl1 : List Int := [1, 1, 2, 0, 0, 0, 0, 0, 0, 0, 0, 3, 0, 0, 4, 0, 0, 0, 0]
theorem wm1_may : mayB wm1 = true := by decide
theorem wm2_may : mayB wm2 = true := by decide
theorem wm1_row : msgL wm1 = wl1 := by decide
theorem wm2_row : msgL wm2 = [2, 0, 0, 0, 0] := by decide
theorem wl1_get : getM wl1 = some wm1 := by kernel_rfl
set_option maxHeartbeats 8000000 in
theorem works_any (w : World) : Calls Try.prog 9 #[] w (Gives (.bool true) w) := by
  have P1 := Lib.hid (fun W => show Calls Try.prog 13 #[.agg #[.int .u8 1, .int .i64 1, .int .i64 2, .int .i64 0, .int .i64 3, .int .i64 0, .int .i64 4, .int .i64 0, .int .i64 0, .int .i64 0, .slice none 0 0, .slice none 0 0]] W (GivesRow wl1 0 W) from by
    have := mput_any wm1 none none 0 0 W ⟨Rd.nil _ _ _, Rd.nil _ _ _⟩ (by decide)
    rw [if_pos wm1_may, if_pos wm1_may, wm1_row] at this
    exact this)
  have P2 := Lib.hid (fun W => show Calls Try.prog 13 #[.agg #[.int .u8 2, .int .i64 0, .int .i64 0, .int .i64 0, .int .i64 0, .int .i64 0, .int .i64 0, .int .i64 0, .int .i64 0, .int .i64 0, .slice none 0 0, .slice none 0 0]] W (GivesRow [2, 0, 0, 0, 0] 0 W) from by
    have := mput_any wm2 none none 0 0 W ⟨Rd.nil _ _ _, Rd.nil _ _ _⟩ (by decide)
    rw [if_pos wm2_may, if_pos wm2_may, wm2_row] at this
    exact this)
  go_enter Try.func9, Try.ntmps9
  go_wp2_with fail
  refine (P1.out _).mono ?_
  rintro e w1 ⟨v1, rfl, ho1, hb1⟩
  obtain ⟨A1, c1, rfl, hy1⟩ := own_bytes ho1 (by decide)
  have HB1 := Lib.hid hb1
  have HY1 := Lib.hid hy1
  clear ho1 hb1 hy1 P1
  go_wp2_with fail
  refine (P2.out _).mono ?_
  rintro e w2 ⟨v2, rfl, ho2, hb2⟩
  obtain ⟨A2, c2, rfl, hy2⟩ := own_bytes ho2 (by decide)
  have HB2 := Lib.hid (HB1.out.trans (hb2.mono HB1.out.size))
  have HY1 := Lib.hid (HY1.out.below RByte.stays hb2)
  have HY2 := Lib.hid hy2
  clear ho2 hb2 hy2 P2 HB1
  have HG := Lib.hid (show Calls Try.prog 14 #[.slice A1 19 c1] w2 (GivesM (getM wl1) w2) from get_any' A1 c1 wl1 w2 HY1.out (by unfold InB wl1; decide))
  go_wp2_with fail
  refine HG.out.mono ?_
  rintro e w3 ⟨_, h3, hb3⟩
  obtain ⟨A3, c3, B3, d3, rfl, hm3⟩ := h3 wm1 wl1_get
  have HB3 := Lib.hid (HB2.out.trans (hb3.mono HB2.out.size))
  have HY1 := Lib.hid (HY1.out.below RByte.stays hb3)
  have HY2 := Lib.hid (HY2.out.below RByte.stays hb3)
  clear h3 hb3 hm3 HB2 HG
  have e3 : (wm1.cs A3 c3 B3 d3).toArray = #[.int .u8 1, .int .i64 1, .int .i64 2, .int .i64 0, .int .i64 3, .int .i64 0, .int .i64 4, .int .i64 0, .int .i64 0, .int .i64 0, .slice A3 0 c3, .slice B3 0 d3] := rfl
  rw [e3]
  have hb4 := below_new w3 (.cells #[.int .u8 1, .int .i64 1, .int .i64 2, .int .i64 0, .int .i64 3, .int .i64 0, .int .i64 4, .int .i64 0, .int .i64 0, .int .i64 0, .slice A3 0 c3, .slice B3 0 d3] 28)
  have HY1 := (HY1.out.below RByte.stays hb4)
  have HY2 := (HY2.out.below RByte.stays hb4)
  have HB4 := Lib.hid (HB3.out.trans (hb4.mono HB3.out.size))
  obtain ⟨g1, o1, rfl, x1⟩ := HY1.byte (j := 1) (by decide)
  obtain ⟨g1', o1', q2, x2⟩ := HY1.byte (j := 2) (by decide)
  injection q2 with q2; injection q2 with q2 q3; subst q2; subst q3
  obtain ⟨g1', o1', q2, x11⟩ := HY1.byte (j := 11) (by decide)
  injection q2 with q2; injection q2 with q2 q3; subst q2; subst q3
  obtain ⟨g1', o1', q2, x14⟩ := HY1.byte (j := 14) (by decide)
  injection q2 with q2; injection q2 with q2 q3; subst q2; subst q3
  obtain ⟨g2, o2, rfl, y0⟩ := HY2.byte (j := 0) (by decide)
  rw [show wl1.getD 1 0 = 1 from rfl] at x1
  rw [show wl1.getD 2 0 = 2 from rfl] at x2
  rw [show wl1.getD 11 0 = 3 from rfl] at x11
  rw [show wl1.getD 14 0 = 4 from rfl] at x14
  rw [show [2, 0, 0, 0, 0].getD 0 0 = (2 : Int) from rfl, Nat.add_zero] at y0
  clear HY1 HY2 hb4 e3
  go_wp2_with fail
  go_ret
  exact ⟨rfl, HB4.out⟩
end Go.Proofs.Yteiohcgohgcjfaa
