/- The walk of AntichainTwo. -/
import Derived.Test.YtamniepfgddecaaRows
import Derived.Test.YtamniepfgddecaaWords
import Derived.Test.YtamniepfgddecaaByts
import Derived.Test.YtamniepfgddecaaFrame
import Derived.Test.YtamniepfgddecaaElems
import Derived.Test.YtamniepfgddecaaS1
import Derived.Test.YtamniepfgddecaaS2
import Derived.Test.YtamniepfgddecaaS4
import Derived.Test.YtamniepfgddecaaS7
import Derived.Test.YtamniepfgddecaaU1
import Derived.Test.YtamniepfgddecaaU4
import Derived.Test.YtamniepfgddecaaA1
import Derived.Test.YtamniepfgddecaaA2
import Derived.Test.YtamniepfgddecaaA3
import Derived.Test.YtamniepfgddecaaA4
import Derived.Test.YtamniepfgddecaaA5
import Derived.Test.YtamniepfgddecaaB1
import Derived.Test.YtamniepfgddecaaB3
import Derived.Test.YtamniepfgddecaaB4
import Derived.Test.YtamniepfgddecaaB5
import Derived.Test.YtamniepfgddecaaB6
import Derived.Test.YtamniepfgddecaaP1
import Derived.Test.YtamniepfgddecaaP3
import Derived.Test.YtamniepfgddecaaW1
import Derived.Test.YtamniepfgddecaaL0
namespace Go.Proofs.Ytamniepfgddecaa
open Go Go.RowKit Go.Proofs.Tail Go.Sort
set_option linter.unusedSimpArgs false
set_option linter.unusedVariables false
theorem both_len {xs ys : List T} : ((bothF xs ys).getD []).length ≤ xs.length + ys.length := by
  unfold bothF
  split
  · cases e : ofT (xs ++ ys) with
    | none => simp
    | some l => have := ofT_length e; simpa using this
  · simp
theorem either_len {xs ys : List T} : ((eitherF xs ys).getD []).length ≤ xs.length * ys.length := by
  unfold eitherF
  split
  · cases e : ofT (joins xs ys) with
    | none => simp
    | some l => have := ofT_length e; rw [joins_length] at this; simpa using this
  · simp
set_option maxRecDepth 100000 in
set_option maxHeartbeats 16000000 in
theorem law_two (A A' : Option Addr) (n c n' c' : Nat) (xs ys : List T) (w : World) (hX : Tms w A n c xs) (hY : Tms w A' n' c' ys) :
    Calls Try.prog 5 #[.slice A n c, .slice A' n' c'] w (Gives (.bool true) w) := by
  by_cases h : 30 < n
  · have d1 : decide (30 < (n : Int)) = true := decide_eq_true (by omega)
    clear h hX hY
    go_enter Try.func5, Try.ntmps5
    go_wp2_with fail
    refine (works_any _).mono ?_
    rintro e w1 ⟨rfl, hb⟩
    have HB1 := Lib.hid (hb)
    clear hb
    go_wp2_with fail
    go_ret
    exact .bool rfl HB1.out
  by_cases h' : 30 < n'
  · have d1 : decide (30 < (n : Int)) = false := decide_eq_false (by omega)
    have d2 : decide (30 < (n' : Int)) = true := decide_eq_true (by omega)
    clear h h' hX hY
    go_enter Try.func5, Try.ntmps5
    go_wp2_with fail
    refine (works_any _).mono ?_
    rintro e w1 ⟨rfl, hb⟩
    have HB1 := Lib.hid (hb)
    clear hb
    go_wp2_with fail
    go_ret
    exact .bool rfl HB1.out
  have d1 : decide (30 < (n : Int)) = false := decide_eq_false (by omega)
  have d2 : decide (30 < (n' : Int)) = false := decide_eq_false (by omega)
  have l1 : n ≤ 30 := by omega
  have l2 : n' ≤ 30 := by omega
  clear h h'
  have HX := Lib.hid hX
  have HY := Lib.hid hY
  have lx := hX.len
  have ly := hY.len
  obtain ⟨q1, m1, e1, is1⟩ := Is.of (bothF xs ys) (Nat.le_trans both_len (by omega))
  obtain ⟨q2, m2, e2, is2⟩ := Is.of (eitherF xs ys) (Nat.le_trans either_len (Nat.le_trans (Nat.mul_le_mul (show xs.length ≤ 30 by omega) (show ys.length ≤ 30 by omega)) (by omega)))
  have I1 := Lib.hid is1
  have I2 := Lib.hid is2
  clear is1 is2 lx ly hX hY
  go_enter Try.func5, Try.ntmps5
  go_wp2_with fail
  refine ((both_any A A' n c n' c' xs ys _ HX.out HY.out (by omega) (by omega)).mono fun _ _ => I1.out.gives).mono ?_
  rintro e w1 ⟨P, pc, rfl, _, hr, hb⟩
  have HP := Lib.hid hr
  clear hr
  have HX' := Lib.hid (HX.out.below At.stays hb)
  clear HX
  have HX := HX'
  clear HX'
  have HY' := Lib.hid (HY.out.below At.stays hb)
  clear HY
  have HY := HY'
  clear HY'
  have HB1 := Lib.hid (hb)
  clear hb
  go_wp2_with fail
  refine ((refboth_any A A' n c n' c' xs ys _ HX.out HY.out (by omega) (by omega)).mono fun _ _ => I1.out.gives).mono ?_
  rintro e w2 ⟨Q, qc, rfl, _, hr, hb⟩
  have HQ := Lib.hid hr
  clear hr
  have HX' := Lib.hid (HX.out.below At.stays hb)
  clear HX
  have HX := HX'
  clear HX'
  have HY' := Lib.hid (HY.out.below At.stays hb)
  clear HY
  have HY := HY'
  clear HY'
  have HP' := Lib.hid (HP.out.below At.stays hb)
  clear HP
  have HP := HP'
  clear HP'
  have HB2 := Lib.hid (below_then HB1.out hb)
  clear hb HB1
  go_wp2_with fail
  refine ((either_any A A' n c n' c' xs ys _ HX.out HY.out (by omega) (by omega)).mono fun _ _ => I2.out.gives).mono ?_
  rintro e w3 ⟨R, rc, rfl, _, hr, hb⟩
  have HR := Lib.hid hr
  clear hr
  have HX' := Lib.hid (HX.out.below At.stays hb)
  clear HX
  have HX := HX'
  clear HX'
  have HY' := Lib.hid (HY.out.below At.stays hb)
  clear HY
  have HY := HY'
  clear HY'
  have HP' := Lib.hid (HP.out.below At.stays hb)
  clear HP
  have HP := HP'
  clear HP'
  have HQ' := Lib.hid (HQ.out.below At.stays hb)
  clear HQ
  have HQ := HQ'
  clear HQ'
  have HB3 := Lib.hid (below_then HB2.out hb)
  clear hb HB2
  go_wp2_with fail
  refine ((refeither_any A A' n c n' c' xs ys _ HX.out HY.out (by omega) (by omega)).mono fun _ _ => I2.out.gives).mono ?_
  rintro e w4 ⟨S, sc, rfl, _, hr, hb⟩
  have HS := Lib.hid hr
  clear hr
  have HX' := Lib.hid (HX.out.below At.stays hb)
  clear HX
  have HX := HX'
  clear HX'
  have HY' := Lib.hid (HY.out.below At.stays hb)
  clear HY
  have HY := HY'
  clear HY'
  have HP' := Lib.hid (HP.out.below At.stays hb)
  clear HP
  have HP := HP'
  clear HP'
  have HQ' := Lib.hid (HQ.out.below At.stays hb)
  clear HQ
  have HQ := HQ'
  clear HQ'
  have HR' := Lib.hid (HR.out.below At.stays hb)
  clear HR
  have HR := HR'
  clear HR'
  have HB4 := Lib.hid (below_then HB3.out hb)
  clear hb HB3
  have CS := Lib.hid (show ∀ (W : World) B D m c c' (us : List T), Tms W B m c us → Tms W D m c' us → Calls Try.prog 13 #[.slice B m c, .slice D m c'] W (Gives (.bool true) W) from fun W B D m c c' us h1 h2 => by have := refsame_any B D m c m c' us us W h1 h2; simpa only [decide_true] using this)
  go_wp2_with fail
  refine (CS.out _ P Q m1 pc qc q1 HP.out HQ.out).mono ?_
  rintro e w5 ⟨rfl, hb⟩
  have HX' := Lib.hid (HX.out.below At.stays hb)
  clear HX
  have HX := HX'
  clear HX'
  have HY' := Lib.hid (HY.out.below At.stays hb)
  clear HY
  have HY := HY'
  clear HY'
  have HP' := Lib.hid (HP.out.below At.stays hb)
  clear HP
  have HP := HP'
  clear HP'
  have HQ' := Lib.hid (HQ.out.below At.stays hb)
  clear HQ
  have HQ := HQ'
  clear HQ'
  have HR' := Lib.hid (HR.out.below At.stays hb)
  clear HR
  have HR := HR'
  clear HR'
  have HS' := Lib.hid (HS.out.below At.stays hb)
  clear HS
  have HS := HS'
  clear HS'
  have HB5 := Lib.hid (below_then HB4.out hb)
  clear hb HB4
  go_wp2_with fail
  refine (CS.out _ R S m2 rc sc q2 HR.out HS.out).mono ?_
  rintro e w6 ⟨rfl, hb⟩
  have HX' := Lib.hid (HX.out.below At.stays hb)
  clear HX
  have HX := HX'
  clear HX'
  have HY' := Lib.hid (HY.out.below At.stays hb)
  clear HY
  have HY := HY'
  clear HY'
  have HP' := Lib.hid (HP.out.below At.stays hb)
  clear HP
  have HP := HP'
  clear HP'
  have HQ' := Lib.hid (HQ.out.below At.stays hb)
  clear HQ
  have HQ := HQ'
  clear HQ'
  have HR' := Lib.hid (HR.out.below At.stays hb)
  clear HR
  have HR := HR'
  clear HR'
  have HS' := Lib.hid (HS.out.below At.stays hb)
  clear HS
  have HS := HS'
  clear HS'
  have HB6 := Lib.hid (below_then HB5.out hb)
  clear hb HB5
  go_wp2_with fail
  refine (within_any A A' n c n' c' xs ys _ HX.out HY.out (by omega) (by omega)).mono ?_
  rintro e w7 ⟨rfl, hb⟩
  have HX' := Lib.hid (HX.out.below At.stays hb)
  clear HX
  have HX := HX'
  clear HX'
  have HY' := Lib.hid (HY.out.below At.stays hb)
  clear HY
  have HY := HY'
  clear HY'
  have HP' := Lib.hid (HP.out.below At.stays hb)
  clear HP
  have HP := HP'
  clear HP'
  have HQ' := Lib.hid (HQ.out.below At.stays hb)
  clear HQ
  have HQ := HQ'
  clear HQ'
  have HR' := Lib.hid (HR.out.below At.stays hb)
  clear HR
  have HR := HR'
  clear HR'
  have HS' := Lib.hid (HS.out.below At.stays hb)
  clear HS
  have HS := HS'
  clear HS'
  have HB7 := Lib.hid (below_then HB6.out hb)
  clear hb HB6
  go_wp2_with fail
  refine (refwithin_any A A' n c n' c' xs ys _ HX.out HY.out (by omega) (by omega)).mono ?_
  rintro e w8 ⟨rfl, hb⟩
  have HX' := Lib.hid (HX.out.below At.stays hb)
  clear HX
  have HX := HX'
  clear HX'
  have HY' := Lib.hid (HY.out.below At.stays hb)
  clear HY
  have HY := HY'
  clear HY'
  have HP' := Lib.hid (HP.out.below At.stays hb)
  clear HP
  have HP := HP'
  clear HP'
  have HQ' := Lib.hid (HQ.out.below At.stays hb)
  clear HQ
  have HQ := HQ'
  clear HQ'
  have HR' := Lib.hid (HR.out.below At.stays hb)
  clear HR
  have HR := HR'
  clear HR'
  have HS' := Lib.hid (HS.out.below At.stays hb)
  clear HS
  have HS := HS'
  clear HS'
  have HB8 := Lib.hid (below_then HB7.out hb)
  clear hb HB7
  go_wp2_with fail
  refine (same_any A A' n c n' c' xs ys _ HX.out HY.out).mono ?_
  rintro e w9 ⟨rfl, hb⟩
  have HX' := Lib.hid (HX.out.below At.stays hb)
  clear HX
  have HX := HX'
  clear HX'
  have HY' := Lib.hid (HY.out.below At.stays hb)
  clear HY
  have HY := HY'
  clear HY'
  have HP' := Lib.hid (HP.out.below At.stays hb)
  clear HP
  have HP := HP'
  clear HP'
  have HQ' := Lib.hid (HQ.out.below At.stays hb)
  clear HQ
  have HQ := HQ'
  clear HQ'
  have HR' := Lib.hid (HR.out.below At.stays hb)
  clear HR
  have HR := HR'
  clear HR'
  have HS' := Lib.hid (HS.out.below At.stays hb)
  clear HS
  have HS := HS'
  clear HS'
  have HB9 := Lib.hid (below_then HB8.out hb)
  clear hb HB8
  go_wp2_with fail
  refine (refsame_any A A' n c n' c' xs ys _ HX.out HY.out).mono ?_
  rintro e w10 ⟨rfl, hb⟩
  have HX' := Lib.hid (HX.out.below At.stays hb)
  clear HX
  have HX := HX'
  clear HX'
  have HY' := Lib.hid (HY.out.below At.stays hb)
  clear HY
  have HY := HY'
  clear HY'
  have HP' := Lib.hid (HP.out.below At.stays hb)
  clear HP
  have HP := HP'
  clear HP'
  have HQ' := Lib.hid (HQ.out.below At.stays hb)
  clear HQ
  have HQ := HQ'
  clear HQ'
  have HR' := Lib.hid (HR.out.below At.stays hb)
  clear HR
  have HR := HR'
  clear HR'
  have HS' := Lib.hid (HS.out.below At.stays hb)
  clear HS
  have HS := HS'
  clear HS'
  have HB10 := Lib.hid (below_then HB9.out hb)
  clear hb HB9
  have CT := Lib.hid (same_any A A n c n c xs xs _ HX.out HX.out)
  simp only [decide_true] at CT
  go_wp2_with fail
  refine (CT.out).mono ?_
  rintro e w11 ⟨rfl, hb⟩
  have HX' := Lib.hid (HX.out.below At.stays hb)
  clear HX
  have HX := HX'
  clear HX'
  have HY' := Lib.hid (HY.out.below At.stays hb)
  clear HY
  have HY := HY'
  clear HY'
  have HP' := Lib.hid (HP.out.below At.stays hb)
  clear HP
  have HP := HP'
  clear HP'
  have HQ' := Lib.hid (HQ.out.below At.stays hb)
  clear HQ
  have HQ := HQ'
  clear HQ'
  have HR' := Lib.hid (HR.out.below At.stays hb)
  clear HR
  have HR := HR'
  clear HR'
  have HS' := Lib.hid (HS.out.below At.stays hb)
  clear HS
  have HS := HS'
  clear HS'
  have HB11 := Lib.hid (below_then HB10.out hb)
  clear hb HB10
  go_wp2_with fail
  refine (works_any _).mono ?_
  rintro e w12 ⟨rfl, hb⟩
  have HX' := Lib.hid (HX.out.below At.stays hb)
  clear HX
  have HX := HX'
  clear HX'
  have HY' := Lib.hid (HY.out.below At.stays hb)
  clear HY
  have HY := HY'
  clear HY'
  have HP' := Lib.hid (HP.out.below At.stays hb)
  clear HP
  have HP := HP'
  clear HP'
  have HQ' := Lib.hid (HQ.out.below At.stays hb)
  clear HQ
  have HQ := HQ'
  clear HQ'
  have HR' := Lib.hid (HR.out.below At.stays hb)
  clear HR
  have HR := HR'
  clear HR'
  have HS' := Lib.hid (HS.out.below At.stays hb)
  clear HS
  have HS := HS'
  clear HS'
  have HB12 := Lib.hid (below_then HB11.out hb)
  clear hb HB11
  go_wp2_with fail
  go_ret
  exact .bool rfl HB12.out
end Go.Proofs.Ytamniepfgddecaa
