/- The walk of ValueLess. -/
import Derived.Test.YtainoghjelfnkaaRows
import Derived.Test.YtainoghjelfnkaaWords
import Derived.Test.YtainoghjelfnkaaByts
import Derived.Test.YtainoghjelfnkaaFrame
import Derived.Test.YtainoghjelfnkaaElems
import Derived.Test.YtainoghjelfnkaaV1
import Derived.Test.YtainoghjelfnkaaV2
import Derived.Test.YtainoghjelfnkaaV3
import Derived.Test.YtainoghjelfnkaaV4
import Derived.Test.YtainoghjelfnkaaV6
import Derived.Test.YtainoghjelfnkaaV7
import Derived.Test.YtainoghjelfnkaaV9
import Derived.Test.YtainoghjelfnkaaV11
import Derived.Test.YtainoghjelfnkaaP1
import Derived.Test.YtainoghjelfnkaaP2
namespace Go.Proofs.Ytainoghjelfnkaa
open Go Go.RowKit Go.Proofs.Tail Go.Sort
set_option linter.unusedSimpArgs false
set_option linter.unusedVariables false
/-- Two rows, in new memory. -/
theorem rows2 {W : World} {A A' : Option Addr} {n c n' c' : Nat} {xs ys : List Rc} (hX : Recs W A n c xs) (hY : Recs W A' n' c' ys) :
    Rows_ (W.alloc (.cells #[.slice A n c, .slice A' n' c'] 22)) (some ⟨W.heap.size, 0, none⟩) 2 2 [xs, ys] := by
  have D := Blk.new W [.slice A n c, .slice A' n' c'] 22 _ rfl
  have hb := below_new W (.cells #[.slice A n c, .slice A' n' c'] 22)
  refine ⟨rfl, Nat.le_refl _, by omega, fun _ => ⟨_, _, rfl, fun j x hj => ?_⟩⟩
  match j, hj with
  | 0, hj =>
    obtain rfl : xs = x := by simpa using hj
    exact row_blk D rfl (hX.below RRc.stays hb)
  | 1, hj =>
    obtain rfl : ys = x := by simpa using hj
    exact row_blk D rfl (hY.below RRc.stays hb)
  | j + 2, hj => simp at hj
/-- Add of two. -/
theorem add2_any {W : World} {A A' : Option Addr} {n c n' c' : Nat} {xs ys : List Rc} (hX : Recs W A n c xs) (hY : Recs W A' n' c' ys) (l1 : n ≤ 100000) (l2 : n' ≤ 100000) :
    Calls Try.prog 17 #[.slice (some ⟨W.heap.size, 0, none⟩) 2 2] (W.alloc (.cells #[.slice A n c, .slice A' n' c'] 22)) (GivesRec (sortR (xs ++ ys)) (W.alloc (.cells #[.slice A n c, .slice A' n' c'] 22))) := by
  have h := add_any _ 2 2 [xs, ys] _ (rows2 hX hY) (by simp [hX.len, hY.len]; omega)
  rwa [show [xs, ys].flatten = xs ++ ys by simp] at h
theorem law_less_no (A A' : Option Addr) (n c n' c' : Nat) (w : World) (h : 60 < n ∨ n ≤ 60 ∧ 60 < n') :
    Calls Try.prog 6 #[.slice A n c, .slice A' n' c'] w (Gives (.bool true) w) := by
  rcases h with h | ⟨h, h'⟩
  · have d1 : decide (60 < (n : Int)) = true := decide_eq_true (by omega)
    clear h
    go_enter Try.func6, Try.ntmps6
    go_wp2_with fail
    refine (works_any _).mono ?_
    rintro e w1 ⟨rfl, hb⟩
    have HB := Lib.hid hb
    clear hb
    go_wp2_with fail
    go_ret
    exact .bool rfl HB.out
  · have d1 : decide (60 < (n : Int)) = false := decide_eq_false (by omega)
    have d2 : decide (60 < (n' : Int)) = true := decide_eq_true (by omega)
    clear h h'
    go_enter Try.func6, Try.ntmps6
    go_wp2_with fail
    refine (works_any _).mono ?_
    rintro e w1 ⟨rfl, hb⟩
    have HB := Lib.hid hb
    clear hb
    go_wp2_with fail
    go_ret
    exact .bool rfl HB.out
set_option maxRecDepth 100000 in
set_option maxHeartbeats 16000000 in
theorem law_less_yes (A A' : Option Addr) (n c n' c' : Nat) (xs ys : List Rc) (w : World) (hX : Recs w A n c xs) (hY : Recs w A' n' c' ys) (h1 : n ≤ 60) (h2 : n' ≤ 60) :
    Calls Try.prog 6 #[.slice A n c, .slice A' n' c'] w (Gives (.bool true) w) := by
  have HX := Lib.hid hX
  have HY := Lib.hid hY
  have lx := hX.len
  have ly := hY.len
  have LX := Lib.hid lx
  have LY := Lib.hid ly
  have d1 : decide (60 < (n : Int)) = false := decide_eq_false (by omega)
  have d2 : decide (60 < (n' : Int)) = false := decide_eq_false (by omega)
  have C1 := Lib.hid (less_any A A' n c n' c' xs ys w hX hY (by omega) (by omega))
  have C2 := Lib.hid (fun W hb => less_any A' A n' c' n c ys xs W (hY.below RRc.stays hb) (hX.below RRc.stays hb) (by omega) (by omega))
  have C3 := Lib.hid (fun W hb => same_any A A' n c n' c' xs ys W (hX.below RRc.stays hb) (hY.below RRc.stays hb) (by omega) (by omega))
  clear hX hY lx ly
  go_enter Try.func6, Try.ntmps6
  go_wp2_with fail
  cases e1 : LS xs ys with
  | none =>
    have E1 := Lib.hid e1
    rw [e1] at C1
    clear e1
    refine C1.out.mono ?_
    rintro e w1 ⟨v, rfl, ho, hb⟩
    obtain ⟨A1, c1, ev, _⟩ := own_recs (n := 0) ho (by decide)
    subst ev
    have HB1 := Lib.hid hb
    clear ho hb C1
    go_wp2_with fail
    refine (C2.out _ HB1.out).mono ?_
    rintro e w2 ⟨v, rfl, ho, hb⟩
    have HB2 := Lib.hid (below_then HB1.out hb)
    clear ho hb C2 HB1
    have hXw := HX.out.below RRc.stays HB2.out
    have hYw := HY.out.below RRc.stays HB2.out
    have C4 := Lib.hid (add2_any hXw hYw (by omega) (by omega))
    clear hXw hYw
    go_wp2_with fail
    refine C4.out.mono ?_
    rintro e w3 ⟨v3, rfl, ho, hb⟩
    have HB3 := Lib.hid (below_then HB2.out (below_then (below_new w2 _) hb))
    have hln : (sortR (xs ++ ys)).length ≤ 200 := by rw [sortR_length, List.length_append, LX.out, LY.out]; omega
    obtain ⟨A3, c3, ev, hr⟩ := own_recs ho (by omega)
    subst ev
    have C5 := Lib.hid (less_any A3 A' _ c3 n' c' (sortR (xs ++ ys)) ys w3 hr (HY.out.below RRc.stays HB3.out) (by omega) (by omega))
    obtain ⟨l, q1, q2⟩ := LS_add xs ys
    rw [q1] at C5
    have HQ := Lib.hid q2
    have hll : l.length ≤ 200 := by have := LS_len q1; omega
    clear ho hb hr C4 HB2 q1 q2
    go_wp2_with fail
    refine C5.out.mono ?_
    rintro e w4 ⟨v4, rfl, ho, hb⟩
    obtain ⟨A4, c4, ev, hr⟩ := own_recs (n := l.length) ho (by omega)
    subst ev
    have HB4 := Lib.hid (below_then HB3.out hb)
    have C6 := Lib.hid (same_any A4 A l.length c4 n c l xs w4 hr (HX.out.below RRc.stays HB4.out) (by omega) (by omega))
    rw [decide_eq_true HQ.out] at C6
    clear ho hb hr C5 HB3
    go_wp2_with fail
    refine C6.out.mono ?_
    rintro e w5 ⟨rfl, hb⟩
    have HB5 := Lib.hid (below_then HB4.out hb)
    clear hb C6 HB4
    go_wp2_with fail
    refine (works_any _).mono ?_
    rintro e w6 ⟨rfl, hb⟩
    have HB6 := Lib.hid (below_then HB5.out hb)
    clear hb HB5
    go_wp2_with fail
    go_ret
    exact .bool rfl HB6.out
  | some l =>
    have E1 := Lib.hid e1
    have hln := LS_len e1
    have hll : l.length ≤ 60 := by have := LX.out; omega
    have HLN := Lib.hid (show (l.length : Int) = (n : Int) - (n' : Int) by rw [LX.out, LY.out] at hln; omega)
    rw [e1] at C1
    clear e1 hln
    refine C1.out.mono ?_
    rintro e w1 ⟨v, rfl, ho, hb⟩
    obtain ⟨A1, c1, ev, hr⟩ := own_recs (n := l.length) ho (by omega)
    subst ev
    have HB1 := Lib.hid hb
    have HR1 := Lib.hid (show Recs w1 A1 l.length c1 l from hr)
    clear ho hb C1 hr
    generalize hk : l.length = k at *
    have HK := Lib.hid hk
    clear hk
    go_wp2_with fail
    cases e2 : LS ys xs with
    | none =>
      have C2 := C2.out _ HB1.out
      rw [e2] at C2
      have C2 := Lib.hid C2
      refine C2.out.mono ?_
      rintro e w2 ⟨v, rfl, ho, hb⟩
      have HB2 := Lib.hid (below_then HB1.out hb)
      obtain ⟨A2, c2, ev, _⟩ := own_recs (n := 0) ho (by omega)
      subst ev
      have R1 := Lib.hid (HR1.out.below RRc.stays hb)
      have C3 := C3.out _ HB2.out
      rw [decide_eq_false (LS_one E1.out e2)] at C3
      have C3 := Lib.hid C3
      clear ho hb C2 HB1 HR1 e2
      go_wp2_with fail
      refine C3.out.mono ?_
      rintro e w3 ⟨rfl, hb⟩
      have HB3 := Lib.hid (below_then HB2.out hb)
      have R2 := Lib.hid (R1.out.below RRc.stays hb)
      clear hb C3 HB2 R1
      have hXw := R2.out
      have hYw := HY.out.below RRc.stays HB3.out
      have C4 := Lib.hid (add2_any hXw hYw (by omega) (by omega))
      clear hXw hYw
      go_wp2_with fail
      refine C4.out.mono ?_
      rintro e w4 ⟨v4, rfl, ho, hb⟩
      have HB4 := Lib.hid (below_then HB3.out (below_then (below_new w3 _) hb))
      have hln : (sortR (l ++ ys)).length ≤ 200 := by rw [sortR_length, List.length_append, LY.out, HK.out]; omega
      obtain ⟨A4, c4, ev, hr⟩ := own_recs ho (by omega)
      subst ev
      have C5 := Lib.hid (same_any A4 A _ c4 n c (sortR (l ++ ys)) xs w4 hr (HX.out.below RRc.stays HB4.out) (by omega) (by omega))
      rw [decide_eq_true (LS_back E1.out)] at C5
      clear ho hb hr C4 HB3
      go_wp2_with fail
      refine C5.out.mono ?_
      rintro e w5 ⟨rfl, hb⟩
      have HB5 := Lib.hid (below_then HB4.out hb)
      have hq : ((k : Int) == (n : Int) - (n' : Int)) = true := by simpa using HLN.out
      clear hb C5 HB4
      go_wp2_with fail
      refine (works_any _).mono ?_
      rintro e w6 ⟨rfl, hb⟩
      have HB6 := Lib.hid (below_then HB5.out hb)
      clear hb HB5
      go_wp2_with fail
      go_ret
      exact .bool rfl HB6.out
    | some m =>
      obtain ⟨hl0, hm0, hsame⟩ := LS_both E1.out e2
      subst hm0
      have hk0 : k = 0 := by rw [← HK.out, hl0]; rfl
      subst hk0
      clear hl0
      have C2 := C2.out _ HB1.out
      rw [e2] at C2
      have C2 := Lib.hid C2
      refine C2.out.mono ?_
      rintro e w2 ⟨v, rfl, ho, hb⟩
      have HB2 := Lib.hid (below_then HB1.out hb)
      obtain ⟨A2, c2, ev, _⟩ := own_recs (n := 0) ho (by omega)
      subst ev
      have R1 := Lib.hid (HR1.out.below RRc.stays hb)
      have C3 := C3.out _ HB2.out
      rw [decide_eq_true hsame] at C3
      have C3 := Lib.hid C3
      clear ho hb C2 HB1 HR1 e2
      go_wp2_with fail
      refine C3.out.mono ?_
      rintro e w3 ⟨rfl, hb⟩
      have HB3 := Lib.hid (below_then HB2.out hb)
      have R2 := Lib.hid (R1.out.below RRc.stays hb)
      clear hb C3 HB2 R1
      have hXw := R2.out
      have hYw := HY.out.below RRc.stays HB3.out
      have C4 := Lib.hid (add2_any hXw hYw (by omega) (by omega))
      clear hXw hYw
      go_wp2_with fail
      refine C4.out.mono ?_
      rintro e w4 ⟨v4, rfl, ho, hb⟩
      have HB4 := Lib.hid (below_then HB3.out (below_then (below_new w3 _) hb))
      have hln : (sortR (l ++ ys)).length ≤ 200 := by rw [sortR_length, List.length_append, LY.out, HK.out]; omega
      obtain ⟨A4, c4, ev, hr⟩ := own_recs ho (by omega)
      subst ev
      have C5 := Lib.hid (same_any A4 A _ c4 n c (sortR (l ++ ys)) xs w4 hr (HX.out.below RRc.stays HB4.out) (by omega) (by omega))
      rw [decide_eq_true (LS_back E1.out)] at C5
      clear ho hb hr C4 HB3
      go_wp2_with fail
      refine C5.out.mono ?_
      rintro e w5 ⟨rfl, hb⟩
      have HB5 := Lib.hid (below_then HB4.out hb)
      have hq : ((0 : Int) == (n : Int) - (n' : Int)) = true := by simpa using HLN.out
      clear hb C5 HB4
      go_wp2_with fail
      refine (works_any _).mono ?_
      rintro e w6 ⟨rfl, hb⟩
      have HB6 := Lib.hid (below_then HB5.out hb)
      clear hb HB5
      go_wp2_with fail
      go_ret
      exact .bool rfl HB6.out
theorem law_less (A A' : Option Addr) (n c n' c' : Nat) (xs ys : List Rc) (w : World) (hX : Recs w A n c xs) (hY : Recs w A' n' c' ys) :
    Calls Try.prog 6 #[.slice A n c, .slice A' n' c'] w (Gives (.bool true) w) := by
  by_cases h : 60 < n ∨ n ≤ 60 ∧ 60 < n'
  · exact law_less_no A A' n c n' c' w h
  · exact law_less_yes A A' n c n' c' xs ys w hX hY (by omega) (by omega)
end Go.Proofs.Ytainoghjelfnkaa
