/- The walk of ValueTwo. -/
import Derived.Test.YtainoghjelfnkaaRows
import Derived.Test.YtainoghjelfnkaaWords
import Derived.Test.YtainoghjelfnkaaByts
import Derived.Test.YtainoghjelfnkaaFrame
import Derived.Test.YtainoghjelfnkaaElems
import Derived.Test.YtainoghjelfnkaaV1
import Derived.Test.YtainoghjelfnkaaV2
import Derived.Test.YtainoghjelfnkaaV3
import Derived.Test.YtainoghjelfnkaaV4
import Derived.Test.YtainoghjelfnkaaV5
import Derived.Test.YtainoghjelfnkaaV6
import Derived.Test.YtainoghjelfnkaaV7
import Derived.Test.YtainoghjelfnkaaV9
import Derived.Test.YtainoghjelfnkaaV11
import Derived.Test.YtainoghjelfnkaaV12
import Derived.Test.YtainoghjelfnkaaP1
import Derived.Test.YtainoghjelfnkaaP2
namespace Go.Proofs.Ytainoghjelfnkaa
open Go Go.RowKit Go.Proofs.Tail Go.Sort
set_option linter.unusedSimpArgs false
set_option linter.unusedVariables false
theorem refadd2_any {W : World} {A A' : Option Addr} {n c n' c' : Nat} {xs ys : List Rc} (hX : Recs W A n c xs) (hY : Recs W A' n' c' ys) (l1 : n ≤ 100000) (l2 : n' ≤ 100000) :
    Calls Try.prog 18 #[.slice (some ⟨W.heap.size, 0, none⟩) 2 2] (W.alloc (.cells #[.slice A n c, .slice A' n' c'] 22)) (GivesRec (sortR (xs ++ ys)) (W.alloc (.cells #[.slice A n c, .slice A' n' c'] 22))) := by
  have h := refadd_any _ 2 2 [xs, ys] _ (rows2 hX hY) (by simp [hX.len, hY.len]; omega)
  rwa [show [xs, ys].flatten = xs ++ ys by simp] at h
theorem recV_set1 {zs : List Rc} {k : Nat} {z : Rc} (h : zs[k]? = some z) (a : Int) : (recV zs).set (k * 2) (.int .i64 a) = recV (zs.set k (a, z.2)) := by
  rw [recV_set]
  dsimp only
  have h1 := (recV_get zs k z h).2
  obtain ⟨h2, h3⟩ := List.getElem?_eq_some_iff.1 h1
  apply List.ext_getElem?
  intro j
  rw [List.getElem?_set (i := k * 2 + 1)]
  split
  · rename_i e
    subst e
    rw [List.getElem?_set_ne (by omega), h1, if_pos (by rw [List.length_set]; exact h2)]
  · rfl
theorem law_two_no (A A' : Option Addr) (n c n' c' : Nat) (w : World) (h : 100 < n ∨ n ≤ 100 ∧ 100 < n') :
    Calls Try.prog 3 #[.slice A n c, .slice A' n' c'] w (Gives (.bool true) w) := by
  rcases h with h | ⟨h, h'⟩
  · have d1 : decide (100 < (n : Int)) = true := decide_eq_true (by omega)
    clear h
    go_enter Try.func3, Try.ntmps3
    go_wp2_with fail
    refine (works_any _).mono ?_
    rintro e w1 ⟨rfl, hb⟩
    have HB := Lib.hid hb
    clear hb
    go_wp2_with fail
    go_ret
    exact .bool rfl HB.out
  · have d1 : decide (100 < (n : Int)) = false := decide_eq_false (by omega)
    have d2 : decide (100 < (n' : Int)) = true := decide_eq_true (by omega)
    clear h h'
    go_enter Try.func3, Try.ntmps3
    go_wp2_with fail
    refine (works_any _).mono ?_
    rintro e w1 ⟨rfl, hb⟩
    have HB := Lib.hid hb
    clear hb
    go_wp2_with fail
    go_ret
    exact .bool rfl HB.out
set_option maxRecDepth 100000 in
set_option maxHeartbeats 32000000 in
theorem law_two_yes (A A' : Option Addr) (n c n' c' : Nat) (xs ys : List Rc) (w : World) (hX : Recs w A n c xs) (hY : Recs w A' n' c' ys) (h1 : n ≤ 100) (h2 : n' ≤ 100) :
    Calls Try.prog 3 #[.slice A n c, .slice A' n' c'] w (Gives (.bool true) w) := by
  have HX := Lib.hid hX
  have HY := Lib.hid hY
  have LX := Lib.hid hX.len
  have LY := Lib.hid hY.len
  have d1 : decide (100 < (n : Int)) = false := decide_eq_false (by omega)
  have d2 : decide (100 < (n' : Int)) = false := decide_eq_false (by omega)
  clear hX hY
  have hx100 : ([] ++ xs : List Rc).length ≤ 100 := by rw [List.nil_append, LX.out]; exact h1
  have hy100 : ([] ++ ys : List Rc).length ≤ 100 := by rw [List.nil_append, LY.out]; exact h2
  go_enter Try.func3, Try.ntmps3
  go_wp2_with (at_builtin; first
    | (refine own_append_recs (W := w) rfl (.tmp 22) (.tmp 23) 22 32 rfl Try.underlying22 infoR w.heap.size (.slice none 0 0) [] A n c xs rfl rfl (World.ownsRow_nil _ _ _ _) HX.out (by simp; omega) (Nat.le_refl _) ?_
       intro v1 w1 hown hgr hat
       obtain ⟨Ax, cx, ev, hr⟩ := own_recs (n := n) (by rw [List.nil_append, LX.out] at hown; exact hown) (by omega)
       subst ev
       have HB1 := Lib.hid (below_grown (Below.refl w.heap.size w) hgr (fun k hk => by simp [Value.ownBlock] at hk))
       have RX1 := Lib.hid hr
       clear hown hgr hat hr)
    | (refine own_append_recs (W := w1) rfl (.tmp 25) (.tmp 26) 22 32 rfl Try.underlying22 infoR w1.heap.size (.slice none 0 0) [] A' n' c' ys rfl rfl (World.ownsRow_nil _ _ _ _) (HY.out.below RRc.stays HB1.out) (by simp; omega) (Nat.le_refl _) ?_
       intro v2 w2 hown hgr hat
       obtain ⟨Ay, cy, ev, hr⟩ := own_recs (n := n') (by rw [List.nil_append, LY.out] at hown; exact hown) (by omega)
       subst ev
       have hb2 := below_grown (Below.refl w1.heap.size w1) hgr (fun k hk => by simp [Value.ownBlock] at hk)
       have HB2 := Lib.hid (below_then HB1.out hb2)
       have RX2 := Lib.hid (RX1.out.below RRc.stays hb2)
       have RY2 := Lib.hid hr
       clear hown hgr hat hr hb2 HB1 RX1))
  clear hx100 hy100
  have C1 := Lib.hid (less_any Ax Ay n cx n' cy xs ys w2 RX2.out RY2.out (by omega) (by omega))
  have C2 := Lib.hid (fun W hb => refless_any A A' n c n' c' xs ys W (HX.out.below RRc.stays hb) (HY.out.below RRc.stays hb) (by omega) (by omega))
  have hlen : ∀ l, LS xs ys = some l → l.length ≤ 100 := fun l e => by have := LS_len e; have := LX.out; omega
  have HLEN := Lib.hid (show ((LS xs ys).getD []).length ≤ 100 by cases e : LS xs ys with
    | none => simp
    | some l => exact hlen l e)
  clear hlen
  generalize LS xs ys = res at *
  refine C1.out.mono ?_
  rintro e w3 ⟨v3, rfl, ho, hb⟩
  generalize hlm : res.getD [] = lm at *
  generalize hok : res.isSome = okb at *
  have HLM := Lib.hid hlm
  have HOK := Lib.hid hok
  have hlmn : lm.length ≤ 100 := HLEN.out
  obtain ⟨A3, c3, ev, hr⟩ := own_recs (n := lm.length) ho (by omega)
  subst ev
  have HB3 := Lib.hid (below_then HB2.out hb)
  have R3 := Lib.hid hr
  have RX3 := Lib.hid (RX2.out.below RRc.stays hb)
  have RY3 := Lib.hid (RY2.out.below RRc.stays hb)
  clear hlm hok ho hb hr C1 HB2 RX2 RY2
  go_wp2_with fail
  refine (C2.out _ HB3.out).mono ?_
  rintro e w4 ⟨v4, rfl, ho, hb⟩
  rw [HLM.out] at ho
  rw [HOK.out]
  obtain ⟨A4, c4, ev, hr⟩ := own_recs (n := lm.length) ho (by omega)
  subst ev
  have HB4 := Lib.hid (below_then HB3.out hb)
  have R4 := Lib.hid hr
  have S4 := Lib.hid (R3.out.below RRc.stays hb)
  have RX4 := Lib.hid (RX3.out.below RRc.stays hb)
  have RY4 := Lib.hid (RY3.out.below RRc.stays hb)
  clear ho hb hr C2 HB3 R3 RX3 RY3 HLM HOK
  have C5 := Lib.hid (sorted_any Ax n cx xs w4 RX4.out (by omega))
  go_wp2_with fail
  refine C5.out.mono ?_
  rintro e w5 ⟨v5, rfl, ho, hb⟩
  have hsl : (sortR xs).length = n := by rw [sortR_length, LX.out]
  have HO5 := Lib.hid (show w5.ownsRow w4.heap.size 32 2 v5 n (recV (sortR xs)) by rw [← hsl]; rw [hsl]; have := ho; rwa [hsl] at this)
  obtain ⟨A5, c5, ev, hr⟩ := own_recs (n := n) HO5.out (by omega)
  subst ev
  have HB5 := Lib.hid (below_then HB4.out hb)
  have HW4 := Lib.hid HB4.out.size
  have R5 := Lib.hid (R4.out.below RRc.stays hb)
  have S5 := Lib.hid (S4.out.below RRc.stays hb)
  have T5 := Lib.hid hr
  have HR4 := Lib.hid (And.intro RX4.out RY4.out)
  have HX4 := Lib.hid (HX.out.below RRc.stays HB4.out)
  have HY4 := Lib.hid (HY.out.below RRc.stays HB4.out)
  have HBB := Lib.hid hb
  simp only [hsl]
  clear ho hb hr C5 R4 S4 RX4 RY4 hsl
  have C6 := Lib.hid (alike_any A3 A4 lm.length c3 lm.length c4 lm lm w5 S5.out R5.out)
  rw [decide_eq_true rfl] at C6
  generalize hml : lm.length = ml at *
  clear hml R5 S5
  go_wp2_with fail
  refine C6.out.mono ?_
  rintro e w6 ⟨rfl, hb⟩
  have HB6 := Lib.hid (below_then HB5.out hb)
  have HBB6 := Lib.hid (below_then HBB.out hb)
  have HO6 := Lib.hid (own_below HO5.out hb)
  have T6 := Lib.hid (T5.out.below RRc.stays hb)
  clear hb C6 HB5 HBB HO5 T5
  have C7 := Lib.hid (refsorted_any A n c xs w6 (HX.out.below RRc.stays HB6.out) (by omega))
  go_wp2_with fail
  refine C7.out.mono ?_
  rintro e w7 ⟨v7, rfl, ho, hb⟩
  obtain ⟨A7, c7, ev, hr⟩ := own_recs (n := n) (by have h9 : (sortR xs).length = n := by rw [sortR_length, LX.out]
                                                   rw [h9] at ho; exact ho) (by omega)
  subst ev
  have h9 : (sortR xs).length = n := by rw [sortR_length, LX.out]
  simp only [h9]
  clear h9
  have HB7 := Lib.hid (below_then HB6.out hb)
  have HBB7 := Lib.hid (below_then HBB6.out hb)
  have HO7 := Lib.hid (own_below HO6.out hb)
  have C8 := Lib.hid (alike_any A5 A7 n c5 n c7 (sortR xs) (sortR xs) w7 (T6.out.below RRc.stays hb) hr)
  rw [decide_eq_true rfl] at C8
  clear ho hb hr C7 HB6 HBB6 HO6 T6
  go_wp2_with fail
  refine C8.out.mono ?_
  rintro e w8 ⟨rfl, hb⟩
  have HB8 := Lib.hid (below_then HB7.out hb)
  have HBB8 := Lib.hid (below_then HBB7.out hb)
  have HO8 := Lib.hid (own_below HO7.out hb)
  clear hb C8 HB7 HBB7 HO7
  have C9 := Lib.hid (same_any Ax Ay n cx n' cy xs ys w8 (HR4.out.1.below RRc.stays HBB8.out) (HR4.out.2.below RRc.stays HBB8.out) (by omega) (by omega))
  have CA := Lib.hid (fun W hb => refsame_any A A' n c n' c' xs ys W (HX.out.below RRc.stays hb) (HY.out.below RRc.stays hb) (by omega) (by omega))
  generalize decide (sortR xs = sortR ys) = sb at *
  go_wp2_with fail
  refine C9.out.mono ?_
  rintro e w9 ⟨rfl, hb⟩
  have HB9 := Lib.hid (below_then HB8.out hb)
  have HBB9 := Lib.hid (below_then HBB8.out hb)
  have HO9 := Lib.hid (own_below HO8.out hb)
  clear hb C9 HB8 HBB8 HO8
  go_wp2_with fail
  refine (CA.out _ HB9.out).mono ?_
  rintro e w10 ⟨rfl, hb⟩
  have HB10 := Lib.hid (below_then HB9.out hb)
  have HBB10 := Lib.hid (below_then HBB9.out hb)
  have HO10 := Lib.hid (own_below HO9.out hb)
  clear hb CA HB9 HBB9 HO9
  have CB := Lib.hid (add2_any (HR4.out.1.below RRc.stays HBB10.out) (HR4.out.2.below RRc.stays HBB10.out) (by omega) (by omega))
  have CD := Lib.hid (fun W hb => refadd2_any (HX.out.below (w' := W) RRc.stays hb) (HY.out.below RRc.stays hb) (by omega) (by omega))
  have hal : (sortR (xs ++ ys)).length ≤ 200 := by rw [sortR_length, List.length_append, LX.out, LY.out]; omega
  generalize sortR (xs ++ ys) = zs at *
  go_wp2_with fail
  refine CB.out.mono ?_
  rintro e w11 ⟨v11, rfl, ho, hb⟩
  obtain ⟨A11, c11, ev, hr⟩ := own_recs (n := zs.length) ho (by omega)
  subst ev
  have hb' := below_then (below_new w10 _) hb
  have HB11 := Lib.hid (below_then HB10.out hb')
  have HBB11 := Lib.hid (below_then HBB10.out hb')
  have HO11 := Lib.hid (own_below HO10.out hb')
  have R11 := Lib.hid hr
  clear ho hb hb' hr CB HB10 HBB10 HO10
  go_wp2_with fail
  refine (CD.out _ HB11.out).mono ?_
  rintro e w12 ⟨v12, rfl, ho, hb⟩
  obtain ⟨A12, c12, ev, hr⟩ := own_recs (n := zs.length) ho (by omega)
  subst ev
  have hb' := below_then (below_new w11 _) hb
  have HB12 := Lib.hid (below_then HB11.out hb')
  have HBB12 := Lib.hid (below_then HBB11.out hb')
  have HO12 := Lib.hid (own_below HO11.out hb')
  have CE := Lib.hid (alike_any A11 A12 zs.length c11 zs.length c12 zs zs w12 (R11.out.below RRc.stays hb') hr)
  rw [decide_eq_true rfl] at CE
  clear ho hb hb' hr CD HB11 HBB11 HO11 R11
  go_wp2_with fail
  refine CE.out.mono ?_
  rintro e w13 ⟨rfl, hb⟩
  have HB13 := Lib.hid (below_then HB12.out hb)
  have HBB13 := Lib.hid (below_then HBB12.out hb)
  have HO13 := Lib.hid (show ∃ us : List Rc, us.length = n ∧ w13.ownsRow w4.heap.size 32 2 (.slice A5 n c5) n (recV us) from ⟨sortR xs, by rw [sortR_length, LX.out], own_below HO12.out hb⟩)
  clear hb CE HB12 HBB12 HO12
  go_wp2_with fail
  go_loopw [12] (fun i wr => ∃ k : Nat, k ≤ n ∧ i = .int .i64 k ∧ Hid (∃ us : List Rc, us.length = n ∧ wr.ownsRow w4.heap.size 32 2 (.slice A5 n c5) n (recV us)) ∧ Hid (Below w.heap.size w wr) ∧ Hid (Below w4.heap.size w4 wr)) (fun i _ => n - (intOf i).toNat)
  case atStart => exact ⟨0, Nat.zero_le _, rfl, HO13, HB13, HBB13⟩
  case round =>
    clear HO13 HB13 HBB13
    obtain ⟨k, hk, rfl, HO, HB, HBB⟩ := hrel
    by_cases hlt : k < n
    · obtain ⟨us, hul, ho⟩ := HO.out
      obtain ⟨g, cap, eg, hgb, _⟩ := own_form ho (by omega)
      injection eg with eg1 _ eg3
      subst eg1 eg3
      have hget := List.getElem?_eq_getElem (show k < us.length by omega)
      generalize us[k] = u at hget
      obtain ⟨c0, _, f0, _⟩ := own_rcell ho hget
      have hst := (ho.stored (k * 2) (.int .i64 7777)).1
      rw [recV_set1 hget] at hst
      have HST := Lib.hid (show ∃ us : List Rc, us.length = n ∧ (wr.setCell ⟨g, k * 2, none⟩ (.int .i64 7777)).ownsRow w4.heap.size 32 2 (.slice (some ⟨g, 0, none⟩) n c5) n (recV us) from ⟨_, by rw [List.length_set]; exact hul, hst⟩)
      have HB1 := Lib.hid (show Below w.heap.size w (wr.setCell ⟨g, k * 2, none⟩ (.int .i64 7777)) from HB.out.setCell (p := ⟨g, k * 2, none⟩) (by have := HW4.out; dsimp only; omega) _)
      have HBB1 := Lib.hid (show Below w4.heap.size w4 (wr.setCell ⟨g, k * 2, none⟩ (.int .i64 7777)) from HBB.out.setCell (p := ⟨g, k * 2, none⟩) hgb _)
      have dk : decide ((k : Int) < n) = true := decide_eq_true (by omega)
      clear hst ho hget HO hul hgb
      go_wp2_with fail
      go_roundw
      case rel => exact ⟨k + 1, by omega, by go_num, HST, HB1, HBB1⟩
      case measure => simp [intOf]; omega
    · have hkn : k = n := by omega
      subst hkn
      have dk : decide ((k : Int) < k) = false := decide_eq_false (by omega)
      clear HO
      by_cases hn0 : k = 0
      · have z1 : decide ((0 : Int) < k) = false := decide_eq_false (by omega)
        have z1' : decide (0 < k) = false := decide_eq_false (by omega)
        clear hn0
        go_wp2_with fail
        refine quiet_after (by kernel_rfl) (by kernel_rfl) ?_
        repeat (first | go_big_quiet_step (fail) | quiet_step (fail))
        refine wpQuiet_nil ?_
        intro wz hw'
        obtain ⟨z', rfl⟩ := hw'
        obtain ⟨w5, hbq⟩ := z'
        dsimp only
        have HB5 := Lib.hid (HB.out.trans (hbq.mono HB.out.size))
        have HBB5 := Lib.hid (HBB.out.trans (hbq.mono HBB.out.size))
        clear hbq HB HBB
        have HX5 := Lib.hid (HX.out.below RRc.stays HB5.out)
        have HY5 := Lib.hid (HY.out.below RRc.stays HB5.out)
        have CF := Lib.hid (alike_any Ax A k cx k c xs xs w5 (HR4.out.1.below RRc.stays HBB5.out) HX5.out)
        rw [decide_eq_true rfl] at CF
        have CG := Lib.hid (fun W hb => alike_any Ay A' n' cy n' c' ys ys W ((HR4.out.2.below RRc.stays HBB5.out).below RRc.stays hb) (HY5.out.below RRc.stays hb))
        rw [decide_eq_true rfl] at CG
        go_wp2_with fail
        refine CF.out.mono ?_
        rintro e w6 ⟨rfl, hb⟩
        have HB6 := Lib.hid (below_then HB5.out hb)
        have CG := Lib.hid (CG.out _ hb)
        clear hb CF HB5
        go_wp2_with fail
        refine CG.out.mono ?_
        rintro e w7 ⟨rfl, hb⟩
        have HB7 := Lib.hid (below_then HB6.out hb)
        clear hb CG HB6
        go_wp2_with fail
        refine (works_any _).mono ?_
        rintro e w8 ⟨rfl, hb⟩
        have HB8 := Lib.hid (below_then HB7.out hb)
        clear hb HB7
        go_wp2_with fail
        go_ret
        exact .bool rfl HB8.out
      · have z1 : decide ((0 : Int) < k) = true := decide_eq_true (by omega)
        have z1' : decide (0 < k) = true := decide_eq_true (by omega)
        by_cases hn1 : n' = 0
        · have z2 : decide ((0 : Int) < n') = false := decide_eq_false (by omega)
          have z2' : decide (0 < n') = false := decide_eq_false (by omega)
          clear hn0 hn1
          go_wp2_with fail
          refine quiet_after (by kernel_rfl) (by kernel_rfl) ?_
          repeat (first | go_big_quiet_step (fail) | quiet_step (fail))
          refine wpQuiet_nil ?_
          intro wz hw'
          obtain ⟨z', rfl⟩ := hw'
          obtain ⟨w5, hbq⟩ := z'
          dsimp only
          have HB5 := Lib.hid (HB.out.trans (hbq.mono HB.out.size))
          have HBB5 := Lib.hid (HBB.out.trans (hbq.mono HBB.out.size))
          clear hbq HB HBB
          have HX5 := Lib.hid (HX.out.below RRc.stays HB5.out)
          have HY5 := Lib.hid (HY.out.below RRc.stays HB5.out)
          have CF := Lib.hid (alike_any Ax A k cx k c xs xs w5 (HR4.out.1.below RRc.stays HBB5.out) HX5.out)
          rw [decide_eq_true rfl] at CF
          have CG := Lib.hid (fun W hb => alike_any Ay A' n' cy n' c' ys ys W ((HR4.out.2.below RRc.stays HBB5.out).below RRc.stays hb) (HY5.out.below RRc.stays hb))
          rw [decide_eq_true rfl] at CG
          go_wp2_with fail
          refine CF.out.mono ?_
          rintro e w6 ⟨rfl, hb⟩
          have HB6 := Lib.hid (below_then HB5.out hb)
          have CG := Lib.hid (CG.out _ hb)
          clear hb CF HB5
          go_wp2_with fail
          refine CG.out.mono ?_
          rintro e w7 ⟨rfl, hb⟩
          have HB7 := Lib.hid (below_then HB6.out hb)
          clear hb CG HB6
          go_wp2_with fail
          refine (works_any _).mono ?_
          rintro e w8 ⟨rfl, hb⟩
          have HB8 := Lib.hid (below_then HB7.out hb)
          clear hb HB7
          go_wp2_with fail
          go_ret
          exact .bool rfl HB8.out
        · have z2 : decide ((0 : Int) < n') = true := decide_eq_true (by omega)
          have z2' : decide (0 < n') = true := decide_eq_true (by omega)
          obtain ⟨b1, o1, a0, rfl, _, hc1⟩ := (HX.out.below RRc.stays HB.out).elem (show 0 < k by omega)
          obtain ⟨b2, o2, a1, rfl, _, hc2⟩ := (HY.out.below RRc.stays HB.out).elem (show 0 < n' by omega)
          rw [Nat.zero_mul, Nat.add_zero] at hc1 hc2
          have m0 := fun z : After wr => cell_after hc1.c0 z
          have m1 := fun z : After wr => cell_after hc1.c1 z
          have m2 := fun z : After wr => cell_after hc2.c0 z
          have m3 := fun z : After wr => cell_after hc2.c1 z
          have K1 := Lib.hid (cmp_gives a0 a1)
          have K2 := Lib.hid (refcmp_any a0 a1)
          generalize cfR a0 a1 = v at *
          have hk1 : (0 : Int) < k := by omega
          have hn1' : (0 : Int) < n' := by omega
          clear hn0 hn1 hc1 hc2
          go_wp2_with fail
          refine quiet_after (by kernel_rfl) (by kernel_rfl) ?_
          repeat (first | go_big_quiet_step (first | (go_at_call 19; with_reducible exact calls_after (K1.out _)) | (go_at_call 20; with_reducible exact calls_after (K2.out _))) | quiet_step (first | (go_at_call 19; with_reducible exact calls_after (K1.out _)) | (go_at_call 20; with_reducible exact calls_after (K2.out _))))
          refine wpQuiet_nil ?_
          intro wz hw'
          obtain ⟨z', rfl⟩ := hw'
          obtain ⟨w5, hbq⟩ := z'
          dsimp only
          have HB5 := Lib.hid (HB.out.trans (hbq.mono HB.out.size))
          have HBB5 := Lib.hid (HBB.out.trans (hbq.mono HBB.out.size))
          clear hbq HB HBB m0 m1 m2 m3 K1 K2
          have HX5 := Lib.hid (HX.out.below RRc.stays HB5.out)
          have HY5 := Lib.hid (HY.out.below RRc.stays HB5.out)
          have CF := Lib.hid (alike_any Ax _ k cx k c xs xs w5 (HR4.out.1.below RRc.stays HBB5.out) HX5.out)
          rw [decide_eq_true rfl] at CF
          have CG := Lib.hid (fun W hb => alike_any Ay _ n' cy n' c' ys ys W ((HR4.out.2.below RRc.stays HBB5.out).below RRc.stays hb) (HY5.out.below RRc.stays hb))
          rw [decide_eq_true rfl] at CG
          go_wp2_with fail
          refine CF.out.mono ?_
          rintro e w6 ⟨rfl, hb⟩
          have HB6 := Lib.hid (below_then HB5.out hb)
          have CG := Lib.hid (CG.out _ hb)
          clear hb CF HB5
          go_wp2_with fail
          refine CG.out.mono ?_
          rintro e w7 ⟨rfl, hb⟩
          have HB7 := Lib.hid (below_then HB6.out hb)
          clear hb CG HB6
          go_wp2_with fail
          refine (works_any _).mono ?_
          rintro e w8 ⟨rfl, hb⟩
          have HB8 := Lib.hid (below_then HB7.out hb)
          clear hb HB7
          go_wp2_with fail
          go_ret
          exact .bool rfl HB8.out
theorem law_two (A A' : Option Addr) (n c n' c' : Nat) (xs ys : List Rc) (w : World) (hX : Recs w A n c xs) (hY : Recs w A' n' c' ys) :
    Calls Try.prog 3 #[.slice A n c, .slice A' n' c'] w (Gives (.bool true) w) := by
  by_cases h : 100 < n ∨ n ≤ 100 ∧ 100 < n'
  · exact law_two_no A A' n c n' c' w h
  · exact law_two_yes A A' n c n' c' xs ys w hX hY (by omega) (by omega)
end Go.Proofs.Ytainoghjelfnkaa
