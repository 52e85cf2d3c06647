/- The walk of CountsRises. -/
import Derived.Test.YtebpepjlhanopaaRows
import Derived.IntWalk
import Derived.Deep.RegionHeld3
import Derived.Test.YtebpepjlhanopaaWords
import Derived.Test.YtebpepjlhanopaaByts
import Derived.Test.YtebpepjlhanopaaFrame
import Derived.Test.YtebpepjlhanopaaElems
import Derived.Test.YtebpepjlhanopaaMapOwn
import Derived.Test.YtebpepjlhanopaaS1
import Derived.Test.YtebpepjlhanopaaS2
import Derived.Test.YtebpepjlhanopaaEqs
import Derived.Test.YtebpepjlhanopaaU1
import Derived.Test.YtebpepjlhanopaaA1
import Derived.Test.YtebpepjlhanopaaA2
import Derived.Test.YtebpepjlhanopaaA3
import Derived.Test.YtebpepjlhanopaaA4
import Derived.Test.YtebpepjlhanopaaP1
import Derived.Test.YtebpepjlhanopaaP3
import Derived.Test.YtebpepjlhanopaaB1
import Derived.Test.YtebpepjlhanopaaM1
import Derived.Test.YtebpepjlhanopaaM2
import Derived.Test.YtebpepjlhanopaaM3
import Derived.Test.YtebpepjlhanopaaM8
import Derived.Test.YtebpepjlhanopaaR0
import Derived.Test.YtebpepjlhanopaaR1
import Derived.Test.YtebpepjlhanopaaR2
import Derived.Test.YtebpepjlhanopaaP4
import Derived.Test.YtebpepjlhanopaaP6
import Derived.Test.YtebpepjlhanopaaL0b
import Derived.Test.YtebpepjlhanopaaW1
namespace Go.Proofs.Ytebpepjlhanopaa
open Go Go.RowKit Go.Proofs.Tail Go.Sort
set_option linter.unusedSimpArgs false
set_option linter.unusedVariables false
set_option maxRecDepth 100000 in
set_option maxHeartbeats 16000000 in
theorem law_rises (d : Int) (A : Option Addr) (n c : Nat) (A' : Option Addr) (n' c' : Nat) (us : List T) (ls : List (T × Int)) (w : World) (hX : Tms w A n c us) (hY : Cos w A' n' c' ls) :
    Calls Try.prog 6 #[.int .i64 d, .slice A n c, .slice A' n' c'] w (Gives (.bool true) w) := by
  by_cases hd : 0 ≤ d ∧ d ≤ 3
  · have HN := Lib.hid (new_law (w := w) (wr := w) (d := d) (Nat.le_refl _) hd.1 hd.2)
    have HU := Lib.hid hX
    have HV := Lib.hid hY
    have hbig := hX.big
    have hbig' := hY.big
    clear hX hY hd
    go_enter Try.func6, Try.ntmps6
    go_wp2_with fail
    refine HN.out.mono ?_
    rintro e w1 ⟨P, b, rfl, hc, _, _, hb⟩
    have HC := Lib.hid hc
    have HB := Lib.hid hb
    clear hc hb HN
    by_cases h60 : 60 < n'
    · have d1 : decide (60 < (n' : Int)) = true := decide_eq_true (by omega)
      clear h60
      go_wp2_with fail
      refine (works_any _).mono ?_
      rintro e wz ⟨rfl, hb⟩
      have HBZ := Lib.hid (below_then HB.out hb)
      clear hb
      go_wp2_with fail
      go_ret
      exact .bool rfl HBZ.out
    · have d1 : decide (60 < (n' : Int)) = false := decide_eq_false (by omega)
      by_cases h20 : 20 < n
      · have d2 : decide (20 < (n : Int)) = true := decide_eq_true (by omega)
        clear h60 h20
        go_wp2_with fail
        refine (works_any _).mono ?_
        rintro e wz ⟨rfl, hb⟩
        have HBZ := Lib.hid (below_then HB.out hb)
        clear hb
        go_wp2_with fail
        go_ret
        exact .bool rfl HBZ.out
      · have d2 : decide (20 < (n : Int)) = false := decide_eq_false (by omega)
        have hl1 : n ≤ 20 := by omega
        have hl2 : n' ≤ 60 := by omega
        have HC0 := Lib.hid (show ∃ C, Cw w w1 P b d 0 C from ⟨_, HC.out⟩)
        clear h60 h20 HC
        go_wp2_with fail
        go_loopw [8] (fun i wr => ∃ k : Nat, k ≤ n ∧ i = .int .i64 k ∧ Hid (∃ C, Cw w wr P b d k C) ∧ Hid (Below w.heap.size w wr)) (fun i _ => n - (intOf i).toNat)
        case atStart => exact ⟨0, Nat.zero_le _, rfl, HC0, HB⟩
        case round =>
          clear HC0 HB
          obtain ⟨k, hk, rfl, HC, HB⟩ := hrel
          obtain ⟨C, hC⟩ := HC.out
          replace HC := Lib.hid hC
          clear hC
          by_cases hlt : k < n
          · have e1 : decide ((k : Int) < n) = true := decide_eq_true (by omega)
            have e1' : decide (k < n) = true := decide_eq_true (by omega)
            have hk0 : (0 : Int) ≤ k := by omega
            have hkn : (k : Int) < n := by omega
            obtain ⟨bl, off, x, rfl, hx, hcx⟩ := (HU.out.below At.stays HB.out).elem hlt
            obtain ⟨c0, c1, c2, c3, c4⟩ := hcx
            clear hx
            go_wp2_with fail
            refine (add_law x 1 HC.out).mono ?_
            rintro e w2 ⟨rfl, hc2, hf2⟩
            have HB2 := Lib.hid (fr_below HB.out hf2 HC.out.q)
            have HC2 := Lib.hid (show ∃ C, Cw w w2 P b d (k + 1) C from ⟨_, hc2⟩)
            clear hc2 hf2 HC HB c0 c1 c2 c3 c4
            go_wp2_with fail
            go_roundw
            case rel => exact ⟨k + 1, by omega, by go_num, HC2, HB2⟩
            case measure => simp [intOf]; omega
          · have hkn : k = n := by omega
            subst hkn
            have e1 : decide ((k : Int) < k) = false := decide_eq_false (by omega)
            have e1' : decide (k < k) = false := decide_eq_false (by omega)
            have HC1 := Lib.hid (HC.out.mono (N' := 20 + 0) (by omega))
            have LF := Lib.hid (show (frontC C).length ≤ 1000 by have h1 := HC1.out.good.len; have h2 := @front_len C; omega)
            clear HC
            go_wp2_with fail
            refine (front_law HC1.out (by omega)).mono ?_
            rintro e w7 h7
            obtain ⟨A7, c7, rfl, hr7, hb7⟩ := h7.rw_ (by have := LF.out; omega)
            have HR7 := Lib.hid hr7.tms
            replace HC1 := Lib.hid (HC1.out.below hb7)
            replace HB := Lib.hid (below_then HB.out hb7)
            clear h7 hr7 hb7 e1 e1'
            generalize hm7 : (frontC C).length = m7 at *
            have HM7 := Lib.hid (show m7 ≤ 1000 from LF.out)
            clear hm7 LF
            go_wp2_with fail
            go_loopw [9, 10] (fun v i wr => ∃ (j : Nat) (C : List (T × Int)) (m : Nat) (A9 : Option Addr) (c9 : Nat), j ≤ n' ∧ v = .slice A9 m c9 ∧ i = .int .i64 j ∧ Hid (m ≤ 1000) ∧ Hid (Tms wr A9 m c9 (frontC C)) ∧ Hid (Cw w wr P b d (20 + j) C) ∧ Hid (Below w.heap.size w wr)) (fun _ i _ => n' - (intOf i).toNat)
            case atStart => exact ⟨0, C, m7, A7, c7, Nat.zero_le _, rfl, rfl, HM7, HR7, HC1, HB⟩
            case round =>
              clear HM7 HR7 HC1 HB
              obtain ⟨j, C, m, A9, c9, hj, rfl, rfl, HM, HR, HC, HB⟩ := hrel
              have HRL := Lib.hid HR.out.len
              by_cases hlt : j < n'
              · have e1 : decide ((j : Int) < n') = true := decide_eq_true (by omega)
                have e1' : decide (j < n') = true := decide_eq_true (by omega)
                have hk0 : (0 : Int) ≤ j := by omega
                have hkn : (j : Int) < n' := by omega
                obtain ⟨bl, off, x, rfl, hx, hcx⟩ := (HV.out.below RCo.stays HB.out).elem hlt
                have HRX := Lib.hid hcx
                obtain ⟨a0, a1, a2, a3, a4⟩ := hcx.1
                have a5 := hcx.2
                clear hx hcx
                by_cases hn : 0 < x.2
                · by_cases hm : m = 0
                  · subst hm
                    clear HRX
                    go_wp2_with fail
                    go_roundw
                    case rel => exact ⟨j + 1, C, _, A9, c9, by omega, rfl, by go_num, HM, HR, Lib.hid (HC.out.mono (by omega)), HB⟩
                    case measure => simp [intOf]; omega
                  · have hm1 : ¬ (m : Int) = 0 := by omega
                    have hm2 : ((m : Int) == 0) = false := by simpa using hm1
                    have HNE := Lib.hid (show frontC C ≠ [] by intro e; have := HRL.out; rw [e] at this; simp at this; omega)
                    cases hh : holdsF (frontC C) x.1 with
                    | true =>
                      have HH := Lib.hid (holds_any A9 m c9 (frontC C) x.1 wr HR.out (by have := HM.out; omega))
                      rw [hh] at HH
                      clear hh HRX HNE
                      go_wp2_with fail
                      refine HH.out.mono ?_
                      rintro e w3 ⟨rfl, hb3⟩
                      replace HR := Lib.hid (HR.out.below At.stays hb3)
                      replace HC := Lib.hid (HC.out.below hb3)
                      replace HB := Lib.hid (below_then HB.out hb3)
                      clear hb3 HH a0 a1 a2 a3 a4 a5
                      go_wp2_with fail
                      go_roundw
                      case rel => exact ⟨j + 1, C, _, A9, c9, by omega, rfl, by go_num, HM, HR, Lib.hid (HC.out.mono (by omega)), HB⟩
                      case measure => simp [intOf]; omega
                    | false =>
                      have HH := Lib.hid (holds_any A9 m c9 (frontC C) x.1 wr HR.out (by have := HM.out; omega))
                      rw [hh] at HH
                      have HHF := Lib.hid hh
                      clear hh
                      go_wp2_with fail
                      refine HH.out.mono ?_
                      rintro e w3 ⟨rfl, hb3⟩
                      replace HR := Lib.hid (HR.out.below At.stays hb3)
                      replace HC := Lib.hid (HC.out.below hb3)
                      replace HRX := Lib.hid (RCo.stays _ _ _ _ _ hb3 HRX.out)
                      replace HB := Lib.hid (below_then HB.out hb3)
                      clear hb3 HH a0 a1 a2 a3 a4 a5
                      obtain ⟨a0, a1, a2, a3, a4⟩ := HRX.out.1
                      have a5 := HRX.out.2
                      go_wp2_with fail
                      refine (count_law x.1 HC.out).mono ?_
                      rintro e w4 ⟨rfl, hb4⟩
                      replace HR := Lib.hid (HR.out.below At.stays hb4)
                      replace HC := Lib.hid (HC.out.below hb4)
                      replace HRX := Lib.hid (RCo.stays _ _ _ _ _ hb4 HRX.out)
                      replace HB := Lib.hid (below_then HB.out hb4)
                      clear hb4 a0 a1 a2 a3 a4 a5
                      by_cases hc : cnt C x.1 < 0
                      · clear HRX HNE HHF
                        go_wp2_with fail
                        go_roundw
                        case rel => exact ⟨j + 1, C, _, A9, c9, by omega, rfl, by go_num, HM, HR, Lib.hid (HC.out.mono (by omega)), HB⟩
                        case measure => simp [intOf]; omega
                      · have HG := Lib.hid (show 0 < x.2 → frontC C ≠ [] ∧ holdsF (frontC C) x.1 = false ∧ 0 ≤ cnt C x.1 from fun _ => ⟨HNE.out, HHF.out, by omega⟩)
                        clear HNE HHF
                        obtain ⟨c0, c1, c2, c3, c4⟩ := HRX.out.1
                        have c5 := HRX.out.2
                        have C1 := Lib.hid (add_law x.1 x.2 (HC.out.below (below_drew (Below.refl _ _))))
                        have HCD := Lib.hid (HC.out.below (below_drew (Below.refl _ _)))
                        clear HRX
                        go_wp2_with fail
                        go_region_held3 (fun w' => w'.cell? ⟨bl, off + j * 6, none⟩ = some (.int .i64 x.1.d) ∧ w'.cell? ⟨bl, off + j * 6 + 1, none⟩ = some (.int .i64 x.1.e) ∧ w'.cell? ⟨bl, off + j * 6 + 2, none⟩ = some (.int .i64 x.1.a) ∧ w'.cell? ⟨bl, off + j * 6 + 3, none⟩ = some (.int .i64 x.1.b) ∧ w'.cell? ⟨bl, off + j * 6 + 4, none⟩ = some (.int .i64 x.1.c) ∧ w'.cell? ⟨bl, off + j * 6 + 5, none⟩ = some (.int .i64 x.2))
                          (first | exact ⟨c0, c1, c2, c3, c4, c5⟩ | exact ⟨z0, z1, z2, z3, z4, z5⟩)
                          (first | (go_at_call 11; (with_reducible refine C1.out.mono ?_); rintro e w2 ⟨rfl, hc2, hf2⟩; have z0 := map_cell HCD.out hf2 c0; have z1 := map_cell HCD.out hf2 c1; have z2 := map_cell HCD.out hf2 c2; have z3 := map_cell HCD.out hf2 c3; have z4 := map_cell HCD.out hf2 c4; have z5 := map_cell HCD.out hf2 c5))
                        have HB2 := Lib.hid (fr_below (below_drew HB.out) hf2 HC.out.q)
                        have HR2 := Lib.hid (map_tms HCD.out hf2 (HR.out.below At.stays (below_drew (Below.refl _ _))))
                        have HC2 := Lib.hid hc2
                        have HRS := Lib.hid (rises HC.out.good x.1 x.2 HG.out)
                        have LF := Lib.hid (show (frontC (addC d C x.1 x.2)).length ≤ 1000 by have h1 := hc2.good.len; have h2 := @front_len (addC d C x.1 x.2); omega)
                        clear c0 c1 c2 c3 c4 c5 z0 z1 z2 z3 z4 z5 hc2 hf2 C1 HCD HC HB HR HG
                        generalize addC d C x.1 x.2 = C2 at *
                        go_wp2_with fail
                        refine (front_law HC2.out (by omega)).mono ?_
                        rintro e w7 h7
                        obtain ⟨A7, c7, rfl, hr7, hb7⟩ := h7.rw_ (by have := LF.out; omega)
                        have HR7 := Lib.hid hr7.tms
                        have HRT := Lib.hid (right_any' A7 _ c7 _ w7 hr7.tms (by have := LF.out; omega))
                        rw [HRS.out.1] at HRT
                        replace HC2 := Lib.hid (HC2.out.below hb7)
                        replace HR2 := Lib.hid (HR2.out.below At.stays hb7)
                        replace HB2 := Lib.hid (below_then HB2.out hb7)
                        clear h7 hr7 hb7
                        generalize hm7 : (frontC C2).length = m7 at *
                        go_wp2_with fail
                        refine HRT.out.mono ?_
                        rintro e w8 ⟨rfl, hb8⟩
                        replace HC2 := Lib.hid (HC2.out.below hb8)
                        replace HR2 := Lib.hid (HR2.out.below At.stays hb8)
                        replace HR7 := Lib.hid (HR7.out.below At.stays hb8)
                        replace HB2 := Lib.hid (below_then HB2.out hb8)
                        have HW := Lib.hid (within_any A9 A7 m c9 m7 c7 _ _ w8 HR2.out HR7.out (by have := HM.out; omega) (by have := LF.out; omega))
                        rw [HRS.out.2] at HW
                        clear hb8 HRT
                        go_wp2_with fail
                        refine HW.out.mono ?_
                        rintro e w9 ⟨rfl, hb9⟩
                        replace HC2 := Lib.hid (HC2.out.below hb9)
                        replace HR7 := Lib.hid (HR7.out.below At.stays hb9)
                        replace HB2 := Lib.hid (below_then HB2.out hb9)
                        have HM7 := Lib.hid (show m7 ≤ 1000 from LF.out)
                        clear hb9 HW HR2 HRS hm7 LF HM
                        go_wp2_with fail
                        go_roundw
                        case rel => exact ⟨j + 1, C2, m7, A7, c7, by omega, rfl, by go_num, HM7, HR7, HC2, HB2⟩
                        case measure => simp [intOf]; omega
                · have HG := Lib.hid (show 0 < x.2 → frontC C ≠ [] ∧ holdsF (frontC C) x.1 = false ∧ 0 ≤ cnt C x.1 from fun h => absurd h hn)
                  clear a0 a1 a2 a3 a4
                  go_wp2_with fail
                  clear a5
                  obtain ⟨c0, c1, c2, c3, c4⟩ := HRX.out.1
                  have c5 := HRX.out.2
                  have C1 := Lib.hid (add_law x.1 x.2 (HC.out.below (below_drew (Below.refl _ _))))
                  have HCD := Lib.hid (HC.out.below (below_drew (Below.refl _ _)))
                  clear HRX
                  go_wp2_with fail
                  go_region_held3 (fun w' => w'.cell? ⟨bl, off + j * 6, none⟩ = some (.int .i64 x.1.d) ∧ w'.cell? ⟨bl, off + j * 6 + 1, none⟩ = some (.int .i64 x.1.e) ∧ w'.cell? ⟨bl, off + j * 6 + 2, none⟩ = some (.int .i64 x.1.a) ∧ w'.cell? ⟨bl, off + j * 6 + 3, none⟩ = some (.int .i64 x.1.b) ∧ w'.cell? ⟨bl, off + j * 6 + 4, none⟩ = some (.int .i64 x.1.c) ∧ w'.cell? ⟨bl, off + j * 6 + 5, none⟩ = some (.int .i64 x.2))
                    (first | exact ⟨c0, c1, c2, c3, c4, c5⟩ | exact ⟨z0, z1, z2, z3, z4, z5⟩)
                    (first | (go_at_call 11; (with_reducible refine C1.out.mono ?_); rintro e w2 ⟨rfl, hc2, hf2⟩; have z0 := map_cell HCD.out hf2 c0; have z1 := map_cell HCD.out hf2 c1; have z2 := map_cell HCD.out hf2 c2; have z3 := map_cell HCD.out hf2 c3; have z4 := map_cell HCD.out hf2 c4; have z5 := map_cell HCD.out hf2 c5))
                  have HB2 := Lib.hid (fr_below (below_drew HB.out) hf2 HC.out.q)
                  have HR2 := Lib.hid (map_tms HCD.out hf2 (HR.out.below At.stays (below_drew (Below.refl _ _))))
                  have HC2 := Lib.hid hc2
                  have HRS := Lib.hid (rises HC.out.good x.1 x.2 HG.out)
                  have LF := Lib.hid (show (frontC (addC d C x.1 x.2)).length ≤ 1000 by have h1 := hc2.good.len; have h2 := @front_len (addC d C x.1 x.2); omega)
                  clear c0 c1 c2 c3 c4 c5 z0 z1 z2 z3 z4 z5 hc2 hf2 C1 HCD HC HB HR HG
                  generalize addC d C x.1 x.2 = C2 at *
                  go_wp2_with fail
                  refine (front_law HC2.out (by omega)).mono ?_
                  rintro e w7 h7
                  obtain ⟨A7, c7, rfl, hr7, hb7⟩ := h7.rw_ (by have := LF.out; omega)
                  have HR7 := Lib.hid hr7.tms
                  have HRT := Lib.hid (right_any' A7 _ c7 _ w7 hr7.tms (by have := LF.out; omega))
                  rw [HRS.out.1] at HRT
                  replace HC2 := Lib.hid (HC2.out.below hb7)
                  replace HR2 := Lib.hid (HR2.out.below At.stays hb7)
                  replace HB2 := Lib.hid (below_then HB2.out hb7)
                  clear h7 hr7 hb7
                  generalize hm7 : (frontC C2).length = m7 at *
                  go_wp2_with fail
                  refine HRT.out.mono ?_
                  rintro e w8 ⟨rfl, hb8⟩
                  replace HC2 := Lib.hid (HC2.out.below hb8)
                  replace HR2 := Lib.hid (HR2.out.below At.stays hb8)
                  replace HR7 := Lib.hid (HR7.out.below At.stays hb8)
                  replace HB2 := Lib.hid (below_then HB2.out hb8)
                  have HW := Lib.hid (within_any A9 A7 m c9 m7 c7 _ _ w8 HR2.out HR7.out (by have := HM.out; omega) (by have := LF.out; omega))
                  rw [HRS.out.2] at HW
                  clear hb8 HRT
                  go_wp2_with fail
                  refine HW.out.mono ?_
                  rintro e w9 ⟨rfl, hb9⟩
                  replace HC2 := Lib.hid (HC2.out.below hb9)
                  replace HR7 := Lib.hid (HR7.out.below At.stays hb9)
                  replace HB2 := Lib.hid (below_then HB2.out hb9)
                  have HM7 := Lib.hid (show m7 ≤ 1000 from LF.out)
                  clear hb9 HW HR2 HRS hm7 LF HM
                  go_wp2_with fail
                  go_roundw
                  case rel => exact ⟨j + 1, C2, m7, A7, c7, by omega, rfl, by go_num, HM7, HR7, HC2, HB2⟩
                  case measure => simp [intOf]; omega
              · have hkn : j = n' := by omega
                subst hkn
                have e1 : decide ((j : Int) < j) = false := decide_eq_false (by omega)
                have e1' : decide (j < j) = false := decide_eq_false (by omega)
                go_wp2_with fail
                refine (works_any _).mono ?_
                rintro e wz ⟨rfl, hb⟩
                have HBZ := Lib.hid (below_then HB.out hb)
                clear hb
                go_wp2_with fail
                go_ret
                exact .bool rfl HBZ.out
  · have HN := Lib.hid (new_not d w (by omega))
    clear hX hY hd
    go_enter Try.func6, Try.ntmps6
    go_wp2_with fail
    refine HN.out.mono ?_
    rintro e w1 ⟨rfl, hb⟩
    have HB := Lib.hid hb
    clear hb HN
    go_wp2_with fail
    refine (works_any _).mono ?_
    rintro e wz ⟨rfl, hb⟩
    have HBZ := Lib.hid (below_then HB.out hb)
    clear hb
    go_wp2_with fail
    go_ret
    exact .bool rfl HBZ.out
end Go.Proofs.Ytebpepjlhanopaa
