/- The walk of the statement FixedGreatest: it returns true, and leaves what was there as it was; for every argument that can be read. -/
import Derived.Test.YtmlfnejmagjjpaaRows
import Derived.Test.YtmlfnejmagjjpaaWords
import Derived.Test.YtmlfnejmagjjpaaElems
import Derived.Test.YtmlfnejmagjjpaaFxPlain
import Derived.Test.YtmlfnejmagjjpaaA13
import Derived.Test.YtmlfnejmagjjpaaA15
namespace Go.Proofs.Ytmlfnejmagjjpaa
open Go.RowKit Go.Proofs.Tail
theorem base_of {w W : World} {o : Obj} (h : Below (w.alloc o).heap.size (w.alloc o) W) : Below w.heap.size w W := below_then (below_new w o) h
theorem below_yes {xs ys : List Int} {w : World} {e : Ending} {w' : World} (h : GivesB (BelowQ xs ys) w e w') (hk : xs.length = ys.length ∧ Fx.le xs ys) : Gives (.bool true) w e w' := by
  obtain ⟨b, rfl, hq, hb⟩ := h
  rw [hq.2 hk]
  exact ⟨rfl, hb⟩
theorem mayE_le {tops a : List Int} {rules : List Fx.R} (h : mayE tops rules = 0) (hl : a.length = tops.length) (hb : Fx.le a tops) (hp : Fx.pos a) : mayE a rules = 0 := by
  have h1 := mayE_zero h
  have h2 := mayE_top h
  unfold mayE at h ⊢
  split at h
  · cases h
  · rename_i h3
    rw [hl, if_neg h3, if_neg]
    rw [not_or, Bool.not_eq_true, Bool.not_eq_true, List.any_eq_false, List.any_eq_false]
    constructor
    · intro x hx
      obtain ⟨i, hi, rfl⟩ := List.getElem_of_mem hx
      have g1 := hb i hi
      have g2 := hp i hi
      have g3 := h2 i (by omega)
      simp only [List.getD_eq_getElem?_getD, List.getElem?_eq_getElem hi, Option.getD_some] at g1 g2
      simp only [List.getD_eq_getElem?_getD] at g3
      unfold wrongB
      rw [decide_eq_true_eq]
      omega
    · intro r hr
      unfold outB
      rw [h1.2 r hr]
      decide
set_option maxRecDepth 100000 in
set_option maxHeartbeats 8000000 in
theorem law_greatest (A A0 A1 A2 : Option Addr) (n c n0 c0 n1 c1 n2 c2 : Nat) (rules : List Fx.R) (tops lo : List Int) (m : Fx.R) (w : World) (h : Rules w A n c rules) (h0 : Ints w A0 n0 c0 tops) (h1 : Ints w A1 n1 c1 lo) (h2 : Ints w A2 n2 c2 m.need) :
    Calls Try.prog 4 #[.slice A0 n0 c0, .slice A n c, .slice A1 n1 c1, .agg #[.int .i64 m.x, .int .i64 m.y, .slice A2 n2 c2]] w (Gives (.bool true) w) := by
  have hmm := h.big
  have hm1 := h1.big
  have BW := Lib.hid (Below.refl (w.alloc (.cells #[.int .i64 m.x, .int .i64 m.y, .slice A2 n2 c2] 35)).heap.size (w.alloc (.cells #[.int .i64 m.x, .int .i64 m.y, .slice A2 n2 c2] 35)))
  have HF := Lib.hid (few_any A0 A n0 n c0 c rules 30 _ (h.below RRule.stays (base_of BW.out)))
  go_enter Try.func4, Try.ntmps4
  go_wp2_with fail
  refine HF.out.mono ?_
  rintro e wa ⟨b1, rfl, hq, hba⟩
  have BA := Lib.hid hba
  clear hba
  cases b1 with
  | false =>
    go_wp2_with fail
    refine (works_any _).mono ?_
    rintro e wz ⟨rfl, hbz⟩
    have BZ := Lib.hid (below_then (base_of BA.out) hbz)
    clear hbz
    go_wp2
    go_ret
    exact .bool rfl BZ.out
  | true =>
    obtain ⟨f1, f2, f3⟩ := hq rfl
    have d0 := below_cell BA.out (box_cell w [.int .i64 m.x, .int .i64 m.y, .slice A2 n2 c2] 35 0 _ rfl)
    have d1 := below_cell BA.out (box_cell w [.int .i64 m.x, .int .i64 m.y, .slice A2 n2 c2] 35 1 _ rfl)
    have d2 := below_cell BA.out (box_cell w [.int .i64 m.x, .int .i64 m.y, .slice A2 n2 c2] 35 2 _ rfl)
    clear f3 hq HF
    go_wp2_with fail
    refine (few_any _ _ _ _ _ _ [m] 30 _ (rule1 _ m A2 n2 c2 (h2.below RInt.stays (base_of BA.out)) _ (by simp))).mono ?_
    rintro e wb ⟨b2, rfl, hq, hbb⟩
    have BB := Lib.hid (below_then BA.out (below_then (below_new _ _) hbb))
    clear hbb d0 d1 d2
    cases b2 with
    | false =>
      go_wp2_with fail
      refine (works_any _).mono ?_
      rintro e wz ⟨rfl, hbz⟩
      have BZ := Lib.hid (below_then (base_of BB.out) hbz)
      clear hbz
      go_wp2
      go_ret
      exact .bool rfl BZ.out
    | true =>
      obtain ⟨f4, f5, f6⟩ := hq rfl
      clear f6 f5 hq
      go_wp2_with fail
      refine (solve_any _ _ _ _ _ _ rules tops _ (h.below RRule.stays (base_of BB.out)) (h0.below RInt.stays (base_of BB.out))).mono ?_
      intro e wc hq
      obtain ⟨vc, la, rfl, hbc, hoc, hac, hmc⟩ := hq.form
      have BC := Lib.hid (below_then BB.out hbc)
      have OC := Lib.hid hoc
      have AC := Lib.hid hac
      clear hq hbc hoc hac
      by_cases hE : mayE tops rules = 0
      · have hg := AC.out.2 hE
        have hla : la.length = n0 := by rw [hg.1.1, h0.len]
        have HG := Lib.hid hg
        have HE := Lib.hid hE
        have HLA := Lib.hid hla
        have HEA := Lib.hid (mayE_le hE hg.1.1 hg.1.2.2.1 hg.1.2.1)
        have HOKA := Lib.hid (show ∀ r ∈ rules, Fx.inn r la.length ∧ Fx.ok r la from fun r hr => ⟨by rw [hg.1.1]; exact inn_of ((mayE_zero hE).2 r hr), hg.1.2.2.2 r hr⟩)
        rw [hla] at OC
        rw [hE]
        clear hE hg hla
        obtain ⟨A5, c5, e, hI5⟩ := own_ints OC.out (by omega)
        subst e
        have IC := Lib.hid hI5
        clear hI5
        go_wp2_with fail
        refine (holds_any _ _ _ _ _ _ rules la _ (h.below RRule.stays (base_of BC.out)) IC.out).mono ?_
        intro e wd hq
        obtain ⟨rfl, hbd⟩ := holds_yes hq HOKA.out
        have BD := Lib.hid (below_then BC.out hbd)
        have ID := Lib.hid (IC.out.below RInt.stays hbd)
        clear hq hbd
        go_wp2_with fail
        refine (below_any _ _ _ _ _ _ la tops _ ID.out (h0.below RInt.stays (base_of BD.out))).mono ?_
        intro e we hq
        obtain ⟨rfl, hbe⟩ := below_yes hq ⟨HG.out.1.1, HG.out.1.2.2.1⟩
        have BE := Lib.hid (below_then BD.out hbe)
        have IE := Lib.hid (ID.out.below RInt.stays hbe)
        clear hq hbe
        go_wp2_with fail
        refine (solve_any _ _ _ _ _ _ rules la _ (h.below RRule.stays (base_of BE.out)) IE.out).mono ?_
        intro e wf hq
        obtain ⟨vf, lb, rfl, hbf, hof, haf, hmf⟩ := hq.form
        have BF := Lib.hid (below_then BE.out hbf)
        have IF_ := Lib.hid (IE.out.below RInt.stays hbf)
        have hlb := Fx.great_unique (Fx.great_again HG.out) (haf.2 HEA.out)
        subst hlb
        rw [HEA.out]
        rw [HLA.out] at hof
        obtain ⟨A6, c6, e, hI6⟩ := own_ints hof (by omega)
        subst e
        have I6 := Lib.hid hI6
        clear hq hbf hof haf hI6
        go_wp2_with fail
        refine (same_any _ _ _ _ _ _ la la _ IF_.out I6.out).mono ?_
        intro e wg hq
        obtain ⟨rfl, hbg⟩ := same_yes hq rfl
        have BG := Lib.hid (below_then BF.out hbg)
        have IG := Lib.hid (IF_.out.below RInt.stays hbg)
        clear hq hbg
        by_cases hL : n1 = n0
        · obtain rfl : n0 = n1 := hL.symm
          have t0 : ((n0 : Int) == (n0 : Int)) = true := by simp
          have HLO := Lib.hid (show lo.length = tops.length by rw [h1.len, h0.len])
          go_wp2_with fail
          refine (below_any _ _ _ _ _ _ lo tops _ (h1.below RInt.stays (base_of BG.out)) (h0.below RInt.stays (base_of BG.out))).mono ?_
          rintro e wh ⟨b3, rfl, hq, hbh⟩
          have BH := Lib.hid (below_then BG.out hbh)
          have IH := Lib.hid (IG.out.below RInt.stays hbh)
          have HQ3 := Lib.hid hq
          clear hq hbh
          cases b3 with
          | false =>
            go_wp2_with fail
            refine (below_any _ _ _ _ _ _ lo tops _ (h1.below RInt.stays (base_of BH.out)) (h0.below RInt.stays (base_of BH.out))).mono ?_
            rintro e wi ⟨b4, rfl, hq, hbi⟩
            have BI := Lib.hid (below_then BH.out hbi)
            have II := Lib.hid (IH.out.below RInt.stays hbi)
            have hb4 : b4 = false := by
              cases b4 with
              | false => rfl
              | true => exact (HQ3.out.2 (hq.1 rfl)).symm
            subst hb4
            clear hq hbi
            obtain ⟨cs, hcs, hcl, hsrc, hone⟩ := h.cells (V := VR w) VR.of
            have HCS := Lib.hid hcs
            have HSRC := Lib.hid (fun hm => (hsrc hm).imp fun ad hh => And.intro hh.1 (fun j u hu => below_cell (base_of BI.out) (hh.2 j u hu)))
            have HONE := Lib.hid hone
            have HCL := Lib.hid hcl
            clear hcs hcl hsrc hone
            have D0 := Lib.hid (below_cell BI.out (box_cell w [.int .i64 m.x, .int .i64 m.y, .slice A2 n2 c2] 35 0 _ rfl))
            have D1 := Lib.hid (below_cell BI.out (box_cell w [.int .i64 m.x, .int .i64 m.y, .slice A2 n2 c2] 35 1 _ rfl))
            have D2 := Lib.hid (below_cell BI.out (box_cell w [.int .i64 m.x, .int .i64 m.y, .slice A2 n2 c2] 35 2 _ rfl))
            go_wp2_with (first | (at_builtin; refine own_append rfl _ _ 23 35 _ 3 40 rfl Try.underlying23 Try.info35 rfl (by omega) (by omega) _ (.slice none 0 0) 0 [] A n c cs rfl rfl (World.ownsRow_nil _ _ _ _) HCL.out HSRC.out HONE.out (by omega) (Nat.le_refl _) ?_; intro v8 w8 hown8 hg8 _; have d0 := hg8.cell D0.out (by simp [Value.ownBlock]); have d1 := hg8.cell D1.out (by simp [Value.ownBlock]); have d2 := hg8.cell D2.out (by simp [Value.ownBlock]); have O8 := Lib.hid hown8; have G8 := Lib.hid (below_grown (Below.refl _ _) hg8 (fun k hk => by simp [Value.ownBlock] at hk)); clear hown8 hg8; rw [List.nil_append, Nat.zero_add] at O8) | (at_builtin; refine own_append_one rfl _ _ 23 35 _ 3 40 rfl Try.underlying23 Try.info35 rfl (by omega) (by omega) _ v8 n cs 1 [.int .i64 m.x, .int .i64 m.y, .slice A2 n2 c2] rfl rfl O8.out rfl (by simp [Value.oneCell']) (by omega) G8.out.size ?_; intro v9 w9 hown9 hg9 _; have O9 := Lib.hid hown9; have H9 := Lib.hid hg9; clear hown9 hg9))
            have hown9 := O9.out
            have hg9 := H9.out
            have G9 := Lib.hid (below_grown G8.out hg9 (own_lt O8.out))
            have B9 := Lib.hid (below_then BI.out G9.out)
            have IA9 := Lib.hid (II.out.below RInt.stays G9.out)
            obtain ⟨Ao, co, e, hRo⟩ := own_rd hown9 (xs := rules ++ [m]) (by rw [List.length_append, h.len]; rfl) (by omega) (HCS.out.snoc ⟨A2, n2, c2, rfl, h2⟩ rfl) (VR.rd (base_of B9.out))
            subst e
            have RO := Lib.hid hRo
            clear hown9 hg9 hRo d0 d1 d2
            go_wp2_with fail
            refine (solve_any _ _ _ _ _ _ (rules ++ [m]) tops _ RO.out (h0.below RInt.stays (base_of B9.out))).mono ?_
            intro e wd hq
            obtain ⟨vd, ld, rfl, hbd, hod, had, hmd⟩ := hq.form
            have BD := Lib.hid (below_then B9.out hbd)
            have IAD := Lib.hid (IA9.out.below RInt.stays hbd)
            have ROD := Lib.hid (RO.out.below RRule.stays hbd)
            have OD := Lib.hid hod
            have AD := Lib.hid had
            clear hq hbd hod had RO IA9 B9 G9 G8 O8 D0 D1 D2 HCS HSRC HONE HCL
            by_cases hEd : mayE tops (rules ++ [m]) = 0
            · have hgd := AD.out.2 hEd
              have hld : ld.length = n0 := by rw [hgd.1.1, h0.len]
              have HLE := Lib.hid (Fx.great_more HG.out hgd (fun r hr => List.mem_append_left _ hr))
              obtain ⟨_, hind⟩ := mayE_zero hEd
              have HOK := Lib.hid (show ∀ r ∈ rules ++ [m], Fx.inn r ld.length ∧ Fx.ok r ld from fun r hr => ⟨by rw [hgd.1.1]; exact inn_of (hind r hr), hgd.1.2.2.2 r hr⟩)
              rw [hEd]
              rw [hld] at OD
              have HLD := Lib.hid hld
              clear hEd hgd hld hind
              obtain ⟨Ad, cd, e, hId⟩ := own_ints OD.out (by omega)
              subst e
              have HId := Lib.hid hId
              clear hId
              go_wp2_with fail
              refine (below_any _ _ _ _ _ _ ld la _ HId.out IAD.out).mono ?_
              intro e wp hq
              obtain ⟨rfl, hbp⟩ := below_yes hq ⟨by rw [HLD.out, HLA.out], HLE.out⟩
              have BP := Lib.hid (below_then BD.out hbp)
              have ROP := Lib.hid (ROD.out.below RRule.stays hbp)
              have HIp := Lib.hid (HId.out.below RInt.stays hbp)
              clear hq hbp
              go_wp2_with fail
              refine (holds_any _ _ _ _ _ _ (rules ++ [m]) ld _ ROP.out HIp.out).mono ?_
              intro e wr hq
              obtain ⟨rfl, hbr⟩ := holds_yes hq HOK.out
              have BR := Lib.hid (below_then BP.out hbr)
              clear hq hbr
              go_wp2_with fail
              refine (works_any _).mono ?_
              rintro e wz ⟨rfl, hbz⟩
              have BZ := Lib.hid (below_then (base_of BR.out) hbz)
              clear hbz
              go_wp2
              go_ret
              exact .bool rfl BZ.out
            · have t9 : (mayE tops (rules ++ [m]) != 0) = true := by simpa using hEd
              clear hEd
              generalize mayE tops (rules ++ [m]) = me at *
              go_wp2_with fail
              refine (works_any _).mono ?_
              rintro e wz ⟨rfl, hbz⟩
              have BZ := Lib.hid (below_then (base_of BD.out) hbz)
              clear hbz
              go_wp2
              go_ret
              exact .bool rfl BZ.out
          | true =>
            have HBO := Lib.hid (HQ3.out.1 rfl).2
            go_wp2_with fail
            refine (least_any _ _ _ lo _ (h1.below RInt.stays (base_of BH.out))).mono ?_
            rintro e wi ⟨b4, rfl, hq, hbi⟩
            have BI := Lib.hid (below_then BH.out hbi)
            have II := Lib.hid (IH.out.below RInt.stays hbi)
            have HQ4 := Lib.hid hq
            clear hq hbi
            cases b4 with
            | false =>
              go_wp2_with fail
              refine (below_any _ _ _ _ _ _ lo tops _ (h1.below RInt.stays (base_of BI.out)) (h0.below RInt.stays (base_of BI.out))).mono ?_
              intro e wj hq
              obtain ⟨rfl, hbj⟩ := below_yes hq ⟨HLO.out, HBO.out⟩
              have BJ := Lib.hid (below_then BI.out hbj)
              have IJ := Lib.hid (II.out.below RInt.stays hbj)
              clear hq hbj
              go_wp2_with fail
              refine (least_any _ _ _ lo _ (h1.below RInt.stays (base_of BJ.out))).mono ?_
              rintro e wk ⟨b5, rfl, hq, hbk⟩
              have BK := Lib.hid (below_then BJ.out hbk)
              have IK := Lib.hid (IJ.out.below RInt.stays hbk)
              have hb5 : b5 = false := by
                cases b5 with
                | false => rfl
                | true => exact (HQ4.out.2 (hq.1 rfl)).symm
              subst hb5
              clear hq hbk
              obtain ⟨cs, hcs, hcl, hsrc, hone⟩ := h.cells (V := VR w) VR.of
              have HCS := Lib.hid hcs
              have HSRC := Lib.hid (fun hm => (hsrc hm).imp fun ad hh => And.intro hh.1 (fun j u hu => below_cell (base_of BK.out) (hh.2 j u hu)))
              have HONE := Lib.hid hone
              have HCL := Lib.hid hcl
              clear hcs hcl hsrc hone
              have D0 := Lib.hid (below_cell BK.out (box_cell w [.int .i64 m.x, .int .i64 m.y, .slice A2 n2 c2] 35 0 _ rfl))
              have D1 := Lib.hid (below_cell BK.out (box_cell w [.int .i64 m.x, .int .i64 m.y, .slice A2 n2 c2] 35 1 _ rfl))
              have D2 := Lib.hid (below_cell BK.out (box_cell w [.int .i64 m.x, .int .i64 m.y, .slice A2 n2 c2] 35 2 _ rfl))
              go_wp2_with (first | (at_builtin; refine own_append rfl _ _ 23 35 _ 3 40 rfl Try.underlying23 Try.info35 rfl (by omega) (by omega) _ (.slice none 0 0) 0 [] A n c cs rfl rfl (World.ownsRow_nil _ _ _ _) HCL.out HSRC.out HONE.out (by omega) (Nat.le_refl _) ?_; intro v8 w8 hown8 hg8 _; have d0 := hg8.cell D0.out (by simp [Value.ownBlock]); have d1 := hg8.cell D1.out (by simp [Value.ownBlock]); have d2 := hg8.cell D2.out (by simp [Value.ownBlock]); have O8 := Lib.hid hown8; have G8 := Lib.hid (below_grown (Below.refl _ _) hg8 (fun k hk => by simp [Value.ownBlock] at hk)); clear hown8 hg8; rw [List.nil_append, Nat.zero_add] at O8) | (at_builtin; refine own_append_one rfl _ _ 23 35 _ 3 40 rfl Try.underlying23 Try.info35 rfl (by omega) (by omega) _ v8 n cs 1 [.int .i64 m.x, .int .i64 m.y, .slice A2 n2 c2] rfl rfl O8.out rfl (by simp [Value.oneCell']) (by omega) G8.out.size ?_; intro v9 w9 hown9 hg9 _; have O9 := Lib.hid hown9; have H9 := Lib.hid hg9; clear hown9 hg9))
              have hown9 := O9.out
              have hg9 := H9.out
              have G9 := Lib.hid (below_grown G8.out hg9 (own_lt O8.out))
              have B9 := Lib.hid (below_then BK.out G9.out)
              have IA9 := Lib.hid (IK.out.below RInt.stays G9.out)
              obtain ⟨Ao, co, e, hRo⟩ := own_rd hown9 (xs := rules ++ [m]) (by rw [List.length_append, h.len]; rfl) (by omega) (HCS.out.snoc ⟨A2, n2, c2, rfl, h2⟩ rfl) (VR.rd (base_of B9.out))
              subst e
              have RO := Lib.hid hRo
              clear hown9 hg9 hRo d0 d1 d2
              go_wp2_with fail
              refine (solve_any _ _ _ _ _ _ (rules ++ [m]) tops _ RO.out (h0.below RInt.stays (base_of B9.out))).mono ?_
              intro e wd hq
              obtain ⟨vd, ld, rfl, hbd, hod, had, hmd⟩ := hq.form
              have BD := Lib.hid (below_then B9.out hbd)
              have IAD := Lib.hid (IA9.out.below RInt.stays hbd)
              have ROD := Lib.hid (RO.out.below RRule.stays hbd)
              have OD := Lib.hid hod
              have AD := Lib.hid had
              clear hq hbd hod had RO IA9 B9 G9 G8 O8 D0 D1 D2 HCS HSRC HONE HCL
              by_cases hEd : mayE tops (rules ++ [m]) = 0
              · have hgd := AD.out.2 hEd
                have hld : ld.length = n0 := by rw [hgd.1.1, h0.len]
                have HLE := Lib.hid (Fx.great_more HG.out hgd (fun r hr => List.mem_append_left _ hr))
                obtain ⟨_, hind⟩ := mayE_zero hEd
                have HOK := Lib.hid (show ∀ r ∈ rules ++ [m], Fx.inn r ld.length ∧ Fx.ok r ld from fun r hr => ⟨by rw [hgd.1.1]; exact inn_of (hind r hr), hgd.1.2.2.2 r hr⟩)
                rw [hEd]
                rw [hld] at OD
                have HLD := Lib.hid hld
                clear hEd hgd hld hind
                obtain ⟨Ad, cd, e, hId⟩ := own_ints OD.out (by omega)
                subst e
                have HId := Lib.hid hId
                clear hId
                go_wp2_with fail
                refine (below_any _ _ _ _ _ _ ld la _ HId.out IAD.out).mono ?_
                intro e wp hq
                obtain ⟨rfl, hbp⟩ := below_yes hq ⟨by rw [HLD.out, HLA.out], HLE.out⟩
                have BP := Lib.hid (below_then BD.out hbp)
                have ROP := Lib.hid (ROD.out.below RRule.stays hbp)
                have HIp := Lib.hid (HId.out.below RInt.stays hbp)
                clear hq hbp
                go_wp2_with fail
                refine (holds_any _ _ _ _ _ _ (rules ++ [m]) ld _ ROP.out HIp.out).mono ?_
                intro e wr hq
                obtain ⟨rfl, hbr⟩ := holds_yes hq HOK.out
                have BR := Lib.hid (below_then BP.out hbr)
                clear hq hbr
                go_wp2_with fail
                refine (works_any _).mono ?_
                rintro e wz ⟨rfl, hbz⟩
                have BZ := Lib.hid (below_then (base_of BR.out) hbz)
                clear hbz
                go_wp2
                go_ret
                exact .bool rfl BZ.out
              · have t9 : (mayE tops (rules ++ [m]) != 0) = true := by simpa using hEd
                clear hEd
                generalize mayE tops (rules ++ [m]) = me at *
                go_wp2_with fail
                refine (works_any _).mono ?_
                rintro e wz ⟨rfl, hbz⟩
                have BZ := Lib.hid (below_then (base_of BD.out) hbz)
                clear hbz
                go_wp2
                go_ret
                exact .bool rfl BZ.out
            | true =>
              have HPO := Lib.hid (HQ4.out.1 rfl)
              go_wp2_with fail
              refine (holds_any _ _ _ _ _ _ rules lo _ (h.below RRule.stays (base_of BI.out)) (h1.below RInt.stays (base_of BI.out))).mono ?_
              generalize hgo : rules.any (badB lo) = go_
              rintro e wj ⟨rfl, hbj⟩
              have BJ := Lib.hid (below_then BI.out hbj)
              have IJ := Lib.hid (II.out.below RInt.stays hbj)
              have HGO := Lib.hid hgo
              clear hbj hgo
              cases go_ with
              | true =>
                go_wp2_with fail
                refine (below_any _ _ _ _ _ _ lo tops _ (h1.below RInt.stays (base_of BJ.out)) (h0.below RInt.stays (base_of BJ.out))).mono ?_
                intro e wq hq
                obtain ⟨rfl, hbq⟩ := below_yes hq ⟨HLO.out, HBO.out⟩
                have BQ := Lib.hid (below_then BJ.out hbq)
                have IAQ := Lib.hid (IJ.out.below RInt.stays hbq)
                clear hq hbq
                go_wp2_with fail
                refine (least_any _ _ _ lo _ (h1.below RInt.stays (base_of BQ.out))).mono ?_
                rintro e ws ⟨b9, rfl, hq, hbs⟩
                have hb9 : b9 = true := hq.2 HPO.out
                subst hb9
                have BS := Lib.hid (below_then BQ.out hbs)
                have IAS := Lib.hid (IAQ.out.below RInt.stays hbs)
                clear hq hbs
                go_wp2_with fail
                refine (solve_any _ _ _ _ _ _ rules lo _ (h.below RRule.stays (base_of BS.out)) (h1.below RInt.stays (base_of BS.out))).mono ?_
                intro e wt hq
                obtain ⟨vt, lt, rfl, hbt, hot, hat, hmt⟩ := hq.form
                have BT := Lib.hid (below_then BS.out hbt)
                have IAT := Lib.hid (IAS.out.below RInt.stays hbt)
                have hEt := mayE_le HE.out HLO.out HBO.out HPO.out
                have hgt := hat.2 hEt
                have hlt : lt.length = n0 := by rw [hgt.1.1, h1.len]
                rw [hEt]
                rw [hlt] at hot
                have OT := Lib.hid hot
                have HLT := Lib.hid hlt
                have HT1 := Lib.hid (Fx.great_lower HG.out hgt HLO.out HBO.out)
                have HT2 := Lib.hid hgt.1.2.2.1
                clear hq hbt hot hat hEt hgt hlt
                obtain ⟨At, ct, e, hIt⟩ := own_ints OT.out (by omega)
                subst e
                have HIt := Lib.hid hIt
                clear hIt
                go_wp2_with fail
                refine (below_any _ _ _ _ _ _ lt la _ HIt.out IAT.out).mono ?_
                intro e wu hq
                obtain ⟨rfl, hbu⟩ := below_yes hq ⟨by rw [HLT.out, HLA.out], HT1.out⟩
                have BU := Lib.hid (below_then BT.out hbu)
                have IAU := Lib.hid (IAT.out.below RInt.stays hbu)
                have HIu := Lib.hid (HIt.out.below RInt.stays hbu)
                clear hq hbu
                go_wp2_with fail
                refine (below_any _ _ _ _ _ _ lt lo _ HIu.out (h1.below RInt.stays (base_of BU.out))).mono ?_
                intro e wv hq
                obtain ⟨rfl, hbv⟩ := below_yes hq ⟨by rw [HLT.out, h1.len], HT2.out⟩
                have BV := Lib.hid (below_then BU.out hbv)
                have IAV := Lib.hid (IAU.out.below RInt.stays hbv)
                clear hq hbv

                obtain ⟨cs, hcs, hcl, hsrc, hone⟩ := h.cells (V := VR w) VR.of
                have HCS := Lib.hid hcs
                have HSRC := Lib.hid (fun hm => (hsrc hm).imp fun ad hh => And.intro hh.1 (fun j u hu => below_cell (base_of BV.out) (hh.2 j u hu)))
                have HONE := Lib.hid hone
                have HCL := Lib.hid hcl
                clear hcs hcl hsrc hone
                have D0 := Lib.hid (below_cell BV.out (box_cell w [.int .i64 m.x, .int .i64 m.y, .slice A2 n2 c2] 35 0 _ rfl))
                have D1 := Lib.hid (below_cell BV.out (box_cell w [.int .i64 m.x, .int .i64 m.y, .slice A2 n2 c2] 35 1 _ rfl))
                have D2 := Lib.hid (below_cell BV.out (box_cell w [.int .i64 m.x, .int .i64 m.y, .slice A2 n2 c2] 35 2 _ rfl))
                go_wp2_with (first | (at_builtin; refine own_append rfl _ _ 23 35 _ 3 40 rfl Try.underlying23 Try.info35 rfl (by omega) (by omega) _ (.slice none 0 0) 0 [] A n c cs rfl rfl (World.ownsRow_nil _ _ _ _) HCL.out HSRC.out HONE.out (by omega) (Nat.le_refl _) ?_; intro v8 w8 hown8 hg8 _; have d0 := hg8.cell D0.out (by simp [Value.ownBlock]); have d1 := hg8.cell D1.out (by simp [Value.ownBlock]); have d2 := hg8.cell D2.out (by simp [Value.ownBlock]); have O8 := Lib.hid hown8; have G8 := Lib.hid (below_grown (Below.refl _ _) hg8 (fun k hk => by simp [Value.ownBlock] at hk)); clear hown8 hg8; rw [List.nil_append, Nat.zero_add] at O8) | (at_builtin; refine own_append_one rfl _ _ 23 35 _ 3 40 rfl Try.underlying23 Try.info35 rfl (by omega) (by omega) _ v8 n cs 1 [.int .i64 m.x, .int .i64 m.y, .slice A2 n2 c2] rfl rfl O8.out rfl (by simp [Value.oneCell']) (by omega) G8.out.size ?_; intro v9 w9 hown9 hg9 _; have O9 := Lib.hid hown9; have H9 := Lib.hid hg9; clear hown9 hg9))
                have hown9 := O9.out
                have hg9 := H9.out
                have G9 := Lib.hid (below_grown G8.out hg9 (own_lt O8.out))
                have B9 := Lib.hid (below_then BV.out G9.out)
                have IA9 := Lib.hid (IAV.out.below RInt.stays G9.out)
                obtain ⟨Ao, co, e, hRo⟩ := own_rd hown9 (xs := rules ++ [m]) (by rw [List.length_append, h.len]; rfl) (by omega) (HCS.out.snoc ⟨A2, n2, c2, rfl, h2⟩ rfl) (VR.rd (base_of B9.out))
                subst e
                have RO := Lib.hid hRo
                clear hown9 hg9 hRo d0 d1 d2
                go_wp2_with fail
                refine (solve_any _ _ _ _ _ _ (rules ++ [m]) tops _ RO.out (h0.below RInt.stays (base_of B9.out))).mono ?_
                intro e wd hq
                obtain ⟨vd, ld, rfl, hbd, hod, had, hmd⟩ := hq.form
                have BD := Lib.hid (below_then B9.out hbd)
                have IAD := Lib.hid (IA9.out.below RInt.stays hbd)
                have ROD := Lib.hid (RO.out.below RRule.stays hbd)
                have OD := Lib.hid hod
                have AD := Lib.hid had
                clear hq hbd hod had RO IA9 B9 G9 G8 O8 D0 D1 D2 HCS HSRC HONE HCL
                by_cases hEd : mayE tops (rules ++ [m]) = 0
                · have hgd := AD.out.2 hEd
                  have hld : ld.length = n0 := by rw [hgd.1.1, h0.len]
                  have HLE := Lib.hid (Fx.great_more HG.out hgd (fun r hr => List.mem_append_left _ hr))
                  obtain ⟨_, hind⟩ := mayE_zero hEd
                  have HOK := Lib.hid (show ∀ r ∈ rules ++ [m], Fx.inn r ld.length ∧ Fx.ok r ld from fun r hr => ⟨by rw [hgd.1.1]; exact inn_of (hind r hr), hgd.1.2.2.2 r hr⟩)
                  rw [hEd]
                  rw [hld] at OD
                  have HLD := Lib.hid hld
                  clear hEd hgd hld hind
                  obtain ⟨Ad, cd, e, hId⟩ := own_ints OD.out (by omega)
                  subst e
                  have HId := Lib.hid hId
                  clear hId
                  go_wp2_with fail
                  refine (below_any _ _ _ _ _ _ ld la _ HId.out IAD.out).mono ?_
                  intro e wp hq
                  obtain ⟨rfl, hbp⟩ := below_yes hq ⟨by rw [HLD.out, HLA.out], HLE.out⟩
                  have BP := Lib.hid (below_then BD.out hbp)
                  have ROP := Lib.hid (ROD.out.below RRule.stays hbp)
                  have HIp := Lib.hid (HId.out.below RInt.stays hbp)
                  clear hq hbp
                  go_wp2_with fail
                  refine (holds_any _ _ _ _ _ _ (rules ++ [m]) ld _ ROP.out HIp.out).mono ?_
                  intro e wr hq
                  obtain ⟨rfl, hbr⟩ := holds_yes hq HOK.out
                  have BR := Lib.hid (below_then BP.out hbr)
                  clear hq hbr
                  go_wp2_with fail
                  refine (works_any _).mono ?_
                  rintro e wz ⟨rfl, hbz⟩
                  have BZ := Lib.hid (below_then (base_of BR.out) hbz)
                  clear hbz
                  go_wp2
                  go_ret
                  exact .bool rfl BZ.out
                · have t9 : (mayE tops (rules ++ [m]) != 0) = true := by simpa using hEd
                  clear hEd
                  generalize mayE tops (rules ++ [m]) = me at *
                  go_wp2_with fail
                  refine (works_any _).mono ?_
                  rintro e wz ⟨rfl, hbz⟩
                  have BZ := Lib.hid (below_then (base_of BD.out) hbz)
                  clear hbz
                  go_wp2
                  go_ret
                  exact .bool rfl BZ.out
              | false =>
                go_wp2_with fail
                refine (below_any _ _ _ _ _ _ lo la _ (h1.below RInt.stays (base_of BJ.out)) IJ.out).mono ?_
                intro e wk hq
                obtain ⟨rfl, hbk⟩ := below_yes hq ⟨by rw [h1.len, HLA.out], Fx.great_above HG.out HLO.out HBO.out HPO.out (fun r hr => (all_ok HPO.out HGO.out r hr).2)⟩
                have BK := Lib.hid (below_then BJ.out hbk)
                have IK := Lib.hid (IJ.out.below RInt.stays hbk)
                clear hq hbk
                go_wp2_with fail
                refine (below_any _ _ _ _ _ _ lo tops _ (h1.below RInt.stays (base_of BK.out)) (h0.below RInt.stays (base_of BK.out))).mono ?_
                intro e wq hq
                obtain ⟨rfl, hbq⟩ := below_yes hq ⟨HLO.out, HBO.out⟩
                have BQ := Lib.hid (below_then BK.out hbq)
                have IAQ := Lib.hid (IK.out.below RInt.stays hbq)
                clear hq hbq
                go_wp2_with fail
                refine (least_any _ _ _ lo _ (h1.below RInt.stays (base_of BQ.out))).mono ?_
                rintro e ws ⟨b9, rfl, hq, hbs⟩
                have hb9 : b9 = true := hq.2 HPO.out
                subst hb9
                have BS := Lib.hid (below_then BQ.out hbs)
                have IAS := Lib.hid (IAQ.out.below RInt.stays hbs)
                clear hq hbs
                go_wp2_with fail
                refine (solve_any _ _ _ _ _ _ rules lo _ (h.below RRule.stays (base_of BS.out)) (h1.below RInt.stays (base_of BS.out))).mono ?_
                intro e wt hq
                obtain ⟨vt, lt, rfl, hbt, hot, hat, hmt⟩ := hq.form
                have BT := Lib.hid (below_then BS.out hbt)
                have IAT := Lib.hid (IAS.out.below RInt.stays hbt)
                have hEt := mayE_le HE.out HLO.out HBO.out HPO.out
                have hgt := hat.2 hEt
                have hlt : lt.length = n0 := by rw [hgt.1.1, h1.len]
                rw [hEt]
                rw [hlt] at hot
                have OT := Lib.hid hot
                have HLT := Lib.hid hlt
                have HT1 := Lib.hid (Fx.great_lower HG.out hgt HLO.out HBO.out)
                have HT2 := Lib.hid hgt.1.2.2.1
                clear hq hbt hot hat hEt hgt hlt
                obtain ⟨At, ct, e, hIt⟩ := own_ints OT.out (by omega)
                subst e
                have HIt := Lib.hid hIt
                clear hIt
                go_wp2_with fail
                refine (below_any _ _ _ _ _ _ lt la _ HIt.out IAT.out).mono ?_
                intro e wu hq
                obtain ⟨rfl, hbu⟩ := below_yes hq ⟨by rw [HLT.out, HLA.out], HT1.out⟩
                have BU := Lib.hid (below_then BT.out hbu)
                have IAU := Lib.hid (IAT.out.below RInt.stays hbu)
                have HIu := Lib.hid (HIt.out.below RInt.stays hbu)
                clear hq hbu
                go_wp2_with fail
                refine (below_any _ _ _ _ _ _ lt lo _ HIu.out (h1.below RInt.stays (base_of BU.out))).mono ?_
                intro e wv hq
                obtain ⟨rfl, hbv⟩ := below_yes hq ⟨by rw [HLT.out, h1.len], HT2.out⟩
                have BV := Lib.hid (below_then BU.out hbv)
                have IAV := Lib.hid (IAU.out.below RInt.stays hbv)
                clear hq hbv

                obtain ⟨cs, hcs, hcl, hsrc, hone⟩ := h.cells (V := VR w) VR.of
                have HCS := Lib.hid hcs
                have HSRC := Lib.hid (fun hm => (hsrc hm).imp fun ad hh => And.intro hh.1 (fun j u hu => below_cell (base_of BV.out) (hh.2 j u hu)))
                have HONE := Lib.hid hone
                have HCL := Lib.hid hcl
                clear hcs hcl hsrc hone
                have D0 := Lib.hid (below_cell BV.out (box_cell w [.int .i64 m.x, .int .i64 m.y, .slice A2 n2 c2] 35 0 _ rfl))
                have D1 := Lib.hid (below_cell BV.out (box_cell w [.int .i64 m.x, .int .i64 m.y, .slice A2 n2 c2] 35 1 _ rfl))
                have D2 := Lib.hid (below_cell BV.out (box_cell w [.int .i64 m.x, .int .i64 m.y, .slice A2 n2 c2] 35 2 _ rfl))
                go_wp2_with (first | (at_builtin; refine own_append rfl _ _ 23 35 _ 3 40 rfl Try.underlying23 Try.info35 rfl (by omega) (by omega) _ (.slice none 0 0) 0 [] A n c cs rfl rfl (World.ownsRow_nil _ _ _ _) HCL.out HSRC.out HONE.out (by omega) (Nat.le_refl _) ?_; intro v8 w8 hown8 hg8 _; have d0 := hg8.cell D0.out (by simp [Value.ownBlock]); have d1 := hg8.cell D1.out (by simp [Value.ownBlock]); have d2 := hg8.cell D2.out (by simp [Value.ownBlock]); have O8 := Lib.hid hown8; have G8 := Lib.hid (below_grown (Below.refl _ _) hg8 (fun k hk => by simp [Value.ownBlock] at hk)); clear hown8 hg8; rw [List.nil_append, Nat.zero_add] at O8) | (at_builtin; refine own_append_one rfl _ _ 23 35 _ 3 40 rfl Try.underlying23 Try.info35 rfl (by omega) (by omega) _ v8 n cs 1 [.int .i64 m.x, .int .i64 m.y, .slice A2 n2 c2] rfl rfl O8.out rfl (by simp [Value.oneCell']) (by omega) G8.out.size ?_; intro v9 w9 hown9 hg9 _; have O9 := Lib.hid hown9; have H9 := Lib.hid hg9; clear hown9 hg9))
                have hown9 := O9.out
                have hg9 := H9.out
                have G9 := Lib.hid (below_grown G8.out hg9 (own_lt O8.out))
                have B9 := Lib.hid (below_then BV.out G9.out)
                have IA9 := Lib.hid (IAV.out.below RInt.stays G9.out)
                obtain ⟨Ao, co, e, hRo⟩ := own_rd hown9 (xs := rules ++ [m]) (by rw [List.length_append, h.len]; rfl) (by omega) (HCS.out.snoc ⟨A2, n2, c2, rfl, h2⟩ rfl) (VR.rd (base_of B9.out))
                subst e
                have RO := Lib.hid hRo
                clear hown9 hg9 hRo d0 d1 d2
                go_wp2_with fail
                refine (solve_any _ _ _ _ _ _ (rules ++ [m]) tops _ RO.out (h0.below RInt.stays (base_of B9.out))).mono ?_
                intro e wd hq
                obtain ⟨vd, ld, rfl, hbd, hod, had, hmd⟩ := hq.form
                have BD := Lib.hid (below_then B9.out hbd)
                have IAD := Lib.hid (IA9.out.below RInt.stays hbd)
                have ROD := Lib.hid (RO.out.below RRule.stays hbd)
                have OD := Lib.hid hod
                have AD := Lib.hid had
                clear hq hbd hod had RO IA9 B9 G9 G8 O8 D0 D1 D2 HCS HSRC HONE HCL
                by_cases hEd : mayE tops (rules ++ [m]) = 0
                · have hgd := AD.out.2 hEd
                  have hld : ld.length = n0 := by rw [hgd.1.1, h0.len]
                  have HLE := Lib.hid (Fx.great_more HG.out hgd (fun r hr => List.mem_append_left _ hr))
                  obtain ⟨_, hind⟩ := mayE_zero hEd
                  have HOK := Lib.hid (show ∀ r ∈ rules ++ [m], Fx.inn r ld.length ∧ Fx.ok r ld from fun r hr => ⟨by rw [hgd.1.1]; exact inn_of (hind r hr), hgd.1.2.2.2 r hr⟩)
                  rw [hEd]
                  rw [hld] at OD
                  have HLD := Lib.hid hld
                  clear hEd hgd hld hind
                  obtain ⟨Ad, cd, e, hId⟩ := own_ints OD.out (by omega)
                  subst e
                  have HId := Lib.hid hId
                  clear hId
                  go_wp2_with fail
                  refine (below_any _ _ _ _ _ _ ld la _ HId.out IAD.out).mono ?_
                  intro e wp hq
                  obtain ⟨rfl, hbp⟩ := below_yes hq ⟨by rw [HLD.out, HLA.out], HLE.out⟩
                  have BP := Lib.hid (below_then BD.out hbp)
                  have ROP := Lib.hid (ROD.out.below RRule.stays hbp)
                  have HIp := Lib.hid (HId.out.below RInt.stays hbp)
                  clear hq hbp
                  go_wp2_with fail
                  refine (holds_any _ _ _ _ _ _ (rules ++ [m]) ld _ ROP.out HIp.out).mono ?_
                  intro e wr hq
                  obtain ⟨rfl, hbr⟩ := holds_yes hq HOK.out
                  have BR := Lib.hid (below_then BP.out hbr)
                  clear hq hbr
                  go_wp2_with fail
                  refine (works_any _).mono ?_
                  rintro e wz ⟨rfl, hbz⟩
                  have BZ := Lib.hid (below_then (base_of BR.out) hbz)
                  clear hbz
                  go_wp2
                  go_ret
                  exact .bool rfl BZ.out
                · have t9 : (mayE tops (rules ++ [m]) != 0) = true := by simpa using hEd
                  clear hEd
                  generalize mayE tops (rules ++ [m]) = me at *
                  go_wp2_with fail
                  refine (works_any _).mono ?_
                  rintro e wz ⟨rfl, hbz⟩
                  have BZ := Lib.hid (below_then (base_of BD.out) hbz)
                  clear hbz
                  go_wp2
                  go_ret
                  exact .bool rfl BZ.out
        · have t0 : ((n1 : Int) == (n0 : Int)) = false := by simp; omega
          clear hL
          obtain ⟨cs, hcs, hcl, hsrc, hone⟩ := h.cells (V := VR w) VR.of
          have HCS := Lib.hid hcs
          have HSRC := Lib.hid (fun hm => (hsrc hm).imp fun ad hh => And.intro hh.1 (fun j u hu => below_cell (base_of BG.out) (hh.2 j u hu)))
          have HONE := Lib.hid hone
          have HCL := Lib.hid hcl
          clear hcs hcl hsrc hone
          have D0 := Lib.hid (below_cell BG.out (box_cell w [.int .i64 m.x, .int .i64 m.y, .slice A2 n2 c2] 35 0 _ rfl))
          have D1 := Lib.hid (below_cell BG.out (box_cell w [.int .i64 m.x, .int .i64 m.y, .slice A2 n2 c2] 35 1 _ rfl))
          have D2 := Lib.hid (below_cell BG.out (box_cell w [.int .i64 m.x, .int .i64 m.y, .slice A2 n2 c2] 35 2 _ rfl))
          go_wp2_with (first | (at_builtin; refine own_append rfl _ _ 23 35 _ 3 40 rfl Try.underlying23 Try.info35 rfl (by omega) (by omega) _ (.slice none 0 0) 0 [] A n c cs rfl rfl (World.ownsRow_nil _ _ _ _) HCL.out HSRC.out HONE.out (by omega) (Nat.le_refl _) ?_; intro v8 w8 hown8 hg8 _; have d0 := hg8.cell D0.out (by simp [Value.ownBlock]); have d1 := hg8.cell D1.out (by simp [Value.ownBlock]); have d2 := hg8.cell D2.out (by simp [Value.ownBlock]); have O8 := Lib.hid hown8; have G8 := Lib.hid (below_grown (Below.refl _ _) hg8 (fun k hk => by simp [Value.ownBlock] at hk)); clear hown8 hg8; rw [List.nil_append, Nat.zero_add] at O8) | (at_builtin; refine own_append_one rfl _ _ 23 35 _ 3 40 rfl Try.underlying23 Try.info35 rfl (by omega) (by omega) _ v8 n cs 1 [.int .i64 m.x, .int .i64 m.y, .slice A2 n2 c2] rfl rfl O8.out rfl (by simp [Value.oneCell']) (by omega) G8.out.size ?_; intro v9 w9 hown9 hg9 _; have O9 := Lib.hid hown9; have H9 := Lib.hid hg9; clear hown9 hg9))
          have hown9 := O9.out
          have hg9 := H9.out
          have G9 := Lib.hid (below_grown G8.out hg9 (own_lt O8.out))
          have B9 := Lib.hid (below_then BG.out G9.out)
          have IA9 := Lib.hid (IG.out.below RInt.stays G9.out)
          obtain ⟨Ao, co, e, hRo⟩ := own_rd hown9 (xs := rules ++ [m]) (by rw [List.length_append, h.len]; rfl) (by omega) (HCS.out.snoc ⟨A2, n2, c2, rfl, h2⟩ rfl) (VR.rd (base_of B9.out))
          subst e
          have RO := Lib.hid hRo
          clear hown9 hg9 hRo d0 d1 d2
          go_wp2_with fail
          refine (solve_any _ _ _ _ _ _ (rules ++ [m]) tops _ RO.out (h0.below RInt.stays (base_of B9.out))).mono ?_
          intro e wd hq
          obtain ⟨vd, ld, rfl, hbd, hod, had, hmd⟩ := hq.form
          have BD := Lib.hid (below_then B9.out hbd)
          have IAD := Lib.hid (IA9.out.below RInt.stays hbd)
          have ROD := Lib.hid (RO.out.below RRule.stays hbd)
          have OD := Lib.hid hod
          have AD := Lib.hid had
          clear hq hbd hod had RO IA9 B9 G9 G8 O8 D0 D1 D2 HCS HSRC HONE HCL
          by_cases hEd : mayE tops (rules ++ [m]) = 0
          · have hgd := AD.out.2 hEd
            have hld : ld.length = n0 := by rw [hgd.1.1, h0.len]
            have HLE := Lib.hid (Fx.great_more HG.out hgd (fun r hr => List.mem_append_left _ hr))
            obtain ⟨_, hind⟩ := mayE_zero hEd
            have HOK := Lib.hid (show ∀ r ∈ rules ++ [m], Fx.inn r ld.length ∧ Fx.ok r ld from fun r hr => ⟨by rw [hgd.1.1]; exact inn_of (hind r hr), hgd.1.2.2.2 r hr⟩)
            rw [hEd]
            rw [hld] at OD
            have HLD := Lib.hid hld
            clear hEd hgd hld hind
            obtain ⟨Ad, cd, e, hId⟩ := own_ints OD.out (by omega)
            subst e
            have HId := Lib.hid hId
            clear hId
            go_wp2_with fail
            refine (below_any _ _ _ _ _ _ ld la _ HId.out IAD.out).mono ?_
            intro e wp hq
            obtain ⟨rfl, hbp⟩ := below_yes hq ⟨by rw [HLD.out, HLA.out], HLE.out⟩
            have BP := Lib.hid (below_then BD.out hbp)
            have ROP := Lib.hid (ROD.out.below RRule.stays hbp)
            have HIp := Lib.hid (HId.out.below RInt.stays hbp)
            clear hq hbp
            go_wp2_with fail
            refine (holds_any _ _ _ _ _ _ (rules ++ [m]) ld _ ROP.out HIp.out).mono ?_
            intro e wr hq
            obtain ⟨rfl, hbr⟩ := holds_yes hq HOK.out
            have BR := Lib.hid (below_then BP.out hbr)
            clear hq hbr
            go_wp2_with fail
            refine (works_any _).mono ?_
            rintro e wz ⟨rfl, hbz⟩
            have BZ := Lib.hid (below_then (base_of BR.out) hbz)
            clear hbz
            go_wp2
            go_ret
            exact .bool rfl BZ.out
          · have t9 : (mayE tops (rules ++ [m]) != 0) = true := by simpa using hEd
            clear hEd
            generalize mayE tops (rules ++ [m]) = me at *
            go_wp2_with fail
            refine (works_any _).mono ?_
            rintro e wz ⟨rfl, hbz⟩
            have BZ := Lib.hid (below_then (base_of BD.out) hbz)
            clear hbz
            go_wp2
            go_ret
            exact .bool rfl BZ.out
      · have hlc := AC.out.1 hE
        subst hlc
        have t1 : (mayE tops rules != 0) = true := by simpa using hE
        have hnil : vc = .slice none 0 0 ∨ ∃ g cap, vc = .slice (some ⟨g, 0, none⟩) 0 cap := by
          rcases OC.out.2 with ⟨e, _⟩ | ⟨g, cap, cur, e, _⟩
          · exact .inl e
          · exact .inr ⟨g, cap, e⟩
        clear hE
        generalize mayE tops rules = me at *
        rcases hnil with rfl | ⟨g, cap, rfl⟩
        · clear OC
          go_wp2_with fail
          refine (works_any _).mono ?_
          rintro e wz ⟨rfl, hbz⟩
          have BZ := Lib.hid (below_then (base_of BC.out) hbz)
          clear hbz
          go_wp2
          go_ret
          exact .bool rfl BZ.out
        · clear OC
          go_wp2_with fail
          refine (works_any _).mono ?_
          rintro e wz ⟨rfl, hbz⟩
          have BZ := Lib.hid (below_then (base_of BC.out) hbz)
          clear hbz
          go_wp2
          go_ret
          exact .bool rfl BZ.out
end Go.Proofs.Ytmlfnejmagjjpaa
