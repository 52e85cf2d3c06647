/- The walk of the statement FixedJoin: it returns true, and leaves what was there as it was; for every argument that can be read. -/
import Derived.Test.YtmlfnejmagjjpaaRows
import Derived.Test.YtmlfnejmagjjpaaWords
import Derived.Test.YtmlfnejmagjjpaaElems
import Derived.Test.YtmlfnejmagjjpaaFxPlain
import Derived.Test.YtmlfnejmagjjpaaA12
namespace Go.Proofs.Ytmlfnejmagjjpaa
open Go.RowKit Go.Proofs.Tail
theorem badB_false {a : List Int} {r : Fx.R} (hp : Fx.pos a) (h : badB a r = false) : Fx.inn r a.length ∧ Fx.ok r a := by
  unfold badB at h
  rw [Bool.or_eq_false_iff, Bool.not_eq_false', decide_eq_false_iff_not] at h
  have hi := inn_of h.1
  refine ⟨hi, ?_⟩
  have := Fx.lk_pos hp hi.2.2.1 hi.2.2.2
  have := h.2
  unfold Fx.ok
  omega
theorem badB_ok {a : List Int} {r : Fx.R} (hi : Fx.inn r a.length) (h : Fx.ok r a) : badB a r = false := by
  unfold badB
  rw [Bool.or_eq_false_iff, Bool.not_eq_false', decide_eq_false_iff_not]
  refine ⟨by unfold inB; rw [decide_eq_true_eq]; exact ⟨hi.1, hi.2.1, hi.2.2.1, hi.2.2.2⟩, ?_⟩
  unfold Fx.ok at h
  omega
theorem all_ok {a : List Int} {rules : List Fx.R} (hp : Fx.pos a) (h : rules.any (badB a) = false) : ∀ r ∈ rules, Fx.inn r a.length ∧ Fx.ok r a := fun r hr => badB_false hp (by
  rw [List.any_eq_false] at h
  simpa using h r hr)
theorem any_ok {a : List Int} {rules : List Fx.R} (h : ∀ r ∈ rules, Fx.inn r a.length ∧ Fx.ok r a) : rules.any (badB a) = false := any_take_snoc _ _ fun r hr => badB_ok (h r hr).1 (h r hr).2
theorem holds_yes {a : List Int} {rules : List Fx.R} {w : World} {e : Ending} {w' : World} (h : Gives (.bool (!rules.any (badB a))) w e w') (hk : ∀ r ∈ rules, Fx.inn r a.length ∧ Fx.ok r a) : Gives (.bool true) w e w' := by
  rw [any_ok hk] at h
  exact h
set_option maxRecDepth 100000 in
set_option maxHeartbeats 3200000 in
theorem law_join (A A0 A1 : Option Addr) (n c n0 c0 n1 c1 : Nat) (rules : List Fx.R) (a b : List Int) (w : World) (h : Rules w A n c rules) (h0 : Ints w A0 n0 c0 a) (h1 : Ints w A1 n1 c1 b) :
    Calls Try.prog 5 #[.slice A n c, .slice A0 n0 c0, .slice A1 n1 c1] w (Gives (.bool true) w) := by
  have HF := Lib.hid (few_any A0 A n0 n c0 c rules 30 w h)
  have hmm := h.big
  have hm1 := h1.big
  go_enter Try.func5, Try.ntmps5
  go_wp2_with fail
  refine HF.out.mono ?_
  rintro e wa ⟨b1, rfl, hq, hba⟩
  have BA := Lib.hid hba
  clear hba
  cases b1 with
  | false =>
    go_wp2_with fail
    refine (works_any _).mono ?_
    rintro e wz ⟨rfl, hbz⟩
    have BZ := Lib.hid (below_then BA.out hbz)
    clear hbz
    go_wp2
    go_ret
    exact .bool rfl BZ.out
  | true =>
    obtain ⟨f1, f2, f3⟩ := hq rfl
    clear f3 hq HF
    by_cases hn : n1 = n0
    · subst hn
      have t0 : ((n1 : Int) != (n1 : Int)) = false := by simp
      go_wp2_with fail
      refine (least_any _ _ _ a _ (h0.below RInt.stays BA.out)).mono ?_
      rintro e wb ⟨b2, rfl, hq, hbb⟩
      have BB := Lib.hid (below_then BA.out hbb)
      clear hbb
      cases b2 with
      | false =>
        go_wp2_with fail
        refine (works_any _).mono ?_
        rintro e wz ⟨rfl, hbz⟩
        have BZ := Lib.hid (below_then BB.out hbz)
        clear hbz
        go_wp2
        go_ret
        exact .bool rfl BZ.out
      | true =>
        have HPA := Lib.hid (hq.1 rfl)
        clear hq
        go_wp2_with fail
        refine (least_any _ _ _ b _ (h1.below RInt.stays BB.out)).mono ?_
        rintro e wc ⟨b3, rfl, hq, hbc⟩
        have BC := Lib.hid (below_then BB.out hbc)
        clear hbc
        cases b3 with
        | false =>
          go_wp2_with fail
          refine (works_any _).mono ?_
          rintro e wz ⟨rfl, hbz⟩
          have BZ := Lib.hid (below_then BC.out hbz)
          clear hbz
          go_wp2
          go_ret
          exact .bool rfl BZ.out
        | true =>
          have HPB := Lib.hid (hq.1 rfl)
          clear hq
          go_wp2_with fail
          refine (holds_any _ _ _ _ _ _ rules a _ (h.below RRule.stays BC.out) (h0.below RInt.stays BC.out)).mono ?_
          generalize hga : rules.any (badB a) = ga
          rintro e wd ⟨rfl, hbd⟩
          have BD := Lib.hid (below_then BC.out hbd)
          have HGA := Lib.hid hga
          clear hbd hga
          cases ga with
          | true =>
            go_wp2_with fail
            refine (works_any _).mono ?_
            rintro e wz ⟨rfl, hbz⟩
            have BZ := Lib.hid (below_then BD.out hbz)
            clear hbz
            go_wp2
            go_ret
            exact .bool rfl BZ.out
          | false =>
            go_wp2_with fail
            refine (holds_any _ _ _ _ _ _ rules b _ (h.below RRule.stays BD.out) (h1.below RInt.stays BD.out)).mono ?_
            generalize hgb : rules.any (badB b) = gb
            rintro e we ⟨rfl, hbe⟩
            have BE := Lib.hid (below_then BD.out hbe)
            have HGB := Lib.hid hgb
            clear hbe hgb
            cases gb with
            | true =>
              go_wp2_with fail
              refine (works_any _).mono ?_
              rintro e wz ⟨rfl, hbz⟩
              have BZ := Lib.hid (below_then BE.out hbz)
              clear hbz
              go_wp2
              go_ret
              exact .bool rfl BZ.out
            | false =>
              go_wp2
              go_loopw [7, 8] (fun v i wr => ∃ (k : Nat) (l : List Int), i = .int .i64 k ∧ k ≤ n1 ∧ Hid (l.length = k) ∧ Hid (∀ m, m < k → l.getD m 0 = max (a.getD m 0) (b.getD m 0)) ∧ Hid (wr.ownsRow w.heap.size 3 1 v k (ints l)) ∧ Hid (Below w.heap.size w wr)) (fun _ i _ => n1 - (intOf i).toNat)
              case atStart => exact ⟨0, [], rfl, Nat.zero_le _, (show Hid _ from rfl), (show Hid _ from fun m hm => absurd hm (Nat.not_lt_zero _)), World.ownsRow_nil _ _ _ _, BE⟩
              case round =>
                obtain ⟨k, l, rfl, hk, HL, HM, HO, HB⟩ := hrel
                by_cases hlt : k < n1
                · obtain ⟨b0, o0, e, ea0⟩ := h0.int hlt
                  subst e
                  obtain ⟨b1, o1, e, eb0⟩ := h1.int hlt
                  subst e
                  have ea := below_cell HB.out ea0
                  have eb := below_cell HB.out eb0
                  have fa := below_lt ea0
                  have fb := below_lt eb0
                  obtain ⟨i0, hi0, hz0, hz1, hz2⟩ := info_parts Try.info3
                  have HI := Lib.hid hi0
                  have hown := HO.out
                  have hsz := HB.out.size
                  clear ea0 eb0 hi0 HO
                  have HX : Hid (max (a.getD k 0) (b.getD k 0) = max (a.getD k 0) (b.getD k 0)) := Lib.hid rfl
                  generalize hxa : a.getD k 0 = x at ea HX
                  generalize hxb : b.getD k 0 = y at eb HX
                  have HXA := Lib.hid hxa
                  have HXB := Lib.hid hxb
                  clear hxa hxb
                  go_wp2
                  go_region_held3 (fun w' => w'.cell? ⟨b0, o0 + k, none⟩ = some (.int .i64 x) ∧ w'.cell? ⟨b1, o1 + k, none⟩ = some (.int .i64 y))
                    (first
                      | go_keep
                      | (go_split_ands
                         refine ⟨?_, ?_⟩
                         · (rw [hgrow.cell_far _ (by simp; omega) (fun hh => by have : w.heap.size ≤ b0 := own_lt hown _ hh.symm; omega)]; assumption)
                         · (rw [hgrow.cell_far _ (by simp; omega) (fun hh => by have : w.heap.size ≤ b1 := own_lt hown _ hh.symm; omega)]; assumption)))
                    ((refine step_append_lies _ (by rfl) _ _ _ (by rfl) w.heap.size 3 i0 _ 1 8 Try.underlying22 HI.out hz0 hz1 hz2 rfl (by omega) u7 k (ints l) (by rfl) ((hown.alloc _).drew)
                        ⟨wr.heap.size, 0, none⟩ 1 1 [.int .i64 (if x < y then y else x)] (by rfl) (by rfl) (World.news_of_block (cs := #[.int .i64 (if x < y then y else x)]) (t := 3) (fr := (0, 0)) (heap_alloc_new wr _)) (by simp [Value.oneCell'])
                        (by omega) (by simp only [maxLen]; omega) (by omega) (by simp; omega) (wr.heap.size + 1) (by simp) ?_; intro gg cap w1 hown1 hgrow hat hlt1))
                  go_wp2
                  go_roundw
                  case measure => simp [intOf]; omega
                  case rel =>
                    refine ⟨k + 1, l ++ [(if x < y then y else x)], by go_num, by omega, (show Hid _ from by rw [List.length_append, HL.out]; rfl), (show Hid _ from fun m hm => ?_), (show Hid _ from by rw [show ints (l ++ [(if x < y then y else x)]) = ints l ++ [.int .i64 (if x < y then y else x)] by simp [ints]]; exact hown1), (show Hid _ from below_grown (below_alloc HB.out _).drew hgrow (own_lt hown))⟩
                    have hll := HL.out
                    rcases Nat.lt_or_eq_of_le (Nat.le_of_lt_succ hm) with h3 | h3
                    · rw [List.getD_eq_getElem?_getD, List.getElem?_append_left (by omega), ← List.getD_eq_getElem?_getD]
                      exact HM.out m h3
                    · subst h3
                      rw [List.getD_eq_getElem?_getD, List.getElem?_append_right (by omega), hll, Nat.sub_self, HXA.out, HXB.out]
                      show (if x < y then y else x) = max x y
                      split <;> omega
                · have hkn : k = n1 := by omega
                  subst hkn
                  obtain ⟨A5, c5, e, hI5⟩ := own_ints HO.out (by omega)
                  subst e
                  have HI5 := Lib.hid hI5
                  have HKA := Lib.hid (all_ok HPA.out HGA.out)
                  have HKB := Lib.hid (all_ok HPB.out HGB.out)
                  have HJ := Lib.hid (show ∀ r ∈ rules, Fx.inn r l.length ∧ Fx.ok r l from fun r hr => by
                    have ha := HKA.out r hr
                    have hb := HKB.out r hr
                    have hal : a.length = l.length := by rw [h0.len, HL.out]
                    have hbl : b.length = a.length := by rw [h0.len, h1.len]
                    refine ⟨hal ▸ ha.1, Fx.ok_join ha.1 ha.2 hb.2 l fun m hm => HM.out m ?_⟩
                    rw [← h0.len]
                    exact hm)
                  clear hI5 HO
                  go_wp2_with fail
                  refine (holds_any _ _ _ _ _ _ rules l _ (h.below RRule.stays HB.out) HI5.out).mono ?_
                  intro e w6 hq
                  obtain ⟨rfl, hb6⟩ := holds_yes hq HJ.out
                  have B6 := Lib.hid (below_then HB.out hb6)
                  clear hq hb6
                  go_wp2_with fail
                  refine (works_any _).mono ?_
                  rintro e wz ⟨rfl, hbz⟩
                  have BZ := Lib.hid (below_then B6.out hbz)
                  clear hbz
                  go_wp2
                  go_ret
                  exact .bool rfl BZ.out
    · have t0 : ((n1 : Int) != (n0 : Int)) = true := by simp; omega
      clear hn
      go_wp2_with fail
      refine (works_any _).mono ?_
      rintro e wz ⟨rfl, hbz⟩
      have BZ := Lib.hid (below_then BA.out hbz)
      clear hbz
      go_wp2
      go_ret
      exact .bool rfl BZ.out
end Go.Proofs.Ytmlfnejmagjjpaa
