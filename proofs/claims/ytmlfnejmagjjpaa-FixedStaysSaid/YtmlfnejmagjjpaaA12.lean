/- The walk of the statement FixedSolve: it returns true, and leaves what was there as it was; for every argument that can be read. -/
import Derived.Test.YtmlfnejmagjjpaaRows
import Derived.Test.YtmlfnejmagjjpaaWords
import Derived.Test.YtmlfnejmagjjpaaFxPlain
import Derived.Test.YtmlfnejmagjjpaaA11
namespace Go.Proofs.Ytmlfnejmagjjpaa
open Go.RowKit Go.Proofs.Tail

def Ans (tops : List Int) (rules : List Fx.R) (la : List Int) : Prop := (mayE tops rules ≠ 0 → la = []) ∧ (mayE tops rules = 0 → Fx.Great tops rules la)
theorem Ans.uniq {tops : List Int} {rules : List Fx.R} {a b : List Int} (h : Ans tops rules a) (k : Ans tops rules b) : a = b := by
  by_cases hE : mayE tops rules = 0
  · exact Fx.great_unique (h.2 hE) (k.2 hE)
  · rw [h.1 hE, k.1 hE]
def SolveF (tops : List Int) (rules : List Fx.R) (w : World) (e : Ending) (w' : World) : Prop :=
  ∃ v la, e = .returned (.tuple #[v, .int .i64 (mayE tops rules)]) ∧ Below w.heap.size w w' ∧ w'.ownsRow w.heap.size 3 1 v la.length (ints la) ∧ Ans tops rules la ∧ la.length ≤ 4096
theorem SolveQ.form {tops : List Int} {rules : List Fx.R} {w : World} {e : Ending} {w' : World} (h : SolveQ tops rules w e w') : SolveF tops rules w e w' := by
  obtain ⟨v, rfl, hb, h1, h2⟩ := h
  by_cases hE : mayE tops rules = 0
  · obtain ⟨a, hg, hown⟩ := h2 hE
    exact ⟨v, a, rfl, hb, by rw [hg.1.1]; exact hown, ⟨fun h => absurd hE h, fun _ => hg⟩, by rw [hg.1.1]; exact mayE_big hE⟩
  · refine ⟨v, [], rfl, hb, ?_, ⟨fun _ => rfl, fun h => absurd h hE⟩, by simp⟩
    rw [h1 hE]
    exact World.ownsRow_nil _ _ _ _

set_option maxRecDepth 100000 in
set_option maxHeartbeats 1600000 in
theorem law_solve (A A0 : Option Addr) (n c n0 c0 : Nat) (rules : List Fx.R) (tops : List Int) (w : World) (h : Rules w A n c rules) (h0 : Ints w A0 n0 c0 tops) :
    Calls Try.prog 3 #[.slice A0 n0 c0, .slice A n c] w (Gives (.bool true) w) := by
  have HF := Lib.hid (few_any A0 A n0 n c0 c rules 30 w h)
  go_enter Try.func3, Try.ntmps3
  go_wp2_with fail
  refine HF.out.mono ?_
  rintro e wa ⟨b, rfl, hq, hba⟩
  have BA := Lib.hid hba
  cases b with
  | false =>
    go_wp2_with fail
    refine (works_any _).mono ?_
    rintro e wb ⟨rfl, hbb⟩
    have BB := Lib.hid (below_then BA.out hbb)
    clear hbb hba
    go_wp2
    go_ret
    exact .bool rfl BB.out
  | true =>
    obtain ⟨f1, f2, f3⟩ := hq rfl
    clear f3 hba hq
    have HT := Lib.hid (h0.below RInt.stays BA.out)
    have hl0 := Lib.hid h0.len
    go_wp2_with (at_builtin; refine own_append_ints rfl _ _ 22 3 rfl Try.underlying22 Try.info3 w.heap.size (.slice none 0 0) 0 [] A0 n0 c0 tops rfl rfl (World.ownsRow_nil _ _ _ _) HT.out (by omega) BA.out.size ?_; intro v1 w1 hown hg _)
    have HW := Lib.hid (Nat.le_trans BA.out.size hg.size)
    have B1 := Lib.hid (below_grown BA.out hg (fun k hk => by simp [Value.ownBlock] at hk))
    rw [List.nil_append, Nat.zero_add] at hown
    obtain ⟨A1, c1, rfl, hI1⟩ := own_ints hown (by omega)
    have HI1 := Lib.hid hI1
    clear hown hg hI1
    go_wp2_with fail
    refine (solve_any _ _ _ _ _ _ rules tops _ (h.below RRule.stays B1.out) HI1.out).mono ?_
    intro e w2 hq
    obtain ⟨v2, la, rfl, hb2, ho2, ha2, hm2⟩ := hq.form
    have B12 := Lib.hid hb2
    have B2 := Lib.hid (below_then B1.out hb2)
    have O2 := Lib.hid ho2
    have AN := Lib.hid ha2
    clear hq hb2 ho2 ha2
    go_wp2_with fail
    refine (plain_any _ _ _ rules _ (h.below RRule.stays B2.out) (by omega)).mono ?_
    rintro e w3 ⟨A3, n3, c3, rfl, hR3, hb3⟩
    have B23 := Lib.hid hb3
    have B3 := Lib.hid (below_then B2.out hb3)
    have R3 := Lib.hid hR3
    clear hb3 hR3
    go_wp2_with fail
    refine (refsolve_any _ _ _ _ _ _ rules tops _ R3.out (h0.below RInt.stays B3.out)).mono ?_
    intro e w4 hq
    obtain ⟨v4, lb, rfl, hb4, ho4, ha4, hm4⟩ := hq.form
    have B24 := Lib.hid (below_then B23.out hb4)
    have B4 := Lib.hid (below_then B3.out hb4)
    obtain rfl := AN.out.uniq ha4
    have O4 := Lib.hid ho4
    have O2' := Lib.hid (own_below O2.out B24.out)
    have B14 := Lib.hid (below_then B12.out B24.out)
    clear hq hb4 ho4 ha4 R3 B23 B3 B12 B2 O2 B1 B24
    have t0 : (mayE tops rules != mayE tops rules) = false := by simp
    generalize mayE tops rules = me at *
    obtain ⟨A2, c2, rfl, hI2⟩ := own_ints O2'.out (by omega)
    obtain ⟨A4, c4, rfl, hI4⟩ := own_ints O4.out (by omega)
    have HI2 := Lib.hid hI2
    have HI4 := Lib.hid hI4
    clear hI2 hI4
    go_wp2_with fail
    refine (same_any _ _ _ _ _ _ la la _ HI2.out HI4.out).mono ?_
    intro e w5 hq
    obtain ⟨rfl, hb5⟩ := same_yes hq rfl
    have B5 := Lib.hid (below_then B4.out hb5)
    have B15 := Lib.hid (below_then B14.out hb5)
    have O5 := Lib.hid (own_below O2'.out hb5)
    clear hq hb5 B4 B14 O2' O4 HI2 HI4 t0
    go_wp2
    go_loopw [10] (fun i wr => ∃ (k : Nat) (l2 : List Int), i = .int .i64 k ∧ k ≤ la.length ∧ Hid (l2.length = la.length) ∧ Hid (wr.ownsRow w1.heap.size 3 1 (.slice A2 la.length c2) la.length (ints l2)) ∧ Hid (Below w1.heap.size w1 wr) ∧ Hid (Below w.heap.size w wr)) (fun i _ => la.length - (intOf i).toNat)
    case atStart => exact ⟨0, la, rfl, Nat.zero_le _, (show Hid _ from rfl), O5, B15, B5⟩
    case round =>
      obtain ⟨k, l2, rfl, hk, HL2, HO, HB1, HB⟩ := hrel
      by_cases hlt : k < la.length
      · obtain ⟨g, cap, e, hg1, hg2, hg3⟩ := own_form HO.out (by omega)
        cases e
        have fz := (own_cell HO.out hlt).2
        have ex := (own_cell HO.out hlt).1
        have HS := Lib.hid (own_set HO.out k (-9))
        go_wp2
        go_roundw
        case measure => simp [intOf]; omega
        case rel =>
          have hs := HS.out
          refine ⟨k + 1, l2.set k (-9), by go_num, by omega, (show Hid _ from by rw [List.length_set]; exact HL2.out), hs.1, (show Hid _ from below_grown HB1.out hs.2 (fun k hk => by cases hk; exact hg1)), (show Hid _ from below_grown HB.out hs.2 (fun k hk => by cases hk; exact Nat.le_trans HW.out hg1))⟩
      · have HI5 := Lib.hid (HI1.out.below RInt.stays HB1.out)
        have HT5 := Lib.hid (h0.below RInt.stays HB.out)
        clear HO HB1
        go_wp2_with fail
        refine (same_any _ _ _ _ _ _ tops tops _ HI5.out HT5.out).mono ?_
        intro e w6 hq
        obtain ⟨rfl, hb6⟩ := same_yes hq rfl
        have B6 := Lib.hid (below_then HB.out hb6)
        clear hq hb6
        go_wp2_with fail
        refine (works_any _).mono ?_
        rintro e w7 ⟨rfl, hb7⟩
        have B7 := Lib.hid (below_then B6.out hb7)
        clear hb7
        go_wp2
        go_ret
        exact .bool rfl B7.out

end Go.Proofs.Ytmlfnejmagjjpaa
