/- The walk of the statement FixedStays: it returns true, and leaves what was there as it was; for every argument that can be read. -/
import Derived.Test.YtmlfnejmagjjpaaRows
import Derived.Test.YtmlfnejmagjjpaaWords
import Derived.Test.YtmlfnejmagjjpaaElems
import Derived.Test.YtmlfnejmagjjpaaFxPlain
import Derived.Test.YtmlfnejmagjjpaaA12
namespace Go.Proofs.Ytmlfnejmagjjpaa
open Go.RowKit Go.Proofs.Tail
theorem mayE_none {tops : List Int} {rules : List Fx.R} {n : Nat} (hn : tops.length = n) (h : mayE tops rules = 0) : mayE (List.replicate n 0) rules = 0 := by
  have h1 := mayE_zero h
  unfold mayE at h ⊢
  split at h
  · cases h
  · rename_i h2
    rw [List.length_replicate, ← hn, if_neg h2, if_neg]
    rw [not_or, Bool.not_eq_true, Bool.not_eq_true, List.any_eq_false, List.any_eq_false]
    constructor
    · intro x hx
      obtain rfl := (List.mem_replicate.1 hx).2
      decide
    · intro r hr
      unfold outB
      rw [h1.2 r hr]
      decide
set_option maxRecDepth 100000 in
set_option maxHeartbeats 1600000 in
theorem law_stays (A A0 : Option Addr) (n c n0 c0 : Nat) (rules : List Fx.R) (tops : List Int) (w : World) (h : Rules w A n c rules) (h0 : Ints w A0 n0 c0 tops) :
    Calls Try.prog 7 #[.slice A0 n0 c0, .slice A n c] w (Gives (.bool true) w) := by
  have HF := Lib.hid (few_any A0 A n0 n c0 c rules 30 w h)
  have hmm := h.big
  go_enter Try.func7, Try.ntmps7
  go_wp2_with fail
  refine HF.out.mono ?_
  rintro e wa ⟨b, rfl, hq, hba⟩
  have BA := Lib.hid hba
  clear hba
  cases b with
  | false =>
    go_wp2_with fail
    refine (works_any _).mono ?_
    rintro e wb ⟨rfl, hbb⟩
    have BB := Lib.hid (below_then BA.out hbb)
    clear hbb
    go_wp2
    go_ret
    exact .bool rfl BB.out
  | true =>
    obtain ⟨f1, f2, f3⟩ := hq rfl
    clear f3 hq HF
    go_wp2_with fail
    refine (solve_any _ _ _ _ _ _ rules tops _ (h.below RRule.stays BA.out) (h0.below RInt.stays BA.out)).mono ?_
    intro e w2 hq
    obtain ⟨v2, la, rfl, hb2, ho2, ha2, hm2⟩ := hq.form
    have B2 := Lib.hid (below_then BA.out hb2)
    have AN := Lib.hid ha2
    have O2 := Lib.hid (own_base ho2 BA.out.size)
    clear hq hb2 ho2 ha2
    by_cases hE : mayE tops rules = 0
    · have hg := AN.out.2 hE
      have hn1 := mayE_none h0.len hE
      obtain ⟨hpos, hin⟩ := mayE_zero hE
      have HE1 := Lib.hid hn1
      have HG := Lib.hid hg
      have HPOS := Lib.hid hpos
      have hla : la.length = n0 := by rw [hg.1.1, h0.len]
      have HIN := Lib.hid (fun r hr => inn_of (hin r hr))
      rw [hla] at O2
      rw [hE]
      clear hE hg hpos hin hn1 hla
      obtain ⟨A2, c2, rfl, hI2⟩ := own_ints O2.out (by omega)
      have HI2 := Lib.hid hI2
      clear hI2
      have t1 : ((n0 : Int) != (n0 : Int)) = false := by simp
      go_wp2
      go_loopw [7] (fun i wr => ∃ k : Nat, k ≤ n0 ∧ i = .int .i64 k ∧ Hid (Below w2.heap.size w2 wr)) (fun i _ => n0 - (intOf i).toNat)
      case atStart => exact ⟨0, Nat.zero_le _, rfl, Below.refl _ _⟩
      case round =>
        obtain ⟨wo, rfl⟩ : ∃ wo : World, wo = wr := ⟨_, rfl⟩
        obtain ⟨k, hk, rfl, HB⟩ := hrel
        by_cases hlt : k < n0
        · go_wp2
          go_loop [8, 9] (fun b i => ∃ (q : Bool) (j : Nat), j ≤ n ∧ b = .bool q ∧ i = .int .i64 j ∧ Hid (q = false → ∀ m r, m < j → rules[m]? = some r → r.x ≠ k)) (fun _ i => n - (intOf i).toNat)
          case atStart => exact ⟨false, 0, Nat.zero_le _, rfl, rfl, (show Hid _ from fun _ m r hm => absurd hm (Nat.not_lt_zero _))⟩
          case round =>
            obtain ⟨q, j, hj, rfl, rfl, HQ⟩ := hrel
            by_cases hlt2 : j < n
            · obtain ⟨bb, off, r, e, hx, A1, n1, c1, e1, e2, e3, h2⟩ := (h.below RRule.stays (below_then B2.out HB.out)).elem hlt2
              subst e
              have Hx := Lib.hid hx
              clear hx h2 e2 e3
              cases q with
              | true =>
                go_wp2
                go_round
                case rel => exact ⟨true, j + 1, by omega, rfl, by go_num, (show Hid _ from fun h => by cases h)⟩
                case measure => simp [intOf]; omega
              | false =>
                by_cases hxk : r.x = k
                · have t2 : (r.x == (k : Int)) = true := by simpa using hxk
                  clear hxk
                  go_wp2
                  go_round
                  case rel => exact ⟨true, j + 1, by omega, rfl, by go_num, (show Hid _ from fun h => by cases h)⟩
                  case measure => simp [intOf]; omega
                · have t2 : (r.x == (k : Int)) = false := by simpa using hxk
                  have HXK := Lib.hid hxk
                  clear hxk
                  go_wp2
                  go_round
                  case rel =>
                    refine ⟨false, j + 1, by omega, rfl, by go_num, (show Hid _ from fun _ m s hm hs => ?_)⟩
                    rcases Nat.lt_or_eq_of_le (Nat.le_of_lt_succ hm) with h3 | h3
                    · exact HQ.out (by simp) m s h3 hs
                    · subst h3
                      rw [Hx.out] at hs
                      obtain rfl := Option.some.inj hs
                      exact HXK.out
                  case measure => simp [intOf]; omega
            · have hjn : j = n := by omega
              subst hjn
              obtain ⟨b0, o0, e, ea⟩ := (HI2.out.below RInt.stays HB.out).int hlt
              subst e
              obtain ⟨b1, o1, e, et⟩ := (h0.below RInt.stays (below_then B2.out HB.out)).int hlt
              subst e
              have hnn : 0 ≤ la.getD k 0 := HG.out.1.2.1 k (by rw [HG.out.1.1, h0.len]; exact hlt)
              have t5 : decide (la.getD k 0 < 0) = false := decide_eq_false (by omega)
              cases q with
              | true =>
                generalize la.getD k 0 = x at *
                go_wp2
                go_quiet (fail)
                go_wp2
                go_roundw
                case rel => exact ⟨k + 1, by omega, by go_num, (show Hid _ from below_drewN HB.out _)⟩
                case measure => simp [intOf]; omega
              | false =>
                have heq : la.getD k 0 = tops.getD k 0 := Fx.great_stays HG.out HPOS.out k (by rw [h0.len]; exact hlt) HIN.out (fun r hr => by
                  obtain ⟨m, hm, rfl⟩ := List.getElem_of_mem hr
                  exact HQ.out (by simp) m _ (by rw [← h.len]; exact hm) (List.getElem?_eq_getElem hm))
                rw [← heq] at et
                have t4 : (la.getD k 0 != la.getD k 0) = false := by simp
                clear heq
                generalize la.getD k 0 = x at *
                go_wp2
                go_quiet (fail)
                go_wp2
                go_roundw
                case rel => exact ⟨k + 1, by omega, by go_num, (show Hid _ from below_drewN HB.out _)⟩
                case measure => simp [intOf]; omega
        · have B3 := Lib.hid (below_then B2.out HB.out)
          clear t1
          go_wp2_with (at_make; refine own_make rfl _ _ 22 3 rfl Try.underlying22 Try.info3 w.heap.size n0 .i64 .i64 rfl rfl (by omega) B3.out.size ?_; intro w3 hown hg)
          have B4 := Lib.hid (below_grown B3.out hg (fun k hk => by cases hk))
          obtain ⟨A5, c5, e, hI5⟩ := own_ints hown (by omega)
          cases e
          have HI5 := Lib.hid hI5
          clear hown hg hI5
          go_wp2_with fail
          refine (solve_any _ _ _ _ _ _ rules (List.replicate n0 0) _ (h.below RRule.stays B4.out) HI5.out).mono ?_
          intro e w6 hq
          obtain ⟨v6, lb, rfl, hb6, ho6, ha6, hm6⟩ := hq.form
          rw [HE1.out]
          have hlb := Fx.great_none (ha6.2 HE1.out)
          have hll : lb.length = n0 := by rw [hlb, List.length_replicate]
          rw [hll] at ho6
          obtain ⟨A6, c6, e, hI6⟩ := own_ints ho6 (by omega)
          subst e
          rw [hlb] at hI6
          clear ho6 ha6 hlb hll
          have B6 := Lib.hid (below_then B4.out hb6)
          have HI6 := Lib.hid hI6
          have HI5' := Lib.hid (HI5.out.below RInt.stays hb6)
          clear hq hb6 hI6 HI5
          go_wp2_with fail
          refine (same_any _ _ _ _ _ _ _ _ _ HI6.out HI5'.out).mono ?_
          intro e w7 hq
          obtain ⟨rfl, hb7⟩ := same_yes hq rfl
          have B7 := Lib.hid (below_then B6.out hb7)
          clear hq hb7
          go_wp2_with fail
          refine (works_any _).mono ?_
          rintro e w8 ⟨rfl, hb8⟩
          have B8 := Lib.hid (below_then B7.out hb8)
          clear hb8
          go_wp2
          go_ret
          exact .bool rfl B8.out
    · have t1 : (mayE tops rules != 0) = true := by simpa using hE
      clear hE
      generalize mayE tops rules = me at *
      obtain ⟨A2, c2, rfl, hI2⟩ := own_ints O2.out (by omega)
      clear hI2
      go_wp2_with fail
      refine (works_any _).mono ?_
      rintro e wb ⟨rfl, hbb⟩
      have BB := Lib.hid (below_then B2.out hbb)
      clear hbb
      go_wp2
      go_ret
      exact .bool rfl BB.out
end Go.Proofs.Ytmlfnejmagjjpaa
