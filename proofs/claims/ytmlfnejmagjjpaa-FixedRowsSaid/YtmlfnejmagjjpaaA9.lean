/- The contract of the reference's Solve: the greatest choice, or the document's error; for every slice that can be read. -/
import Derived.Test.YtmlfnejmagjjpaaRows
import Derived.Test.YtmlfnejmagjjpaaWords
import Derived.Test.YtmlfnejmagjjpaaFxPlain
import Derived.Test.YtmlfnejmagjjpaaA8
namespace Go.Proofs.Ytmlfnejmagjjpaa
open Go.RowKit Go.Proofs.Tail

theorem mayE_zero {tops : List Int} {rules : List Fx.R} (h : mayE tops rules = 0) : Fx.pos tops ∧ ∀ r ∈ rules, inB r.x r.y tops.length = true := by
  unfold mayE at h
  split at h
  · cases h
  · split at h
    · cases h
    · rename_i h1
      rw [not_or, Bool.not_eq_true, Bool.not_eq_true, List.any_eq_false, List.any_eq_false] at h1
      constructor
      · intro i hi
        have := h1.1 tops[i] (List.getElem_mem hi)
        unfold wrongB at this
        rw [decide_eq_true_eq] at this
        simp only [List.getD_eq_getElem?_getD, List.getElem?_eq_getElem hi, Option.getD_some]
        omega
      · intro r hr
        have := h1.2 r hr
        unfold outB at this
        simpa using this
theorem mayE_top {tops : List Int} {rules : List Fx.R} (h : mayE tops rules = 0) : ∀ i, i < tops.length → tops.getD i 0 ≤ 1000 := by
  unfold mayE at h
  split at h
  · cases h
  · split at h
    · cases h
    · rename_i h1
      rw [not_or, Bool.not_eq_true, Bool.not_eq_true, List.any_eq_false, List.any_eq_false] at h1
      intro i hi
      have := h1.1 tops[i] (List.getElem_mem hi)
      unfold wrongB at this
      rw [decide_eq_true_eq] at this
      simp only [List.getD_eq_getElem?_getD, List.getElem?_eq_getElem hi, Option.getD_some]
      omega
theorem mayE_big {tops : List Int} {rules : List Fx.R} (h : mayE tops rules = 0) : tops.length ≤ 4096 := by
  unfold mayE at h
  split at h
  · cases h
  · omega
theorem inn_of {r : Fx.R} {n : Nat} (h : inB r.x r.y n = true) : Fx.inn r n := by
  unfold inB at h
  rw [decide_eq_true_eq] at h
  exact ⟨h.1, h.2.1, h.2.2.1, h.2.2.2⟩
theorem okB_iff (r : Fx.R) (a : List Int) : okB a r = true ↔ Fx.ok r a := by unfold okB Fx.ok; rw [decide_eq_true_eq]

def SolveQ (tops : List Int) (rules : List Fx.R) (w : World) (e : Ending) (w' : World) : Prop :=
  ∃ v, e = .returned (.tuple #[v, .int .i64 (mayE tops rules)]) ∧ Below w.heap.size w w' ∧ (mayE tops rules ≠ 0 → v = .slice none 0 0) ∧
    (mayE tops rules = 0 → ∃ a, Fx.Great tops rules a ∧ w'.ownsRow w.heap.size 3 1 v tops.length (ints a))

set_option maxHeartbeats 1600000 in
theorem refsolve_any (A A0 : Option Addr) (n c n0 c0 : Nat) (rules : List Fx.R) (tops : List Int) (w : World) (h : Rules w A n c rules) (h0 : Ints w A0 n0 c0 tops) :
    Calls Try.prog 11 #[.slice A0 n0 c0, .slice A n c] w (SolveQ tops rules w) := by
  have HM := Lib.hid (refmay_any A A0 n c n0 c0 rules tops w h h0)
  by_cases hE : mayE tops rules = 0
  · obtain ⟨hpos, hin⟩ := mayE_zero hE
    have hbig := mayE_big hE
    have HTOP := Lib.hid (mayE_top hE)
    have hl0 := Lib.hid h0.len
    have hle : n0 ≤ 4096 := by rw [← h0.len]; exact hbig
    have hm := h.big
    have HE := Lib.hid hE
    rw [hE] at HM
    clear hE hbig
    have HIN := Lib.hid hin
    clear hin
    go_enter Try.func11, Try.ntmps11
    go_wp2_with fail
    refine HM.out.mono ?_
    rintro e wm ⟨rfl, hbm⟩
    have HBm := Lib.hid hbm
    clear hbm
    go_wp2_with (at_builtin; refine own_append_ints rfl _ _ 22 3 rfl Try.underlying22 Try.info3 w.heap.size (.slice none 0 0) 0 [] A0 n0 c0 tops rfl rfl (World.ownsRow_nil _ _ _ _) (h0.below RInt.stays HBm.out) (by omega) HBm.out.size ?_; intro v1 w1 hown hg _)
    have HB1 := Lib.hid (below_grown HBm.out hg (fun k hk => by simp [Value.ownBlock] at hk))
    rw [List.nil_append] at hown
    have HO := Lib.hid hown
    clear hown hg HBm
    go_wp2
    go_loopg [8] (2 * Fx.sum tops + 1) (fun gk ch wr => ∃ (b : Bool) (a : List Int), ch = .bool b ∧ Hid (wr.ownsRow w.heap.size 3 1 v1 n0 (ints a)) ∧ Hid (Below w.heap.size w wr) ∧ Hid (Fx.Inv tops rules a) ∧ Hid (b = false → ∀ r ∈ rules, Fx.ok r a) ∧ Hid (2 * Fx.sum a + (if b then 1 else 0) ≤ gk))
    case atStart =>
      exact ⟨true, tops, rfl, (show Hid _ by rw [Nat.zero_add] at HO; exact HO), HB1, Fx.inv_start hpos, (show Hid _ from fun h => by cases h), (show 2 * Fx.sum tops + 1 ≤ 2 * Fx.sum tops + 1 from Nat.le_refl _)⟩
    case round =>
      obtain ⟨b, a, rfl, HOw, HBw, HI, HK, HG⟩ := hrel
      cases b with
      | false =>
        go_wp2
        go_ret2
        refine ⟨v1, by rw [HE.out]; rfl, HBw.out, fun h => absurd HE.out h, fun _ => ⟨a, Fx.inv_done HI.out (HK.out (by simp)), ?_⟩⟩
        rw [hl0.out]
        exact HOw.out
      | true =>
        obtain ⟨wo, rfl⟩ : ∃ wo : World, wo = wr := ⟨_, rfl⟩
        have HG' : Hid (2 * Fx.sum a + 1 ≤ gk) := Lib.hid (by have := HG.out; simpa using this)
        clear HK HG
        go_wp2
        go_loopw [8, 9] (fun ch i wi => ∃ (b : Bool) (k : Nat) (a2 : List Int), ch = .bool b ∧ i = .int .i64 k ∧ k ≤ n ∧ Hid (wi.ownsRow w.heap.size 3 1 v1 n0 (ints a2)) ∧ Hid (Below w.heap.size w wi) ∧ Hid (Fx.Inv tops rules a2) ∧ Hid (b = false → a2 = a ∧ ∀ j r, j < k → rules[j]? = some r → Fx.ok r a) ∧ Hid (b = true → Fx.sum a2 < Fx.sum a)) (fun _ i _ => n - (intOf i).toNat)
        case atStart =>
          exact ⟨false, 0, a, rfl, rfl, Nat.zero_le _, HOw, HBw, HI, (show Hid _ from fun _ => ⟨rfl, fun j r hj => absurd hj (Nat.not_lt_zero _)⟩), (show Hid _ from fun h => by cases h)⟩
        case round =>
          obtain ⟨b, k, a2, rfl, rfl, hk, HO2, HB2, HI2, HK2, HS2⟩ := hrel
          by_cases hlt : k < n
          · obtain ⟨bb, off, r, rfl, hx, A1, n1, c1, e1, e2, e3, h2⟩ := (h.below RRule.stays HB2.out).elem hlt
            have hinr := HIN.out r (List.mem_of_getElem? hx)
            have Hx := Lib.hid hx
            have hinn := inn_of hinr
            obtain ⟨x0, x1, y0, y1⟩ := hinn
            rw [hl0.out] at x1 y1 hinr
            obtain ⟨g, cap, rfl, hg1, hg2, hg3⟩ := own_form HO2.out (by omega)
            obtain ⟨A', c', hv, hR⟩ := own_ints HO2.out (by omega)
            cases hv
            have HC := Lib.hid (refholds_any r.x r.y A1 n1 c1 r.need _ n0 _ a2 wr hR h2 hinr HI2.out.2.1)
            clear hx h2 hR
            cases hq : okB a2 ⟨r.x, r.y, r.need⟩ with
            | true =>
              have HQ := Lib.hid ((okB_iff _ _).1 hq)
              rw [hq] at HC
              clear hq
              go_wp2_with fail
              refine HC.out.mono ?_
              rintro e w3 ⟨rfl, hb3⟩
              have HB3 := Lib.hid hb3
              clear hb3
              go_wp2
              go_roundw
              case measure => simp [intOf]; omega
              case rel =>
                refine ⟨b, k + 1, a2, rfl, by go_num, by omega, (show Hid _ from own_below HO2.out HB3.out), (show Hid _ from below_then HB2.out HB3.out), HI2, (show Hid _ from fun hb => ⟨(HK2.out hb).1, fun j s hj hs => ?_⟩), HS2⟩
                rcases Nat.lt_or_eq_of_le (Nat.le_of_lt_succ hj) with hj | hj
                · exact (HK2.out hb).2 j s hj hs
                · subst hj
                  rw [Hx.out] at hs
                  obtain rfl := Option.some.inj hs
                  rw [← (HK2.out hb).1]
                  exact HQ.out
            | false =>
              have hnk : ¬ Fx.ok r a2 := fun hk => by rw [(okB_iff ⟨r.x, r.y, r.need⟩ a2).2 hk] at hq; cases hq
              rw [hq] at HC
              have hlow := Fx.inv_lower HI2.out (List.mem_of_getElem? Hx.out) (by rw [hl0.out]; exact ⟨x0, x1, y0, y1⟩) hnk
              have hsum := Fx.sum_set a2 r.x.toNat (by have := HI2.out.1; rw [this, hl0.out]; omega) hlow.1
              have htop := HI2.out.2.2.1 r.x.toNat (by have := HI2.out.1; rw [this, hl0.out]; omega)
              have HL := Lib.hid hlow
              have HSUM := Lib.hid hsum
              have hqpos := hlow.1
              unfold Fx.lk at hqpos
              have hq1000 : a2.getD r.x.toNat 0 ≤ 1000 := Int.le_trans htop (HTOP.out _ (by rw [hl0.out]; omega))
              clear hq hnk hlow hsum htop
              go_wp2_with fail
              refine HC.out.mono ?_
              rintro e w3 ⟨rfl, hb3⟩
              have HO3 := Lib.hid (own_below HO2.out hb3)
              have e1' := below_cell hb3 e1
              obtain ⟨o1, o2⟩ := own_cell HO3.out (i := r.x.toNat) (by omega)
              have HB3 := Lib.hid (below_then HB2.out hb3)
              have HSET := Lib.hid (own_set HO3.out r.x.toNat (a2.getD r.x.toNat 0 - 1))
              clear hb3 e1 e2 e3
              generalize hqq : a2.getD r.x.toNat 0 = q at o1 hqpos HSET hq1000
              have HQQ := Lib.hid hqq
              clear hqq
              go_wp2
              go_roundw
              case measure => simp [intOf]; omega
              case rel =>
                have hset := HSET.out
                have hI := HL.out.2
                have hsum := HSUM.out
                unfold Fx.lk at hI
                rw [HQQ.out] at hI hsum
                refine ⟨true, k + 1, a2.set r.x.toNat (q - 1), rfl, by go_num, by omega, hset.1, (show Hid _ from below_grown HB3.out hset.2 (fun k hk => by cases hk; exact hg1)), hI, (show Hid _ from fun hb => by cases hb), (show Hid _ from fun _ => ?_)⟩
                cases b with
                | true => have := HS2.out rfl; omega
                | false => rw [(HK2.out rfl).1] at hsum ⊢; omega
          · have hkn : k = n := by omega
            subst hkn
            go_wp2
            go_roundg (2 * Fx.sum a2 + (if b then 1 else 0))
            case measure =>
              have := HG'.out
              cases b with
              | true => have := HS2.out rfl; simp; omega
              | false => rw [(HK2.out rfl).1]; simp; omega
            case rel =>
              refine ⟨b, a2, rfl, HO2, HB2, HI2, (show Hid _ from fun hb => ?_), (show Hid _ from Nat.le_refl _)⟩
              intro r hr
              obtain ⟨j, hj, rfl⟩ := List.getElem_of_mem hr
              rw [(HK2.out hb).1]
              exact (HK2.out hb).2 j _ (by rw [← h.len]; exact hj) (List.getElem?_eq_getElem hj)
  · have hE' : (mayE tops rules != 0) = true := by simpa using hE
    have HE := Lib.hid hE
    clear hE
    generalize hq : mayE tops rules = q at HM hE'
    have HQ := Lib.hid hq
    clear hq
    go_enter Try.func11, Try.ntmps11
    go_wp2_with fail
    refine HM.out.mono ?_
    rintro e wm ⟨rfl, hbm⟩
    have HBm := Lib.hid hbm
    clear hbm
    go_wp2
    go_ret2
    exact ⟨_, by rw [HQ.out]; rfl, HBm.out, fun _ => rfl, fun h => absurd h HE.out⟩
end Go.Proofs.Ytmlfnejmagjjpaa
