/- The walk of CountsUndone. -/
import Derived.Test.YtebpepjlhanopaaRows
import Derived.IntWalk
import Derived.Deep.RegionHeld3
import Derived.Test.YtebpepjlhanopaaWords
import Derived.Test.YtebpepjlhanopaaByts
import Derived.Test.YtebpepjlhanopaaFrame
import Derived.Test.YtebpepjlhanopaaElems
import Derived.Test.YtebpepjlhanopaaMapOwn
import Derived.Test.YtebpepjlhanopaaS1
import Derived.Test.YtebpepjlhanopaaS2
import Derived.Test.YtebpepjlhanopaaEqs
import Derived.Test.YtebpepjlhanopaaU1
import Derived.Test.YtebpepjlhanopaaA1
import Derived.Test.YtebpepjlhanopaaA2
import Derived.Test.YtebpepjlhanopaaP1
import Derived.Test.YtebpepjlhanopaaB1
import Derived.Test.YtebpepjlhanopaaM1
import Derived.Test.YtebpepjlhanopaaM2
import Derived.Test.YtebpepjlhanopaaM3
import Derived.Test.YtebpepjlhanopaaM8
import Derived.Test.YtebpepjlhanopaaR0
import Derived.Test.YtebpepjlhanopaaR1
import Derived.Test.YtebpepjlhanopaaR2
import Derived.Test.YtebpepjlhanopaaP4
import Derived.Test.YtebpepjlhanopaaL0b
import Derived.Test.YtebpepjlhanopaaW1
namespace Go.Proofs.Ytebpepjlhanopaa
open Go Go.RowKit Go.Proofs.Tail Go.Sort
set_option linter.unusedSimpArgs false
set_option linter.unusedVariables false
set_option maxRecDepth 100000 in
set_option maxHeartbeats 16000000 in
theorem law_undone (d : Int) (A : Option Addr) (n c tn : Nat) (ls : List (T × Int)) (w : World) (hX : Cos w A n c ls) (ht : tn ≤ 255) :
    Calls Try.prog 4 #[.int .i64 d, .slice A n c, .int .u8 (tn : Nat)] w (Gives (.bool true) w) := by
  by_cases hd : 0 ≤ d ∧ d ≤ 3
  · have HN := Lib.hid (new_law (w := w) (wr := w) (d := d) (Nat.le_refl _) hd.1 hd.2)
    have HX := Lib.hid hX
    have HL := Lib.hid hX.len
    have hbig := hX.big
    clear hX hd
    go_enter Try.func4, Try.ntmps4
    go_wp2_with fail
    refine HN.out.mono ?_
    rintro e w1 ⟨P, b, rfl, hc, _, _, hb⟩
    have HC := Lib.hid hc
    have HB := Lib.hid hb
    clear hc hb HN
    by_cases h40 : 40 < n
    · have d1 : decide (40 < (n : Int)) = true := decide_eq_true (by omega)
      clear h40
      go_wp2_with fail
      refine (works_any _).mono ?_
      rintro e wz ⟨rfl, hb⟩
      have HBZ := Lib.hid (below_then HB.out hb)
      clear hb
      go_wp2_with fail
      go_ret
      exact .bool rfl HBZ.out
    · have d1 : decide (40 < (n : Int)) = false := decide_eq_false (by omega)
      by_cases h0 : n = 0
      · subst h0
        go_wp2_with fail
        refine (works_any _).mono ?_
        rintro e wz ⟨rfl, hb⟩
        have HBZ := Lib.hid (below_then HB.out hb)
        clear hb
        go_wp2_with fail
        go_ret
        exact .bool rfl HBZ.out
      · have d2 : ¬ (n : Int) = 0 := by omega
        have d3 : ((n : Int) == 0) = false := by simpa using d2
        have hl40 : n ≤ 40 := by omega
        have H0 := Lib.hid (show Cw w w1 P b d (2 * 0) (addsC d (und ls tn 0)) from HC.out)
        clear h40 HC
        go_wp2_with fail
        go_loopw [8] (fun i wr => ∃ k : Nat, k ≤ n ∧ i = .int .i64 k ∧ Hid (Cw w wr P b d (2 * k) (addsC d (und ls tn k))) ∧ Hid (Below w.heap.size w wr)) (fun i _ => n - (intOf i).toNat)
        case atStart => exact ⟨0, Nat.zero_le _, rfl, H0, HB⟩
        case round =>
          clear H0 HB
          obtain ⟨k, hk, rfl, HC, HB⟩ := hrel
          by_cases hlt : k < n
          · have e1 : decide ((k : Int) < n) = true := decide_eq_true (by omega)
            have e1' : decide (k < n) = true := decide_eq_true (by omega)
            have hk0 : (0 : Int) ≤ k := by omega
            have hkn : (k : Int) < n := by omega
            obtain ⟨q, hq⟩ : ∃ q, q = (k + tn) % n := ⟨_, rfl⟩
            have hqn' : q < n := by rw [hq]; exact Nat.mod_lt _ (by omega)
            have hq0 : (0 : Int) ≤ q := by omega
            have hqn : (q : Int) < n := by omega
            have hw1 : IntKind.i64.wrap (tn : Int) = tn := IntWalk.i64_in _ ⟨by omega, by omega⟩
            have hw2 : IntKind.i64.wrap ((k : Int) + tn) = (k : Int) + tn := IntWalk.i64_in _ ⟨by omega, by omega⟩
            have hw3 : ((k : Int) + tn).tmod n = (q : Int) := by
              rw [Int.tmod_eq_emod_of_nonneg (by omega), hq]
              simp
            obtain ⟨bl, off, x, rfl, hx, hcx⟩ := (HX.out.below RCo.stays HB.out).elem hlt
            obtain ⟨bl', off', y, e9, hy, hcy⟩ := (HX.out.below RCo.stays HB.out).elem hqn'
            injection e9 with e9
            injection e9 with e91 e92
            subst e91 e92
            have HY := Lib.hid (show (rot ls tn)[k]? = some y by rw [rot_get ls tn k (by rw [HL.out]; exact hlt), HL.out, ← hq]; exact hy)
            have HXE := Lib.hid hx
            have HRY := Lib.hid hcy
            obtain ⟨c0, c1, c2, c3, c4⟩ := hcx.1
            have c5 := hcx.2
            have C1 := Lib.hid (add_law (stp x).1 (stp x).2 (HC.out.below (below_drew (Below.refl _ _))))
            have HCD := Lib.hid (HC.out.below (below_drew (Below.refl _ _)))
            clear hcx hcy hx hy hq
            unfold stp at C1
            go_wp2_with fail
            go_region_held3 (fun w' => w'.cell? ⟨bl, off + k * 6, none⟩ = some (.int .i64 x.1.d) ∧ w'.cell? ⟨bl, off + k * 6 + 1, none⟩ = some (.int .i64 x.1.e) ∧ w'.cell? ⟨bl, off + k * 6 + 2, none⟩ = some (.int .i64 x.1.a) ∧ w'.cell? ⟨bl, off + k * 6 + 3, none⟩ = some (.int .i64 x.1.b) ∧ w'.cell? ⟨bl, off + k * 6 + 4, none⟩ = some (.int .i64 x.1.c) ∧ w'.cell? ⟨bl, off + k * 6 + 5, none⟩ = some (.int .i64 x.2))
              (first | exact ⟨c0, c1, c2, c3, c4, c5⟩ | exact ⟨z0, z1, z2, z3, z4, z5⟩)
              (first | (go_at_call 11; (with_reducible refine C1.out.mono ?_); rintro e w2 ⟨rfl, hc2, hf2⟩; have z0 := map_cell HCD.out hf2 c0; have z1 := map_cell HCD.out hf2 c1; have z2 := map_cell HCD.out hf2 c2; have z3 := map_cell HCD.out hf2 c3; have z4 := map_cell HCD.out hf2 c4; have z5 := map_cell HCD.out hf2 c5))
            have HC2 := Lib.hid (show Cw w w2 P b d (2 * k + 1) (addsC d (und ls tn k ++ [stp x])) by rw [addsC_snoc]; exact hc2)
            have HB2 := Lib.hid (fr_below (below_drew HB.out) hf2 HC.out.q)
            have HR2 := Lib.hid (map_rco HCD.out hf2 ((RCo.stays _ _ _ _ _ (below_drew (Below.refl _ _)) HRY.out)))
            clear c0 c1 c2 c3 c4 c5 z0 z1 z2 z3 z4 z5 hc2 hf2 C1 HCD HC HB HRY
            obtain ⟨c0, c1, c2, c3, c4⟩ := HR2.out.1
            have c5 := HR2.out.2
            have C1 := Lib.hid (add_law (negP (stp y)).1 (negP (stp y)).2 (HC2.out.below (below_drew (Below.refl _ _))))
            have HCD := Lib.hid (HC2.out.below (below_drew (Below.refl _ _)))
            have hw4 : IntKind.i64.wrap (0 - y.2.tmod 1000) = 0 - y.2.tmod 1000 := by
              have := tm_bound y.2
              exact IntWalk.i64_in _ ⟨by omega, by omega⟩
            have hneg : (0 - y.2.tmod 1000 : Int) = -(y.2.tmod 1000) := by omega
            have hw5 : IntKind.i64.wrap (-(y.2.tmod 1000)) = -(y.2.tmod 1000) := by rw [← hneg]; exact hw4
            unfold negP stp at C1
            dsimp only at C1
            rw [hneg] at C1
            clear hw4 hneg
            go_wp2_with fail
            go_region_held3 (fun w' => w'.cell? ⟨bl, off + q * 6, none⟩ = some (.int .i64 y.1.d) ∧ w'.cell? ⟨bl, off + q * 6 + 1, none⟩ = some (.int .i64 y.1.e) ∧ w'.cell? ⟨bl, off + q * 6 + 2, none⟩ = some (.int .i64 y.1.a) ∧ w'.cell? ⟨bl, off + q * 6 + 3, none⟩ = some (.int .i64 y.1.b) ∧ w'.cell? ⟨bl, off + q * 6 + 4, none⟩ = some (.int .i64 y.1.c) ∧ w'.cell? ⟨bl, off + q * 6 + 5, none⟩ = some (.int .i64 y.2))
              (first | exact ⟨c0, c1, c2, c3, c4, c5⟩ | exact ⟨z0, z1, z2, z3, z4, z5⟩)
              (first | (go_at_call 11; (with_reducible refine C1.out.mono ?_); rintro e w3 ⟨rfl, hc2, hf2⟩; have z0 := map_cell HCD.out hf2 c0; have z1 := map_cell HCD.out hf2 c1; have z2 := map_cell HCD.out hf2 c2; have z3 := map_cell HCD.out hf2 c3; have z4 := map_cell HCD.out hf2 c4; have z5 := map_cell HCD.out hf2 c5))
            have HC3 := Lib.hid (show Cw w w3 P b d (2 * (k + 1)) (addsC d (und ls tn (k + 1))) by
              rw [und_step HXE.out HY.out, addsC_snoc]
              have h9 := hc2
              rw [show (-(y.2.tmod 1000) : Int) = (negP (stp y)).2 from by unfold negP stp; dsimp only; omega] at h9
              exact h9.mono (by omega))
            have HB3 := Lib.hid (fr_below (below_drew HB2.out) hf2 HC2.out.q)
            clear c0 c1 c2 c3 c4 c5 z0 z1 z2 z3 z4 z5 hc2 hf2 C1 HCD HC2 HB2 HR2
            go_wp2_with fail
            go_roundw
            case rel => exact ⟨k + 1, by omega, by go_num, HC3, HB3⟩
            case measure => simp [intOf]; omega
          · have hkn : k = n := by omega
            subst hkn
            have e1 : decide ((k : Int) < k) = false := decide_eq_false (by omega)
            have e1' : decide (k < k) = false := decide_eq_false (by omega)
            have HU := Lib.hid (show addsC d (und ls tn k) = [] by have := undone d ls tn (by rw [HL.out]; omega); rw [HL.out] at this; exact this)
            have HT := Lib.hid (show ∀ wq, Cw w wq P b d (2 * k) [] → Calls Try.prog 12 #[.pointer (some ⟨P, 0, none⟩)] wq (fun e w' => ∃ A c, e = .returned (.slice A 0 c) ∧ Below wq.heap.size wq w') from fun wq h => (times_law h (by omega)).mono fun e w' h => by
              obtain ⟨A, c, h1, _, h3⟩ := GivesTms.rw_ (xs := []) (by simp) h
              exact ⟨A, c, h1, h3⟩)
            have HF := Lib.hid (show ∀ wq, Cw w wq P b d (2 * k) [] → Calls Try.prog 15 #[.pointer (some ⟨P, 0, none⟩)] wq (fun e w' => ∃ A c, e = .returned (.slice A 0 c) ∧ Below wq.heap.size wq w') from fun wq h => (front_law h (by omega)).mono fun e w' h => by
              rw [show frontC [] = [] from by rw [front_eq ⟨by simp, by simp⟩]; decide] at h
              obtain ⟨A, c, h1, _, h3⟩ := GivesTms.rw_ (xs := []) (by simp) h
              exact ⟨A, c, h1, h3⟩)
            have HC9 := Lib.hid (show Cw w wr P b d (2 * k) [] by rw [← HU.out]; exact HC.out)
            clear HC HU
            go_wp2_with fail
            refine (HT.out _ HC9.out).mono ?_
            rintro e w4 ⟨A4, c4, rfl, hb4⟩
            have HB4 := Lib.hid (below_then HB.out hb4)
            have HC4 := Lib.hid (HC9.out.below hb4)
            clear hb4 HT HC9
            go_wp2_with fail
            refine (HF.out _ HC4.out).mono ?_
            rintro e w5 ⟨A5, c5, rfl, hb5⟩
            have HB5 := Lib.hid (below_then HB4.out hb5)
            clear hb5 HF HC4
            go_wp2_with fail
            refine (works_any _).mono ?_
            rintro e wz ⟨rfl, hb⟩
            have HBZ := Lib.hid (below_then HB5.out hb)
            clear hb
            go_wp2_with fail
            go_ret
            exact .bool rfl HBZ.out
  · have HN := Lib.hid (new_not d w (by omega))
    clear hX hd
    go_enter Try.func4, Try.ntmps4
    go_wp2_with fail
    refine HN.out.mono ?_
    rintro e w1 ⟨rfl, hb⟩
    have HB := Lib.hid hb
    clear hb HN
    go_wp2_with fail
    refine (works_any _).mono ?_
    rintro e wz ⟨rfl, hb⟩
    have HBZ := Lib.hid (below_then HB.out hb)
    clear hb
    go_wp2_with fail
    go_ret
    exact .bool rfl HBZ.out
theorem bounds_u8 {x : Int} (h : (Lit.int .u8 x).wf = true) : 0 ≤ x ∧ x ≤ 255 := by
  simp [Lit.wf, IntKind.min, IntKind.max, IntKind.bits, IntKind.signed] at h
  omega
theorem law_undone_any (d : Int) (A : Option Addr) (n c : Nat) (ls : List (T × Int)) (x : Int) (w : World) (hX : Cos w A n c ls) (hw : (Lit.int .u8 x).wf = true) :
    Calls Try.prog 4 #[.int .i64 d, .slice A n c, .int .u8 x] w (Gives (.bool true) w) := by
  have hb := bounds_u8 hw
  obtain ⟨tn, rfl⟩ := Int.eq_ofNat_of_zero_le hb.1
  exact law_undone d A n c tn ls w hX (by omega)
end Go.Proofs.Ytebpepjlhanopaa
