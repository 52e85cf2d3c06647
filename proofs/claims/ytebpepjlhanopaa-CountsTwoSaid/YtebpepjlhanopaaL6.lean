/- The walk of CountsTwo. -/
import Derived.Test.YtebpepjlhanopaaRows
import Derived.IntWalk
import Derived.Deep.RegionHeld3
import Derived.Test.YtebpepjlhanopaaWords
import Derived.Test.YtebpepjlhanopaaByts
import Derived.Test.YtebpepjlhanopaaFrame
import Derived.Test.YtebpepjlhanopaaElems
import Derived.Test.YtebpepjlhanopaaMapOwn
import Derived.Test.YtebpepjlhanopaaS1
import Derived.Test.YtebpepjlhanopaaS2
import Derived.Test.YtebpepjlhanopaaEqs
import Derived.Test.YtebpepjlhanopaaU1
import Derived.Test.YtebpepjlhanopaaU4
import Derived.Test.YtebpepjlhanopaaA1
import Derived.Test.YtebpepjlhanopaaA2
import Derived.Test.YtebpepjlhanopaaA5
import Derived.Test.YtebpepjlhanopaaP1
import Derived.Test.YtebpepjlhanopaaP3
import Derived.Test.YtebpepjlhanopaaB1
import Derived.Test.YtebpepjlhanopaaM1
import Derived.Test.YtebpepjlhanopaaM2
import Derived.Test.YtebpepjlhanopaaM3
import Derived.Test.YtebpepjlhanopaaM8
import Derived.Test.YtebpepjlhanopaaR0
import Derived.Test.YtebpepjlhanopaaR1
import Derived.Test.YtebpepjlhanopaaR2
import Derived.Test.YtebpepjlhanopaaP4
import Derived.Test.YtebpepjlhanopaaP6
import Derived.Test.YtebpepjlhanopaaL0b
import Derived.Test.YtebpepjlhanopaaW1
namespace Go.Proofs.Ytebpepjlhanopaa
open Go Go.RowKit Go.Proofs.Tail Go.Sort
set_option linter.unusedSimpArgs false
set_option linter.unusedVariables false
def AddO (w : World) (P b : Nat) (d : Int) (N : Nat) (l : List (T × Int)) (t : T) (E : Int) (wr : World) (e : Ending) (w' : World) : Prop :=
  e = .returned (.int .i64 E) ∧ Cw w w' P b d (N + 1) (addsC d (l ++ [one t])) ∧ Fr (fun k => k = b) wr w'
theorem add_one_law {w wr : World} {P b : Nat} {d : Int} {N : Nat} {l : List (T × Int)} (t : T) (E : Int) (hE : (if t.rightB = true ∧ t.d = d then (0 : Int) else 50) = E) (hs : ∀ p ∈ l, -999 ≤ p.2 ∧ p.2 ≤ 999) (hl : l.length ≤ 999) (h : Cw w wr P b d N (addsC d l)) :
    Calls Try.prog 11 #[.pointer (some ⟨P, 0, none⟩), .agg #[.int .i64 t.d, .int .i64 t.e, .int .i64 t.a, .int .i64 t.b, .int .i64 t.c], .int .i64 1] wr (AddO w P b d N l t E wr) :=
  (add_law t 1 h).mono fun e w' ⟨h1, h2, h3⟩ => ⟨by rw [h1, add_one hs hl, hE], by rw [addsC_snoc]; exact h2, h3⟩
theorem gives_of {xs : List T} {wr : World} {e : Ending} {w' : World} (hl : xs.length ≤ 1000000) (h : GivesOf (some xs) wr e w') : ∃ A c, e = .returned (.tuple #[.slice A xs.length c, .int .i64 0]) ∧ Tms w' A xs.length c xs ∧ Below wr.heap.size wr w' := by
  obtain ⟨v, rfl, hrow, hb⟩ := h
  obtain ⟨A, c, rfl, hr⟩ := own_tms hrow (by simp only [Option.getD_some]; omega)
  exact ⟨A, c, rfl, hr, hb⟩
set_option maxRecDepth 100000 in
set_option maxHeartbeats 16000000 in
theorem law_two (d : Int) (A : Option Addr) (n c : Nat) (A' : Option Addr) (n' c' : Nat) (us vs : List T) (w : World) (hX : Tms w A n c us) (hY : Tms w A' n' c' vs) :
    Calls Try.prog 8 #[.int .i64 d, .slice A n c, .slice A' n' c'] w (Gives (.bool true) w) := by
  by_cases hd : 0 ≤ d ∧ d ≤ 3
  · have HN := Lib.hid (fun (wq : World) (hs : w.heap.size ≤ wq.heap.size) => new_law (w := w) (wr := wq) (d := d) hs hd.1 hd.2)
    have HU := Lib.hid hX
    have HLU := Lib.hid hX.len
    have HV := Lib.hid hY
    have HLV := Lib.hid hY.len
    have hbig := hX.big
    have hbig' := hY.big
    clear hX hY hd
    go_enter Try.func8, Try.ntmps8
    go_wp2_with fail
    refine (HN.out w (Nat.le_refl _)).mono ?_
    rintro e w1 ⟨Px, bx, rfl, hc, _, _, hb⟩
    have HX := Lib.hid hc
    have HB := Lib.hid hb
    clear hc hb
    go_wp2_with fail
    refine (HN.out w1 HB.out.size).mono ?_
    rintro e w2 ⟨Py, bY, rfl, hc, _, hq, hb⟩
    have HXY := Lib.hid (show bx ≠ bY by have := HX.out.lt.2; omega)
    have HY := Lib.hid hc
    replace HX := Lib.hid (HX.out.below hb)
    replace HB := Lib.hid (below_then HB.out hb)
    clear hc hb hq
    go_wp2_with fail
    refine (HN.out w2 HB.out.size).mono ?_
    rintro e w3 ⟨Pz, bz, rfl, hc, _, hq, hb⟩
    have HXZ := Lib.hid (show bx ≠ bz by have := HX.out.lt.2; omega)
    have HYZ := Lib.hid (show bY ≠ bz by have := HY.out.lt.2; omega)
    have HZ := Lib.hid hc
    replace HX := Lib.hid (HX.out.below hb)
    replace HY := Lib.hid (HY.out.below hb)
    replace HB := Lib.hid (below_then HB.out hb)
    clear hc hb hq HN
    by_cases h30 : 30 < n
    · have d1 : decide (30 < (n : Int)) = true := decide_eq_true (by omega)
      clear h30
      go_wp2_with fail
      refine (works_any _).mono ?_
      rintro e wz ⟨rfl, hb⟩
      have HBZ := Lib.hid (below_then HB.out hb)
      clear hb
      go_wp2_with fail
      go_ret
      exact .bool rfl HBZ.out
    · have d1 : decide (30 < (n : Int)) = false := decide_eq_false (by omega)
      by_cases h30' : 30 < n'
      · have d2 : decide (30 < (n' : Int)) = true := decide_eq_true (by omega)
        clear h30 h30'
        go_wp2_with fail
        refine (works_any _).mono ?_
        rintro e wz ⟨rfl, hb⟩
        have HBZ := Lib.hid (below_then HB.out hb)
        clear hb
        go_wp2_with fail
        go_ret
        exact .bool rfl HBZ.out
      · have d2 : decide (30 < (n' : Int)) = false := decide_eq_false (by omega)
        have hl1 : n ≤ 30 := by omega
        have hl2 : n' ≤ 30 := by omega
        have HX0 := Lib.hid (show Cw w w3 Px bx d 0 (addsC d ((us.take 0).map one)) from HX.out)
        have HZ0 := Lib.hid (show Cw w w3 Pz bz d 0 (addsC d ((us.take 0).map one)) from HZ.out)
        clear h30 h30' HX HZ
        go_wp2_with fail
        go_loopw [10] (fun i wr => ∃ k : Nat, k ≤ n ∧ i = .int .i64 k ∧ Hid (Cw w wr Px bx d k (addsC d ((us.take k).map one))) ∧ Hid (Cw w wr Pz bz d (k) (addsC d ((us.take k).map one))) ∧ Hid (Cw w wr Py bY d 0 []) ∧ Hid (Below w.heap.size w wr)) (fun i _ => n - (intOf i).toNat)
        case atStart => exact ⟨0, Nat.zero_le _, rfl, HX0, HZ0, HY, HB⟩
        case round =>
          clear HX0 HZ0 HY HB
          obtain ⟨k, hk, rfl, HX, HZ, HY, HB⟩ := hrel
          by_cases hlt : k < n
          · have e1 : decide ((k : Int) < n) = true := decide_eq_true (by omega)
            have e1' : decide (k < n) = true := decide_eq_true (by omega)
            have hk0 : (0 : Int) ≤ k := by omega
            have hkn : (k : Int) < n := by omega
            obtain ⟨bl, off, x, rfl, hx, hcx⟩ := (HU.out.below At.stays HB.out).elem hlt
            have HXE := Lib.hid hx
            obtain ⟨c0, c1, c2, c3, c4⟩ := hcx
            obtain ⟨E, hE⟩ : ∃ E, (if x.rightB = true ∧ x.d = d then (0 : Int) else 50) = E := ⟨_, rfl⟩
            have hself : (E != E) = false := by simp
            have HFD := Lib.hid (HX.out.below (below_drew (Below.refl _ _)))
            have HZD := Lib.hid (HZ.out.below (below_drew (Below.refl _ _)))
            have HTD := Lib.hid (HY.out.below (below_drew (Below.refl _ _)))
            have C1 := Lib.hid (add_one_law x E hE (one_small _) (by rw [List.length_map, List.length_take]; omega) HFD.out)
            have C2 := Lib.hid (fun W (h : Cw w W Pz bz d (k) (addsC d ((us.take k).map one))) => add_one_law x E hE (one_small _) (by rw [List.length_map, List.length_take]; omega) h)
            clear hx hE
            go_wp2_with fail
            go_region_held3 (fun w' => w'.cell? ⟨bl, off + k * 5, none⟩ = some (.int .i64 x.d) ∧ w'.cell? ⟨bl, off + k * 5 + 1, none⟩ = some (.int .i64 x.e) ∧ w'.cell? ⟨bl, off + k * 5 + 2, none⟩ = some (.int .i64 x.a) ∧ w'.cell? ⟨bl, off + k * 5 + 3, none⟩ = some (.int .i64 x.b) ∧ w'.cell? ⟨bl, off + k * 5 + 4, none⟩ = some (.int .i64 x.c))
              (first | exact ⟨c0, c1, c2, c3, c4⟩ | exact ⟨z0, z1, z2, z3, z4⟩ | exact ⟨v0, v1, v2, v3, v4⟩)
              (first
                | (go_at_call 11; (with_reducible refine C1.out.mono ?_); rintro e w5 ⟨rfl, hc2, hf2⟩; have z0 := map_cell HFD.out hf2 c0; have z1 := map_cell HFD.out hf2 c1; have z2 := map_cell HFD.out hf2 c2; have z3 := map_cell HFD.out hf2 c3; have z4 := map_cell HFD.out hf2 c4; have HZ2 := Lib.hid (HZD.out.fr HFD.out.cs (HXZ.out.symm) hf2); have HT2 := Lib.hid (HTD.out.fr HFD.out.cs (HXY.out.symm) hf2))
                | (go_at_call 11; (with_reducible refine (C2.out _ HZ2.out).mono ?_); rintro e w6 ⟨rfl, hc3, hf3⟩; have v0 := map_cell HZ2.out hf3 z0; have v1 := map_cell HZ2.out hf3 z1; have v2 := map_cell HZ2.out hf3 z2; have v3 := map_cell HZ2.out hf3 z3; have v4 := map_cell HZ2.out hf3 z4))
            have HB6 := Lib.hid (fr_below (fr_below (below_drew HB.out) hf2 HX.out.q) hf3 HZ.out.q)
            have HF6 := Lib.hid (show Cw w w6 Px bx d (k + 1) (addsC d ((us.take (k + 1)).map one)) by
              have h9 := hc2.fr HZ2.out.cs (HXZ.out) hf3
              rw [take_snoc HXE.out, List.map_append, List.map_cons, List.map_nil]
              exact h9)
            have HZ6 := Lib.hid (show Cw w w6 Pz bz d ((k + 1)) (addsC d ((us.take (k + 1)).map one)) by
              have h9 := hc3
              rw [take_snoc HXE.out, List.map_append, List.map_cons, List.map_nil]
              skip
              exact h9.mono (by omega))
            have HT6 := Lib.hid (HT2.out.fr HZ2.out.cs (HYZ.out) hf3)
            clear c0 c1 c2 c3 c4 z0 z1 z2 z3 z4 v0 v1 v2 v3 v4 hc2 hc3 hf2 hf3 C1 C2 HFD HZD HTD HZ2 HT2 HX HZ HY HB
            go_wp2_with fail
            go_roundw
            case rel => exact ⟨k + 1, by omega, by go_num, HF6, HZ6, HT6, HB6⟩
            case measure => simp [intOf]; omega
          · have hkn : k = n := by omega
            subst hkn
            have e1 : decide ((k : Int) < k) = false := decide_eq_false (by omega)
            have e1' : decide (k < k) = false := decide_eq_false (by omega)
            have HKU : us.take k = us := List.take_of_length_le (by rw [HLU.out]; exact Nat.le_refl _)
            rw [HKU] at HX HZ
            clear HKU
            obtain ⟨k', hk'⟩ : ∃ k', k' = k := ⟨_, rfl⟩
            rw [← hk'] at HX HZ
            have HKK := Lib.hid (show k' ≤ 30 by omega)
            clear hk'
            have HY0 := Lib.hid (show Cw w wr Py bY d 0 (addsC d ((vs.take 0).map one)) from HY.out)
            have HZ0 := Lib.hid (show Cw w wr Pz bz d (k' + 0) (addsC d (us.map one ++ (vs.take 0).map one)) by rw [List.take_zero, List.map_nil, List.append_nil]; exact HZ.out)
            clear HY HZ e1 e1'
            go_wp2_with fail
            go_loopw [11] (fun i wr => ∃ k : Nat, k ≤ n' ∧ i = .int .i64 k ∧ Hid (Cw w wr Py bY d k (addsC d ((vs.take k).map one))) ∧ Hid (Cw w wr Pz bz d (k' + k) (addsC d (us.map one ++ (vs.take k).map one))) ∧ Hid (Cw w wr Px bx d k' (addsC d (us.map one))) ∧ Hid (Below w.heap.size w wr)) (fun i _ => n' - (intOf i).toNat)
            case atStart => exact ⟨0, Nat.zero_le _, rfl, HY0, HZ0, HX, HB⟩
            case round =>
              clear HY0 HZ0 HX HB
              obtain ⟨k, hk, rfl, HY, HZ, HX, HB⟩ := hrel
              by_cases hlt : k < n'
              · have e1 : decide ((k : Int) < n') = true := decide_eq_true (by omega)
                have e1' : decide (k < n') = true := decide_eq_true (by omega)
                have hk0 : (0 : Int) ≤ k := by omega
                have hkn : (k : Int) < n' := by omega
                obtain ⟨bl, off, x, rfl, hx, hcx⟩ := (HV.out.below At.stays HB.out).elem hlt
                have HXE := Lib.hid hx
                obtain ⟨c0, c1, c2, c3, c4⟩ := hcx
                obtain ⟨E, hE⟩ : ∃ E, (if x.rightB = true ∧ x.d = d then (0 : Int) else 50) = E := ⟨_, rfl⟩
                have hself : (E != E) = false := by simp
                have HFD := Lib.hid (HY.out.below (below_drew (Below.refl _ _)))
                have HZD := Lib.hid (HZ.out.below (below_drew (Below.refl _ _)))
                have HTD := Lib.hid (HX.out.below (below_drew (Below.refl _ _)))
                have C1 := Lib.hid (add_one_law x E hE (one_small _) (by rw [List.length_map, List.length_take]; omega) HFD.out)
                have C2 := Lib.hid (fun W (h : Cw w W Pz bz d (k' + k) (addsC d (us.map one ++ (vs.take k).map one))) => add_one_law x E hE (fun p hp => by
                  rcases List.mem_append.1 hp with hp | hp
                  · exact one_small _ p hp
                  · exact one_small _ p hp) (by rw [List.length_append, List.length_map, List.length_map, List.length_take, HLU.out]; have := HKK.out; omega) h)
                clear hx hE
                go_wp2_with fail
                go_region_held3 (fun w' => w'.cell? ⟨bl, off + k * 5, none⟩ = some (.int .i64 x.d) ∧ w'.cell? ⟨bl, off + k * 5 + 1, none⟩ = some (.int .i64 x.e) ∧ w'.cell? ⟨bl, off + k * 5 + 2, none⟩ = some (.int .i64 x.a) ∧ w'.cell? ⟨bl, off + k * 5 + 3, none⟩ = some (.int .i64 x.b) ∧ w'.cell? ⟨bl, off + k * 5 + 4, none⟩ = some (.int .i64 x.c))
                  (first | exact ⟨c0, c1, c2, c3, c4⟩ | exact ⟨z0, z1, z2, z3, z4⟩ | exact ⟨v0, v1, v2, v3, v4⟩)
                  (first
                    | (go_at_call 11; (with_reducible refine C1.out.mono ?_); rintro e w5 ⟨rfl, hc2, hf2⟩; have z0 := map_cell HFD.out hf2 c0; have z1 := map_cell HFD.out hf2 c1; have z2 := map_cell HFD.out hf2 c2; have z3 := map_cell HFD.out hf2 c3; have z4 := map_cell HFD.out hf2 c4; have HZ2 := Lib.hid (HZD.out.fr HFD.out.cs (HYZ.out.symm) hf2); have HT2 := Lib.hid (HTD.out.fr HFD.out.cs (HXY.out) hf2))
                    | (go_at_call 11; (with_reducible refine (C2.out _ HZ2.out).mono ?_); rintro e w6 ⟨rfl, hc3, hf3⟩; have v0 := map_cell HZ2.out hf3 z0; have v1 := map_cell HZ2.out hf3 z1; have v2 := map_cell HZ2.out hf3 z2; have v3 := map_cell HZ2.out hf3 z3; have v4 := map_cell HZ2.out hf3 z4))
                have HB6 := Lib.hid (fr_below (fr_below (below_drew HB.out) hf2 HY.out.q) hf3 HZ.out.q)
                have HF6 := Lib.hid (show Cw w w6 Py bY d (k + 1) (addsC d ((vs.take (k + 1)).map one)) by
                  have h9 := hc2.fr HZ2.out.cs (HYZ.out) hf3
                  rw [take_snoc HXE.out, List.map_append, List.map_cons, List.map_nil]
                  exact h9)
                have HZ6 := Lib.hid (show Cw w w6 Pz bz d (k' + (k + 1)) (addsC d (us.map one ++ (vs.take (k + 1)).map one)) by
                  have h9 := hc3
                  rw [take_snoc HXE.out, List.map_append, List.map_cons, List.map_nil]
                  rw [← List.append_assoc]
                  exact h9.mono (by omega))
                have HT6 := Lib.hid (HT2.out.fr HZ2.out.cs (HXZ.out) hf3)
                clear c0 c1 c2 c3 c4 z0 z1 z2 z3 z4 v0 v1 v2 v3 v4 hc2 hc3 hf2 hf3 C1 C2 HFD HZD HTD HZ2 HT2 HY HZ HX HB
                go_wp2_with fail
                go_roundw
                case rel => exact ⟨k + 1, by omega, by go_num, HF6, HZ6, HT6, HB6⟩
                case measure => simp [intOf]; omega
              · have hkn : k = n' := by omega
                subst hkn
                have e1 : decide ((k : Int) < k) = false := decide_eq_false (by omega)
                have e1' : decide (k < k) = false := decide_eq_false (by omega)
                have HKV : vs.take k = vs := List.take_of_length_le (by rw [HLV.out]; exact Nat.le_refl _)
                rw [HKV] at HY HZ
                clear HKV
                have HBO := Lib.hid (two_both HX.out.good HY.out.good HZ.out.good (two_cnt d us vs (by have := HLU.out; omega) (by have := HLV.out; omega)))
                have LX := Lib.hid (show (frontC (addsC d (us.map one))).length ≤ 30 by have h0 := HKK.out; have h1 := HX.out.good.len; have h2 := @front_len (addsC d (us.map one)); omega)
                have LY := Lib.hid (show (frontC (addsC d (vs.map one))).length ≤ 30 by have h1 := HY.out.good.len; have h2 := @front_len (addsC d (vs.map one)); omega)
                have LZ := Lib.hid (show (frontC (addsC d (us.map one ++ vs.map one))).length ≤ 60 by have h0 := HKK.out; have h1 := HZ.out.good.len; have h2 := @front_len (addsC d (us.map one ++ vs.map one)); omega)
                generalize addsC d (us.map one) = CX at *
                generalize addsC d (vs.map one) = CY at *
                generalize addsC d (us.map one ++ vs.map one) = CZ at *
                go_wp2_with fail
                refine (front_law HX.out (by have := HKK.out; omega)).mono ?_
                rintro e w7 h7
                obtain ⟨A7, c7, rfl, hr7, hb7⟩ := h7.rw_ (by have := LX.out; omega)
                have HR7 := Lib.hid hr7.tms
                replace HY := Lib.hid (HY.out.below hb7)
                replace HZ := Lib.hid (HZ.out.below hb7)
                replace HB := Lib.hid (below_then HB.out hb7)
                clear h7 hr7 hb7 HX
                go_wp2_with fail
                refine (front_law HY.out (by have := HKK.out; omega)).mono ?_
                rintro e w8 h8
                obtain ⟨A8, c8, rfl, hr8, hb8⟩ := h8.rw_ (by have := LY.out; omega)
                have HBT := Lib.hid (both_any A7 A8 _ c7 _ c8 _ _ w8 (HR7.out.below At.stays hb8) hr8.tms (by have := LX.out; omega) (by have := LY.out; omega))
                rw [HBO.out] at HBT
                replace HZ := Lib.hid (HZ.out.below hb8)
                replace HB := Lib.hid (below_then HB.out hb8)
                clear h8 hr8 hb8 HR7 HY
                go_wp2_with fail
                refine HBT.out.mono ?_
                rintro e w9 h9
                obtain ⟨A9, c9, rfl, hr9, hb9⟩ := gives_of (by have := LZ.out; omega) h9
                have HR9 := Lib.hid hr9
                replace HZ := Lib.hid (HZ.out.below hb9)
                replace HB := Lib.hid (below_then HB.out hb9)
                clear h9 hr9 hb9 HBT HBO
                go_wp2_with fail
                refine (front_law HZ.out (by have := HKK.out; omega)).mono ?_
                rintro e w10 h10
                obtain ⟨A10, c10, rfl, hr10, hb10⟩ := h10.rw_ (by have := LZ.out; omega)
                have HS := Lib.hid (refsame_any A9 A10 _ c9 _ c10 _ _ w10 (HR9.out.below At.stays hb10) hr10.tms)
                simp only [decide_true] at HS
                replace HB := Lib.hid (below_then HB.out hb10)
                clear h10 hr10 hb10 HZ
                go_wp2_with fail
                refine HS.out.mono ?_
                rintro e w11 ⟨rfl, hb11⟩
                replace HB := Lib.hid (below_then HB.out hb11)
                clear hb11 HS
                go_wp2_with fail
                refine (works_any _).mono ?_
                rintro e wz ⟨rfl, hb⟩
                have HBZ := Lib.hid (below_then HB.out hb)
                clear hb
                go_wp2_with fail
                go_ret
                exact .bool rfl HBZ.out
  · have HN := Lib.hid (fun wq => new_not d wq (by omega))
    clear hX hY hd
    go_enter Try.func8, Try.ntmps8
    go_wp2_with fail
    refine (HN.out _).mono ?_
    rintro e w1 ⟨rfl, hb⟩
    have HB := Lib.hid hb
    clear hb
    go_wp2_with fail
    refine (HN.out _).mono ?_
    rintro e w2 ⟨rfl, hb⟩
    replace HB := Lib.hid (below_then HB.out hb)
    clear hb
    go_wp2_with fail
    refine (HN.out _).mono ?_
    rintro e w3 ⟨rfl, hb⟩
    replace HB := Lib.hid (below_then HB.out hb)
    clear hb HN
    go_wp2_with fail
    refine (works_any _).mono ?_
    rintro e wz ⟨rfl, hb⟩
    have HBZ := Lib.hid (below_then HB.out hb)
    clear hb
    go_wp2_with fail
    go_ret
    exact .bool rfl HBZ.out
end Go.Proofs.Ytebpepjlhanopaa
