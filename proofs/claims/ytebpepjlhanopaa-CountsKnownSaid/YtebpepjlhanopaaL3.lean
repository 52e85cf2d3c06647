/- The walk of CountsOrder. -/
import Derived.Test.YtebpepjlhanopaaRows
import Derived.IntWalk
import Derived.Deep.RegionHeld3
import Derived.Test.YtebpepjlhanopaaWords
import Derived.Test.YtebpepjlhanopaaByts
import Derived.Test.YtebpepjlhanopaaFrame
import Derived.Test.YtebpepjlhanopaaElems
import Derived.Test.YtebpepjlhanopaaMapOwn
import Derived.Test.YtebpepjlhanopaaS1
import Derived.Test.YtebpepjlhanopaaS2
import Derived.Test.YtebpepjlhanopaaEqs
import Derived.Test.YtebpepjlhanopaaU1
import Derived.Test.YtebpepjlhanopaaU4
import Derived.Test.YtebpepjlhanopaaA1
import Derived.Test.YtebpepjlhanopaaA2
import Derived.Test.YtebpepjlhanopaaP1
import Derived.Test.YtebpepjlhanopaaB1
import Derived.Test.YtebpepjlhanopaaM1
import Derived.Test.YtebpepjlhanopaaM2
import Derived.Test.YtebpepjlhanopaaM3
import Derived.Test.YtebpepjlhanopaaM8
import Derived.Test.YtebpepjlhanopaaR0
import Derived.Test.YtebpepjlhanopaaR1
import Derived.Test.YtebpepjlhanopaaR2
import Derived.Test.YtebpepjlhanopaaP4
import Derived.Test.YtebpepjlhanopaaL0b
import Derived.Test.YtebpepjlhanopaaW1
import Derived.Test.YtebpepjlhanopaaL4
namespace Go.Proofs.Ytebpepjlhanopaa
open Go Go.RowKit Go.Proofs.Tail Go.Sort
set_option linter.unusedSimpArgs false
set_option linter.unusedVariables false
theorem blk6 {wr : World} {B : Nat} {c0 c1 c2 c3 c4 c5 : Value} {t : TypeId} (h : Blk wr B [c0, c1, c2, c3, c4, c5] t) : wr.cell? ⟨B, 0, none⟩ = some c0 ∧ wr.cell? ⟨B, 1, none⟩ = some c1 ∧ wr.cell? ⟨B, 2, none⟩ = some c2 ∧ wr.cell? ⟨B, 3, none⟩ = some c3 ∧ wr.cell? ⟨B, 4, none⟩ = some c4 ∧ wr.cell? ⟨B, 5, none⟩ = some c5 :=
  ⟨h.cell 0, h.cell 1, h.cell 2, h.cell 3, h.cell 4, h.cell 5⟩
set_option maxRecDepth 100000 in
set_option maxHeartbeats 16000000 in
theorem law_order (d : Int) (A : Option Addr) (n c tn : Nat) (ls : List (T × Int)) (w : World) (hX : Cos w A n c ls) (ht : tn ≤ 255) :
    Calls Try.prog 3 #[.int .i64 d, .slice A n c, .int .u8 (tn : Nat)] w (Gives (.bool true) w) := by
  by_cases hd : 0 ≤ d ∧ d ≤ 3
  · have HN := Lib.hid (fun (wq : World) (hs : w.heap.size ≤ wq.heap.size) => new_law (w := w) (wr := wq) (d := d) hs hd.1 hd.2)
    have HX := Lib.hid hX
    have HL := Lib.hid hX.len
    have hbig := hX.big
    clear hX hd
    go_enter Try.func3, Try.ntmps3
    go_wp2_with fail
    refine (HN.out w (Nat.le_refl _)).mono ?_
    rintro e w1 ⟨P, b, rfl, hc, _, _, hb⟩
    have HC := Lib.hid hc
    have HB := Lib.hid hb
    clear hc hb
    go_wp2_with fail
    refine (HN.out w1 HB.out.size).mono ?_
    rintro e w2 ⟨P', b', rfl, hc, _, hq, hb⟩
    have HNE := Lib.hid (show b ≠ b' by have := HC.out.lt.2; omega)
    have HD := Lib.hid hc
    replace HC := Lib.hid (HC.out.below hb)
    replace HB := Lib.hid (below_then HB.out hb)
    clear hc hb hq HN
    by_cases h60 : 60 < n
    · have d1 : decide (60 < (n : Int)) = true := decide_eq_true (by omega)
      clear h60
      go_wp2_with fail
      refine (works_any _).mono ?_
      rintro e wz ⟨rfl, hb⟩
      have HBZ := Lib.hid (below_then HB.out hb)
      clear hb
      go_wp2_with fail
      go_ret
      exact .bool rfl HBZ.out
    · have d1 : decide (60 < (n : Int)) = false := decide_eq_false (by omega)
      by_cases h0 : n = 0
      · subst h0
        go_wp2_with fail
        refine (works_any _).mono ?_
        rintro e wz ⟨rfl, hb⟩
        have HBZ := Lib.hid (below_then HB.out hb)
        clear hb
        go_wp2_with fail
        go_ret
        exact .bool rfl HBZ.out
      · have d2 : ¬ (n : Int) = 0 := by omega
        have d3 : ((n : Int) == 0) = false := by simpa using d2
        have hl60 : n ≤ 60 := by omega
        have HC0 := Lib.hid (show Cw w w2 P b d 0 (addsC d ((ls.take 0).map stp)) from HC.out)
        have HD0 := Lib.hid (show Cw w w2 P' b' d 0 (addsC d (((rot ls tn).take 0).map stp)) from HD.out)
        clear h60 HC HD
        go_wp2_with fail
        go_loopw [9] (fun i wr => ∃ k : Nat, k ≤ n ∧ i = .int .i64 k ∧ Hid (Cw w wr P b d k (addsC d ((ls.take k).map stp))) ∧ Hid (Cw w wr P' b' d k (addsC d (((rot ls tn).take k).map stp))) ∧ Hid (Below w.heap.size w wr)) (fun i _ => n - (intOf i).toNat)
        case atStart => exact ⟨0, Nat.zero_le _, rfl, HC0, HD0, HB⟩
        case round =>
          clear HC0 HD0 HB
          obtain ⟨k, hk, rfl, HC, HD, HB⟩ := hrel
          by_cases hlt : k < n
          · have e1 : decide ((k : Int) < n) = true := decide_eq_true (by omega)
            have e1' : decide (k < n) = true := decide_eq_true (by omega)
            have hk0 : (0 : Int) ≤ k := by omega
            have hkn : (k : Int) < n := by omega
            obtain ⟨q, hq⟩ : ∃ q, q = (k + tn) % n := ⟨_, rfl⟩
            have hqn' : q < n := by rw [hq]; exact Nat.mod_lt _ (by omega)
            have hq0 : (0 : Int) ≤ q := by omega
            have hqn : (q : Int) < n := by omega
            have hw1 : IntKind.i64.wrap (tn : Int) = tn := IntWalk.i64_in _ ⟨by omega, by omega⟩
            have hw2 : IntKind.i64.wrap ((k : Int) + tn) = (k : Int) + tn := IntWalk.i64_in _ ⟨by omega, by omega⟩
            have hw3 : ((k : Int) + tn).tmod n = (q : Int) := by
              rw [Int.tmod_eq_emod_of_nonneg (by omega), hq]
              simp
            obtain ⟨bl, off, x, rfl, hx, hcx⟩ := (HX.out.below RCo.stays HB.out).elem hlt
            obtain ⟨bl', off', y, e9, hy, hcy⟩ := (HX.out.below RCo.stays HB.out).elem hqn'
            injection e9 with e9
            injection e9 with e91 e92
            subst e91 e92
            have HY := Lib.hid (show (rot ls tn)[k]? = some y by rw [rot_get ls tn k (by rw [HL.out]; exact hlt), HL.out, ← hq]; exact hy)
            have HXE := Lib.hid hx
            have hb1 := below_new wr (.cells #[.int .i64 x.1.d, .int .i64 x.1.e, .int .i64 x.1.a, .int .i64 x.1.b, .int .i64 x.1.c, .int .i64 x.2] 30)
            have hb2 := below_new (wr.alloc (.cells #[.int .i64 x.1.d, .int .i64 x.1.e, .int .i64 x.1.a, .int .i64 x.1.b, .int .i64 x.1.c, .int .i64 x.2] 30)) (.cells #[.int .i64 y.1.d, .int .i64 y.1.e, .int .i64 y.1.a, .int .i64 y.1.b, .int .i64 y.1.c, .int .i64 y.2] 30)
            obtain ⟨c0, c1, c2, c3, c4⟩ := hcx.1
            have c5 := hcx.2
            have hcy1 := RCo.stays _ _ _ _ _ hb1 hcy
            obtain ⟨z0, z1, z2, z3, z4⟩ := hcy1.1
            have z5 := hcy1.2
            have KA := Lib.hid ((Blk.new wr [.int .i64 x.1.d, .int .i64 x.1.e, .int .i64 x.1.a, .int .i64 x.1.b, .int .i64 x.1.c, .int .i64 x.2] 30 _ rfl).then hb2)
            have KB := Lib.hid (Blk.new (wr.alloc (.cells #[.int .i64 x.1.d, .int .i64 x.1.e, .int .i64 x.1.a, .int .i64 x.1.b, .int .i64 x.1.c, .int .i64 x.2] 30)) [.int .i64 y.1.d, .int .i64 y.1.e, .int .i64 y.1.a, .int .i64 y.1.b, .int .i64 y.1.c, .int .i64 y.2] 30 (wr.heap.size + 1) (by simp))
            replace HC := Lib.hid ((HC.out.below hb1).below hb2)
            replace HD := Lib.hid ((HD.out.below hb1).below hb2)
            replace HB := Lib.hid (below_then (below_then HB.out hb1) hb2)
            clear hcx hcy hcy1 hx hy hq hb1 hb2
            by_cases hodd : k % 2 = 1
            · have hm : ((k : Int).tmod 2) = 1 := by rw [Int.tmod_eq_emod_of_nonneg hk0]; omega
              clear hodd
              go_wp2_with fail
              clear c0 c1 c2 c3 c4 c5 z0 z1 z2 z3 z4 z5
              obtain ⟨q0, q1, q2, q3, q4, q5⟩ := blk6 KA.out
              go_wp2_with fail
              refine (add_law (stp x).1 (stp x).2 HC.out).mono ?_
              rintro e w3 ⟨rfl, hc, hf⟩
              replace KB := Lib.hid (map_blk HC.out hf KB.out)
              replace HD := Lib.hid (HD.out.fr HC.out.cs (HNE.out.symm) hf)
              replace HB := Lib.hid (fr_below HB.out hf HC.out.q)
              replace HC := Lib.hid (show Cw w w3 P b d (k + 1) (addsC d (((ls).take (k + 1)).map stp)) by rw [take_snoc HXE.out, List.map_append, List.map_cons, List.map_nil, addsC_snoc]; exact hc)
              clear hc hf q0 q1 q2 q3 q4 q5 KA
              obtain ⟨q0, q1, q2, q3, q4, q5⟩ := blk6 KB.out
              go_wp2_with fail
              refine (add_law (stp y).1 (stp y).2 HD.out).mono ?_
              rintro e w4 ⟨rfl, hc, hf⟩
              replace HC := Lib.hid (HC.out.fr HD.out.cs (HNE.out) hf)
              replace HB := Lib.hid (fr_below HB.out hf HD.out.q)
              replace HD := Lib.hid (show Cw w w4 P' b' d (k + 1) (addsC d (((rot ls tn).take (k + 1)).map stp)) by rw [take_snoc HY.out, List.map_append, List.map_cons, List.map_nil, addsC_snoc]; exact hc)
              clear hc hf q0 q1 q2 q3 q4 q5 KB
              go_wp2_with fail
              go_roundw
              case rel => exact ⟨k + 1, by omega, by go_num, HC, HD, HB⟩
              case measure => simp [intOf]; omega
            · have hm : ((k : Int).tmod 2) = 0 := by rw [Int.tmod_eq_emod_of_nonneg hk0]; omega
              clear hodd
              go_wp2_with fail
              clear c0 c1 c2 c3 c4 c5 z0 z1 z2 z3 z4 z5
              obtain ⟨q0, q1, q2, q3, q4, q5⟩ := blk6 KB.out
              go_wp2_with fail
              refine (add_law (stp y).1 (stp y).2 HD.out).mono ?_
              rintro e w3 ⟨rfl, hc, hf⟩
              replace KA := Lib.hid (map_blk HD.out hf KA.out)
              replace HC := Lib.hid (HC.out.fr HD.out.cs (HNE.out) hf)
              replace HB := Lib.hid (fr_below HB.out hf HD.out.q)
              replace HD := Lib.hid (show Cw w w3 P' b' d (k + 1) (addsC d (((rot ls tn).take (k + 1)).map stp)) by rw [take_snoc HY.out, List.map_append, List.map_cons, List.map_nil, addsC_snoc]; exact hc)
              clear hc hf q0 q1 q2 q3 q4 q5 KB
              obtain ⟨q0, q1, q2, q3, q4, q5⟩ := blk6 KA.out
              go_wp2_with fail
              refine (add_law (stp x).1 (stp x).2 HC.out).mono ?_
              rintro e w4 ⟨rfl, hc, hf⟩
              replace HD := Lib.hid (HD.out.fr HC.out.cs (HNE.out.symm) hf)
              replace HB := Lib.hid (fr_below HB.out hf HC.out.q)
              replace HC := Lib.hid (show Cw w w4 P b d (k + 1) (addsC d (((ls).take (k + 1)).map stp)) by rw [take_snoc HXE.out, List.map_append, List.map_cons, List.map_nil, addsC_snoc]; exact hc)
              clear hc hf q0 q1 q2 q3 q4 q5 KA
              go_wp2_with fail
              go_roundw
              case rel => exact ⟨k + 1, by omega, by go_num, HC, HD, HB⟩
              case measure => simp [intOf]; omega
          · have hkn : k = n := by omega
            subst hkn
            have e1 : decide ((k : Int) < k) = false := decide_eq_false (by omega)
            have e1' : decide (k < k) = false := decide_eq_false (by omega)
            have hlk : ls.length = k := HL.out
            have HCC : addsC d (((rot ls tn).take k).map stp) = addsC d ((ls.take k).map stp) := by
              rw [List.take_of_length_le (by rw [rot_length]; omega), List.take_of_length_le (by omega)]
              exact adds_perm d ((rot_perm ls tn).map stp) (stp_small _) (by rw [List.length_map, rot_length]; omega)
            rw [HCC] at HD
            clear HCC hlk
            generalize addsC d ((ls.take k).map stp) = CC at HC HD
            have HCK := Lib.hid (show CC.length ≤ k from HC.out.good.len)
            go_wp2_with fail
            refine (times_law HC.out (by omega)).mono ?_
            rintro e w5 h5
            obtain ⟨A5, c5, rfl, hr5, hb5⟩ := h5.rw_ (by rw [List.length_map]; have := HCK.out; omega)
            have HR := Lib.hid hr5.tms
            replace HC := Lib.hid (HC.out.below hb5)
            replace HD := Lib.hid (HD.out.below hb5)
            replace HB := Lib.hid (below_then HB.out hb5)
            clear hb5 h5 hr5
            have HML := Lib.hid (show (CC.map Prod.fst).length ≤ 60 by rw [List.length_map]; have := HCK.out; omega)
            generalize hxs : CC.map Prod.fst = xs at HR HML
            have HXS := Lib.hid hxs
            generalize hm : xs.length = m at *
            have HLM := Lib.hid hm
            clear hxs hm
            have hm60 : m ≤ 60 := HML.out
            go_wp2_with fail
            go_loopw [13] (fun i wr => ∃ j : Nat, j ≤ m ∧ i = .int .i64 j ∧ Hid (Tms wr A5 m c5 xs) ∧ Hid (Cw w wr P b d k CC) ∧ Hid (Cw w wr P' b' d k CC) ∧ Hid (Below w.heap.size w wr)) (fun i _ => m - (intOf i).toNat)
            case atStart => exact ⟨0, Nat.zero_le _, rfl, HR, HC, HD, HB⟩
            case round =>
              clear HR HC HD HB
              obtain ⟨j, hj, rfl, HR, HC, HD, HB⟩ := hrel
              by_cases hlt : j < m
              · have f1 : decide ((j : Int) < m) = true := decide_eq_true (by omega)
                have f1' : decide (j < m) = true := decide_eq_true (by omega)
                have hj0 : (0 : Int) ≤ j := by omega
                have hjm : (j : Int) < m := by omega
                obtain ⟨br, or, t, rfl, ht, hct⟩ := HR.out.elem hlt
                have y0 := fun p : After wr => cell_after hct.c0 p
                have y1 := fun p : After wr => cell_after hct.c1 p
                have y2 := fun p : After wr => cell_after hct.c2 p
                have y3 := fun p : After wr => cell_after hct.c3 p
                have y4 := fun p : After wr => cell_after hct.c4 p
                have K1 := Lib.hid (fun p : After wr => count_law t (HC.out.below p.below))
                have K2 := Lib.hid (fun p : After wr => count_law t (HD.out.below p.below))
                have hself : (cnt CC t != cnt CC t) = false := by simp
                clear ht hct
                go_wp2_with fail
                refine quiet_after (by kernel_rfl) (by kernel_rfl) ?_
                repeat (first | go_big_quiet_step ((first | (go_at_call 13; first | with_reducible exact calls_after (K1.out _) | with_reducible exact calls_after (K2.out _)))) | quiet_step ((first | (go_at_call 13; first | with_reducible exact calls_after (K1.out _) | with_reducible exact calls_after (K2.out _)))))
                refine wpQuiet_nil ?_
                intro wz hw'
                obtain ⟨p, rfl⟩ := hw'
                obtain ⟨w7, hbq⟩ := p
                dsimp only
                replace HR := Lib.hid (HR.out.below At.stays hbq)
                replace HC := Lib.hid (HC.out.below hbq)
                replace HD := Lib.hid (HD.out.below hbq)
                replace HB := Lib.hid (below_then HB.out hbq)
                clear y0 y1 y2 y3 y4 K1 K2 hbq
                go_wp2_with fail
                go_roundw
                case rel => exact ⟨j + 1, by omega, by go_num, HR, HC, HD, HB⟩
                case measure => simp [intOf]; omega
              · have hjm : j = m := by omega
                subst hjm
                have f1 : decide ((j : Int) < j) = false := decide_eq_false (by omega)
                have f1' : decide (j < j) = false := decide_eq_false (by omega)
                have HK := Lib.hid (And.intro HC.out.good.len hl60)
                go_wp2_with fail
                refine (times_law HD.out (by omega)).mono ?_
                rintro e w7 h7
                rw [HXS.out] at h7
                obtain ⟨A7, c7, rfl, hr7, hb7⟩ := h7.rw_ (by have := HLM.out; omega)
                have HS := Lib.hid (refsame_any A5 A7 _ c5 _ c7 xs xs w7 (HR.out.below At.stays hb7) hr7.tms)
                simp only [decide_true] at HS
                replace HC := Lib.hid (HC.out.below hb7)
                replace HD := Lib.hid (HD.out.below hb7)
                replace HB := Lib.hid (below_then HB.out hb7)
                clear h7 hr7 hb7
                rw [HLM.out] at *
                go_wp2_with fail
                refine HS.out.mono ?_
                rintro e w8 ⟨rfl, hb8⟩
                replace HC := Lib.hid (HC.out.below hb8)
                replace HD := Lib.hid (HD.out.below hb8)
                replace HB := Lib.hid (below_then HB.out hb8)
                clear hb8 HS
                go_wp2_with fail
                refine (front_law HC.out (by omega)).mono ?_
                rintro e w9 h9
                obtain ⟨A9, c9, rfl, hr9, hb9⟩ := h9.rw_ (by have := HC.out.good.len; have := @front_len CC; omega)
                have HR9 := Lib.hid hr9.tms
                replace HD := Lib.hid (HD.out.below hb9)
                replace HB := Lib.hid (below_then HB.out hb9)
                clear h9 hr9 hb9
                go_wp2_with fail
                refine (front_law HD.out (by omega)).mono ?_
                rintro e w10 h10
                obtain ⟨A10, c10, rfl, hr10, hb10⟩ := h10.rw_ (by have := HD.out.good.len; have := @front_len CC; omega)
                have HS := Lib.hid (refsame_any A9 A10 _ c9 _ c10 _ _ w10 (HR9.out.below At.stays hb10) hr10.tms)
                simp only [decide_true] at HS
                replace HB := Lib.hid (below_then HB.out hb10)
                clear h10 hr10 hb10
                go_wp2_with fail
                refine HS.out.mono ?_
                rintro e w11 ⟨rfl, hb11⟩
                replace HB := Lib.hid (below_then HB.out hb11)
                clear hb11 HS
                go_wp2_with fail
                refine (works_any _).mono ?_
                rintro e wz ⟨rfl, hb⟩
                have HBZ := Lib.hid (below_then HB.out hb)
                clear hb
                go_wp2_with fail
                go_ret
                exact .bool rfl HBZ.out
  · have HN := Lib.hid (fun wq => new_not d wq (by omega))
    clear hX hd
    go_enter Try.func3, Try.ntmps3
    go_wp2_with fail
    refine (HN.out _).mono ?_
    rintro e w1 ⟨rfl, hb⟩
    have HB := Lib.hid hb
    clear hb
    go_wp2_with fail
    refine (HN.out _).mono ?_
    rintro e w2 ⟨rfl, hb⟩
    replace HB := Lib.hid (below_then HB.out hb)
    clear hb HN
    go_wp2_with fail
    refine (works_any _).mono ?_
    rintro e wz ⟨rfl, hb⟩
    have HBZ := Lib.hid (below_then HB.out hb)
    clear hb
    go_wp2_with fail
    go_ret
    exact .bool rfl HBZ.out
theorem law_order_any (d : Int) (A : Option Addr) (n c : Nat) (ls : List (T × Int)) (x : Int) (w : World) (hX : Cos w A n c ls) (hw : (Lit.int .u8 x).wf = true) :
    Calls Try.prog 3 #[.int .i64 d, .slice A n c, .int .u8 x] w (Gives (.bool true) w) := by
  have hb := bounds_u8 hw
  obtain ⟨tn, rfl⟩ := Int.eq_ofNat_of_zero_le hb.1
  exact law_order d A n c tn ls w hX (by omega)
end Go.Proofs.Ytebpepjlhanopaa
