/- The walk of FieldsBoth. -/
import Derived.Test.YtnpiocbgbpnlmaaRows
import Derived.Test.YtnpiocbgbpnlmaaWords
import Derived.Test.YtnpiocbgbpnlmaaByts
import Derived.Test.YtnpiocbgbpnlmaaStrs
import Derived.Test.YtnpiocbgbpnlmaaFrame
import Derived.Test.YtnpiocbgbpnlmaaElems
import Derived.Test.YtnpiocbgbpnlmaaA1
import Derived.Test.YtnpiocbgbpnlmaaA2
import Derived.Test.YtnpiocbgbpnlmaaA3
import Derived.Test.YtnpiocbgbpnlmaaA4
import Derived.Test.YtnpiocbgbpnlmaaA5
import Derived.Test.YtnpiocbgbpnlmaaA6
import Derived.Test.YtnpiocbgbpnlmaaA7
import Derived.Test.YtnpiocbgbpnlmaaA8
import Derived.Test.YtnpiocbgbpnlmaaA9
import Derived.Test.YtnpiocbgbpnlmaaA10
import Derived.Test.YtnpiocbgbpnlmaaA11
import Derived.Test.YtnpiocbgbpnlmaaP1
import Derived.Deep.RegionWith
import Derived.Deep.RegionLaw
namespace Go.Proofs.Ytnpiocbgbpnlmaa
open Go Go.Lib Go.RowKit Go.Proofs.Tail
set_option linter.unusedSimpArgs false
set_option linter.unusedVariables false
set_option maxRecDepth 100000 in
set_option maxHeartbeats 32000000 in
theorem law_both_yes (A A' : Option Addr) (n c n' c' : Nat) (ta tb : List Th) (w : World) (hR : Ths w A n c ta) (hR' : Ths w A' n' c' tb) (hf : fewB ta = true) (hf' : fewB tb = true) :
    Calls Try.prog 5 #[.slice A n c, .slice A' n' c'] w (Gives (.bool true) w) := by
  have F1 := Lib.hid (few_any A n c ta w hR)
  have F2 := Lib.hid (few_any A' n' c' tb w hR')
  rw [hf] at F1
  rw [hf'] at F2
  obtain ⟨f1, f2⟩ := few_of hf
  obtain ⟨f3, f4⟩ := few_of hf'
  have hn : n ≤ 50 := by rw [← hR.len]; exact f1
  have hn' : n' ≤ 50 := by rw [← hR'.len]; exact f3
  have hl1 := hR.len
  have hl2 := hR'.len
  have hL : (ta ++ tb).length = n + n' := by rw [List.length_append, hl1, hl2]
  have hS : sumB (ta ++ tb) ≤ 4000 := by rw [sumB_append]; omega
  have HLL := Lib.hid (And.intro hL hS)
  have HA1 := Lib.hid (fun w' (hb : Below w.heap.size w w') => all_any A n c ta w' (hR.below RTh.stays hb) (by omega) (by omega))
  have HA2 := Lib.hid (fun w' (hb : Below w.heap.size w w') => all_any A' n' c' tb w' (hR'.below RTh.stays hb) (by omega) (by omega))
  have HX := Lib.hid (show (txts ta).length ≤ 5000 by have := txts_small hl1 (by omega) (by omega) ta.length; rwa [List.take_length] at this)
  have HY := Lib.hid (show (txts tb).length ≤ 5000 by have := txts_small hl2 (by omega) (by omega) tb.length; rwa [List.take_length] at this)
  obtain ⟨csA, k1, k2, k3, k4⟩ := ths_cells hR
  have K1 := Lib.hid k1
  have K2 := Lib.hid k2
  have K3 := Lib.hid k3
  have K4 := Lib.hid k4
  have HR' := Lib.hid hR'
  clear k1 k2 k3 k4 hR hR' hf hf' f1 f2 f3 f4 hl1 hl2 hL hS
  go_enter Try.func5, Try.ntmps5
  go_wp2_with fail
  refine F1.out.mono ?_
  rintro e w1 ⟨rfl, rfl⟩
  go_wp2_with fail
  refine F2.out.mono ?_
  rintro e w1 ⟨rfl, rfl⟩
  clear F1 F2
  go_upto_region 5 with (first
    | (at_builtin; (refine own_append (W := w) rfl (.tmp 18) (.tmp 19) 22 42 _ 3 32 rfl Try.underlying22 infoTh rfl (by omega) (by omega) w.heap.size (.slice none 0 0) 0 [] A n c csA rfl rfl (World.ownsRow_nil _ _ _ _) K2.out K3.out K4.out (by omega) (Nat.le_refl _) ?_); intro v1 w1 hown hgr hat
       have HO1 := Lib.hid (show w1.ownsRow w.heap.size 42 3 v1 n csA by simpa using hown)
       have HB1 := Lib.hid (below_grown (Below.refl w.heap.size w) hgr (fun k hk => by simp [Value.ownBlock] at hk))
       obtain ⟨csB, m1, m2, m3, m4⟩ := ths_cells (HR'.out.below RTh.stays HB1.out)
       have M1 := Lib.hid m1
       have M2 := Lib.hid m2
       have M3 := Lib.hid m3
       have M4 := Lib.hid m4
       clear hown hgr hat m1 m2 m3 m4)
    | (at_builtin; (refine own_append rfl (.tmp 20) (.tmp 21) 22 42 _ 3 32 rfl Try.underlying22 infoTh rfl (by omega) (by omega) w.heap.size v1 n csA A' n' c' csB rfl rfl HO1.out M2.out M3.out M4.out (by omega) HB1.out.size ?_); intro v2 w2 hown hgr hat
       have HB2 := Lib.hid (below_grown HB1.out hgr (fun k hk => own_lt HO1.out k hk))
       obtain ⟨AL, cL, rfl, hRL⟩ := ths_own hown HLL.out.1 (by omega) (K1.out.append M1.out)
       have HRL := Lib.hid hRL
       clear hown hgr hat hRL HO1 HB1 M1 M2 M3 M4))
  have hcat : (strOfNums (txts ta)).size + (strOfNums (txts tb)).size ≤ 9223372036854775807 := by
    rw [strOfNums_size, strOfNums_size]; have := HX.out; have := HY.out; omega
  have hcat' : (strOfNums (txts ta)).size + (strOfNums (txts tb)).size ≤ maxLen := hcat
  have HCA := Lib.hid hcat
  have CV := Lib.hid (fun (w : World) A c (xs : List Int) (hr : Byts w A xs.length c xs) => run_convert_byts w 23 5 Try.underlying23 Try.underlying5 hr 9 Try.underlying9)
  have D2 := Lib.hid (Below.refl w2.heap.size w2)
  have UP := Lib.hid (fun (w' : World) (hb : Below w2.heap.size w2 w') => HB2.out.trans (hb.mono HB2.out.size))
  go_cut [6] (fun s wx => s = .string (strOfNums (txts ta) ++ strOfNums (txts tb)) ∧ Hid (Below w2.heap.size w2 wx))
  case first =>
    go_region_with (first
      | (go_at_call 11
         first | with_reducible refine (HA1.out _ (UP.out _ D2.out)).mono ?_ | with_reducible refine (HA1.out _ (UP.out _ D2.out.drew)).mono ?_
         rintro e w3 ⟨P3, v3, rfl, hW, hP, hb⟩
         have W3 := Lib.hid hW
         have D3 := Lib.hid (Below.trans (D2.out.drew) hb)
         clear hW hP hb)
      | (go_at_call 14
         first | with_reducible refine (out_any P3 v3 (txts ta) _ W3.out (by have := HX.out; omega)).mono ?_
         rintro e w4 ⟨v4, rfl, ho, hb⟩
         obtain ⟨A4, c4, rfl, hr⟩ := own_byts ho (by have := HX.out; omega)
         have R4 := Lib.hid hr
         have cv4 := CV.out w4 A4 c4 (txts ta) hr
         have D4 := Lib.hid (D3.out.trans (hb.mono D3.out.size))
         clear ho hb hr)
      | (go_at_call 11
         first | with_reducible refine (HA2.out _ (UP.out _ D4.out)).mono ?_
         rintro e w5 ⟨P5, v5, rfl, hW, hP, hb⟩
         have W5 := Lib.hid hW
         have R5 := Lib.hid (R4.out.below RByte.stays hb)
         have cv5 := CV.out w5 A4 c4 (txts ta) R5.out
         have D5 := Lib.hid (D4.out.trans (hb.mono D4.out.size))
         clear hW hP hb)
      | (go_at_call 14
         first | with_reducible refine (out_any P5 v5 (txts tb) _ W5.out (by have := HY.out; omega)).mono ?_
         rintro e w6 ⟨v6, rfl, ho, hb⟩
         obtain ⟨A6, c6, rfl, hr⟩ := own_byts ho (by have := HY.out; omega)
         have cv6 := CV.out w6 A4 c4 (txts ta) (R5.out.below RByte.stays hb)
         have cv6' := CV.out w6 A6 c6 (txts tb) hr
         have D6 := Lib.hid (D5.out.trans (hb.mono D5.out.size))
         clear ho hb hr))
    all_goals
      go_wp2_with fail
      go_meet
      exact ⟨rfl, D6⟩
  case rest =>
    obtain ⟨rfl, D6⟩ := hcut
    clear D2 HA1 HA2 hcat hcat'
    have HRL6 := Lib.hid (HRL.out.below RTh.stays D6.out)
    have HB6 := Lib.hid (UP.out _ D6.out)
    clear HRL UP D6
    have tx : txts (ta ++ tb) = txts ta ++ txts tb := txts_append ta tb
    have HC := Lib.hid (all_any AL (n + n') cL (ta ++ tb) wc HRL6.out (by omega) HLL.out.2)
    go_wp2_with fail
    refine HC.out.mono ?_
    rintro e w7 ⟨P7, v7, rfl, hW, hP, hb⟩
    have W7 := Lib.hid hW
    have R7 := Lib.hid (HRL6.out.below RTh.stays hb)
    have B7 := Lib.hid (HB6.out.trans (hb.mono HB6.out.size))
    have HTL := Lib.hid (show (txts (ta ++ tb)).length ≤ 10000 by rw [tx, List.length_append]; have := HX.out; have := HY.out; omega)
    have HTX := Lib.hid (show strOfNums (txts (ta ++ tb)) = strOfNums (txts ta) ++ strOfNums (txts tb) by rw [tx, str_append])
    clear hW hP hb HC HB6 HRL6 tx
    have HC := Lib.hid (out_any P7 v7 (txts (ta ++ tb)) w7 W7.out (by have := HTL.out; omega))
    generalize hll : ta ++ tb = tl at *
    have HLT := Lib.hid hll
    clear hll
    go_wp2_with fail
    refine HC.out.mono ?_
    rintro e w8 ⟨v8, rfl, ho, hb⟩
    obtain ⟨A8, c8, rfl, hr⟩ := own_byts ho (by have := HTL.out; omega)
    have hcv := CV.out w8 A8 c8 (txts tl) hr
    rw [HTX.out] at hcv
    have R8 := Lib.hid (R7.out.below RTh.stays hb)
    have B8 := Lib.hid (B7.out.trans (hb.mono B7.out.size))
    clear ho hb hr HC W7 R7 B7
    have HC := Lib.hid (texts_any AL (n + n') cL tl w8 R8.out (by omega) HLL.out.2)
    rw [HTX.out] at HC
    go_wp2_with fail
    refine HC.out.mono ?_
    rintro e w9 ⟨rfl, hb⟩
    have R9 := Lib.hid (R8.out.below RTh.stays hb)
    have B9 := Lib.hid (B8.out.trans (hb.mono B8.out.size))
    clear hb hcv HC R8 B8
    generalize hs : strOfNums (txts ta) ++ strOfNums (txts tb) = S at *
    have HS := Lib.hid hs
    clear hs
    have HSL := Lib.hid (show S.size ≤ 10000 by rw [← HTX.out, strOfNums_size]; exact HTL.out)
    have HCB := Lib.hid (conv_bytes w9 5 S (by have := HSL.out; unfold maxLen; omega))
    have HN := Lib.hid (show numsOf S = txts tl by rw [← HTX.out]; exact nums_str (txts_in tl))
    have hcv := Go.Lib.run_convert_string_bytes (P := Try.prog) w9 9 23 5 S Try.underlying9 Try.underlying23 Try.underlying5
    have HOP := Lib.hid (open_any _ _ _ _ _ HCB.out.2 (numsOf_in S) (by have := HSL.out; omega))
    rw [HN.out] at HOP
    have R10 := Lib.hid (R9.out.below RTh.stays HCB.out.1)
    have B10 := Lib.hid (B9.out.trans (HCB.out.1.mono B9.out.size))
    go_wp2_with fail
    refine HOP.out.mono ?_
    rintro e w11 ⟨P, G, rfl, hR, hP, hG, hb⟩
    have HRR := Lib.hid hR
    have R11 := Lib.hid (R10.out.below RTh.stays hb)
    have B11 := Lib.hid (B10.out.trans (hb.mono B10.out.size))
    have HPL := Lib.hid (And.intro hP B10.out.size)
    have HNE : Hid (∀ k, k < n + n' → ∀ b off, AL = some ⟨b, off, none⟩ → b ≠ P) := Lib.hid fun k hk b off e => by
      obtain ⟨b', off', x, e', _, hc⟩ := R9.out.elem hk
      rw [e] at e'
      injection e' with e'
      injection e' with e1 e2
      subst e1 e2
      have h1 := World.block_lt_of_cell? w9 _ hc.c0
      have h2 := HCB.out.1.size
      dsimp only at h1
      omega
    have HPW := Lib.hid (show w.heap.size ≤ P by have := B10.out.size; omega)
    clear hcv HOP HCB HSL R9 B9 R10 hR hP hG hb
    clear B10 HPL
    have hbig : n + n' ≤ 100 := by omega
    generalize hm : n + n' = m at *
    have HM := Lib.hid hm
    clear hm
    go_wp2_with fail
    have hd0 := Lib.hid (show Rr w11 P G (txts (tl.drop 0)) false by rw [List.drop_zero]; exact HRR.out)
    clear HRR
    go_loopw [8] (fun i wr => ∃ k : Nat, k ≤ m ∧ i = .int .i64 k ∧ Hid (Rr wr P G (txts (tl.drop k)) false) ∧ Hid (Ths wr AL m cL tl) ∧ Hid (Below w.heap.size w wr)) (fun i _ => m - (intOf i).toNat)
    case atStart => exact ⟨0, Nat.zero_le _, rfl, hd0, R11, B11⟩
    case round =>
      clear hd0 R11 B11
      obtain ⟨k, hk, rfl, HRR, HR, HB⟩ := hrel
      by_cases hlt : k < m
      · obtain ⟨b, off, x, rfl, hx, hc⟩ := HR.out.elem hlt
        have hne : b ≠ P := HNE.out k hlt b off rfl
        have h0 := hc.c0
        have h1 := hc.c1
        have h2 := hc.c2
        have HOK := Lib.hid hc.ok
        have hdr := txts_drop hx
        have HXD := Lib.hid hdr
        have hle : (txts (tl.drop k)).length ≤ 140737488351232 := by
          have h3 := txts_len (tl.drop k)
          have h4 := sumB_part tl k
          have h5 := HLL.out.2
          have h6 := HLL.out.1
          have h7 : (tl.drop k).length ≤ 100 := by rw [List.length_drop]; omega
          omega
        have HC := Lib.hid (fun w' hW => read_any x hc.ok P G (txts (tl.drop k)) false w' hW (by omega))
        rw [hdr, nxt_txt, readL_txt] at HC
        rw [hdr] at HRR
        have HT := Lib.hid (text_any x hc.ok)
        have HCE := Lib.hid hc
        have HNP := Lib.hid hne
        clear hx hc hdr hle hne
        go_wp2_with fail
        go_region_with (first
          | (go_at_call 19
             first | with_reducible refine (HC.out _ HRR.out).mono ?_ | with_reducible refine (HC.out _ (HRR.out.below ((Below.refl _ _).drew))).mono ?_
             rintro e w3 ⟨rfl, hR, hF⟩
             have HR3 := Lib.hid hR
             have HF3 := Lib.hid (show Fr (fun k => k = P) wr w3 from ((Fr.refl (fun k => k = P) wr).drew).trans hF (fun _ _ h => h))
             have g0 := HF3.out.cell HCE.out.c0 HNP.out
             have g1 := HF3.out.cell HCE.out.c1 HNP.out
             have g2 := HF3.out.cell HCE.out.c2 HNP.out
             clear hR hF)
          | (go_at_call 22; refine (HT.out _).mono ?_
             rintro e w4 ⟨rfl, hb⟩
             have HR4 := Lib.hid (HR3.out.below hb)
             have HF4 := Lib.hid (HF3.out.then hb)
             clear hb))
        all_goals
          have HTH := Lib.hid (ths_fr HR.out HF4.out (fun a ha => by cases ha; exact HNP.out))
          have HBB := Lib.hid (HB.out.trans (HF4.out.below HB.out.size (fun k hk e => by have := HPW.out; omega)))
          clear g0 g1 g2 h0 h1 h2
          go_wp2_with fail
          go_roundw
          case rel => exact ⟨k + 1, by omega, by go_num, HR4, HTH, HBB⟩
          case measure => simp [intOf]; omega
      · have hkm : k = m := by omega
        subst hkm
        have hz : txts (tl.drop k) = [] := by rw [List.drop_of_length_le (by have := HLL.out.1; omega)]; rfl
        rw [hz] at HRR
        have C1 := Lib.hid (left_any P G [] false wr HRR.out)
        have C2 := Lib.hid (bad_any P G [] false wr HRR.out)
        have C3 := Lib.hid (rbyte_any P G [] false wr HRR.out)
        clear hz HR
        go_wp2_with fail
        refine C1.out.mono ?_
        rintro e w3 ⟨rfl, rfl⟩
        go_wp2_with fail
        refine C2.out.mono ?_
        rintro e w3 ⟨rfl, rfl⟩
        go_wp2_with fail
        refine C3.out.mono ?_
        rintro e w3 ⟨rfl, hR, hF⟩
        have HR3 := Lib.hid (show Rr w3 P G [] true from hR)
        have HBB := Lib.hid (HB.out.trans (hF.below HB.out.size (fun k hk e => by have := HPW.out; omega)))
        have e0 : numV (nxt [] false 1).1 = 0 := by decide
        rw [e0]
        clear e0 hR hF C1 C2 C3 HRR HB
        have C2 := Lib.hid (bad_any P G [] true w3 HR3.out)
        go_wp2_with fail
        refine C2.out.mono ?_
        rintro e w4 ⟨rfl, rfl⟩
        go_wp2_with fail
        refine (works_any _).mono ?_
        rintro e w8 ⟨rfl, hb⟩
        have HB8 := Lib.hid (HBB.out.trans (hb.mono HBB.out.size))
        clear hb
        go_wp2_with fail
        go_ret
        exact .bool rfl HB8.out
theorem law_both_no (A A' : Option Addr) (n c n' c' : Nat) (ta tb : List Th) (w : World) (hR : Ths w A n c ta) (hR' : Ths w A' n' c' tb) (h : fewB ta = false ∨ fewB ta = true ∧ fewB tb = false) :
    Calls Try.prog 5 #[.slice A n c, .slice A' n' c'] w (Gives (.bool true) w) := by
  have F1 := Lib.hid (few_any A n c ta w hR)
  have F2 := Lib.hid (few_any A' n' c' tb w hR')
  generalize fewB ta = x at *
  generalize fewB tb = y at *
  have H := Lib.hid h
  clear h hR hR'
  go_enter Try.func5, Try.ntmps5
  go_wp2_with fail
  refine F1.out.mono ?_
  rintro e w1 ⟨rfl, rfl⟩
  have H := H.out
  rcases H with rfl | ⟨rfl, rfl⟩
  · go_wp2_with fail
    refine (works_any _).mono ?_
    rintro e w1 ⟨rfl, hb⟩
    have HB := Lib.hid hb
    clear hb
    go_wp2_with fail
    go_ret
    exact .bool rfl HB.out
  · go_wp2_with fail
    refine F2.out.mono ?_
    rintro e w1 ⟨rfl, rfl⟩
    go_wp2_with fail
    refine (works_any _).mono ?_
    rintro e w1 ⟨rfl, hb⟩
    have HB := Lib.hid hb
    clear hb
    go_wp2_with fail
    go_ret
    exact .bool rfl HB.out
theorem law_both (A A' : Option Addr) (n c n' c' : Nat) (ta tb : List Th) (w : World) (hR : Ths w A n c ta) (hR' : Ths w A' n' c' tb) :
    Calls Try.prog 5 #[.slice A n c, .slice A' n' c'] w (Gives (.bool true) w) := by
  cases h : fewB ta with
  | false => exact law_both_no A A' n c n' c' ta tb w hR hR' (.inl h)
  | true =>
    cases h' : fewB tb with
    | false => exact law_both_no A A' n c n' c' ta tb w hR hR' (.inr ⟨h, h'⟩)
    | true => exact law_both_yes A A' n c n' c' ta tb w hR hR' h h'
end Go.Proofs.Ytnpiocbgbpnlmaa
