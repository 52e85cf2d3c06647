/- The walk of FieldsUnread. -/
import Derived.Test.YtnpiocbgbpnlmaaRows
import Derived.Test.YtnpiocbgbpnlmaaWords
import Derived.Test.YtnpiocbgbpnlmaaByts
import Derived.Test.YtnpiocbgbpnlmaaStrs
import Derived.Test.YtnpiocbgbpnlmaaFrame
import Derived.Test.YtnpiocbgbpnlmaaElems
import Derived.Test.YtnpiocbgbpnlmaaA1
import Derived.Test.YtnpiocbgbpnlmaaA2
import Derived.Test.YtnpiocbgbpnlmaaA3
import Derived.Test.YtnpiocbgbpnlmaaA4
import Derived.Test.YtnpiocbgbpnlmaaA5
import Derived.Test.YtnpiocbgbpnlmaaA6
import Derived.Test.YtnpiocbgbpnlmaaA7
import Derived.Test.YtnpiocbgbpnlmaaA8
import Derived.Test.YtnpiocbgbpnlmaaA9
import Derived.Test.YtnpiocbgbpnlmaaA10
import Derived.Test.YtnpiocbgbpnlmaaA11
import Derived.Test.YtnpiocbgbpnlmaaP1
import Derived.Deep.RegionWith
import Derived.Deep.RegionLaw
namespace Go.Proofs.Ytnpiocbgbpnlmaa
open Go Go.Lib Go.RowKit Go.Proofs.Tail
set_option linter.unusedSimpArgs false
set_option linter.unusedVariables false
theorem Rr.fr2 {S : Nat → Prop} {w w' : World} {P G : Nat} {xs : List Int} {sp : Bool} (h : Rr w P G xs sp) (hf : Fr S w w') (h1 : ¬ S P) (h2 : xs ≠ [] → ¬ S G) : Rr w' P G xs sp := by
  obtain ⟨A, n, c, hk, hr, hg⟩ := h.ex
  refine ⟨⟨A, n, c, hk.fr hf h1, ⟨hr.len, hr.cap, hr.big, fun hn => ?_⟩, hg⟩, h.ne, h.inb⟩
  obtain ⟨b, off, rfl, hc⟩ := hr.at_ hn
  have hbG : b = G := hg _ rfl
  have hx : xs ≠ [] := by intro e; have := hr.len; rw [e] at this; simp at this; omega
  exact ⟨b, off, rfl, fun j x hj => RByte.block (hf.block b (RByte.lt (hc j x hj)) (by rw [hbG]; exact h2 hx)) (hc j x hj)⟩
/-- Two Readers, apart. -/
structure TwoR (w wx : World) (P Q : Nat) (xs ys : List Int) : Prop where
  ex : ∃ G H, Rr wx P G xs false ∧ Rr wx Q H ys false ∧ P ≠ Q ∧ (ys ≠ [] → P ≠ H) ∧ (xs ≠ [] → Q ≠ G)
  hP : w.heap.size ≤ P
  hQ : w.heap.size ≤ Q
theorem TwoR.below {w wx wy : World} {P Q : Nat} {xs ys : List Int} (h : TwoR w wx P Q xs ys) (hb : Below wx.heap.size wx wy) : TwoR w wy P Q xs ys := by
  obtain ⟨⟨G, H, r1, r2, r⟩, h1, h2⟩ := h
  exact ⟨⟨G, H, r1.below hb, r2.below hb, r⟩, h1, h2⟩
theorem TwoR.of {w wx wy wz : World} {P Q G H : Nat} {xs ys : List Int} (r1 : Rr wx P G xs false) (hP : w.heap.size ≤ P) (hb1 : Below wx.heap.size wx wy) (hb : Below wy.heap.size wy wz) (r2 : Rr wz Q H ys false) (hQ : wy.heap.size ≤ Q) (hH : wy.heap.size ≤ H) (hs : w.heap.size ≤ wx.heap.size) : TwoR w wz P Q xs ys := by
  obtain ⟨_, _, _, hk, _⟩ := r1.ex
  have := hk.lt
  have := hb1.size
  exact ⟨⟨G, H, (r1.below hb1).below hb, r2, by omega, fun _ => by omega, fun hx => by have := r1.glt hx; omega⟩, hP, by omega⟩
set_option maxRecDepth 100000 in
set_option maxHeartbeats 32000000 in
theorem law_unread_yes (A A1 A2 : Option Addr) (n c n1 c1 n2 c2 : Nat) (ts : List Th) (one two : List Int) (w : World) (hR : Ths w A n c ts) (h1 : Byts w A1 n1 c1 one) (h2 : Byts w A2 n2 c2 two) (i1 : InB one) (i2 : InB two) (hf : fewB ts = true) (l1 : n1 ≤ 200) (l2 : n2 ≤ 200) :
    Calls Try.prog 6 #[.slice A n c, .slice A1 n1 c1, .slice A2 n2 c2] w (Gives (.bool true) w) := by
  have F1 := Lib.hid (few_any A n c ts w hR)
  rw [hf] at F1
  obtain ⟨f1, f2⟩ := few_of hf
  have hn : n ≤ 50 := by rw [← hR.len]; exact f1
  have HR := Lib.hid hR
  have HLL := Lib.hid hR.len
  have HSS := Lib.hid (show sumB ts ≤ 4000 by omega)
  have HX := Lib.hid (show (txts ts).length ≤ 5000 by have := txts_small hR.len (by omega) (by omega) ts.length; rwa [List.take_length] at this)
  have HA := Lib.hid (all_any A n c ts w hR (by omega) (by omega))
  have H1 := Lib.hid h1
  have H2 := Lib.hid h2
  have I1 := Lib.hid i1
  have I2 := Lib.hid i2
  have e1 := h1.len
  have e2 := h2.len
  have E1 := Lib.hid e1
  have E2 := Lib.hid e2
  have d1 : decide (200 < (n1 : Int)) = false := decide_eq_false (by omega)
  have d2 : decide (200 < (n2 : Int)) = false := decide_eq_false (by omega)
  clear hR h1 h2 i1 i2 hf f1 f2 e1 e2
  go_enter Try.func6, Try.ntmps6
  go_wp2_with fail
  refine F1.out.mono ?_
  rintro e w1 ⟨rfl, rfl⟩
  clear F1
  go_wp2_with fail
  refine HA.out.mono ?_
  rintro e w3 ⟨P3, v3, rfl, hW, hP, hb⟩
  have W3 := Lib.hid hW
  have B3 := Lib.hid hb
  clear hW hP hb HA
  have CV := Lib.hid (fun (w : World) A n c (xs : List Int) (hr : Byts w A n c xs) => run_convert_byts w 23 5 Try.underlying23 Try.underlying5 hr 9 Try.underlying9)
  have HC := Lib.hid (out_any P3 v3 (txts ts) w3 W3.out (by have := HX.out; omega))
  go_wp2_with fail
  refine HC.out.mono ?_
  rintro e w4 ⟨v4, rfl, ho, hb⟩
  obtain ⟨A4, c4, rfl, hr⟩ := own_byts ho (by have := HX.out; omega)
  have hcv := CV.out w4 A4 _ c4 (txts ts) hr
  have B4 := Lib.hid (B3.out.trans (hb.mono B3.out.size))
  clear ho hb hr HC W3 B3
  go_upto_region 4 with fail
  clear hcv
  have hcat1 : (strOfNums (txts ts)).size + (strOfNums one).size ≤ 9223372036854775807 := by
    rw [strOfNums_size, strOfNums_size]; have := HX.out; have := E1.out; omega
  have hcat2 : (strOfNums (txts ts)).size + (strOfNums two).size ≤ 9223372036854775807 := by
    rw [strOfNums_size, strOfNums_size]; have := HX.out; have := E2.out; omega
  have S1 := Lib.hid (show (strOfNums (txts ts) ++ strOfNums one).size ≤ 6000 by rw [← str_append, strOfNums_size, List.length_append]; have := HX.out; have := E1.out; omega)
  have S2 := Lib.hid (show (strOfNums (txts ts) ++ strOfNums two).size ≤ 6000 by rw [← str_append, strOfNums_size, List.length_append]; have := HX.out; have := E2.out; omega)
  have N1 := Lib.hid (show numsOf (strOfNums (txts ts) ++ strOfNums one) = txts ts ++ one by rw [← str_append]; exact nums_str (fun x hx => (List.mem_append.1 hx).elim (txts_in ts x) (I1.out x)))
  have N2 := Lib.hid (show numsOf (strOfNums (txts ts) ++ strOfNums two) = txts ts ++ two by rw [← str_append]; exact nums_str (fun x hx => (List.mem_append.1 hx).elim (txts_in ts x) (I2.out x)))
  go_cut [8, 9] (fun a b wx => ∃ P Q : Nat, a = .pointer (some ⟨P, 0, none⟩) ∧ b = .pointer (some ⟨Q, 0, none⟩) ∧ Hid (TwoR w wx P Q (txts ts ++ one) (txts ts ++ two)) ∧ Hid (Below w.heap.size w wx))
  case first =>
    have a1 := CV.out w4.drew A1 n1 c1 one (H1.out.below RByte.stays B4.out.drew)
    have b1 := CV.out w4.drew A2 n2 c2 two (H2.out.below RByte.stays B4.out.drew)
    generalize hs1 : strOfNums (txts ts) ++ strOfNums one = s1 at *
    generalize hs2 : strOfNums (txts ts) ++ strOfNums two = s2 at *
    have K1 := Lib.hid (fun W => conv_bytes W 5 s1 (by have := S1.out; unfold maxLen; omega))
    have K2 := Lib.hid (fun W => conv_bytes W 5 s2 (by have := S2.out; unfold maxLen; omega))
    have B4d := Lib.hid B4.out.drew
    have a2 := CV.out _ A1 n1 c1 one (H1.out.below RByte.stays (B4d.out.trans ((K2.out w4.drew).1.mono B4d.out.size)))
    have b2 := CV.out _ A2 n2 c2 two (H2.out.below RByte.stays (B4d.out.trans ((K1.out w4.drew).1.mono B4d.out.size)))
    have hs1' := Lib.hid hs1
    have hs2' := Lib.hid hs2
    have cs1 := fun W => Go.Lib.run_convert_string_bytes (P := Try.prog) W 9 23 5 s1 Try.underlying9 Try.underlying23 Try.underlying5
    have cs2 := fun W => Go.Lib.run_convert_string_bytes (P := Try.prog) W 9 23 5 s2 Try.underlying9 Try.underlying23 Try.underlying5
    have OP1 := Lib.hid (fun A n c W (hr : Byts W A n c (numsOf s1)) => open_any A n c (numsOf s1) W hr (numsOf_in s1) (by have := hr.len; have := numsOf_length s1; have := S1.out; omega))
    have OP2 := Lib.hid (fun A n c W (hr : Byts W A n c (numsOf s2)) => open_any A n c (numsOf s2) W hr (numsOf_in s2) (by have := hr.len; have := numsOf_length s2; have := S2.out; omega))
    have X1 := Lib.hid (show Byts (bytesWorld w4.drew 5 s1) (some ⟨w4.heap.size, 0, none⟩) s1.size (grownCap w4.drew s1.size 0 5) (numsOf s1) from (K1.out w4.drew).2)
    have X12 := Lib.hid (X1.out.below RByte.stays (K2.out (bytesWorld w4.drew 5 s1)).1)
    have X21 := Lib.hid (K1.out (bytesWorld w4.drew 5 s2)).2
    have Y12 := Lib.hid (K2.out (bytesWorld w4.drew 5 s1)).2
    have Y21 := Lib.hid ((show Byts (bytesWorld w4.drew 5 s2) (some ⟨w4.heap.size, 0, none⟩) s2.size (grownCap w4.drew s2.size 0 5) (numsOf s2) from (K2.out w4.drew).2).below RByte.stays (K1.out (bytesWorld w4.drew 5 s2)).1)
    have Z1 := Lib.hid (B4d.out.trans ((K1.out w4.drew).1.mono B4d.out.size))
    have Z2 := Lib.hid (B4d.out.trans ((K2.out w4.drew).1.mono B4d.out.size))
    have Z12 := Lib.hid (Z1.out.trans ((K2.out (bytesWorld w4.drew 5 s1)).1.mono Z1.out.size))
    have Z21 := Lib.hid (Z2.out.trans ((K1.out (bytesWorld w4.drew 5 s2)).1.mono Z2.out.size))
    clear B4
    go_region_with (first
      | (go_at_call 15
         with_reducible refine (OP1.out _ _ _ _ X1.out).mono ?_
         rintro e w5 ⟨P, G, rfl, hR, hP, hG, hb⟩
         have RP := Lib.hid (And.intro hR (Nat.le_trans Z1.out.size hP))
         have B5 := Lib.hid (Z1.out.trans (hb.mono Z1.out.size))
         have b3 := CV.out w5 A2 n2 c2 two (H2.out.below RByte.stays B5.out)
         clear hR hP hG hb)
      | (go_at_call 15
         with_reducible refine (OP1.out _ _ _ _ X12.out).mono ?_
         rintro e w5 ⟨P, G, rfl, hR, hP, hG, hb⟩
         have RP := Lib.hid (And.intro hR (Nat.le_trans Z12.out.size hP))
         have B5 := Lib.hid (Z12.out.trans (hb.mono Z12.out.size))
         have R2 := Lib.hid (Y12.out.below RByte.stays hb)
         clear hR hP hG hb)
      | (go_at_call 15
         with_reducible refine (OP1.out _ _ _ _ X21.out).mono ?_
         rintro e w5 ⟨P, G, rfl, hR, hP, hG, hb⟩
         have RP := Lib.hid (And.intro hR (Nat.le_trans Z21.out.size hP))
         have B5 := Lib.hid (Z21.out.trans (hb.mono Z21.out.size))
         have R2 := Lib.hid (Y21.out.below RByte.stays hb)
         clear hR hP hG hb)
      | (go_at_call 15
         with_reducible refine (OP2.out _ _ _ _ R2.out).mono ?_
         rintro e w6 ⟨Q, H, rfl, hR, hP, hG, hb⟩
         have RQ := Lib.hid (show Hid (TwoR w w6 P Q (numsOf s1) (numsOf s2)) ∧ Hid (Below w.heap.size w w6) from ⟨Lib.hid (TwoR.of RP.out.1 RP.out.2 (Below.refl _ _) hb hR hP hG B5.out.size), Lib.hid (B5.out.trans (hb.mono B5.out.size))⟩)
         clear hR hP hG hb)
      | (go_at_call 15
         with_reducible refine (OP2.out _ _ _ _ (K2.out w5).2).mono ?_
         rintro e w6 ⟨Q, H, rfl, hR, hP, hG, hb⟩
         have B6 := B5.out.trans ((K2.out w5).1.mono B5.out.size)
         have RQ := Lib.hid (show Hid (TwoR w w6 P Q (numsOf s1) (numsOf s2)) ∧ Hid (Below w.heap.size w w6) from ⟨Lib.hid (TwoR.of RP.out.1 RP.out.2 (K2.out w5).1 hb hR hP hG B5.out.size), Lib.hid (B6.trans (hb.mono B6.size))⟩)
         clear hR hP hG hb B6))
    all_goals
      go_wp2_with fail
      go_meet
      rw [N1.out, N2.out] at RQ
      exact ⟨P, Q, rfl, rfl, RQ.out.1, RQ.out.2⟩
  case rest =>
    obtain ⟨P, Q, rfl, rfl, TR, HB⟩ := hcut
    have R0 := Lib.hid (HR.out.below RTh.stays HB.out)
    have HPW := Lib.hid (And.intro TR.out.hP TR.out.hQ)
    have HNE : Hid (∀ a k, k < n → A = some a → a.block ≠ P ∧ a.block ≠ Q) := Lib.hid fun a k hk e => by
      obtain ⟨b', off', x, e', _, hc⟩ := HR.out.elem hk
      rw [e] at e'
      injection e' with e'
      have hb := World.block_lt_of_cell? w _ hc.c0
      have h1 := HPW.out.1
      have h2 := HPW.out.2
      rw [e']
      dsimp only at *
      omega
    have hd0 := Lib.hid (show TwoR w wc P Q (txts (ts.drop 0) ++ one) (txts (ts.drop 0) ++ two) by rw [List.drop_zero]; exact TR.out)
    have hbig : n ≤ 100 := by omega
    clear TR hcat1 hcat2 S1 S2 N1 N2 B4 d1 d2
    go_wp2_with fail
    go_loopw [10] (fun i wr => ∃ k : Nat, k ≤ n ∧ i = .int .i64 k ∧ Hid (TwoR w wr P Q (txts (ts.drop k) ++ one) (txts (ts.drop k) ++ two)) ∧ Hid (Ths wr A n c ts) ∧ Hid (Below w.heap.size w wr)) (fun i _ => n - (intOf i).toNat)
    case atStart => exact ⟨0, Nat.zero_le _, rfl, hd0, R0, HB⟩
    case round =>
      clear hd0 R0 HB
      obtain ⟨k, hk, rfl, TR, HT, HB⟩ := hrel
      obtain ⟨G, H, r1, r2, q1, q2, q3⟩ := TR.out.ex
      by_cases hlt : k < n
      · obtain ⟨b, off, x, rfl, hx, hc⟩ := HT.out.elem hlt
        have hne := HNE.out _ k hlt rfl
        have h0 := hc.c0
        have h1 := hc.c1
        have h2 := hc.c2
        have hdr := txts_drop hx
        have hle : (txts (ts.drop k)).length ≤ 1000000 := by
          have h3 := txts_len (ts.drop k)
          have h4 := sumB_part ts k
          have h5 := HSS.out
          have h6 := HLL.out
          have h7 : (ts.drop k).length ≤ 100 := by rw [List.length_drop]; omega
          omega
        have HC1 := Lib.hid (fun w' hW => read_any x hc.ok P G (txts (ts.drop k) ++ one) false w' hW (by rw [List.length_append, E1.out]; omega))
        have HC2 := Lib.hid (fun w' hW => read_any x hc.ok Q H (txts (ts.drop k) ++ two) false w' hW (by rw [List.length_append, E2.out]; omega))
        rw [hdr, List.append_assoc, nxt_txt, readL_txt] at HC1 HC2
        rw [hdr, List.append_assoc] at r1 r2 q2 q3
        have RP := Lib.hid r1
        have RQ := Lib.hid r2
        have QQ := Lib.hid (And.intro q1 (And.intro q2 q3))
        have HCE := Lib.hid hc
        have HNP := Lib.hid hne
        clear hx hc hdr hle hne r1 r2 q1 q2 q3 TR
        go_wp2_with fail
        go_region_with (first
          | (go_at_call 19
             first | with_reducible refine (HC1.out _ RP.out).mono ?_ | with_reducible refine (HC1.out _ (RP.out.below ((Below.refl _ _).drew))).mono ?_
             rintro e w3 ⟨rfl, hR, hF⟩
             have RP3 := Lib.hid hR
             have F3 := Lib.hid (show Fr (fun k => k = P) wr w3 from ((Fr.refl (fun k => k = P) wr).drew).trans hF (fun _ _ h => h))
             have g0 := F3.out.cell HCE.out.c0 HNP.out.1
             have g1 := F3.out.cell HCE.out.c1 HNP.out.1
             have g2 := F3.out.cell HCE.out.c2 HNP.out.1
             have RQ3 := Lib.hid (RQ.out.fr2 F3.out (fun e => QQ.out.1 e.symm) (fun h e => QQ.out.2.1 h e.symm))
             clear hR hF)
          | (go_at_call 19
             with_reducible refine (HC2.out _ RQ3.out).mono ?_
             rintro e w4 ⟨rfl, hR, hF⟩
             have RQ4 := Lib.hid hR
             have RP4 := Lib.hid hF
             clear hR hF))
        all_goals
          have F4 := Lib.hid (show Fr (fun k => k = P ∨ k = Q) wr w4 from (F3.out.mono (S' := fun k => k = P ∨ k = Q) (fun _ _ h => .inl h)).trans RP4.out (fun _ _ h => .inr h))
          have TR4 := Lib.hid (show TwoR w w4 P Q (txts (ts.drop (k + 1)) ++ one) (txts (ts.drop (k + 1)) ++ two) from
            ⟨⟨G, H, RP3.out.fr2 RP4.out (fun e => QQ.out.1 e) (fun h e => QQ.out.2.2 (by intro z; exact h (List.append_eq_nil_iff.1 z).2) e.symm), RQ4.out, QQ.out.1, fun h => QQ.out.2.1 (by intro z; exact h (List.append_eq_nil_iff.1 z).2), fun h => QQ.out.2.2 (by intro z; exact h (List.append_eq_nil_iff.1 z).2)⟩, HPW.out.1, HPW.out.2⟩)
          have HTH := Lib.hid (ths_fr HT.out F4.out (fun a ha => by cases ha; exact fun h => h.elim HNP.out.1 HNP.out.2))
          have HBB := Lib.hid (HB.out.trans (F4.out.below HB.out.size (fun k hk e => by have := HPW.out; rcases e with rfl | rfl <;> omega)))
          clear g0 g1 g2 h0 h1 h2
          go_wp2_with fail
          go_roundw
          case rel => exact ⟨k + 1, by omega, by go_num, TR4, HTH, HBB⟩
          case measure => simp [intOf]; omega
      · have hkm : k = n := by omega
        subst hkm
        have hz : txts (ts.drop k) = [] := by rw [List.drop_of_length_le (by have := HLL.out; omega)]; rfl
        rw [hz, List.nil_append] at r1 r2
        have C1 := left_any P G one false wr r1
        have C2 := left_any Q H two false wr r2
        rw [E1.out] at C1
        rw [E2.out] at C2
        have C1 := Lib.hid C1
        have C2 := Lib.hid C2
        have C3 := Lib.hid (bad_any P G one false wr r1)
        have C4 := Lib.hid (bad_any Q H two false wr r2)
        clear hz HT TR r1 r2 q1 q2 q3
        go_wp2_with fail
        refine C1.out.mono ?_
        rintro e w3 ⟨rfl, rfl⟩
        go_wp2_with fail
        refine C2.out.mono ?_
        rintro e w3 ⟨rfl, rfl⟩
        go_wp2_with fail
        refine C3.out.mono ?_
        rintro e w3 ⟨rfl, rfl⟩
        go_wp2_with fail
        refine C4.out.mono ?_
        rintro e w3 ⟨rfl, rfl⟩
        go_wp2_with fail
        refine (works_any _).mono ?_
        rintro e w8 ⟨rfl, hb⟩
        have HB8 := Lib.hid (HB.out.trans (hb.mono HB.out.size))
        clear hb
        go_wp2_with fail
        go_ret
        exact .bool rfl HB8.out
theorem law_unread_no (A A1 A2 : Option Addr) (n c n1 c1 n2 c2 : Nat) (ts : List Th) (w : World) (hR : Ths w A n c ts) (h : fewB ts = false ∨ fewB ts = true ∧ 200 < n1 ∨ fewB ts = true ∧ n1 ≤ 200 ∧ 200 < n2) :
    Calls Try.prog 6 #[.slice A n c, .slice A1 n1 c1, .slice A2 n2 c2] w (Gives (.bool true) w) := by
  have F1 := Lib.hid (few_any A n c ts w hR)
  generalize fewB ts = x at *
  have H := Lib.hid h
  clear h hR
  go_enter Try.func6, Try.ntmps6
  go_wp2_with fail
  refine F1.out.mono ?_
  rintro e w1 ⟨rfl, rfl⟩
  have H := H.out
  rcases H with rfl | ⟨rfl, h⟩ | ⟨rfl, h, h'⟩
  · go_wp2_with fail
    refine (works_any _).mono ?_
    rintro e w1 ⟨rfl, hb⟩
    have HB := Lib.hid hb
    clear hb
    go_wp2_with fail
    go_ret
    exact .bool rfl HB.out
  · have d1 : decide (200 < (n1 : Int)) = true := decide_eq_true (by omega)
    clear h
    go_wp2_with fail
    refine (works_any _).mono ?_
    rintro e w1 ⟨rfl, hb⟩
    have HB := Lib.hid hb
    clear hb
    go_wp2_with fail
    go_ret
    exact .bool rfl HB.out
  · have d1 : decide (200 < (n1 : Int)) = false := decide_eq_false (by omega)
    have d2 : decide (200 < (n2 : Int)) = true := decide_eq_true (by omega)
    clear h h'
    go_wp2_with fail
    refine (works_any _).mono ?_
    rintro e w1 ⟨rfl, hb⟩
    have HB := Lib.hid hb
    clear hb
    go_wp2_with fail
    go_ret
    exact .bool rfl HB.out
theorem law_unread (A A1 A2 : Option Addr) (n c n1 c1 n2 c2 : Nat) (ts : List Th) (one two : List Int) (w : World) (hR : Ths w A n c ts) (h1 : Byts w A1 n1 c1 one) (h2 : Byts w A2 n2 c2 two) (i1 : InB one) (i2 : InB two) :
    Calls Try.prog 6 #[.slice A n c, .slice A1 n1 c1, .slice A2 n2 c2] w (Gives (.bool true) w) := by
  cases h : fewB ts with
  | false => exact law_unread_no A A1 A2 n c n1 c1 n2 c2 ts w hR (.inl h)
  | true =>
    by_cases l1 : n1 ≤ 200
    · by_cases l2 : n2 ≤ 200
      · exact law_unread_yes A A1 A2 n c n1 c1 n2 c2 ts one two w hR h1 h2 i1 i2 h l1 l2
      · exact law_unread_no A A1 A2 n c n1 c1 n2 c2 ts w hR (.inr (.inr ⟨h, l1, by omega⟩))
    · exact law_unread_no A A1 A2 n c n1 c1 n2 c2 ts w hR (.inr (.inl ⟨h, by omega⟩))
end Go.Proofs.Ytnpiocbgbpnlmaa
