/- The walk of FieldsWritten. -/
import Derived.Test.YtnpiocbgbpnlmaaRows
import Derived.Test.YtnpiocbgbpnlmaaWords
import Derived.Test.YtnpiocbgbpnlmaaByts
import Derived.Test.YtnpiocbgbpnlmaaStrs
import Derived.Test.YtnpiocbgbpnlmaaFrame
import Derived.Test.YtnpiocbgbpnlmaaA1
import Derived.Test.YtnpiocbgbpnlmaaA2
import Derived.Test.YtnpiocbgbpnlmaaA3
import Derived.Test.YtnpiocbgbpnlmaaA8
import Derived.Test.YtnpiocbgbpnlmaaA9
import Derived.Test.YtnpiocbgbpnlmaaA10
import Derived.Test.YtnpiocbgbpnlmaaA11
namespace Go.Proofs.Ytnpiocbgbpnlmaa
open Go Go.Lib Go.RowKit Go.Proofs.Tail
set_option linter.unusedSimpArgs false
set_option linter.unusedVariables false
theorem ownB_cell {w : World} {base g n cap i : Nat} {e : TypeId} {ys : List Int} (h : w.ownsRow base e 1 (.slice (some ⟨g, 0, none⟩) n cap) n (byV ys)) (hi : i < n) :
    w.cell? ⟨g, i, none⟩ = some (.int .u8 (ys.getD i 0)) ∧ w.frozen? ⟨g, i, none⟩ = false := by
  have hl : ys.length = n := by have := h.1; simp [byV] at this; exact this
  constructor
  · have hc := h.cells (g := g) rfl i (.int .u8 (ys.getD i 0)) (by
      rw [byV, List.getElem?_map, List.getElem?_eq_getElem (by omega), List.getD_eq_getElem?_getD, List.getElem?_eq_getElem (by omega)]; rfl)
    rwa [add_plain] at hc
  · exact h.frozenAt i
theorem ownB_set {w : World} {base g n cap : Nat} {e : TypeId} {ys : List Int} (h : w.ownsRow base e 1 (.slice (some ⟨g, 0, none⟩) n cap) n (byV ys)) (i : Nat) (x : Int) :
    (w.setCell ⟨g, i, none⟩ (.int .u8 x)).ownsRow base e 1 (.slice (some ⟨g, 0, none⟩) n cap) n (byV (ys.set i x)) := by
  have hs := (h.stored i (.int .u8 x)).1
  rwa [show (byV ys).set i (.int .u8 x) = byV (ys.set i x) by simp [byV, List.map_set]] at hs
/-- A row of bytes whose bytes may have turned. -/
def Turned (B : Nat) (A : Option Addr) (n c : Nat) (w : World) : Prop := 0 < n → ∃ g ys, A = some ⟨g, 0, none⟩ ∧ B ≤ g ∧ w.ownsRow B 5 1 (.slice (some ⟨g, 0, none⟩) n c) n (byV ys)
theorem Turned.of {B : Nat} {A : Option Addr} {n c : Nat} {w : World} {ys : List Int} (h : w.ownsRow B 5 1 (.slice A n c) n (byV ys)) : Turned B A n c w := fun hp => by
  obtain ⟨g, cap, e, hg, _, _⟩ := own_form h hp
  cases e
  exact ⟨g, ys, rfl, hg, h⟩
theorem Turned.fr {S : Nat → Prop} {B : Nat} {A : Option Addr} {n c : Nat} {w w' : World} (h : Turned B A n c w) (hf : Fr S w w') (hn : ∀ a, A = some a → ¬ S a.block) : Turned B A n c w' := fun hp => by
  obtain ⟨g, ys, rfl, hg, ho⟩ := h hp
  exact ⟨g, ys, rfl, hg, own_fr ho hf (fun k hk => by cases hk; exact hn _ rfl)⟩
theorem law_written_no (A A' : Option Addr) (n c n' c' : Nat) (ts : List Th) (raw : List Int) (w : World) (hR : Ths w A n c ts) (h : fewB ts = false ∨ fewB ts = true ∧ 200 < n') :
    Calls Try.prog 3 #[.slice A n c, .slice A' n' c'] w (Gives (.bool true) w) := by
  have HF := Lib.hid (few_any A n c ts w hR)
  generalize fewB ts = b at HF h
  have H := Lib.hid h
  clear h hR
  go_enter Try.func3, Try.ntmps3
  go_wp2_with fail
  refine HF.out.mono ?_
  rintro e w1 ⟨rfl, rfl⟩
  have H := H.out
  rcases H with rfl | ⟨rfl, h⟩
  · go_wp2_with fail
    refine (works_any _).mono ?_
    rintro e w1 ⟨rfl, hb⟩
    have HB := Lib.hid hb
    clear hb
    go_wp2_with fail
    go_ret
    exact .bool rfl HB.out
  · have hd : decide (200 < (n' : Int)) = true := decide_eq_true (by omega)
    clear h
    go_wp2_with fail
    refine (works_any _).mono ?_
    rintro e w1 ⟨rfl, hb⟩
    have HB := Lib.hid hb
    clear hb
    go_wp2_with fail
    go_ret
    exact .bool rfl HB.out
set_option maxRecDepth 100000 in
set_option maxHeartbeats 16000000 in
theorem law_written_yes (A A' : Option Addr) (n c n' c' : Nat) (ts : List Th) (raw : List Int) (w : World) (hR : Ths w A n c ts) (hX : Byts w A' n' c' raw) (hf : fewB ts = true) (hn' : n' ≤ 200) :
    Calls Try.prog 3 #[.slice A n c, .slice A' n' c'] w (Gives (.bool true) w) := by
  have HF := Lib.hid (few_any A n c ts w hR)
  rw [hf] at HF
  obtain ⟨f1, f2⟩ := few_of hf
  have HR := Lib.hid hR
  have HX := Lib.hid hX
  have HXL := Lib.hid hX.len
  have HA := Lib.hid (all_any A n c ts w hR (by rw [← hR.len]; omega) (by omega))
  have HT := Lib.hid (fun w' (hb : Below w.heap.size w w') => texts_any A n c ts w' (hR.below RTh.stays hb) (by rw [← hR.len]; omega) (by omega))
  have HLT := Lib.hid (txts_small hR.len (by rw [← hR.len]; omega) (by omega) ts.length)
  have HLT := Lib.hid (show (txts ts).length ≤ 5000 by have := HLT.out; rwa [List.take_length] at this)
  have hd : decide (200 < (n' : Int)) = false := decide_eq_false (by omega)
  clear hR hf hX f1 f2
  generalize txts ts = xs at *
  go_enter Try.func3, Try.ntmps3
  go_wp2_with fail
  refine HF.out.mono ?_
  rintro e w1 ⟨rfl, rfl⟩
  go_wp2_with fail
  refine HA.out.mono ?_
  rintro e w1 ⟨P, v, rfl, hW, hP, hb⟩
  have HW := Lib.hid hW
  have HP := Lib.hid hP
  have HB := Lib.hid hb
  have HX1 := Lib.hid ((HX.out.below RByte.stays hb).below RByte.stays (below_new w1 (.cells #[] 5)))
  clear hW hP hb
  go_wp2_with (at_builtin; (refine own_append_bytes (W := w1.alloc (.cells #[] 5)) rfl (.tmp 22) (.tmp 23) 23 5 rfl Try.underlying23 infoB w1.heap.size (.slice (some ⟨w1.heap.size, 0, none⟩) 0 0) [] A' n' c' raw rfl rfl ⟨rfl, .inr ⟨_, _, #[], rfl, Nat.le_refl _, heap_alloc_new w1 _, Nat.le_refl _, by decide, by simp, by simp [byV]⟩⟩ HX1.out (by simp; omega) (by simp) ?_); intro v1 w2 hown hgr hat; have HO := Lib.hid (show w2.ownsRow w1.heap.size 5 1 v1 raw.length (byV raw) from hown); have HB2 := Lib.hid (below_grown (below_new w1 _) hgr (fun k hk => by simp [Value.ownBlock] at hk; omega)); clear hown hgr hat; obtain ⟨A2, c2, rfl, hr2⟩ := own_byts HO.out (by have := HXL.out; omega); have HXX := Lib.hid hr2; clear hr2)
  have hm : raw.length ≤ 200 := by rw [HXL.out]; exact hn'
  have HC := Lib.hid (raw_any P v xs raw A2 raw.length c2 w2 (HW.out.below HB2.out) HXX.out (by have := HLT.out; omega))
  refine HC.out.mono ?_
  rintro e w3 ⟨rfl, v3, hW3, hF3, hat3⟩
  have hvr : ∀ k, v.ownBlock = some k → P < k ∧ k < w1.heap.size := fun k hk => by have := HW.out.own.lt k hk; omega
  have hPlt := HW.out.lt
  have hP := HP.out
  have HB3 := Lib.hid (show Below w.heap.size w w3 from (HB.out.trans (HB2.out.mono HB.out.size)).trans (hF3.below (Nat.le_trans HB.out.size HB2.out.size) (fun k hk hs => by
    rcases hs with rfl | hs
    · omega
    · have := hvr k hs; omega)))
  have HN : Hid (∀ a, A2 = some a → a.block ≠ P ∧ v3.ownBlock ≠ some a.block ∧ w.heap.size ≤ a.block) := Lib.hid fun a ha => by
    subst ha
    have h1 := HO.out.lt a.block rfl
    refine ⟨by omega, fun e => ?_, by omega⟩
    rcases hat3 with q | ⟨b, q, hb⟩
    · rw [q] at e; have := hvr _ e; omega
    · rw [q] at e; injection e with e; omega
  have T3 := Lib.hid ((Turned.of HO.out).fr hF3 (fun a ha hs => by
    subst ha
    have h1 := HO.out.lt a.block rfl
    rcases hs with h | h
    · omega
    · have := hvr _ h; omega))
  have HN2 := Lib.hid (show w.heap.size ≤ P from hP)
  have W3 := Lib.hid hW3
  clear hW3 hF3 hat3 hvr hPlt hP HC HO HXX HX1 HW HB2 HB HP hd
  generalize hmm : raw.length = m at *
  have HMM := Lib.hid hmm
  clear hmm
  go_wp2_with fail
  go_loopw [7] (fun i wr => ∃ k : Nat, k ≤ m ∧ i = .int .i64 k ∧ Hid (Turned w1.heap.size A2 m c2 wr) ∧ Hid (Wr wr P v3 (xs ++ raw)) ∧ Hid (Below w.heap.size w wr)) (fun i _ => m - (intOf i).toNat)
  case atStart => exact ⟨0, Nat.zero_le _, rfl, T3, W3, HB3⟩
  case round =>
    clear T3 W3 HB3
    obtain ⟨k, hk, rfl, TT, HW, HB⟩ := hrel
    by_cases hlt : k < m
    · obtain ⟨g, ys, rfl, hg, ho⟩ := TT.out (by omega)
      obtain ⟨c0, f0⟩ := ownB_cell ho hlt
      have HO := Lib.hid ho
      have HG := Lib.hid hg
      clear ho hg TT
      go_wp2_with fail
      have ff : ∀ x, Fr (fun b => b = g) wr (wr.setCell ⟨g, k, none⟩ x) := fun x => (Fr.refl (fun b => b = g) wr).set (p := ⟨g, k, none⟩) (fun _ => rfl) _
      have hn := HN.out _ rfl
      dsimp only at hn
      go_roundw
      case rel => exact ⟨k + 1, by omega, by go_num, Lib.hid fun _ => ⟨g, _, rfl, HG.out, ownB_set HO.out k _⟩, Lib.hid (HW.out.fr (ff _) (fun e => hn.1 e.symm) (fun b hb e => hn.2.1 (e ▸ hb))), Lib.hid (HB.out.trans ((ff _).below HB.out.size (fun b hb e => by omega)))⟩
      case measure => simp [intOf]; omega
    · have hkm : k = m := by omega
      subst hkm
      go_wp2_with fail
      have q1 := fun p : After wr => HT.out p.val (HB.out.trans (p.below.mono HB.out.size))
      have HQ := Lib.hid q1
      have q2 := fun p : After wr => run_convert_byts p.val 23 5 Try.underlying23 Try.underlying5 (HX.out.below RByte.stays (HB.out.trans (p.below.mono HB.out.size))) 9 Try.underlying9
      have hcat : (strOfNums xs).size + (strOfNums raw).size ≤ 9223372036854775807 := by
        have := HLT.out
        rw [strOfNums_size, strOfNums_size, HMM.out]
        omega
      have hcat' : (strOfNums xs).size + (strOfNums raw).size ≤ maxLen := hcat
      clear q1
      refine quiet_after (by kernel_rfl) (by kernel_rfl) ?_
      repeat (first | go_big_quiet_step ((go_at_call 13; with_reducible exact calls_after (HQ.out _))) | quiet_step ((go_at_call 13; with_reducible exact calls_after (HQ.out _))))
      refine wpQuiet_nil ?_
      intro wz hw'
      obtain ⟨p, rfl⟩ := hw'
      obtain ⟨w5, hbq⟩ := p
      dsimp only
      have W5 := Lib.hid (HW.out.below hbq)
      have HB5 := Lib.hid (HB.out.trans (hbq.mono HB.out.size))
      clear q2 HQ hcat hcat' HW HB hbq TT
      have HL5 := Lib.hid (show (xs ++ raw).length ≤ 6000 by have := HLT.out; have := HMM.out; rw [List.length_append]; omega)
      have HC := Lib.hid (out_any P v3 (xs ++ raw) w5 W5.out (by have := HL5.out; omega))
      go_wp2_with fail
      refine HC.out.mono ?_
      rintro e w6 ⟨v6, rfl, ho, hb⟩
      obtain ⟨A6, c6, rfl, hr⟩ := own_byts ho (by have := HL5.out; omega)
      have hcv := run_convert_byts w6 23 5 Try.underlying23 Try.underlying5 hr 9 Try.underlying9
      rw [str_append] at hcv
      have W6 := Lib.hid (W5.out.below hb)
      have HB6 := Lib.hid (HB5.out.trans (hb.mono HB5.out.size))
      have T6 := Lib.hid (Turned.of ho)
      have HN6 : Hid (∀ a, A6 = some a → a.block ≠ P ∧ v3.ownBlock ≠ some a.block ∧ w.heap.size ≤ a.block) := Lib.hid fun a ha => by
        subst ha
        have h1 := ho.lt a.block rfl
        have h2 := W5.out.lt
        have h3 := HB5.out.size
        refine ⟨by omega, fun e => ?_, by omega⟩
        have := W5.out.own.lt _ e
        omega
      clear ho hb hr HC W5 HB5 HN
      generalize hml : (xs ++ raw).length = ml at *
      have HML := Lib.hid hml
      clear hml
      have hml6 : ml ≤ 6000 := HL5.out
      go_wp2_with fail
      clear hcv
      go_loopw [10] (fun i wr => ∃ k : Nat, k ≤ ml ∧ i = .int .i64 k ∧ Hid (Turned w5.heap.size A6 ml c6 wr) ∧ Hid (Wr wr P v3 (xs ++ raw)) ∧ Hid (Below w.heap.size w wr)) (fun i _ => ml - (intOf i).toNat)
      case atStart => exact ⟨0, Nat.zero_le _, rfl, T6, W6, HB6⟩
      case round =>
        clear T6 W6 HB6
        obtain ⟨k, hk, rfl, TT, HW, HB⟩ := hrel
        by_cases hlt : k < ml
        · obtain ⟨g, ys, rfl, hg, ho⟩ := TT.out (by omega)
          obtain ⟨c0, f0⟩ := ownB_cell ho hlt
          have HO := Lib.hid ho
          have HG := Lib.hid hg
          clear ho hg TT
          go_wp2_with fail
          have ff : ∀ x, Fr (fun b => b = g) wr (wr.setCell ⟨g, k, none⟩ x) := fun x => (Fr.refl (fun b => b = g) wr).set (p := ⟨g, k, none⟩) (fun _ => rfl) _
          have hn := HN6.out _ rfl
          dsimp only at hn
          go_roundw
          case rel => exact ⟨k + 1, by omega, by go_num, Lib.hid fun _ => ⟨g, _, rfl, HG.out, ownB_set HO.out k _⟩, Lib.hid (HW.out.fr (ff _) (fun e => hn.1 e.symm) (fun b hb e => hn.2.1 (e ▸ hb))), Lib.hid (HB.out.trans ((ff _).below HB.out.size (fun b hb e => by omega)))⟩
          case measure => simp [intOf]; omega
        · have hkm : k = ml := by omega
          subst hkm
          clear TT
          have HC := Lib.hid (out_any P v3 (xs ++ raw) wr HW.out (by have := HML.out; omega))
          go_wp2_with fail
          refine HC.out.mono ?_
          rintro e w7 ⟨v7, rfl, ho, hb⟩
          obtain ⟨A7, c7, rfl, hr⟩ := own_byts ho (by have := HML.out; omega)
          rw [List.length_append] at hr
          have hcv := run_convert_byts w7 23 5 Try.underlying23 Try.underlying5 hr 9 Try.underlying9
          rw [str_append] at hcv
          have HB7 := Lib.hid (HB.out.trans (hb.mono HB.out.size))
          clear ho hb hr HC HW HB
          go_wp2_with fail
          refine (works_any _).mono ?_
          rintro e w8 ⟨rfl, hb⟩
          have HB8 := Lib.hid (HB7.out.trans (hb.mono HB7.out.size))
          clear hb
          go_wp2_with fail
          go_ret
          exact .bool rfl HB8.out
theorem law_written (A A' : Option Addr) (n c n' c' : Nat) (ts : List Th) (raw : List Int) (w : World) (hR : Ths w A n c ts) (hX : Byts w A' n' c' raw) :
    Calls Try.prog 3 #[.slice A n c, .slice A' n' c'] w (Gives (.bool true) w) := by
  cases h : fewB ts with
  | false => exact law_written_no A A' n c n' c' ts raw w hR (.inl h)
  | true =>
    by_cases hn : n' ≤ 200
    · exact law_written_yes A A' n c n' c' ts raw w hR hX h hn
    · exact law_written_no A A' n c n' c' ts raw w hR (.inr ⟨h, by omega⟩)
end Go.Proofs.Ytnpiocbgbpnlmaa
