/- The walk of FieldsSpoilt. -/
import Derived.Test.YtnpiocbgbpnlmaaRows
import Derived.Test.YtnpiocbgbpnlmaaWords
import Derived.Test.YtnpiocbgbpnlmaaByts
import Derived.Test.YtnpiocbgbpnlmaaStrs
import Derived.Test.YtnpiocbgbpnlmaaFrame
import Derived.Test.YtnpiocbgbpnlmaaElems
import Derived.Test.YtnpiocbgbpnlmaaA1
import Derived.Test.YtnpiocbgbpnlmaaA4
import Derived.Test.YtnpiocbgbpnlmaaA5
import Derived.Test.YtnpiocbgbpnlmaaA8
import Derived.Test.YtnpiocbgbpnlmaaA9
import Derived.Test.YtnpiocbgbpnlmaaA10
import Derived.Test.YtnpiocbgbpnlmaaA11
namespace Go.Proofs.Ytnpiocbgbpnlmaa
open Go Go.Lib Go.RowKit Go.Proofs.Tail
set_option linter.unusedSimpArgs false
set_option linter.unusedVariables false
/-- make([]byte, n). -/
theorem own_makeB {P : Program} {w : World} {ops : Array Oper} {rest : List Oper} {o : Oper} {a : Act} {Q : Exit → Act → World → Prop}
    (hg : o.guard = none) (l c : Operand) (t e : TypeId) (hop : o.op = Op.makeSlice t l c) (ht : P.underlying t = some (.slice e)) (hinfo : (P.info? e).map (fun i => (i.zero, i.size, i.bytes)) = some (some (.int .u8 0), 1, 1))
    (base n : Nat) (kl kc : IntKind) (hl : a.eval l = .int kl (n : Int)) (hc : a.eval c = .int kc (n : Int)) (hn : 1 * n ≤ 281474976710656) (hb : base ≤ w.heap.size)
    (h : ∀ w', w'.ownsRow base e 1 (.slice (some ⟨w.heap.size, 0, Option.none⟩) n n) n (byV (List.replicate n 0)) → w.grownBy w' none → wpList P ops Q rest (a.put o.dst (.slice (some ⟨w.heap.size, 0, Option.none⟩) n n)) w') :
    wpList P ops Q (o :: rest) a w := by
  obtain ⟨i, hi, hz0, hz1, hz2⟩ := info_parts hinfo
  refine wpList_make_full w hg l c t hop base e i (.int .u8 0) 1 ht hi hz0 hz1 kl kc n n n hl hc rfl rfl (by rw [hz2]; exact hn) (by unfold maxLen; omega) hb fun w' h1 h2 => h w' ?_ h2
  have : (madeCells (Value.int .u8 0).cells (n * 1)).toList = byV (List.replicate n 0) := by
    apply List.ext_getElem
    · simp [byV, madeCells]
    · intro i h1 h2
      simp [byV, madeCells, Nat.mod_one, Value.cells]
  rwa [this] at h1
theorem nxt_spoilt (xs : List Int) (k : Int) : nxt xs true k = ([], [], true) := nxt_no (.inl rfl)
theorem Th.wide_le (x : Th) : x.wide ≤ 8 := by rcases x.cases with ⟨_, h⟩ | ⟨_, h⟩ | ⟨_, h⟩ | ⟨_, h⟩ | ⟨_, _, _, _, h⟩ <;> omega
theorem Th.read_nil (x : Th) : x.readL [] = List.replicate x.wide 0 := by
  unfold Th.readL
  split
  · rename_i h; rw [h]; rfl
  · rfl
theorem law_spoilt_no (A A' : Option Addr) (n c n' c' : Nat) (ts : List Th) (w : World) (hR : Ths w A n c ts) (h : 100 < n' ∨ n' ≤ 100 ∧ fewB ts = false) :
    Calls Try.prog 7 #[.slice A' n' c', .slice A n c] w (Gives (.bool true) w) := by
  have HF := Lib.hid (few_any A n c ts w hR)
  generalize fewB ts = b at HF h
  have H := Lib.hid h
  clear h hR
  go_enter Try.func7, Try.ntmps7
  have H := H.out
  rcases H with h | ⟨h, rfl⟩
  · have hd : decide (100 < (n' : Int)) = true := decide_eq_true (by omega)
    clear h
    go_wp2_with fail
    refine (works_any _).mono ?_
    rintro e w1 ⟨rfl, hb⟩
    have HB := Lib.hid hb
    clear hb
    go_wp2_with fail
    go_ret
    exact .bool rfl HB.out
  · have hd : decide (100 < (n' : Int)) = false := decide_eq_false (by omega)
    clear h
    go_wp2_with fail
    refine HF.out.mono ?_
    rintro e w1 ⟨rfl, rfl⟩
    go_wp2_with fail
    refine (works_any _).mono ?_
    rintro e w1 ⟨rfl, hb⟩
    have HB := Lib.hid hb
    clear hb
    go_wp2_with fail
    go_ret
    exact .bool rfl HB.out
set_option maxRecDepth 100000 in
set_option maxHeartbeats 16000000 in
theorem law_spoilt_yes (A A' : Option Addr) (n c n' c' : Nat) (ts : List Th) (raw : List Int) (w : World) (hR : Ths w A n c ts) (hX : Byts w A' n' c' raw) (hI : InB raw) (hf : fewB ts = true) (hn' : n' ≤ 100) :
    Calls Try.prog 7 #[.slice A' n' c', .slice A n c] w (Gives (.bool true) w) := by
  have HF := Lib.hid (few_any A n c ts w hR)
  rw [hf] at HF
  have HR := Lib.hid hR
  have HLN := Lib.hid hR.len
  have hbig := hR.big
  have HXL := Lib.hid hX.len
  have HO := Lib.hid (open_any A' n' c' raw w hX hI (by omega))
  have hd : decide (100 < (n' : Int)) = false := decide_eq_false (by omega)
  clear hR hf hX hI
  go_enter Try.func7, Try.ntmps7
  go_wp2_with fail
  refine HF.out.mono ?_
  rintro e w1 ⟨rfl, rfl⟩
  go_wp2_with fail
  refine HO.out.mono ?_
  rintro e w1 ⟨P, G, rfl, hR, hP, hG, hb⟩
  have HB := Lib.hid hb
  have HP := Lib.hid hP
  have HC := Lib.hid (rraw_any P G raw false ((n' : Int) + 1) w1 hR (by omega) (by rw [HXL.out]; omega))
  rw [nxt_no (xs := raw) (sp := false) (k := (n' : Int) + 1) (by rw [HXL.out]; omega)] at HC
  clear hR hP hG hb HO hd
  go_wp2_with fail
  refine HC.out.mono ?_
  rintro e w2 ⟨v, rfl, ho, hR, hF⟩
  obtain ⟨A2, c2, rfl, _⟩ := own_byts ho (by simp)
  have HRR := Lib.hid (show Rr w2 P G [] true from hR)
  have HB2 := Lib.hid (HB.out.trans (hF.below HB.out.size (fun k hk e => by have := HP.out; omega)))
  clear ho hR hF HC HB
  have C1 := Lib.hid (bad_any P G [] true w2 HRR.out)
  have C2 := Lib.hid (left_any P G [] true w2 HRR.out)
  go_wp2_with fail
  refine C1.out.mono ?_
  rintro e w3 ⟨rfl, rfl⟩
  go_wp2_with fail
  refine C2.out.mono ?_
  rintro e w3 ⟨rfl, rfl⟩
  clear C1 C2
  go_wp2_with fail
  go_loopw [6] (fun i wr => ∃ k : Nat, k ≤ n ∧ i = .int .i64 k ∧ Hid (Rr wr P G [] true) ∧ Hid (Below w.heap.size w wr)) (fun i _ => n - (intOf i).toNat)
  case atStart => exact ⟨0, Nat.zero_le _, rfl, HRR, HB2⟩
  case round =>
    clear HRR HB2
    obtain ⟨k, hk, rfl, HRR, HB⟩ := hrel
    by_cases hlt : k < n
    · obtain ⟨b, off, x, rfl, hx, hc⟩ := (HR.out.below RTh.stays HB.out).elem hlt
      have h0 := hc.c0
      have h1 := hc.c1
      have h2 := hc.c2
      have HOK := Lib.hid hc.ok
      have HX := Lib.hid hx
      clear hx hc
      have HC := Lib.hid (read_any x HOK.out P G [] true wr HRR.out (by simp))
      rw [nxt_spoilt, x.read_nil] at HC
      go_wp2_with fail
      refine HC.out.mono ?_
      rintro e w3 ⟨rfl, hR, hF⟩
      have HR3 := Lib.hid (show Rr w3 P G [] true from hR)
      have HB3 := Lib.hid (HB.out.trans (hF.below HB.out.size (fun k hk e => by have := HP.out; omega)))
      clear hR hF HC HB HRR h0 h1 h2
      obtain ⟨b', o', x', e', hx', hc'⟩ := (HR.out.below RTh.stays HB3.out).elem hlt
      injection e' with e'
      injection e' with e1 e2
      subst e1 e2
      have exx : x' = x := by have := HX.out; rw [hx'] at this; injection this
      subst exx
      have h0 := hc'.c0
      have h1 := hc'.c1
      have h2 := hc'.c2
      clear hx' hc'
      have HV := Lib.hid (wide_any x')
      have hwl := x'.wide_le
      generalize x'.wide = wd at *
      go_wp2_with fail
      refine (HV.out _).mono ?_
      rintro e w4 ⟨rfl, hb⟩
      have HR4 := Lib.hid (HR3.out.below hb)
      have HB4 := Lib.hid (HB3.out.trans (hb.mono HB3.out.size))
      clear hb h0 h1 h2 HR3 HB3
      go_wp2_with (at_make; (refine own_makeB rfl _ _ 23 5 rfl Try.underlying23 infoB w4.heap.size wd .i64 .i64 rfl rfl (by omega) (Nat.le_refl _) ?_); intro w5 hown hg; have HG5 := Lib.hid (below_grown (Below.refl w4.heap.size w4) hg (fun k hk => by cases hk)); obtain ⟨A5, c5, e5, hr5⟩ := own_bytes hown (by omega); cases e5; have hcv := run_convert_byts w5 23 5 Try.underlying23 Try.underlying5 hr5 9 Try.underlying9; clear hown hg hr5)
      have HR5 := Lib.hid (HR4.out.below HG5.out)
      have HB5 := Lib.hid (HB4.out.trans (HG5.out.mono HB4.out.size))
      clear HR4 HB4 HG5
      have C1 := Lib.hid (bad_any P G [] true w5 HR5.out)
      have C2 := Lib.hid (left_any P G [] true w5 HR5.out)
      refine C1.out.mono ?_
      rintro e w6 ⟨rfl, rfl⟩
      go_wp2_with fail
      refine C2.out.mono ?_
      rintro e w6 ⟨rfl, rfl⟩
      clear C1 C2 hcv
      go_wp2_with fail
      go_roundw
      case rel => exact ⟨k + 1, by omega, by go_num, HR5, HB5⟩
      case measure => simp [intOf]; omega
    · have hkn : k = n := by omega
      subst hkn
      have HC := Lib.hid (rraw_any P G [] true 0 wr HRR.out (by omega) (by simp))
      rw [nxt_spoilt] at HC
      go_wp2_with fail
      refine HC.out.mono ?_
      rintro e w3 ⟨v, rfl, ho, hR, hF⟩
      obtain ⟨A3, c3, rfl, _⟩ := own_byts ho (by simp)
      have HB3 := Lib.hid (HB.out.trans (hF.below HB.out.size (fun k hk e => by have := HP.out; omega)))
      clear ho hR hF HC HB HRR
      go_wp2_with fail
      refine (works_any _).mono ?_
      rintro e w8 ⟨rfl, hb⟩
      have HB8 := Lib.hid (HB3.out.trans (hb.mono HB3.out.size))
      clear hb
      go_wp2_with fail
      go_ret
      exact .bool rfl HB8.out
theorem law_spoilt (A A' : Option Addr) (n c n' c' : Nat) (ts : List Th) (raw : List Int) (w : World) (hR : Ths w A n c ts) (hX : Byts w A' n' c' raw) (hI : InB raw) :
    Calls Try.prog 7 #[.slice A' n' c', .slice A n c] w (Gives (.bool true) w) := by
  by_cases hn : n' ≤ 100
  · cases h : fewB ts with
    | false => exact law_spoilt_no A A' n c n' c' ts w hR (.inr ⟨hn, h⟩)
    | true => exact law_spoilt_yes A A' n c n' c' ts raw w hR hX hI h hn
  · exact law_spoilt_no A A' n c n' c' ts w hR (.inl (by omega))
end Go.Proofs.Ytnpiocbgbpnlmaa
