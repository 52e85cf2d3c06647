/- Rows of things; contracts of few, all, texts. -/
import Derived.Test.YtnpiocbgbpnlmaaRows
import Derived.Test.YtnpiocbgbpnlmaaWords
import Derived.Test.YtnpiocbgbpnlmaaByts
import Derived.Test.YtnpiocbgbpnlmaaStrs
import Derived.Test.YtnpiocbgbpnlmaaFrame
import Derived.Test.YtnpiocbgbpnlmaaA1
import Derived.Test.YtnpiocbgbpnlmaaA2
import Derived.Test.YtnpiocbgbpnlmaaA3
import Derived.Test.YtnpiocbgbpnlmaaA8
import Derived.Test.YtnpiocbgbpnlmaaA9
namespace Go.Proofs.Ytnpiocbgbpnlmaa
open Go Go.Lib Go.RowKit Go.Proofs.Tail
set_option linter.unusedSimpArgs false
set_option linter.unusedVariables false
/-- A thing that is read. -/
structure RTh (w : World) (b o : Nat) (x : Th) : Prop where
  c0 : w.cell? ⟨b, o, none⟩ = some (.int .i8 x.s)
  c1 : w.cell? ⟨b, o + 1, none⟩ = some (.int .u64 x.n)
  c2 : w.cell? ⟨b, o + 2, none⟩ = some (.string x.b)
  ok : x.ok
theorem RTh.stays : Stays RTh := fun _ _ _ _ _ hb h => ⟨below_cell hb h.c0, below_cell hb h.c1, below_cell hb h.c2, h.ok⟩
theorem RTh.fr {S : Nat → Prop} {w w' : World} {b o : Nat} {x : Th} (h : RTh w b o x) (hf : Fr S w w') (hn : ¬ S b) : RTh w' b o x := ⟨hf.cell h.c0 hn, hf.cell h.c1 hn, hf.cell h.c2 hn, h.ok⟩
abbrev Ths (w : World) (A : Option Addr) (n c : Nat) (ts : List Th) : Prop := Rd 3 RTh w A n c ts
theorem ths_low {B : Nat} {w w' : World} {A : Option Addr} {n c : Nat} {ts : List Th} (h : Ths w A n c ts) (hb : Below B w w') (hB : w.heap.size ≤ B) : Ths w' A n c ts :=
  h.below RTh.stays (hb.mono hB)
theorem ths_fr {S : Nat → Prop} {w w' : World} {A : Option Addr} {n c : Nat} {ts : List Th} (h : Ths w A n c ts) (hf : Fr S w w') (hn : ∀ a, A = some a → ¬ S a.block) : Ths w' A n c ts :=
  ⟨h.len, h.cap, h.big, fun hp => by
    obtain ⟨b, off, rfl, hc⟩ := h.at_ hp
    exact ⟨b, off, rfl, fun j x hj => (hc j x hj).fr hf (hn _ rfl)⟩⟩
/-- How many bytes things have that are bytes. -/
def sumB (ts : List Th) : Nat := (ts.map fun x => x.b.size).sum
def fewB (ts : List Th) : Bool := decide (ts.length ≤ 50 ∧ sumB ts ≤ 2000)
def txts (ts : List Th) : List Int := ts.flatMap Th.txt
theorem sumB_append (a b : List Th) : sumB (a ++ b) = sumB a + sumB b := by simp [sumB]
theorem sumB_part (ts : List Th) (k : Nat) : sumB ts = sumB (ts.take k) + sumB (ts.drop k) := by rw [← sumB_append, List.take_append_drop]
theorem sumB_take (ts : List Th) {k : Nat} {x : Th} (h : ts[k]? = some x) : sumB (ts.take (k + 1)) = sumB (ts.take k) + x.b.size := by
  have hk := (List.getElem?_eq_some_iff.1 h).1
  rw [sumB, List.take_succ_eq_append_getElem hk, List.map_append, List.sum_append, ← sumB]
  have : ts[k] = x := (List.getElem?_eq_some_iff.1 h).2
  rw [this]; simp
theorem txts_take (ts : List Th) {k : Nat} {x : Th} (h : ts[k]? = some x) : txts (ts.take (k + 1)) = txts (ts.take k) ++ x.txt := by
  have hk := (List.getElem?_eq_some_iff.1 h).1
  rw [txts, List.take_succ_eq_append_getElem hk, List.flatMap_append, ← txts]
  have : ts[k] = x := (List.getElem?_eq_some_iff.1 h).2
  rw [this]; simp
theorem sumB_le (ts : List Th) (h : ∀ x ∈ ts, x.ok) : sumB ts ≤ ts.length * 140737488351232 := by
  induction ts with
  | nil => simp [sumB]
  | cons x ts ih =>
    have h1 := (h x (List.mem_cons_self ..)).bb
    have h2 := ih fun y hy => h y (List.mem_cons_of_mem _ hy)
    have : sumB (x :: ts) = x.b.size + sumB ts := by simp [sumB]
    rw [this, List.length_cons]
    omega
theorem txts_len (ts : List Th) : (txts ts).length ≤ ts.length * 8 + sumB ts := by
  induction ts with
  | nil => simp [txts, sumB]
  | cons x ts ih =>
    have h1 : (txts (x :: ts)).length = x.txt.length + (txts ts).length := by simp [txts]
    have h2 : sumB (x :: ts) = x.b.size + sumB ts := by simp [sumB]
    have h3 : x.txt.length ≤ 8 + x.b.size := by
      rw [Th.txt_length]
      unfold Th.wants
      rcases x.cases with ⟨_, h⟩ | ⟨_, h⟩ | ⟨_, h⟩ | ⟨_, h⟩ | ⟨_, _, _, _, h⟩ <;> rw [h] <;> simp <;> omega
    rw [h1, h2, List.length_cons]
    omega
theorem txts_in (ts : List Th) : InB (txts ts) := by
  intro v hv
  simp only [txts, List.mem_flatMap] at hv
  obtain ⟨x, _, hx⟩ := hv
  exact x.txt_in v hx
theorem txts_append (a b : List Th) : txts (a ++ b) = txts a ++ txts b := by simp [txts]
theorem Ths.mem {w : World} {A : Option Addr} {n c : Nat} {ts : List Th} (h : Ths w A n c ts) : ∀ x ∈ ts, x.ok := by
  intro x hx
  obtain ⟨j, hj, rfl⟩ := List.getElem_of_mem hx
  obtain ⟨b, off, rfl, hc⟩ := h.at_ (by rw [← h.len]; omega)
  exact (hc j _ (List.getElem?_eq_getElem hj)).ok
set_option maxHeartbeats 4000000 in
theorem few_any (A : Option Addr) (n c : Nat) (ts : List Th) (w : World) (hR : Ths w A n c ts) : Calls Try.prog 9 #[.slice A n c] w (Tells (.bool (fewB ts)) w) := by
  have HR := Lib.hid hR
  have hl := hR.len
  have hbig := hR.big
  have HL := Lib.hid hl
  have HOKS := Lib.hid hR.mem
  clear hR hl
  go_enter Try.func9, Try.ntmps9
  go_wp2_with fail
  go_loop [3, 4] (fun s i => ∃ k : Nat, k ≤ n ∧ i = .int .i64 k ∧ ∃ m : Int, s = .int .i64 m ∧ (n ≤ 50 → m = (sumB (ts.take k) : Nat))) (fun _ i => n - (intOf i).toNat)
  case atStart => exact ⟨0, Nat.zero_le _, rfl, 0, rfl, fun _ => by simp [sumB]⟩
  case round =>
    obtain ⟨k, hk, rfl, m, rfl, hm⟩ := hrel
    have HM := Lib.hid hm
    clear hm
    by_cases hlt : k < n
    · obtain ⟨b, off, x, rfl, hx, hc⟩ := HR.out.elem hlt
      have h2 := hc.c2
      have HX := Lib.hid hx
      have HOK := Lib.hid hc.ok
      clear hx hc
      have hsz := HOK.out.bb
      go_wp2_with fail
      refine ⟨⟨k + 1, by omega, by go_num, _, rfl, fun h50 => ?_⟩, by simp [intOf]; omega⟩
      have e := HM.out h50
      have hle := sumB_le (ts.take k) (fun y hy => HOKS.out y (List.mem_of_mem_take hy))
      have hl2 : (ts.take k).length ≤ 50 := by rw [List.length_take, HL.out]; omega
      have hl3 : (ts.take k).length * 140737488351232 ≤ 50 * 140737488351232 := Nat.mul_le_mul_right _ hl2
      rw [sumB_take ts HX.out, e, IntWalk.wrap64_in _ ⟨by omega, by omega⟩]
      omega
    · have hkn : k = n := by omega
      subst hkn
      by_cases h50 : k ≤ 50
      · have e : m = (sumB ts : Nat) := by rw [HM.out h50, List.take_of_length_le (by rw [HL.out]; exact Nat.le_refl _)]
        have d1 : decide ((k : Int) ≤ 50) = true := decide_eq_true (by omega)
        have HE := Lib.hid e
        clear e
        go_wp2_with fail
        go_ret
        refine .bool ?_
        have e := HE.out
        have hl := HL.out
        unfold fewB
        show decide (m ≤ 2000) = _
        rw [Bool.eq_iff_iff, decide_eq_true_eq, decide_eq_true_eq]
        omega
      · have d1 : decide ((k : Int) ≤ 50) = false := decide_eq_false (by omega)
        go_wp2_with fail
        go_ret
        refine .bool ?_
        have hl := HL.out
        unfold fewB
        exact (decide_eq_false (by omega)).symm
theorem few_of {ts : List Th} (h : fewB ts = true) : ts.length ≤ 50 ∧ sumB ts ≤ 2000 := of_decide_eq_true h
/-- A Writer that is new, and has written. -/
def Made (xs : List Int) (w : World) (e : Ending) (w' : World) : Prop :=
  ∃ P v, e = .returned (.pointer (some ⟨P, 0, none⟩)) ∧ Wr w' P v xs ∧ w.heap.size ≤ P ∧ Below w.heap.size w w'
theorem txts_small {ts : List Th} {n : Nat} (hl : ts.length = n) (hf : n ≤ 100) (hs : sumB ts ≤ 4000) (k : Nat) : (txts (ts.take k)).length ≤ 5000 := by
  have h1 := txts_len (ts.take k)
  have h2 := sumB_part ts k
  have h3 : (ts.take k).length ≤ 100 := by rw [List.length_take, hl]; omega
  omega
set_option maxHeartbeats 4000000 in
theorem all_any (A : Option Addr) (n c : Nat) (ts : List Th) (w : World) (hR : Ths w A n c ts) (hf : n ≤ 100) (hs : sumB ts ≤ 4000) : Calls Try.prog 11 #[.slice A n c] w (Made (txts ts) w) := by
  have HR := Lib.hid (hR.below RTh.stays (below_new w (.cells #[.slice none 0 0] 61)))
  have HR0 := Lib.hid hR
  have HL := Lib.hid hR.len
  have HF := Lib.hid hf
  have hbig := hR.big
  have HS := Lib.hid hs
  have W0 := Lib.hid (Wr.new w _ rfl)
  have HB := Lib.hid (below_new w (.cells #[.slice none 0 0] 61))
  have HLS := Lib.hid (fun k => txts_small hR.len hf hs k)
  clear hR hf hs
  go_enter Try.func11, Try.ntmps11
  go_wp2_with fail
  go_loopw [4] (fun i wr => ∃ k : Nat, k ≤ n ∧ i = .int .i64 k ∧ Hid (∃ v, Wr wr w.heap.size v (txts (ts.take k)) ∧ ∀ k, v.ownBlock = some k → w.heap.size < k) ∧ Hid (Below w.heap.size w wr)) (fun i _ => n - (intOf i).toNat)
  case atStart => exact ⟨0, Nat.zero_le _, rfl, Lib.hid ⟨_, by simpa [txts] using W0.out, by simp [Value.ownBlock]⟩, HB⟩
  case round =>
    clear W0 HB
    obtain ⟨k, hk, rfl, HW, HB⟩ := hrel
    by_cases hlt : k < n
    · obtain ⟨v, hW, hv⟩ := HW.out
      obtain ⟨b, off, x, rfl, hx, hc⟩ := (HR0.out.below RTh.stays HB.out).elem hlt
      have h0 := hc.c0
      have h1 := hc.c1
      have h2 := hc.c2
      have HX := Lib.hid hx
      have HOK := Lib.hid hc.ok
      have HV := Lib.hid hv
      have hbs : x.b.size ≤ 4000 := by
        have e := sumB_take ts hx
        have : sumB (ts.take (k + 1)) ≤ sumB ts := by
          have := sumB_part ts (k + 1)
          omega
        have := HS.out
        omega
      have HC := Lib.hid (write_any x hc.ok w.heap.size v (txts (ts.take k)) wr hW (by have := HLS.out k; omega))
      clear hx hc hv hW HW hbs
      go_wp2_with fail
      refine HC.out.mono ?_
      rintro e w1 ⟨rfl, v', hW', hF, hat⟩
      have HW1 := Lib.hid (show ∃ v, Wr w1 w.heap.size v (txts (ts.take (k + 1))) ∧ ∀ k, v.ownBlock = some k → w.heap.size < k from ⟨v', by rw [txts_take ts HX.out]; exact hW', fun k hk => by have := own_lt hW'.own k hk; omega⟩)
      have HB1 := Lib.hid (HB.out.trans (hF.below HB.out.size (fun k hk hs => by
        rcases hs with rfl | hs
        · exact Nat.lt_irrefl _ hk
        · have := HV.out k hs; omega)))
      clear hW' hF hat HC HB h0 h1 h2
      go_wp2_with fail
      go_roundw
      case rel => exact ⟨k + 1, by omega, by go_num, HW1, HB1⟩
      case measure => simp [intOf]; omega
    · have hkn : k = n := by omega
      subst hkn
      go_wp2_with fail
      go_ret
      obtain ⟨v, hW, _⟩ := HW.out
      rw [List.take_of_length_le (by rw [HL.out]; exact Nat.le_refl _)] at hW
      exact ⟨_, v, rfl, hW, Nat.le_refl _, HB.out⟩
set_option maxHeartbeats 4000000 in
theorem texts_any (A : Option Addr) (n c : Nat) (ts : List Th) (w : World) (hR : Ths w A n c ts) (hf : n ≤ 100) (hs : sumB ts ≤ 4000) : Calls Try.prog 13 #[.slice A n c] w (Gives (.string (strOfNums (txts ts))) w) := by
  have HR := Lib.hid hR
  have HL := Lib.hid hR.len
  have hbig := hR.big
  have HLS := Lib.hid (fun k => txts_small hR.len hf hs k)
  clear hR hf hs
  go_enter Try.func13, Try.ntmps13
  go_wp2_with fail
  go_loopw [3, 4] (fun s i wr => ∃ k : Nat, k ≤ n ∧ i = .int .i64 k ∧ s = .string (strOfNums (txts (ts.take k))) ∧ Hid (Below w.heap.size w wr)) (fun _ i _ => n - (intOf i).toNat)
  case atStart => exact ⟨0, Nat.zero_le _, rfl, by simp [txts]; rfl, Lib.hid (Below.refl _ _)⟩
  case round =>
    obtain ⟨k, hk, rfl, rfl, HB⟩ := hrel
    by_cases hlt : k < n
    · obtain ⟨b, off, x, rfl, hx, hc⟩ := (HR.out.below RTh.stays HB.out).elem hlt
      have h0 := hc.c0
      have h1 := hc.c1
      have h2 := hc.c2
      have HX := Lib.hid hx
      have HC := Lib.hid (text_any x hc.ok wr)
      have hcat : (strOfNums (txts (ts.take k))).size + (strOfNums x.txt).size ≤ 9223372036854775807 := by
        have := HLS.out (k + 1)
        rw [txts_take ts hx, List.length_append] at this
        rw [strOfNums_size, strOfNums_size]
        omega
      have hcat' : (strOfNums (txts (ts.take k))).size + (strOfNums x.txt).size ≤ maxLen := hcat
      clear hx hc
      go_wp2_with fail
      refine HC.out.mono ?_
      rintro e w1 ⟨rfl, hb⟩
      have HB1 := Lib.hid (below_then HB.out hb)
      clear hb HC HB h0 h1 h2
      go_wp2_with fail
      go_roundw
      case rel => exact ⟨k + 1, by omega, by go_num, by rw [txts_take ts HX.out, str_append], HB1⟩
      case measure => simp [intOf]; omega
    · have hkn : k = n := by omega
      subst hkn
      go_wp2_with fail
      go_ret
      exact ⟨by rw [List.take_of_length_le (by rw [HL.out]; exact Nat.le_refl _)]; rfl, HB.out⟩
end Go.Proofs.Ytnpiocbgbpnlmaa
