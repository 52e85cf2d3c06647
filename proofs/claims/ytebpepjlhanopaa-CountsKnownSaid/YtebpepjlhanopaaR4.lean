/- Contracts of the reference's Times, Frontier; of both Adds, whatever is added. -/
import Derived.Test.YtebpepjlhanopaaRows
import Derived.IntWalk
import Derived.Test.YtebpepjlhanopaaWords
import Derived.Test.YtebpepjlhanopaaByts
import Derived.Test.YtebpepjlhanopaaFrame
import Derived.Test.YtebpepjlhanopaaElems
import Derived.Test.YtebpepjlhanopaaMapOwn
import Derived.Test.YtebpepjlhanopaaS1
import Derived.Test.YtebpepjlhanopaaS2
import Derived.Test.YtebpepjlhanopaaEqs
import Derived.Test.YtebpepjlhanopaaU1
import Derived.Test.YtebpepjlhanopaaA1
import Derived.Test.YtebpepjlhanopaaA2
import Derived.Test.YtebpepjlhanopaaB5
import Derived.Test.YtebpepjlhanopaaM1
import Derived.Test.YtebpepjlhanopaaM2
import Derived.Test.YtebpepjlhanopaaM3
import Derived.Test.YtebpepjlhanopaaM4
import Derived.Test.YtebpepjlhanopaaM8
import Derived.Test.YtebpepjlhanopaaR0
import Derived.Test.YtebpepjlhanopaaR1
import Derived.Test.YtebpepjlhanopaaR2
import Derived.Test.YtebpepjlhanopaaR3
namespace Go.Proofs.Ytebpepjlhanopaa
open Go Go.RowKit Go.Proofs.Tail Go.Sort
set_option linter.unusedSimpArgs false
set_option linter.unusedVariables false
theorem refadd_any (d : Int) (A : Option Addr) (n c : Nat) (C : List (T × Int)) (t : T) (m : Int) (w : World) (hX : Cos w A n c C) (hC : Canon C) (hlim : n ≤ 1000000) (hc : -1099511627776 ≤ cnt C t ∧ cnt C t ≤ 1099511627776) :
    Calls Try.prog 17 #[.agg #[.int .i64 d, .slice A n c], .agg #[.int .i64 t.d, .int .i64 t.e, .int .i64 t.a, .int .i64 t.b, .int .i64 t.c], .int .i64 m] w (RAdds d C t m w) := by
  cases hr : t.rightB with
  | false => exact refadd_wrong d A n c C t m w hX hC hlim hr
  | true =>
    by_cases hd : t.d = d
    · cases hn : inB m with
      | false => exact refadd_much1 d A n c C t m w hX hC hlim hr hd hn
      | true =>
        cases hm : inB (cnt C t + m) with
        | false => exact refadd_much2 d A n c C t m w hX hC hlim hr hd hc hn hm
        | true =>
          by_cases hz : cnt C t + m = 0
          · cases hb : plB C t with
            | false => exact refadd_zero_no d A n c C t m w hX hC hlim hr hd hc hn hm hz hb
            | true => exact refadd_zero_is d A n c C t m w hX hC hlim hr hd hc hn hm hz hb
          · cases hb : plB C t with
            | false => exact refadd_some_no d A n c C t m w hX hC hlim hr hd hc hn hm hz hb
            | true => exact refadd_some_is d A n c C t m w hX hC hlim hr hd hc hn hm hz hb
    · exact refadd_deep d A n c C t m w hX hC hlim hr hd
theorem add_any (P b : Nat) (d : Int) (C : List (T × Int)) (t : T) (n : Int) (C' : List (T × Int)) (w : World) (hC : Cs w P b d C) (hc : -1099511627776 ≤ cnt C t ∧ cnt C t ≤ 1099511627776) (hA : addE d C t n = 0 → Added C t n C') :
    Calls Try.prog 11 #[.pointer (some ⟨P, 0, none⟩), .agg #[.int .i64 t.d, .int .i64 t.e, .int .i64 t.a, .int .i64 t.b, .int .i64 t.c], .int .i64 n] w (Adds P b d C t n C' w) := by
  cases hr : t.rightB with
  | false => exact add_wrong P b d C t n C' w hC hr
  | true =>
    by_cases hd : t.d = d
    · cases hn : inB n with
      | false => exact add_much1 P b d C t n C' w hC hr hd hn
      | true =>
        cases hm : inB (cnt C t + n) with
        | false => exact add_much2 P b d C t n C' w hC hr hd hc hn hm
        | true =>
          have hA' := hA (by unfold addE; simp [hr, hd, hn, hm])
          by_cases hz : cnt C t + n = 0
          · exact add_zero P b d C t n C' w hC hr hd hc hn hm hz hA'
          · exact add_some P b d C t n C' w hC hr hd hc hn hm hz hA'
    · exact add_deep P b d C t n C' w hC hr hd
theorem take_map {C : List (T × Int)} {k : Nat} {x : T × Int} (h : C[k]? = some x) : (C.take (k + 1)).map Prod.fst = (C.take k).map Prod.fst ++ [x.1] := by
  obtain ⟨hk, hx⟩ := List.getElem?_eq_some_iff.1 h
  rw [List.take_succ_eq_append_getElem hk, List.map_append, hx]
  rfl
set_option maxRecDepth 100000 in
set_option maxHeartbeats 8000000 in
theorem reftimes_any (d : Int) (A : Option Addr) (n c : Nat) (C : List (T × Int)) (w : World) (hX : Cos w A n c C) (hlim : n ≤ 1000000) :
    Calls Try.prog 19 #[.agg #[.int .i64 d, .slice A n c]] w (GivesTms (C.map Prod.fst) w) := by
  have hb1 := below_new w (.cells #[.int .i64 d, .slice A n c] 40)
  have B0 := Lib.hid hb1
  have S0 := Lib.hid (Blk.new w [.int .i64 d, .slice A n c] 40 _ rfl)
  have HX := Lib.hid hX
  have HL := Lib.hid hX.len
  have hbig := hX.big
  have O0 := Lib.hid (show (w.alloc (.cells #[.int .i64 d, .slice A n c] 40)).ownsRow (w.heap.size + 1) 28 5 (.slice none 0 0) 0 (recT ((C.take 0).map Prod.fst)) from World.ownsRow_nil _ _ _ _)
  clear hX hb1
  go_enter Try.func19, Try.ntmps19
  go_wp2_with fail
  go_loopw [3, 4] (fun v i wr => ∃ k : Nat, k ≤ n ∧ i = .int .i64 k ∧ Hid (wr.ownsRow (w.heap.size + 1) 28 5 v k (recT ((C.take k).map Prod.fst))) ∧ Hid (Below w.heap.size w wr) ∧ Hid (Blk wr w.heap.size [.int .i64 d, .slice A n c] 40)) (fun _ i _ => n - (intOf i).toNat)
  case atStart => exact ⟨0, Nat.zero_le _, rfl, O0, B0, S0⟩
  case round =>
    clear B0 S0 O0
    obtain ⟨k, hk, rfl, HO, HB, HS⟩ := hrel
    have s1 := HS.out.cell 1
    by_cases hlt : k < n
    · have hd : decide ((k : Int) < n) = true := decide_eq_true (by omega)
      have hd' : decide (k < n) = true := decide_eq_true (by omega)
      have hk0 : (0 : Int) ≤ k := by omega
      have hkn : (k : Int) < n := by omega
      obtain ⟨b, off, x, rfl, hx, hc⟩ := (HX.out.below RCo.stays HB.out).elem hlt
      obtain ⟨c0, c1, c2, c3, c4⟩ := hc.1
      have HTM := Lib.hid (take_map hx)
      have HSZ := Lib.hid (show w.heap.size + 1 ≤ wr.heap.size by have := HS.out.lt; omega)
      clear hx hc
      go_wp2_with (at_builtin; refine own_append_one (W := wr) rfl (.tmp 12) (.tmp 19) 33 28 (.agg #[.int .i64 0, .int .i64 0, .int .i64 0, .int .i64 0, .int .i64 0]) 5 40 rfl Try.underlying33 infoT rfl (by omega) (by omega) (w.heap.size + 1) _ k (recT ((C.take k).map Prod.fst)) 1 [.int .i64 x.1.d, .int .i64 x.1.e, .int .i64 x.1.a, .int .i64 x.1.b, .int .i64 x.1.c] rfl rfl HO.out rfl (by simp [Value.oneCell']) (by omega) HSZ.out ?_; intro v1 w1 hown hgr hat)
      have HB1 := Lib.hid (HB.out.grown hgr HB.out.size (fun j hj => by have := own_lt HO.out j hj; omega))
      have HS1 := Lib.hid (show Blk w1 w.heap.size [.int .i64 d, .slice (some ⟨b, off, none⟩) n c] 40 from ⟨(hgr.block _ HS.out.lt (fun e => by have := own_lt HO.out _ e.symm; omega)).trans HS.out.h⟩)
      have HO1 := Lib.hid (show w1.ownsRow (w.heap.size + 1) 28 5 v1 (k + 1) (recT ((C.take (k + 1)).map Prod.fst)) by rw [HTM.out, recT_append]; exact hown)
      clear hown hgr hat c0 c1 c2 c3 c4 s1 HO HB HS
      go_wp2_with fail
      go_roundw
      case rel => exact ⟨k + 1, by omega, by go_num, HO1, HB1, HS1⟩
      case measure => simp [intOf]; omega
    · have hkn : k = n := by omega
      subst hkn
      have hd : decide ((k : Int) < k) = false := decide_eq_false (by omega)
      have hd' : decide (k < k) = false := decide_eq_false (by omega)
      have HT := Lib.hid (show C.take k = C from List.take_of_length_le (by rw [HL.out]; exact Nat.le_refl _))
      go_wp2_with fail
      go_ret
      refine ⟨_, rfl, ?_, HB.out⟩
      have h9 := HO.out
      rw [HT.out] at h9
      rw [List.length_map, HL.out]
      exact own_base h9 (by omega)
theorem pos_step {C : List (T × Int)} {k : Nat} {x : T × Int} (h : C[k]? = some x) : posC (C.take (k + 1)) = posC (C.take k) ++ (if 0 < x.2 then [x.1] else []) := by
  obtain ⟨hk, hx⟩ := List.getElem?_eq_some_iff.1 h
  unfold posC
  rw [List.take_succ_eq_append_getElem hk, List.filter_append, List.map_append, hx]
  congr 1
  by_cases h : 0 < x.2 <;> simp [h]
theorem pos_len (C : List (T × Int)) (k : Nat) : (posC (C.take k)).length ≤ k := by
  unfold posC
  rw [List.length_map]
  refine Nat.le_trans (List.length_filter_le _ _) ?_
  rw [List.length_take]
  omega
set_option maxRecDepth 100000 in
set_option maxHeartbeats 8000000 in
theorem reffront_any (d : Int) (A : Option Addr) (n c : Nat) (C : List (T × Int)) (w : World) (hX : Cos w A n c C) (hlim : n ≤ 1000000) :
    Calls Try.prog 20 #[.agg #[.int .i64 d, .slice A n c]] w (GivesTms (frontC C) w) := by
  have hb1 := below_new w (.cells #[.int .i64 d, .slice A n c] 40)
  have B0 := Lib.hid hb1
  have S0 := Lib.hid (Blk.new w [.int .i64 d, .slice A n c] 40 _ rfl)
  have HX := Lib.hid hX
  have HL := Lib.hid hX.len
  have hbig := hX.big
  have O0 := Lib.hid (show (w.alloc (.cells #[.int .i64 d, .slice A n c] 40)).ownsRow (w.heap.size + 1) 28 5 (.slice none 0 0) (posC (C.take 0)).length (recT (posC (C.take 0))) from World.ownsRow_nil _ _ _ _)
  clear hX hb1
  go_enter Try.func20, Try.ntmps20
  go_wp2_with fail
  go_loopw [3, 4] (fun v i wr => ∃ k : Nat, k ≤ n ∧ i = .int .i64 k ∧ Hid (wr.ownsRow (w.heap.size + 1) 28 5 v (posC (C.take k)).length (recT (posC (C.take k)))) ∧ Hid (Below w.heap.size w wr) ∧ Hid (Blk wr w.heap.size [.int .i64 d, .slice A n c] 40)) (fun _ i _ => n - (intOf i).toNat)
  case atStart => exact ⟨0, Nat.zero_le _, rfl, O0, B0, S0⟩
  case round =>
    clear B0 S0 O0
    obtain ⟨k, hk, rfl, HO, HB, HS⟩ := hrel
    have s1 := HS.out.cell 1
    by_cases hlt : k < n
    · have hd : decide ((k : Int) < n) = true := decide_eq_true (by omega)
      have hd' : decide (k < n) = true := decide_eq_true (by omega)
      have hk0 : (0 : Int) ≤ k := by omega
      have hkn : (k : Int) < n := by omega
      obtain ⟨b, off, x, rfl, hx, hc⟩ := (HX.out.below RCo.stays HB.out).elem hlt
      obtain ⟨c0, c1, c2, c3, c4⟩ := hc.1
      have c5 := hc.2
      have HTM := Lib.hid (pos_step hx)
      have HPL := Lib.hid (pos_len C k)
      have HSZ := Lib.hid (show w.heap.size + 1 ≤ wr.heap.size by have := HS.out.lt; omega)
      clear hx hc
      by_cases hp : 0 < x.2
      · have HT2 := Lib.hid (show posC (C.take (k + 1)) = posC (C.take k) ++ [x.1] by rw [HTM.out, if_pos hp])
        have hpl := HPL.out
        go_wp2_with (at_builtin; refine own_append_one (W := wr) rfl (.tmp 21) (.tmp 28) 33 28 (.agg #[.int .i64 0, .int .i64 0, .int .i64 0, .int .i64 0, .int .i64 0]) 5 40 rfl Try.underlying33 infoT rfl (by omega) (by omega) (w.heap.size + 1) _ (posC (C.take k)).length (recT (posC (C.take k))) 1 [.int .i64 x.1.d, .int .i64 x.1.e, .int .i64 x.1.a, .int .i64 x.1.b, .int .i64 x.1.c] rfl rfl HO.out rfl (by simp [Value.oneCell']) (by omega) HSZ.out ?_; intro v1 w1 hown hgr hat)
        have HB1 := Lib.hid (HB.out.grown hgr HB.out.size (fun j hj => by have := own_lt HO.out j hj; omega))
        have HS1 := Lib.hid (show Blk w1 w.heap.size [.int .i64 d, .slice (some ⟨b, off, none⟩) n c] 40 from ⟨(hgr.block _ HS.out.lt (fun e => by have := own_lt HO.out _ e.symm; omega)).trans HS.out.h⟩)
        have HO1 := Lib.hid (show w1.ownsRow (w.heap.size + 1) 28 5 v1 (posC (C.take (k + 1))).length (recT (posC (C.take (k + 1)))) by rw [HT2.out, recT_append, List.length_append]; exact hown)
        clear hown hgr hat c0 c1 c2 c3 c4 c5 s1 HO HB HS hpl
        go_wp2_with fail
        go_roundw
        case rel => exact ⟨k + 1, by omega, by go_num, HO1, HB1, HS1⟩
        case measure => simp [intOf]; omega
      · have HO1 := Lib.hid (show wr.ownsRow (w.heap.size + 1) 28 5 _ (posC (C.take (k + 1))).length (recT (posC (C.take (k + 1)))) by rw [HTM.out, if_neg hp, List.append_nil]; exact HO.out)
        clear HO
        go_wp2_with fail
        go_roundw
        case rel => exact ⟨k + 1, by omega, by go_num, HO1, HB, HS⟩
        case measure => simp [intOf]; omega
    · have hkn : k = n := by omega
      subst hkn
      have hd : decide ((k : Int) < k) = false := decide_eq_false (by omega)
      have hd' : decide (k < k) = false := decide_eq_false (by omega)
      have HT := Lib.hid (show C.take k = C from List.take_of_length_le (by rw [HL.out]; exact Nat.le_refl _))
      have HPL := Lib.hid (show (posC C).length ≤ k by have := pos_len C k; rw [HT.out] at this; exact this)
      have h9 := HO.out
      rw [HT.out] at h9
      obtain ⟨A9, c9, rfl, hr9⟩ := own_tms h9 (by have := HPL.out; omega)
      have HOF := Lib.hid (refof_any A9 _ c9 (posC C) wr hr9 (by have := HPL.out; omega))
      clear h9 hr9 HO
      go_wp2_with fail
      refine HOF.out.mono ?_
      rintro e w3 ⟨v3, rfl, hrow3, hb3⟩
      have HO3 := Lib.hid hrow3
      have HB3 := Lib.hid (below_then HB.out hb3)
      have HSS := Lib.hid HB.out.size
      clear hrow3 hb3 HOF s1
      go_wp2_with fail
      go_ret
      exact ⟨_, rfl, own_base HO3.out HSS.out, HB3.out⟩
end Go.Proofs.Ytebpepjlhanopaa
