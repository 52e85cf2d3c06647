/- Contract of the reference's Sorted. -/
import Derived.Test.YtainoghjelfnkaaRows
import Derived.Test.YtainoghjelfnkaaWords
import Derived.Test.YtainoghjelfnkaaByts
import Derived.Test.YtainoghjelfnkaaFrame
import Derived.Test.YtainoghjelfnkaaElems
import Derived.Test.YtainoghjelfnkaaV1
import Derived.Test.YtainoghjelfnkaaV2
import Derived.Test.YtainoghjelfnkaaV3
import Derived.Test.YtainoghjelfnkaaV4
namespace Go.Proofs.Ytainoghjelfnkaa
open Go Go.RowKit Go.Proofs.Tail Go.Sort
set_option linter.unusedSimpArgs false
set_option linter.unusedVariables false
theorem shift_row {acc : List Rc} {j : Nat} {y z : Rc} (h : acc[j]? = some y) : (acc.take (j + 1) ++ [z] ++ acc.drop (j + 1)).set (j + 1) y = acc.take j ++ [y] ++ acc.drop j := by
  have hj := (List.getElem?_eq_some_iff.1 h).1
  rw [List.append_assoc, List.set_append_right _ _ (by rw [List.length_take]; omega), List.length_take, Nat.min_eq_left (by omega), Nat.sub_self]
  rw [row_take h, List.drop_eq_getElem_cons (show j < acc.length from hj), (List.getElem?_eq_some_iff.1 h).2]
  simp
theorem place_row {acc : List Rc} {j : Nat} {x z : Rc} (hj : j ≤ acc.length) : (acc.take j ++ [z] ++ acc.drop j).set j x = acc.take j ++ [x] ++ acc.drop j := by
  rw [List.append_assoc, List.set_append_right _ _ (by rw [List.length_take]; omega), List.length_take, Nat.min_eq_left (by omega), Nat.sub_self]
  simp
theorem mid_get {acc : List Rc} {j : Nat} {z : Rc} (h : j ≤ acc.length) : (acc.take j ++ [z] ++ acc.drop j)[j]? = some z := by
  rw [List.append_assoc, List.getElem?_append_right (by rw [List.length_take]; omega), List.length_take, Nat.min_eq_left h, Nat.sub_self]
  rfl
theorem shift_get {acc : List Rc} {j : Nat} {y z : Rc} (h : acc[j]? = some y) : (acc.take (j + 1) ++ [z] ++ acc.drop (j + 1))[j]? = some y := by
  have hj := (List.getElem?_eq_some_iff.1 h).1
  rw [List.append_assoc, List.getElem?_append_left (by rw [List.length_take]; omega), List.getElem?_take, if_pos (by omega), h]
set_option maxRecDepth 100000 in
set_option maxHeartbeats 16000000 in
theorem refsorted_any (A : Option Addr) (n c : Nat) (xs : List Rc) (w : World) (hX : Recs w A n c xs) (hlim : n * 16 ≤ 140737488355328) :
    Calls Try.prog 14 #[.slice A n c] w (GivesRec (sortR xs) w) := by
  have HX := Lib.hid hX
  have HL := Lib.hid hX.len
  have hn64 : n * 16 ≤ 140737488355328 := hlim
  clear hX hlim
  have HC := Lib.hid refcmp_any
  have B0 := Lib.hid (Below.refl w.heap.size w)
  have O0 := Lib.hid (show w.ownsRow w.heap.size 32 2 (.slice none 0 0) 0 (recV (sortR (xs.take 0))) by rw [show sortR (xs.take 0) = [] by simp [sortR]]; exact World.ownsRow_nil _ _ _ _)
  go_enter Try.func14, Try.ntmps14
  go_wp2_with fail
  go_loopw [3, 4] (fun v i wr => ∃ k : Nat, k ≤ n ∧ i = .int .i64 k ∧ Hid (wr.ownsRow w.heap.size 32 2 v k (recV (sortR (xs.take k)))) ∧ Hid (Below w.heap.size w wr)) (fun _ i _ => n - (intOf i).toNat)
  case atStart => exact ⟨0, Nat.zero_le _, rfl, O0, B0⟩
  case round =>
    clear O0 B0
    obtain ⟨k, hk, rfl, HO, HB⟩ := hrel
    by_cases hlt : k < n
    · have hd : decide ((k : Int) < n) = true := decide_eq_true (by omega)
      have hd' : decide (k < n) = true := decide_eq_true (by omega)
      obtain ⟨b, off, x, rfl, hx, hc⟩ := (HX.out.below RRc.stays HB.out).elem hlt
      have HT := Lib.hid (row_take hx)
      have hacc : (sortR (xs.take k)).length = k := by rw [sortR_length, List.length_take, HL.out]; omega
      have HA := Lib.hid (show ∃ acc, acc = sortR (xs.take k) from ⟨_, rfl⟩)
      obtain ⟨acc, ha⟩ := HA.out
      rw [← ha] at HO hacc
      have HA := Lib.hid ha
      have HAL := Lib.hid hacc
      obtain ⟨A3, c3, ev, hr⟩ := own_recs HO.out (by omega)
      subst ev
      have H0 := Lib.hid (show ∀ j y, k ≤ j → acc[j]? = some y → 0 < cfR y x from fun j y hj hy => by have := (List.getElem?_eq_some_iff.1 hy).1; omega)
      have HXE := Lib.hid hx
      clear ha hacc hr hx hc
      go_wp2_with fail
      obtain ⟨wq, hq⟩ : ∃ q, q = wr := ⟨_, rfl⟩
      subst hq
      go_loopw [5] (fun i wr => ∃ p : Nat, p ≤ k ∧ i = .int .i64 p ∧ Hid (∀ j y, p ≤ j → acc[j]? = some y → 0 < cfR y x) ∧ Hid (wr.ownsRow w.heap.size 32 2 (.slice A3 k c3) k (recV acc)) ∧ Hid (Below w.heap.size w wr)) (fun i _ => (intOf i).toNat)
      case atStart => exact ⟨k, Nat.le_refl _, rfl, H0, HO, HB⟩
      case round =>
        clear H0 HO HB
        obtain ⟨p, hp, rfl, HH, HO, HB⟩ := hrel
        obtain ⟨bx, ox, x', ex, hx', hcx⟩ := (HX.out.below RRc.stays HB.out).elem hlt
        obtain rfl : x' = x := by have h1 := HXE.out; rw [hx'] at h1; exact Option.some.inj h1
        injection ex with ex
        injection ex with ex1 ex2
        subst ex1 ex2
        have x0 := fun q : After wr => cell_after hcx.c0 q
        have x1 := fun q : After wr => cell_after hcx.c1 q
        clear hx' hcx
        by_cases hgo : ∃ p' y, p = p' + 1 ∧ acc[p']? = some y ∧ 0 < cfR y x'
        · obtain ⟨p', y, rfl, hy, hcf⟩ := hgo
          obtain ⟨g, cap, eg, _⟩ := own_form HO.out (by omega)
          injection eg with eg1 _ eg3
          subst eg1 eg3
          obtain ⟨hc0, hc1, _, _⟩ := own_rcell HO.out hy
          have y0 := fun q : After wr => cell_after hc0 q
          have y1 := fun q : After wr => cell_after hc1 q
          have hd1 : decide ((0 : Int) < ((p' + 1 : Nat) : Int)) = true := decide_eq_true (by omega)
          have hz1 : ((p' + 1 : Nat) : Int) - 1 = (p' : Int) := by omega
          have hd2 : decide (0 < cfR y x') = true := decide_eq_true hcf
          have HH1 := Lib.hid (show ∀ j z, p' ≤ j → acc[j]? = some z → 0 < cfR z x' from fun j z hj hz => by
            rcases Nat.eq_or_lt_of_le hj with e | e
            · subst e; rw [hy] at hz; injection hz with hz; subst hz; exact hcf
            · exact HH.out j z e hz)
          clear hy hcf hc0 hc1
          go_wp2_with fail
          refine quiet_after (by kernel_rfl) (by kernel_rfl) ?_
          repeat (first | go_big_quiet_step ((go_at_call 20; with_reducible exact calls_after (HC.out _ _ _))) | quiet_step ((go_at_call 20; with_reducible exact calls_after (HC.out _ _ _))))
          refine wpQuiet_nil ?_
          intro wz hw'
          obtain ⟨q, rfl⟩ := hw'
          obtain ⟨w5, hbq⟩ := q
          dsimp only
          have HO5 := Lib.hid (own_below HO.out hbq)
          have HB5 := Lib.hid (HB.out.trans (hbq.mono HB.out.size))
          clear x0 x1 y0 y1 hd1 hd2 hbq HO HB HH
          go_wp2_with fail
          go_roundw
          case rel => exact ⟨p', by omega, rfl, HH1, HO5, HB5⟩
          case measure => simp [intOf]
        · have hex : p = 0 ∨ ∃ p' y, p = p' + 1 ∧ acc[p']? = some y ∧ ¬ 0 < cfR y x' := by
            rcases Nat.eq_zero_or_pos p with h | h
            · exact .inl h
            · have hl : p - 1 < acc.length := by rw [HAL.out]; omega
              exact .inr ⟨p - 1, acc[p - 1], by omega, List.getElem?_eq_getElem hl, fun h' => hgo ⟨p - 1, acc[p - 1], by omega, List.getElem?_eq_getElem hl, h'⟩⟩
          clear hgo
          have HLO := Lib.hid (show ∀ y, 0 < p → acc[p - 1]? = some y → ¬ 0 < cfR y x' from fun y h0 hy => by
            rcases hex with h | ⟨p', z, rfl, hz, hn⟩
            · omega
            · rw [show p' + 1 - 1 = p' by omega, hz] at hy; injection hy with hy; subst hy; exact hn)
          have HP := Lib.hid hp
          have HH2 := HH
          rcases hex with h | ⟨p', y, h, hy, hcf⟩
          all_goals (first
            | (have hd1 : decide ((0 : Int) < (p : Int)) = false := decide_eq_false (by rw [h]; decide)
               have hd1' : decide (0 < p) = false := decide_eq_false (by rw [h]; decide)
               clear h
               go_wp2_with fail
               refine quiet_after (by kernel_rfl) (by kernel_rfl) ?_
               repeat (first | go_big_quiet_step (fail) | quiet_step (fail))
               refine wpQuiet_nil ?_
               intro wz hw'
               obtain ⟨q, rfl⟩ := hw'
               obtain ⟨w5, hbq⟩ := q
               dsimp only
               skip)
            | (have hd1 : decide ((0 : Int) < (p : Int)) = true := decide_eq_true (by rw [h]; omega)
               have hd1' : decide (0 < p) = true := decide_eq_true (by rw [h]; omega)
               have hz1 : (p : Int) - 1 = (p' : Int) := by rw [h]; omega
               clear h
               obtain ⟨g, cap, eg, _⟩ := own_form HO.out (by omega)
               injection eg with eg1 _ eg3
               subst eg1 eg3
               obtain ⟨hc0, hc1, _, _⟩ := own_rcell HO.out hy
               have y0 := fun q : After wr => cell_after hc0 q
               have y1 := fun q : After wr => cell_after hc1 q
               have hd2 : decide (0 < cfR y x') = false := decide_eq_false hcf
               go_wp2_with fail
               refine quiet_after (by kernel_rfl) (by kernel_rfl) ?_
               repeat (first | go_big_quiet_step ((go_at_call 20; with_reducible exact calls_after (HC.out _ _ _))) | quiet_step ((go_at_call 20; with_reducible exact calls_after (HC.out _ _ _))))
               refine wpQuiet_nil ?_
               intro wz hw'
               obtain ⟨q, rfl⟩ := hw'
               obtain ⟨w5, hbq⟩ := q
               dsimp only
               skip))
          all_goals
            have c0 := x0 ⟨w5, hbq⟩
            have c1 := x1 ⟨w5, hbq⟩
            dsimp only at c0 c1
            have HO5 := Lib.hid (own_below HO.out hbq)
            have HB5 := Lib.hid (HB.out.trans (hbq.mono HB.out.size))
            have hle5 := HB5.out.size
            (try clear hd2 y0 y1)
            clear x0 x1 hbq HO HB HH hd1 hd1'
            (try clear hy hcf)
            (try clear hc0 hc1)
            go_wp2_with (at_builtin; (first | refine own_append_one (W := w5) rfl (.tmp 32) (.tmp 37) 22 32 (.agg #[.int .i64 0, .int .i64 0]) 2 16 rfl Try.underlying22 infoR rfl (by omega) (by omega) w.heap.size (.slice A3 k c3) k (recV acc) 1 [.int .i64 x'.1, .int .i64 x'.2] rfl rfl HO5.out rfl (by simp [Value.oneCell']) (by omega) hle5 ?_ | refine own_append_one (W := w5) rfl (.tmp 32) (.tmp 37) 22 32 (.agg #[.int .i64 0, .int .i64 0]) 2 16 rfl Try.underlying22 infoR rfl (by omega) (by omega) w.heap.size (.slice (some ⟨g, 0, none⟩) k c3) k (recV acc) 1 [.int .i64 x'.1, .int .i64 x'.2] rfl rfl HO5.out rfl (by simp [Value.oneCell']) (by omega) hle5 ?_); intro v1 w6 hown hgr hat; obtain ⟨g2, cap2, eg2, hg2, _⟩ := own_form hown (by omega); subst eg2)
            have HB6 := Lib.hid (HB5.out.grown hgr hle5 (fun b hb => own_lt HO5.out b hb))
            have HN := Lib.hid (show ∃ z, w6.ownsRow w.heap.size 32 2 (.slice (some ⟨g2, 0, none⟩) (k + 1) cap2) (k + 1) (recV (acc.take k ++ [z] ++ acc.drop k)) from ⟨x', by rw [List.take_of_length_le (by rw [HAL.out]; omega), List.drop_of_length_le (by rw [HAL.out]; omega), List.append_nil, recV_append]; exact hown⟩)
            have HG2 := Lib.hid hg2
            clear hown hgr hat hg2 HO5 HB5 hle5 c0 c1
            (try clear hz1)
            obtain ⟨wp, hq⟩ : ∃ q, q = wr := ⟨_, rfl⟩
            subst hq
            go_loopw [6] (fun i wr => ∃ j : Nat, j ≤ k ∧ p ≤ j ∧ i = .int .i64 j ∧ Hid (∃ z, wr.ownsRow w.heap.size 32 2 (.slice (some ⟨g2, 0, none⟩) (k + 1) cap2) (k + 1) (recV (acc.take j ++ [z] ++ acc.drop j))) ∧ Hid (Below w.heap.size w wr)) (fun i _ => (intOf i).toNat)
            case atStart => exact ⟨k, Nat.le_refl _, HP.out, rfl, HN, HB6⟩
            case round =>
              clear HN HB6
              obtain ⟨j, hj, hpj, rfl, HN, HB⟩ := hrel
              by_cases hgt : p < j
              · obtain ⟨j', rfl⟩ : ∃ j', j = j' + 1 := ⟨j - 1, by omega⟩
                obtain ⟨z, hz⟩ := HN.out
                have hjl : j' < acc.length := by rw [HAL.out]; omega
                have hget := List.getElem?_eq_getElem hjl
                generalize acc[j'] = y at hget
                obtain ⟨y0, y1, _, _⟩ := own_rcell hz (shift_get hget)
                obtain ⟨z0, z1, f0, f1⟩ := own_rcell hz (mid_get (j := j' + 1) (show j' + 1 ≤ acc.length by omega))
                have hst := Lib.hid (own_rset hz (j' + 1) y)
                rw [shift_row hget] at hst
                have hd2 : decide ((p : Int) < ((j' + 1 : Nat) : Int)) = true := decide_eq_true (by omega)
                have hd2' : decide ((p : Int) < (j' : Int) + 1) = true := decide_eq_true (by omega)
                have hz2 : ((j' + 1 : Nat) : Int) - 1 = (j' : Int) := by omega
                have HBS := Lib.hid (show ∀ u v, Below w.heap.size w ((wr.setCell ⟨g2, (j' + 1) * 2, none⟩ u).setCell ⟨g2, (j' + 1) * 2 + 1, none⟩ v) from fun u v => (HB.out.setCell (p := ⟨g2, (j' + 1) * 2, none⟩) HG2.out u).setCell (p := ⟨g2, (j' + 1) * 2 + 1, none⟩) HG2.out v)
                clear hz hget hjl HN HB
                go_wp2_with fail
                go_roundw
                case rel => exact ⟨j', by omega, by omega, rfl, Lib.hid ⟨_, hst.out⟩, Lib.hid (HBS.out _ _)⟩
                case measure => simp [intOf]
              · have hjp : j = p := by omega
                subst hjp
                obtain ⟨z, hz⟩ := HN.out
                obtain ⟨z0, z1, f0, f1⟩ := own_rcell hz (mid_get (j := j) (show j ≤ acc.length by rw [HAL.out]; exact hj))
                have hst := Lib.hid (own_rset hz j x')
                rw [place_row (by rw [HAL.out]; exact hj)] at hst
                obtain ⟨bx2, ox2, x2, ex, hx', hcx⟩ := (HX.out.below RRc.stays HB.out).elem hlt
                obtain rfl : x2 = x' := by have h1 := HXE.out; rw [hx'] at h1; exact Option.some.inj h1
                injection ex with ex
                injection ex with ex1 ex2
                subst ex1 ex2
                have c0 := hcx.c0
                have c1 := hcx.c1
                have hd2 : decide ((j : Int) < (j : Int)) = false := decide_eq_false (by omega)
                have HBS := Lib.hid (show ∀ u v, Below w.heap.size w ((wr.setCell ⟨g2, j * 2, none⟩ u).setCell ⟨g2, j * 2 + 1, none⟩ v) from fun u v => (HB.out.setCell (p := ⟨g2, j * 2, none⟩) HG2.out u).setCell (p := ⟨g2, j * 2 + 1, none⟩) HG2.out v)
                have hins := Lib.hid (sortR_insert HA.out (show j ≤ acc.length by rw [HAL.out]; exact hj) HH2.out (fun y h0 hy => Int.not_lt.2 (HLO.out y h0 hy)))
                clear hz HN HB hx' hcx
                go_wp2_with fail
                go_roundw
                case rel => exact ⟨k + 1, by omega, by go_num, Lib.hid (by rw [HT.out, ← hins.out]; exact hst.out), Lib.hid (HBS.out _ _)⟩
                case measure => simp [intOf]; omega
    · have hkn : k = n := by omega
      subst hkn
      have hd : decide ((k : Int) < k) = false := decide_eq_false (by omega)
      have HN := Lib.hid (show wr.ownsRow w.heap.size 32 2 u3 (sortR xs).length (recV (sortR xs)) by have := HO.out; rw [List.take_of_length_le (by rw [HL.out]; omega)] at this; rw [sortR_length, HL.out]; exact this)
      clear HO
      go_wp2_with fail
      go_ret
      exact ⟨_, rfl, HN.out, HB.out⟩
end Go.Proofs.Ytainoghjelfnkaa
