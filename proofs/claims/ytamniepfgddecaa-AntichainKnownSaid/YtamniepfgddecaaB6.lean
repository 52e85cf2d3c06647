/- Contracts of the reference's Both, Either. -/
import Derived.Test.YtamniepfgddecaaRows
import Derived.Deep.RegionHeld3
import Derived.Test.YtamniepfgddecaaWords
import Derived.Test.YtamniepfgddecaaByts
import Derived.Test.YtamniepfgddecaaFrame
import Derived.Test.YtamniepfgddecaaElems
import Derived.Test.YtamniepfgddecaaS1
import Derived.Test.YtamniepfgddecaaS2
import Derived.Test.YtamniepfgddecaaS4
import Derived.Test.YtamniepfgddecaaS5
import Derived.Test.YtamniepfgddecaaU1
import Derived.Test.YtamniepfgddecaaU2
import Derived.Test.YtamniepfgddecaaA1
import Derived.Test.YtamniepfgddecaaA2
import Derived.Test.YtamniepfgddecaaA3
import Derived.Test.YtamniepfgddecaaA4
import Derived.Test.YtamniepfgddecaaA5
import Derived.Test.YtamniepfgddecaaB1
import Derived.Test.YtamniepfgddecaaB2
import Derived.Test.YtamniepfgddecaaB5
namespace Go.Proofs.Ytamniepfgddecaa
open Go Go.RowKit Go.Proofs.Tail Go.Sort
set_option linter.unusedSimpArgs false
set_option linter.unusedVariables false
set_option maxRecDepth 100000 in
set_option maxHeartbeats 8000000 in
theorem refboth_any (A A' : Option Addr) (n c n' c' : Nat) (xs ys : List T) (w : World) (hX : Tms w A n c xs) (hY : Tms w A' n' c' ys) (l1 : n ≤ 1000) (l2 : n' ≤ 1000) :
    Calls Try.prog 21 #[.slice A n c, .slice A' n' c'] w (GivesOf (bothF xs ys) w) := by
  have HX := Lib.hid hX
  have HY := Lib.hid hY
  have LX := Lib.hid hX.len
  have LY := Lib.hid hY.len
  have C1 := Lib.hid (refalike_any A A' n c n' c' xs ys w hX hY (by omega) (by omega))
  clear hX hY
  go_enter Try.func21, Try.ntmps21
  go_wp2_with fail
  refine C1.out.mono ?_
  rintro e w1 ⟨rfl, hb⟩
  have HB1 := Lib.hid hb
  have HX1 := Lib.hid (HX.out.below At.stays hb)
  have HY1 := Lib.hid (HY.out.below At.stays hb)
  clear hb C1
  cases h1 : alikeF xs ys with
  | false =>
    have HQ := Lib.hid (show bothF xs ys = none by unfold bothF; rw [h1]; rfl)
    clear h1
    go_wp2_with fail
    go_ret2
    exact ⟨_, by rw [HQ.out]; rfl, by rw [HQ.out]; exact World.ownsRow_nil _ _ _ _, HB1.out⟩
  | true =>
    have HQ := Lib.hid (show bothF xs ys = ofT (xs ++ ys) by unfold bothF; rw [h1]; rfl)
    clear h1
    have N0 := Lib.hid (World.ownsRow_nil w1 w1.heap.size 32 5)
    go_wp2_with (at_builtin; first
      | (refine own_append_tms rfl (.tmp 11) (.tmp 12) 22 32 rfl Try.underlying22 infoT w1.heap.size (.slice none 0 0) [] A n c xs rfl rfl N0.out HX1.out (by simp; omega) (Nat.le_refl _) ?_
         intro v1 w2 hown hgr hat
         have HB2 := Lib.hid ((Below.refl w1.heap.size w1).grown hgr (Nat.le_refl _) (fun k hk => own_lt N0.out k hk))
         have HO2 := Lib.hid hown
         have HY2 := Lib.hid (HY1.out.below At.stays HB2.out)
         have HL2 := Lib.hid (show (([] : List T) ++ xs).length = n by rw [List.nil_append, LX.out])
         clear hown hgr hat HX1 N0)
      | (refine own_append_tms rfl (.tmp 14) (.tmp 15) 22 32 rfl Try.underlying22 infoT w1.heap.size v1 ([] ++ xs) A' n' c' ys rfl rfl HO2.out HY2.out (by rw [HL2.out]; omega) HB2.out.size ?_
         intro v2 w3 hown hgr hat
         have HB3 := Lib.hid (below_then HB1.out (HB2.out.grown hgr HB2.out.size (fun k hk => own_lt HO2.out k hk)))
         rw [List.nil_append] at hown
         obtain ⟨A2, c2, ev, hr⟩ := own_tms (n := n + n') (by rw [← LX.out, ← LY.out, ← List.length_append]; exact hown) (by omega)
         subst ev
         have C3 := Lib.hid (refof_any A2 (n + n') c2 (xs ++ ys) w3 hr (by omega))
         clear hown hgr hat HO2 HB2 HY2 hr HB1))
    go_wp2_with fail
    refine C3.out.mono ?_
    rintro e w4 ⟨v, rfl, ho, hb⟩
    have HO := Lib.hid (own_base (base' := w.heap.size) ho HB3.out.size)
    have HB4 := Lib.hid (below_then HB3.out hb)
    clear ho hb C3
    go_wp2_with fail
    go_ret2
    exact ⟨_, by rw [HQ.out]; rfl, by rw [HQ.out]; exact HO.out, HB4.out⟩
theorem keep10 {w W : World} {a0 a1 a2 a3 a4 a5 a6 a7 a8 a9 : Addr} {v0 v1 v2 v3 v4 v5 v6 v7 v8 v9 : Value} (h : Below w.heap.size w W) (c0 : w.cell? a0 = some v0) (c1 : w.cell? a1 = some v1) (c2 : w.cell? a2 = some v2) (c3 : w.cell? a3 = some v3) (c4 : w.cell? a4 = some v4) (c5 : w.cell? a5 = some v5) (c6 : w.cell? a6 = some v6) (c7 : w.cell? a7 = some v7) (c8 : w.cell? a8 = some v8) (c9 : w.cell? a9 = some v9) : W.cell? a0 = some v0 ∧ W.cell? a1 = some v1 ∧ W.cell? a2 = some v2 ∧ W.cell? a3 = some v3 ∧ W.cell? a4 = some v4 ∧ W.cell? a5 = some v5 ∧ W.cell? a6 = some v6 ∧ W.cell? a7 = some v7 ∧ W.cell? a8 = some v8 ∧ W.cell? a9 = some v9 := ⟨below_cell h c0, below_cell h c1, below_cell h c2, below_cell h c3, below_cell h c4, below_cell h c5, below_cell h c6, below_cell h c7, below_cell h c8, below_cell h c9⟩
theorem bx0c {w w5 : World} (h : Below (w.alloc (.cells #[.int .i64 0, .int .i64 0, .int .i64 0, .int .i64 0, .int .i64 0] 32)).drew.heap.size (w.alloc (.cells #[.int .i64 0, .int .i64 0, .int .i64 0, .int .i64 0, .int .i64 0] 32)).drew w5) : Bx w5 w.heap.size T0 := (Bx.mk (w := (w.alloc (.cells #[.int .i64 0, .int .i64 0, .int .i64 0, .int .i64 0, .int .i64 0] 32)).drew) (Bx.new w T0 _ rfl).h).below h
theorem bx0b {w w5 : World} (h : Below (w.alloc (.cells #[.int .i64 0, .int .i64 0, .int .i64 0, .int .i64 0, .int .i64 0] 32)).heap.size (w.alloc (.cells #[.int .i64 0, .int .i64 0, .int .i64 0, .int .i64 0, .int .i64 0] 32)) w5) : Bx w5 w.heap.size T0 := (Bx.new w T0 _ rfl).below h
set_option maxRecDepth 100000 in
set_option maxHeartbeats 16000000 in
theorem refeither_any (A A' : Option Addr) (n c n' c' : Nat) (xs ys : List T) (w : World) (hX : Tms w A n c xs) (hY : Tms w A' n' c' ys) (l1 : n ≤ 1000) (l2 : n' ≤ 1000) :
    Calls Try.prog 23 #[.slice A n c, .slice A' n' c'] w (GivesOf (eitherF xs ys) w) := by
  have HX := Lib.hid hX
  have HY := Lib.hid hY
  have LX := Lib.hid hX.len
  have LY := Lib.hid hY.len
  have C1 := Lib.hid (refalike_any A A' n c n' c' xs ys w hX hY (by omega) (by omega))
  have hnn : n * n' ≤ 1000000 := by have := Nat.mul_le_mul l1 l2; omega
  have HNN := Lib.hid hnn
  clear hX hY hnn
  go_enter Try.func23, Try.ntmps23
  go_wp2_with fail
  refine C1.out.mono ?_
  rintro e w1 ⟨rfl, hb⟩
  have HB1 := Lib.hid hb
  have HX1 := Lib.hid (HX.out.below At.stays hb)
  have HY1 := Lib.hid (HY.out.below At.stays hb)
  clear hb C1
  cases h1 : alikeF xs ys with
  | false =>
    have HQ := Lib.hid (show eitherF xs ys = none by unfold eitherF; rw [h1]; rfl)
    clear h1
    go_wp2_with fail
    go_ret2
    exact ⟨_, by rw [HQ.out]; rfl, by rw [HQ.out]; exact World.ownsRow_nil _ _ _ _, HB1.out⟩
  | true =>
    have HQ := Lib.hid (show eitherF xs ys = ofT (joins xs ys) by unfold eitherF; rw [h1]; rfl)
    clear h1
    have O0 := Lib.hid (show w1.ownsRow w1.heap.size 32 5 (.slice none 0 0) (joins (xs.take 0) ys).length (recT (joins (xs.take 0) ys)) from World.ownsRow_nil w1 w1.heap.size 32 5)
    have B0 := Lib.hid (Below.refl w1.heap.size w1)
    have HLEN := Lib.hid (show ∀ k, (joins (xs.take k) ys).length ≤ 1000000 from fun k => by
      rw [joins_length, List.length_take, LX.out, LY.out]
      exact Nat.le_trans (Nat.mul_le_mul_right _ (Nat.min_le_right _ _)) HNN.out)
    go_wp2_with fail
    go_loopw [6, 7] (fun v i wr => ∃ k : Nat, k ≤ n ∧ i = .int .i64 k ∧ Hid (wr.ownsRow w1.heap.size 32 5 v (joins (xs.take k) ys).length (recT (joins (xs.take k) ys))) ∧ Hid (Below w1.heap.size w1 wr)) (fun _ i _ => n - (intOf i).toNat)
    case atStart => exact ⟨0, Nat.zero_le _, rfl, O0, B0⟩
    case round =>
      clear O0 B0
      obtain ⟨k, hk, rfl, HO, HB⟩ := hrel
      by_cases hlt : k < n
      · have hd : decide ((k : Int) < n) = true := decide_eq_true (by omega)
        have hd' : decide (k < n) = true := decide_eq_true (by omega)
        obtain ⟨x, hx⟩ : ∃ x, xs[k]? = some x := ⟨_, List.getElem?_eq_getElem (by rw [LX.out]; omega)⟩
        have HXK := Lib.hid hx
        have HJ := Lib.hid (joins_take xs ys hx)
        clear hx
        generalize hJ : joins (xs.take k) ys = J at *
        have HJL := Lib.hid (show J.length + n' ≤ 1000000 by
          have := HLEN.out (k + 1)
          rw [HJ.out, List.length_append, List.length_map, LY.out] at this
          exact this)
        obtain ⟨wo, hwo⟩ : ∃ wo, wo = wr := ⟨_, rfl⟩
        subst hwo
        have O1 := Lib.hid (show wo.ownsRow w1.heap.size 32 5 u6 (J ++ (ys.take 0).map fun t => joinT x t).length (recT (J ++ (ys.take 0).map fun t => joinT x t)) by
          rw [List.take_zero, List.map_nil, List.append_nil]; exact HO.out)
        have B1 := HB
        clear HO HB hJ
        go_wp2_with fail
        go_loopw [6, 8] (fun v j wr => ∃ q : Nat, q ≤ n' ∧ j = .int .i64 q ∧ Hid (wr.ownsRow w1.heap.size 32 5 v (J ++ (ys.take q).map fun t => joinT x t).length (recT (J ++ (ys.take q).map fun t => joinT x t))) ∧ Hid (Below w1.heap.size w1 wr)) (fun _ j _ => n' - (intOf j).toNat)
        case atStart => exact ⟨0, Nat.zero_le _, rfl, O1, B1⟩
        case round =>
          clear O1 B1
          obtain ⟨q, hq, rfl, HO, HB⟩ := hrel
          by_cases hlt2 : q < n'
          · have hd2 : decide ((q : Int) < n') = true := decide_eq_true (by omega)
            have hd2' : decide (q < n') = true := decide_eq_true (by omega)
            obtain ⟨b, off, x', rfl, hx', hc⟩ := (HX1.out.below At.stays HB.out).elem hlt
            obtain rfl : x' = x := by have := HXK.out; rw [hx'] at this; injection this
            have c0 := hc.c0
            have c1 := hc.c1
            have c2 := hc.c2
            have c3' := hc.c3
            have c4 := hc.c4
            obtain ⟨b', off', y, rfl, hy, hd⟩ := (HY1.out.below At.stays HB.out).elem hlt2
            have d0 := hd.c0
            have d1 := hd.c1
            have d2 := hd.c2
            have d3 := hd.c3
            have d4 := hd.c4
            have HM := Lib.hid (map_take ys (fun t => joinT x' t) hy)
            have C2 := Lib.hid (fun W => refjoin_any x' y W)
            have hkn : (k : Int) < n := by omega
            have hqn : (q : Int) < n' := by omega
            clear hx' hc hy hd
            go_wp2_with fail
            go_region_held3 (fun w' => w'.cell? ⟨b, off + k * 5, none⟩ = some (.int .i64 x'.d) ∧ w'.cell? ⟨b, off + k * 5 + 1, none⟩ = some (.int .i64 x'.e) ∧ w'.cell? ⟨b, off + k * 5 + 2, none⟩ = some (.int .i64 x'.a) ∧ w'.cell? ⟨b, off + k * 5 + 3, none⟩ = some (.int .i64 x'.b) ∧ w'.cell? ⟨b, off + k * 5 + 4, none⟩ = some (.int .i64 x'.c) ∧ w'.cell? ⟨b', off' + q * 5, none⟩ = some (.int .i64 y.d) ∧ w'.cell? ⟨b', off' + q * 5 + 1, none⟩ = some (.int .i64 y.e) ∧ w'.cell? ⟨b', off' + q * 5 + 2, none⟩ = some (.int .i64 y.a) ∧ w'.cell? ⟨b', off' + q * 5 + 3, none⟩ = some (.int .i64 y.b) ∧ w'.cell? ⟨b', off' + q * 5 + 4, none⟩ = some (.int .i64 y.c))
              (first | ((with_reducible refine keep10 ?_ c0 c1 c2 c3' c4 d0 d1 d2 d3 d4); repeat (first | (with_reducible exact Below.refl _ _) | (with_reducible exact hb5) | (with_reducible refine below_alloc ?_ _) | (with_reducible refine below_drew ?_) | (with_reducible refine below_then ?_ hb5) | (with_reducible refine Below.setCell ?_ (by exact Nat.le_refl _) _))) | go_keep)
              (first | (go_at_call 42; (with_reducible refine (C2.out _).mono ?_); rintro e w5 ⟨rfl, hb5⟩; try ((first | (with_reducible have bq := bx0b hb5) | (with_reducible have bq := bx0c hb5)); have z0 : w5.cell? ⟨wr.heap.size, 0, none⟩ = some (.int .i64 0) := bq.cells.1; have z1 : w5.cell? ⟨wr.heap.size, 1, none⟩ = some (.int .i64 0) := bq.cells.2.1; have z2 : w5.cell? ⟨wr.heap.size, 2, none⟩ = some (.int .i64 0) := bq.cells.2.2.1; have z3 : w5.cell? ⟨wr.heap.size, 3, none⟩ = some (.int .i64 0) := bq.cells.2.2.2.1; have z4 : w5.cell? ⟨wr.heap.size, 4, none⟩ = some (.int .i64 0) := bq.cells.2.2.2.2; have fz := bq.frozen)))
            · have HBW := Lib.hid (show Below wr.heap.size wr (w5.alloc (.cells #[.int .i64 (joinT x' y).d, .int .i64 (joinT x' y).e, .int .i64 (joinT x' y).a, .int .i64 (joinT x' y).b, .int .i64 (joinT x' y).c] 32)) from below_then (by first | exact hb5 | exact below_then (below_drew (Below.refl _ _)) hb5) (below_new w5 _))
              have BXZ := Lib.hid (show Bx (w5.alloc (.cells #[.int .i64 (joinT x' y).d, .int .i64 (joinT x' y).e, .int .i64 (joinT x' y).a, .int .i64 (joinT x' y).b, .int .i64 (joinT x' y).c] 32)) w5.heap.size (joinT x' y) from Bx.new w5 _ _ rfl)
              obtain ⟨wn, hwn⟩ : ∃ wn, wn = w5.alloc (.cells #[.int .i64 (joinT x' y).d, .int .i64 (joinT x' y).e, .int .i64 (joinT x' y).a, .int .i64 (joinT x' y).b, .int .i64 (joinT x' y).c] 32) := ⟨_, rfl⟩
              rw [← hwn] at HBW BXZ ⊢
              clear hwn
              have HA := Lib.hid (below_new wn (.cells #[.int .i64 (joinT x' y).d, .int .i64 (joinT x' y).e, .int .i64 (joinT x' y).a, .int .i64 (joinT x' y).b, .int .i64 (joinT x' y).c] 32))
              have HO7 := Lib.hid (own_below (own_below HO.out HBW.out) HA.out)
              have HB7 := Lib.hid (below_then (below_then HB.out HBW.out) HA.out)
              have HT := Lib.hid (tms_new wn (joinT x' y) _ rfl)
              have HL7 := Lib.hid (show (J ++ (ys.take q).map fun t => joinT x' t).length + 1 ≤ 1000000 by
                have := HJL.out; rw [List.length_append, List.length_map, List.length_take, LY.out]; omega)
              obtain ⟨x0, x1, x2, x3, x4⟩ := BXZ.out.cells
              clear HO HB C2 c0 c1 c2 c3' c4 d0 d1 d2 d3 d4 hb5 BXZ
              go_wp2_with (at_builtin; refine own_append_tms rfl (.tmp 39) (.tmp 41) 22 32 rfl Try.underlying22 infoT w1.heap.size _ (J ++ (ys.take q).map fun t => joinT x' t) (some ⟨wn.heap.size, 0, none⟩) 1 1 [joinT x' y] rfl rfl HO7.out HT.out (by have := HL7.out; omega) HB7.out.size ?_; intro v1 w6 hown hgr hat)
              have HB8 := Lib.hid (HB7.out.grown hgr HB7.out.size (fun k hk => own_lt HO7.out k hk))
              have HN := Lib.hid (show w6.ownsRow w1.heap.size 32 5 v1 (J ++ (ys.take (q + 1)).map fun t => joinT x' t).length (recT (J ++ (ys.take (q + 1)).map fun t => joinT x' t)) by rw [HM.out, ← List.append_assoc]; exact hown)
              clear hown hgr hat HO7 HB7 HT HA HL7 HM x0 x1 x2 x3 x4
              go_roundw
              case rel => exact ⟨q + 1, by omega, by go_num, HN, HB8⟩
              case measure => simp [intOf]; omega
            · have HBW := Lib.hid (show Below wr.heap.size wr ((((((w5.setCell ⟨wr.heap.size, 0, none⟩ (.int .i64 (joinT x' y).d)).setCell ⟨wr.heap.size, 1, none⟩ (.int .i64 (joinT x' y).e)).setCell ⟨wr.heap.size, 2, none⟩ (.int .i64 (joinT x' y).a)).setCell ⟨wr.heap.size, 3, none⟩ (.int .i64 (joinT x' y).b)).setCell ⟨wr.heap.size, 4, none⟩ (.int .i64 (joinT x' y).c))) from by have hs := hb5.size; simp at hs; exact (Below.setCell (Below.setCell (Below.setCell (Below.setCell (Below.setCell (below_then (below_drew (below_alloc (Below.refl _ _) _)) hb5) (by exact Nat.le_refl _) _) (by exact Nat.le_refl _) _) (by exact Nat.le_refl _) _) (by exact Nat.le_refl _) _) (by exact Nat.le_refl _) _))
              have BXZ := Lib.hid (show Bx ((((((w5.setCell ⟨wr.heap.size, 0, none⟩ (.int .i64 (joinT x' y).d)).setCell ⟨wr.heap.size, 1, none⟩ (.int .i64 (joinT x' y).e)).setCell ⟨wr.heap.size, 2, none⟩ (.int .i64 (joinT x' y).a)).setCell ⟨wr.heap.size, 3, none⟩ (.int .i64 (joinT x' y).b)).setCell ⟨wr.heap.size, 4, none⟩ (.int .i64 (joinT x' y).c))) wr.heap.size (joinT x' y) from ⟨by have := (((((Blk.mk bq.h : Blk w5 wr.heap.size [.int .i64 0, .int .i64 0, .int .i64 0, .int .i64 0, .int .i64 0] 32).set 0 (.int .i64 (joinT x' y).d)).set 1 (.int .i64 (joinT x' y).e)).set 2 (.int .i64 (joinT x' y).a)).set 3 (.int .i64 (joinT x' y).b)).set 4 (.int .i64 (joinT x' y).c); exact this.h⟩)
              obtain ⟨wn, hwn⟩ : ∃ wn, wn = (((((w5.setCell ⟨wr.heap.size, 0, none⟩ (.int .i64 (joinT x' y).d)).setCell ⟨wr.heap.size, 1, none⟩ (.int .i64 (joinT x' y).e)).setCell ⟨wr.heap.size, 2, none⟩ (.int .i64 (joinT x' y).a)).setCell ⟨wr.heap.size, 3, none⟩ (.int .i64 (joinT x' y).b)).setCell ⟨wr.heap.size, 4, none⟩ (.int .i64 (joinT x' y).c)) := ⟨_, rfl⟩
              rw [← hwn] at HBW BXZ ⊢
              clear hwn
              have HA := Lib.hid (below_new wn (.cells #[.int .i64 (joinT x' y).d, .int .i64 (joinT x' y).e, .int .i64 (joinT x' y).a, .int .i64 (joinT x' y).b, .int .i64 (joinT x' y).c] 32))
              have HO7 := Lib.hid (own_below (own_below HO.out HBW.out) HA.out)
              have HB7 := Lib.hid (below_then (below_then HB.out HBW.out) HA.out)
              have HT := Lib.hid (tms_new wn (joinT x' y) _ rfl)
              have HL7 := Lib.hid (show (J ++ (ys.take q).map fun t => joinT x' t).length + 1 ≤ 1000000 by
                have := HJL.out; rw [List.length_append, List.length_map, List.length_take, LY.out]; omega)
              obtain ⟨x0, x1, x2, x3, x4⟩ := BXZ.out.cells
              clear HO HB C2 c0 c1 c2 c3' c4 d0 d1 d2 d3 d4 hb5 BXZ bq z0 z1 z2 z3 z4 fz
              go_wp2_with (at_builtin; refine own_append_tms rfl (.tmp 39) (.tmp 41) 22 32 rfl Try.underlying22 infoT w1.heap.size _ (J ++ (ys.take q).map fun t => joinT x' t) (some ⟨wn.heap.size, 0, none⟩) 1 1 [joinT x' y] rfl rfl HO7.out HT.out (by have := HL7.out; omega) HB7.out.size ?_; intro v1 w6 hown hgr hat)
              have HB8 := Lib.hid (HB7.out.grown hgr HB7.out.size (fun k hk => own_lt HO7.out k hk))
              have HN := Lib.hid (show w6.ownsRow w1.heap.size 32 5 v1 (J ++ (ys.take (q + 1)).map fun t => joinT x' t).length (recT (J ++ (ys.take (q + 1)).map fun t => joinT x' t)) by rw [HM.out, ← List.append_assoc]; exact hown)
              clear hown hgr hat HO7 HB7 HT HA HL7 HM x0 x1 x2 x3 x4
              go_roundw
              case rel => exact ⟨q + 1, by omega, by go_num, HN, HB8⟩
              case measure => simp [intOf]; omega
          · have hqn : q = n' := by omega
            subst hqn
            have hd2 : decide ((q : Int) < q) = false := decide_eq_false (by omega)
            have hd2' : decide (q < q) = false := decide_eq_false (by omega)
            have HN := Lib.hid (show ∀ v, wr.ownsRow w1.heap.size 32 5 v (J ++ (ys.take q).map fun t => joinT x t).length (recT (J ++ (ys.take q).map fun t => joinT x t)) → wr.ownsRow w1.heap.size 32 5 v (joins (xs.take (k + 1)) ys).length (recT (joins (xs.take (k + 1)) ys)) from fun v h => by
              rw [List.take_of_length_le (by rw [LY.out]; omega)] at h; rw [HJ.out]; exact h)
            have HO := Lib.hid (HN.out _ HO.out)
            clear HN
            go_wp2_with fail
            go_roundw
            case rel => exact ⟨k + 1, by omega, by go_num, HO, HB⟩
            case measure => simp [intOf]; omega
      · have hkn : k = n := by omega
        subst hkn
        have hd : decide ((k : Int) < k) = false := decide_eq_false (by omega)
        have hd' : decide (k < k) = false := decide_eq_false (by omega)
        rw [List.take_of_length_le (by rw [LX.out]; omega)] at HO
        have hjl := HLEN.out k
        rw [List.take_of_length_le (by rw [LX.out]; omega)] at hjl
        have HB9 := Lib.hid (below_then HB1.out HB.out)
        generalize joins xs ys = J at *
        generalize hjm : J.length = m at *
        obtain ⟨A2, c2, ev, hr⟩ := own_tms (n := m) HO.out (by omega)
        subst ev
        have C3 := Lib.hid (refof_any A2 m c2 J wr hr (by omega))
        clear hr HO HB
        go_wp2_with fail
        refine C3.out.mono ?_
        rintro e w3 ⟨v, rfl, ho, hb⟩
        have HO := Lib.hid (own_base (base' := w.heap.size) ho HB9.out.size)
        have HB3 := Lib.hid (below_then HB9.out hb)
        clear ho hb C3
        go_wp2_with fail
        go_ret2
        exact ⟨_, by rw [HQ.out]; rfl, by rw [HQ.out]; exact HO.out, HB3.out⟩
end Go.Proofs.Ytamniepfgddecaa
