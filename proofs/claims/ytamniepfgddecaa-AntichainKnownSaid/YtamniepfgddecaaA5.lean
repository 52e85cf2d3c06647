/- Contracts of antichain.Both, Either. -/
import Derived.Test.YtamniepfgddecaaRows
import Derived.Test.YtamniepfgddecaaWords
import Derived.Test.YtamniepfgddecaaByts
import Derived.Test.YtamniepfgddecaaFrame
import Derived.Test.YtamniepfgddecaaElems
import Derived.Test.YtamniepfgddecaaS1
import Derived.Test.YtamniepfgddecaaS2
import Derived.Test.YtamniepfgddecaaS4
import Derived.Test.YtamniepfgddecaaU1
import Derived.Test.YtamniepfgddecaaU2
import Derived.Test.YtamniepfgddecaaU3
import Derived.Test.YtamniepfgddecaaU4
import Derived.Test.YtamniepfgddecaaA1
import Derived.Test.YtamniepfgddecaaA2
import Derived.Test.YtamniepfgddecaaA3
import Derived.Test.YtamniepfgddecaaA4
namespace Go.Proofs.Ytamniepfgddecaa
open Go Go.RowKit Go.Proofs.Tail Go.Sort
set_option linter.unusedSimpArgs false
set_option linter.unusedVariables false
theorem row_blk {w : World} {B o : Nat} {cs : List Value} {t : TypeId} (h : Blk w B cs t) {A : Option Addr} {n c : Nat} {xs : List T} (hc : cs[o]? = some (.slice A n c)) (hr : Tms w A n c xs) : RRow w B o xs := ⟨A, n, c, (h.cell o).trans hc, hr⟩
theorem rows2 {W : World} {A A' : Option Addr} {n c n' c' : Nat} {xs ys : List T} (hX : Tms W A n c xs) (hY : Tms W A' n' c' ys) :
    Rows_ (W.alloc (.cells #[.slice A n c, .slice A' n' c'] 22)) (some ⟨W.heap.size, 0, none⟩) 2 2 [xs, ys] := by
  have D := Blk.new W [.slice A n c, .slice A' n' c'] 22 _ rfl
  have hb := below_new W (.cells #[.slice A n c, .slice A' n' c'] 22)
  refine ⟨rfl, Nat.le_refl _, by omega, fun _ => ⟨_, _, rfl, fun j x hj => ?_⟩⟩
  match j, hj with
  | 0, hj => obtain rfl : xs = x := by simpa using hj
             exact row_blk D rfl (hX.below At.stays hb)
  | 1, hj => obtain rfl : ys = x := by simpa using hj
             exact row_blk D rfl (hY.below At.stays hb)
  | j + 2, hj => simp at hj
theorem Bx.by_row {w w' : World} {B : Nat} {t : T} {row : Option Nat} (h : Bx w B t) (hg : w.grownBy w' row) (hr : row ≠ some B) : Bx w' B t := ⟨(hg.block B h.lt (fun e => hr e.symm)).trans h.h⟩
def bothF (xs ys : List T) : Option (List T) := if alikeF xs ys then ofT (xs ++ ys) else none
def joins (xs ys : List T) : List T := xs.flatMap fun s => ys.map fun t => joinT s t
def eitherF (xs ys : List T) : Option (List T) := if alikeF xs ys then ofT (joins xs ys) else none
theorem own_block_lt {w : World} {base k n : Nat} {e : TypeId} {v : Value} {cs : List Value} (h : w.ownsRow base e k v n cs) (j : Nat) (hj : v.ownBlock = some j) : j < w.heap.size := by
  rcases h.2 with ⟨rfl, _⟩ | ⟨g, cap, cur, rfl, _, hh, _⟩
  · cases hj
  · cases hj; exact lt_block hh
set_option maxHeartbeats 8000000 in
theorem both_any (A A' : Option Addr) (n c n' c' : Nat) (xs ys : List T) (w : World) (hX : Tms w A n c xs) (hY : Tms w A' n' c' ys) (l1 : n ≤ 1000) (l2 : n' ≤ 1000) :
    Calls Try.prog 20 #[.slice A n c, .slice A' n' c'] w (GivesOf (bothF xs ys) w) := by
  have HX := Lib.hid hX
  have HY := Lib.hid hY
  have hll : (xs ++ ys).length = n + n' := by rw [List.length_append, hX.len, hY.len]
  have HLL := Lib.hid hll
  have C1 := Lib.hid (alike_any' A A' n c n' c' xs ys w hX hY (by omega) (by omega))
  clear hX hY hll
  go_enter Try.func20, Try.ntmps20
  go_wp2_with fail
  refine C1.out.mono ?_
  rintro e w1 ⟨rfl, hb⟩
  have HB1 := Lib.hid hb
  have HX1 := Lib.hid (HX.out.below At.stays hb)
  have HY1 := Lib.hid (HY.out.below At.stays hb)
  clear hb C1
  cases h1 : alikeF xs ys with
  | false =>
    have HQ := Lib.hid (show bothF xs ys = none by unfold bothF; rw [h1]; rfl)
    clear h1
    go_wp2_with fail
    go_ret2
    exact ⟨_, by rw [HQ.out]; rfl, by rw [HQ.out]; exact World.ownsRow_nil _ _ _ _, HB1.out⟩
  | true =>
    have HQ := Lib.hid (show bothF xs ys = ofT (xs ++ ys) by unfold bothF; rw [h1]; rfl)
    clear h1
    have C2 := concat_any _ 2 2 [xs, ys] _ (rows2 HX1.out HY1.out) (by simp [HX.out.len, HY.out.len]; omega)
    rw [show [xs, ys].flatten = xs ++ ys by simp] at C2
    have C2 := Lib.hid C2
    generalize xs ++ ys = zs at *
    go_wp2_with fail
    refine C2.out.mono ?_
    rintro e w2 ⟨v, rfl, ho, hb⟩
    obtain ⟨A2, c2, ev, hr⟩ := own_tms (n := n + n') (by rw [← HLL.out]; exact ho) (by omega)
    subst ev
    have HB2 := Lib.hid (below_then HB1.out (below_then (below_new w1 _) hb))
    have C3 := Lib.hid (of_any A2 (n + n') c2 zs w2 hr (by omega))
    clear ho hb hr C2 HB1 HX1 HY1
    go_wp2_with fail
    refine C3.out.mono ?_
    rintro e w3 ⟨v, rfl, ho, hb⟩
    have HO := Lib.hid (own_base (base' := w.heap.size) ho HB2.out.size)
    have HB3 := Lib.hid (below_then HB2.out hb)
    clear ho hb C3 HB2
    go_wp2_with fail
    go_ret2
    exact ⟨_, by rw [HQ.out]; rfl, by rw [HQ.out]; exact HO.out, HB3.out⟩
theorem joins_take (xs ys : List T) {k : Nat} {x : T} (h : xs[k]? = some x) : joins (xs.take (k + 1)) ys = joins (xs.take k) ys ++ ys.map fun t => joinT x t := by
  unfold joins
  rw [List.take_add_one, h]
  simp
theorem joins_length (xs ys : List T) : (joins xs ys).length = xs.length * ys.length := by
  induction xs with
  | nil => simp [joins]
  | cons x xs ih =>
    unfold joins at *
    simp only [List.flatMap_cons, List.length_append, List.length_map, ih, List.length_cons, Nat.add_mul]
    omega
theorem map_take (ys : List T) (f : T → T) {k : Nat} {y : T} (h : ys[k]? = some y) : (ys.take (k + 1)).map f = (ys.take k).map f ++ [f y] := by
  rw [List.take_add_one, h]; simp
set_option maxRecDepth 100000 in
set_option maxHeartbeats 16000000 in
theorem either_any (A A' : Option Addr) (n c n' c' : Nat) (xs ys : List T) (w : World) (hX : Tms w A n c xs) (hY : Tms w A' n' c' ys) (l1 : n ≤ 1000) (l2 : n' ≤ 1000) :
    Calls Try.prog 22 #[.slice A n c, .slice A' n' c'] w (GivesOf (eitherF xs ys) w) := by
  have HX := Lib.hid hX
  have HY := Lib.hid hY
  have LX := Lib.hid hX.len
  have LY := Lib.hid hY.len
  have C1 := Lib.hid (alike_any' A A' n c n' c' xs ys w hX hY (by omega) (by omega))
  have hnn : n * n' ≤ 1000000 := by have := Nat.mul_le_mul l1 l2; omega
  have HNN := Lib.hid hnn
  clear hX hY hnn
  go_enter Try.func22, Try.ntmps22
  go_wp2_with fail
  refine C1.out.mono ?_
  rintro e w1 ⟨rfl, hb⟩
  have HB1 := Lib.hid hb
  have HX1 := Lib.hid (HX.out.below At.stays hb)
  have HY1 := Lib.hid (HY.out.below At.stays hb)
  clear hb C1
  cases h1 : alikeF xs ys with
  | false =>
    have HQ := Lib.hid (show eitherF xs ys = none by unfold eitherF; rw [h1]; rfl)
    clear h1
    go_wp2_with fail
    go_ret2
    exact ⟨_, by rw [HQ.out]; rfl, by rw [HQ.out]; exact World.ownsRow_nil _ _ _ _, HB1.out⟩
  | true =>
    have HQ := Lib.hid (show eitherF xs ys = ofT (joins xs ys) by unfold eitherF; rw [h1]; rfl)
    clear h1
    have O0 := Lib.hid (show w1.ownsRow w1.heap.size 32 5 (.slice none 0 0) (joins (xs.take 0) ys).length (recT (joins (xs.take 0) ys)) from World.ownsRow_nil w1 w1.heap.size 32 5)
    have B0 := Lib.hid (Below.refl w1.heap.size w1)
    have HLEN := Lib.hid (show ∀ k, (joins (xs.take k) ys).length ≤ 1000000 from fun k => by
      rw [joins_length, List.length_take, LX.out, LY.out]
      exact Nat.le_trans (Nat.mul_le_mul_right _ (Nat.min_le_right _ _)) HNN.out)
    go_wp2_with fail
    go_loopw [6, 19] (fun v i wr => ∃ k : Nat, k ≤ n ∧ i = .int .i64 k ∧ Hid (wr.ownsRow w1.heap.size 32 5 v (joins (xs.take k) ys).length (recT (joins (xs.take k) ys))) ∧ Hid (Below w1.heap.size w1 wr)) (fun _ i _ => n - (intOf i).toNat)
    case atStart => exact ⟨0, Nat.zero_le _, rfl, O0, B0⟩
    case round =>
      clear O0 B0
      obtain ⟨k, hk, rfl, HO, HB⟩ := hrel
      by_cases hlt : k < n
      · have hd : decide ((k : Int) < n) = true := decide_eq_true (by omega)
        have hd' : decide (k < n) = true := decide_eq_true (by omega)
        obtain ⟨b, off, x, rfl, hx, hc⟩ := (HX1.out.below At.stays HB.out).elem hlt
        have c0 := hc.c0
        have c1 := hc.c1
        have c2 := hc.c2
        have c3' := hc.c3
        have c4 := hc.c4
        have HJ := Lib.hid (joins_take xs ys hx)
        clear hx hc
        generalize hJ : joins (xs.take k) ys = J at *
        have HJL := Lib.hid (show J.length + n' ≤ 1000000 by
          have := HLEN.out (k + 1)
          rw [HJ.out, List.length_append, List.length_map, LY.out] at this
          exact this)
        obtain ⟨wo, hwo⟩ : ∃ wo, wo = wr := ⟨_, rfl⟩
        subst hwo
        have HW := below_new wo (.cells #[.int .i64 x.d, .int .i64 x.e, .int .i64 x.a, .int .i64 x.b, .int .i64 x.c] 32)
        have B1 := Lib.hid (below_then HB.out HW)
        have O1 := Lib.hid (show (wo.alloc (.cells #[.int .i64 x.d, .int .i64 x.e, .int .i64 x.a, .int .i64 x.b, .int .i64 x.c] 32)).ownsRow w1.heap.size 32 5 u6 (J ++ (ys.take 0).map fun t => joinT x t).length (recT (J ++ (ys.take 0).map fun t => joinT x t)) by
          rw [List.take_zero, List.map_nil, List.append_nil]; exact own_below HO.out HW)
        have NE := Lib.hid (show u6.ownBlock ≠ some wo.heap.size from fun e => by have := own_block_lt HO.out _ e; omega)
        have BX := Lib.hid (Bx.new wo x _ rfl)
        clear HW HO HB hJ
        go_wp2_with fail
        go_loopw [6, 25] (fun v j wr => ∃ q : Nat, q ≤ n' ∧ j = .int .i64 q ∧ Hid (wr.ownsRow w1.heap.size 32 5 v (J ++ (ys.take q).map fun t => joinT x t).length (recT (J ++ (ys.take q).map fun t => joinT x t))) ∧ Hid (v.ownBlock ≠ some wo.heap.size) ∧ Hid (Bx wr wo.heap.size x) ∧ Hid (Below w1.heap.size w1 wr)) (fun _ j _ => n' - (intOf j).toNat)
        case atStart => exact ⟨0, Nat.zero_le _, rfl, O1, NE, BX, B1⟩
        case round =>
          clear O1 NE BX B1 c0 c1 c2 c3' c4
          obtain ⟨q, hq, rfl, HO, NE, BX, HB⟩ := hrel
          by_cases hlt2 : q < n'
          · have hd2 : decide ((q : Int) < n') = true := decide_eq_true (by omega)
            have hd2' : decide (q < n') = true := decide_eq_true (by omega)
            obtain ⟨b', off', y, rfl, hy, hc⟩ := (HY1.out.below At.stays HB.out).elem hlt2
            have c0 := hc.c0
            have c1 := hc.c1
            have c2 := hc.c2
            have c3' := hc.c3
            have c4 := hc.c4
            have HM := Lib.hid (map_take ys (fun t => joinT x t) hy)
            have HW := Lib.hid (below_new wr (.cells #[.int .i64 y.d, .int .i64 y.e, .int .i64 y.a, .int .i64 y.b, .int .i64 y.c] 32))
            obtain ⟨x0, x1, x2, x3, x4⟩ := (BX.out.below HW.out).cells
            have C2 := Lib.hid (join_any x y (wr.alloc (.cells #[.int .i64 y.d, .int .i64 y.e, .int .i64 y.a, .int .i64 y.b, .int .i64 y.c] 32)))
            clear hy hc
            go_wp2_with fail
            refine C2.out.mono ?_
            rintro e w5 ⟨rfl, hb⟩
            have hbw := below_then HW.out hb
            have HWN := below_then hbw (below_new w5 (.cells #[.int .i64 (joinT x y).d, .int .i64 (joinT x y).e, .int .i64 (joinT x y).a, .int .i64 (joinT x y).b, .int .i64 (joinT x y).c] 32))
            have HO6 := Lib.hid (own_below HO.out HWN)
            have BX6 := Lib.hid (BX.out.below HWN)
            have HB6 := Lib.hid (below_then HB.out HWN)
            have HA := Lib.hid (below_new (w5.alloc (.cells #[.int .i64 (joinT x y).d, .int .i64 (joinT x y).e, .int .i64 (joinT x y).a, .int .i64 (joinT x y).b, .int .i64 (joinT x y).c] 32)) (.cells #[.int .i64 (joinT x y).d, .int .i64 (joinT x y).e, .int .i64 (joinT x y).a, .int .i64 (joinT x y).b, .int .i64 (joinT x y).c] 32))
            have HO7 := Lib.hid (own_below HO6.out HA.out)
            have BX7 := Lib.hid (BX6.out.below HA.out)
            have HB7 := Lib.hid (below_then HB6.out HA.out)
            have HT := Lib.hid (tms_new (w5.alloc (.cells #[.int .i64 (joinT x y).d, .int .i64 (joinT x y).e, .int .i64 (joinT x y).a, .int .i64 (joinT x y).b, .int .i64 (joinT x y).c] 32)) (joinT x y) (w5.heap.size + 1) (Array.size_push _))
            have HL7 := Lib.hid (show (J ++ (ys.take q).map fun t => joinT x t).length + 1 ≤ 1000000 by
              have := HJL.out; rw [List.length_append, List.length_map, List.length_take, LY.out]; omega)
            clear hb hbw HO BX HB C2 HW HWN c0 c1 c2 c3' c4 x0 x1 x2 x3 x4
            go_wp2_with (at_builtin; refine own_append_tms rfl (.tmp 35) (.tmp 37) 22 32 rfl Try.underlying22 infoT w1.heap.size _ (J ++ (ys.take q).map fun t => joinT x t) (some ⟨w5.heap.size + 1, 0, none⟩) 1 1 [joinT x y] rfl rfl HO7.out HT.out (by have := HL7.out; omega) HB7.out.size ?_; intro v1 w6 hown hgr hat)
            have HB8 := Lib.hid (HB7.out.grown hgr HB7.out.size (fun k hk => own_lt HO7.out k hk))
            have BX8 := Lib.hid (BX7.out.by_row hgr NE.out)
            have NE8 := Lib.hid (show v1.ownBlock ≠ some wo.heap.size from fun e => by
              rcases hat with h | h
              · exact NE.out (h.symm.trans e)
              · rw [e] at h; injection h with h; have := BX7.out.lt; omega)
            have HN := Lib.hid (show w6.ownsRow w1.heap.size 32 5 v1 (J ++ (ys.take (q + 1)).map fun t => joinT x t).length (recT (J ++ (ys.take (q + 1)).map fun t => joinT x t)) by rw [HM.out, ← List.append_assoc]; exact hown)
            clear hown hgr hat HO6 HO7 BX6 BX7 HB6 HB7 HT HA HL7 HM NE
            go_roundw
            case rel => exact ⟨q + 1, by omega, by go_num, HN, NE8, BX8, HB8⟩
            case measure => simp [intOf]; omega
          · have hqn : q = n' := by omega
            subst hqn
            have hd2 : decide ((q : Int) < q) = false := decide_eq_false (by omega)
            have hd2' : decide (q < q) = false := decide_eq_false (by omega)
            have HN := Lib.hid (show ∀ v, wr.ownsRow w1.heap.size 32 5 v (J ++ (ys.take q).map fun t => joinT x t).length (recT (J ++ (ys.take q).map fun t => joinT x t)) → wr.ownsRow w1.heap.size 32 5 v (joins (xs.take (k + 1)) ys).length (recT (joins (xs.take (k + 1)) ys)) from fun v h => by
              rw [List.take_of_length_le (by rw [LY.out]; omega)] at h; rw [HJ.out]; exact h)
            have HO := Lib.hid (HN.out _ HO.out)
            clear HN NE BX
            go_wp2_with fail
            go_roundw
            case rel => exact ⟨k + 1, by omega, by go_num, HO, HB⟩
            case measure => simp [intOf]; omega
      · have hkn : k = n := by omega
        subst hkn
        have hd : decide ((k : Int) < k) = false := decide_eq_false (by omega)
        have hd' : decide (k < k) = false := decide_eq_false (by omega)
        rw [List.take_of_length_le (by rw [LX.out]; omega)] at HO
        have hjl := HLEN.out k
        rw [List.take_of_length_le (by rw [LX.out]; omega)] at hjl
        have HB9 := Lib.hid (below_then HB1.out HB.out)
        generalize joins xs ys = J at *
        generalize hjm : J.length = m at *
        obtain ⟨A2, c2, ev, hr⟩ := own_tms (n := m) HO.out (by omega)
        subst ev
        have C3 := Lib.hid (of_any A2 m c2 J wr hr (by omega))
        clear hr HO HB
        go_wp2_with fail
        refine C3.out.mono ?_
        rintro e w3 ⟨v, rfl, ho, hb⟩
        have HO := Lib.hid (own_base (base' := w.heap.size) ho HB9.out.size)
        have HB3 := Lib.hid (below_then HB9.out hb)
        clear ho hb C3
        go_wp2_with fail
        go_ret2
        exact ⟨_, by rw [HQ.out]; rfl, by rw [HQ.out]; exact HO.out, HB3.out⟩
end Go.Proofs.Ytamniepfgddecaa
