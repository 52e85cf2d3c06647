/- Contracts of antichain.Both, Either. -/
import Derived.Test.YtebpepjlhanopaaRows
import Derived.Test.YtebpepjlhanopaaWords
import Derived.Test.YtebpepjlhanopaaByts
import Derived.Test.YtebpepjlhanopaaFrame
import Derived.Test.YtebpepjlhanopaaElems
import Derived.Test.YtebpepjlhanopaaS1
import Derived.Test.YtebpepjlhanopaaS2
import Derived.Test.YtebpepjlhanopaaS4
import Derived.Test.YtebpepjlhanopaaU1
import Derived.Test.YtebpepjlhanopaaU2
import Derived.Test.YtebpepjlhanopaaU3
import Derived.Test.YtebpepjlhanopaaU4
import Derived.Test.YtebpepjlhanopaaA1
import Derived.Test.YtebpepjlhanopaaA2
import Derived.Test.YtebpepjlhanopaaA3
import Derived.Test.YtebpepjlhanopaaA4
namespace Go.Proofs.Ytebpepjlhanopaa
open Go Go.RowKit Go.Proofs.Tail Go.Sort
set_option linter.unusedSimpArgs false
set_option linter.unusedVariables false
theorem row_blk {w : World} {B o : Nat} {cs : List Value} {t : TypeId} (h : Blk w B cs t) {A : Option Addr} {n c : Nat} {xs : List T} (hc : cs[o]? = some (.slice A n c)) (hr : Tms w A n c xs) : RRow w B o xs := ⟨A, n, c, (h.cell o).trans hc, hr⟩
theorem rows2 {W : World} {A A' : Option Addr} {n c n' c' : Nat} {xs ys : List T} (hX : Tms W A n c xs) (hY : Tms W A' n' c' ys) :
    Rows_ (W.alloc (.cells #[.slice A n c, .slice A' n' c'] 33)) (some ⟨W.heap.size, 0, none⟩) 2 2 [xs, ys] := by
  have D := Blk.new W [.slice A n c, .slice A' n' c'] 33 _ rfl
  have hb := below_new W (.cells #[.slice A n c, .slice A' n' c'] 33)
  refine ⟨rfl, Nat.le_refl _, by omega, fun _ => ⟨_, _, rfl, fun j x hj => ?_⟩⟩
  match j, hj with
  | 0, hj => obtain rfl : xs = x := by simpa using hj
             exact row_blk D rfl (hX.below At.stays hb)
  | 1, hj => obtain rfl : ys = x := by simpa using hj
             exact row_blk D rfl (hY.below At.stays hb)
  | j + 2, hj => simp at hj
theorem Bx.by_row {w w' : World} {B : Nat} {t : T} {row : Option Nat} (h : Bx w B t) (hg : w.grownBy w' row) (hr : row ≠ some B) : Bx w' B t := ⟨(hg.block B h.lt (fun e => hr e.symm)).trans h.h⟩
def bothF (xs ys : List T) : Option (List T) := if alikeF xs ys then ofT (xs ++ ys) else none
def joins (xs ys : List T) : List T := xs.flatMap fun s => ys.map fun t => joinT s t
def eitherF (xs ys : List T) : Option (List T) := if alikeF xs ys then ofT (joins xs ys) else none
theorem own_block_lt {w : World} {base k n : Nat} {e : TypeId} {v : Value} {cs : List Value} (h : w.ownsRow base e k v n cs) (j : Nat) (hj : v.ownBlock = some j) : j < w.heap.size := by
  rcases h.2 with ⟨rfl, _⟩ | ⟨g, cap, cur, rfl, _, hh, _⟩
  · cases hj
  · cases hj; exact lt_block hh
set_option maxHeartbeats 8000000 in
theorem both_any (A A' : Option Addr) (n c n' c' : Nat) (xs ys : List T) (w : World) (hX : Tms w A n c xs) (hY : Tms w A' n' c' ys) (l1 : n ≤ 1000) (l2 : n' ≤ 1000) :
    Calls Try.prog 24 #[.slice A n c, .slice A' n' c'] w (GivesOf (bothF xs ys) w) := by
  have HX := Lib.hid hX
  have HY := Lib.hid hY
  have hll : (xs ++ ys).length = n + n' := by rw [List.length_append, hX.len, hY.len]
  have HLL := Lib.hid hll
  have C1 := Lib.hid (alike_any' A A' n c n' c' xs ys w hX hY (by omega) (by omega))
  clear hX hY hll
  go_enter Try.func24, Try.ntmps24
  go_wp2_with fail
  refine C1.out.mono ?_
  rintro e w1 ⟨rfl, hb⟩
  have HB1 := Lib.hid hb
  have HX1 := Lib.hid (HX.out.below At.stays hb)
  have HY1 := Lib.hid (HY.out.below At.stays hb)
  clear hb C1
  cases h1 : alikeF xs ys with
  | false =>
    have HQ := Lib.hid (show bothF xs ys = none by unfold bothF; rw [h1]; rfl)
    clear h1
    go_wp2_with fail
    go_ret2
    exact ⟨_, by rw [HQ.out]; rfl, by rw [HQ.out]; exact World.ownsRow_nil _ _ _ _, HB1.out⟩
  | true =>
    have HQ := Lib.hid (show bothF xs ys = ofT (xs ++ ys) by unfold bothF; rw [h1]; rfl)
    clear h1
    have C2 := concat_any _ 2 2 [xs, ys] _ (rows2 HX1.out HY1.out) (by simp [HX.out.len, HY.out.len]; omega)
    rw [show [xs, ys].flatten = xs ++ ys by simp] at C2
    have C2 := Lib.hid C2
    generalize xs ++ ys = zs at *
    go_wp2_with fail
    refine C2.out.mono ?_
    rintro e w2 ⟨v, rfl, ho, hb⟩
    obtain ⟨A2, c2, ev, hr⟩ := own_tms (n := n + n') (by rw [← HLL.out]; exact ho) (by omega)
    subst ev
    have HB2 := Lib.hid (below_then HB1.out (below_then (below_new w1 _) hb))
    have C3 := Lib.hid (of_any A2 (n + n') c2 zs w2 hr (by omega))
    clear ho hb hr C2 HB1 HX1 HY1
    go_wp2_with fail
    refine C3.out.mono ?_
    rintro e w3 ⟨v, rfl, ho, hb⟩
    have HO := Lib.hid (own_base (base' := w.heap.size) ho HB2.out.size)
    have HB3 := Lib.hid (below_then HB2.out hb)
    clear ho hb C3 HB2
    go_wp2_with fail
    go_ret2
    exact ⟨_, by rw [HQ.out]; rfl, by rw [HQ.out]; exact HO.out, HB3.out⟩
theorem joins_take (xs ys : List T) {k : Nat} {x : T} (h : xs[k]? = some x) : joins (xs.take (k + 1)) ys = joins (xs.take k) ys ++ ys.map fun t => joinT x t := by
  unfold joins
  rw [List.take_add_one, h]
  simp
theorem joins_length (xs ys : List T) : (joins xs ys).length = xs.length * ys.length := by
  induction xs with
  | nil => simp [joins]
  | cons x xs ih =>
    unfold joins at *
    simp only [List.flatMap_cons, List.length_append, List.length_map, ih, List.length_cons, Nat.add_mul]
    omega
theorem map_take (ys : List T) (f : T → T) {k : Nat} {y : T} (h : ys[k]? = some y) : (ys.take (k + 1)).map f = (ys.take k).map f ++ [f y] := by
  rw [List.take_add_one, h]; simp
end Go.Proofs.Ytebpepjlhanopaa
