/- The walk of ValueAdds. -/
import Derived.Test.YtainoghjelfnkaaRows
import Derived.Deep.RegionHeld3
import Derived.Deep.DrawnRows
import Derived.Test.YtainoghjelfnkaaWords
import Derived.Test.YtainoghjelfnkaaByts
import Derived.Test.YtainoghjelfnkaaFrame
import Derived.Test.YtainoghjelfnkaaElems
import Derived.Test.YtainoghjelfnkaaV1
import Derived.Test.YtainoghjelfnkaaV2
import Derived.Test.YtainoghjelfnkaaV3
import Derived.Test.YtainoghjelfnkaaV4
import Derived.Test.YtainoghjelfnkaaV6
import Derived.Test.YtainoghjelfnkaaV7
import Derived.Test.YtainoghjelfnkaaV9
import Derived.Test.YtainoghjelfnkaaV11
import Derived.Test.YtainoghjelfnkaaV12
import Derived.Test.YtainoghjelfnkaaP1
import Derived.Test.YtainoghjelfnkaaP2
namespace Go.Proofs.Ytainoghjelfnkaa
open Go Go.RowKit Go.Proofs.Tail Go.Sort
set_option linter.unusedSimpArgs false
set_option linter.unusedVariables false
attribute [local go_sem ↓] Go.wp_at_zero Go.wp_at_succ
theorem alloc_size' (W : World) (o : Obj) : (W.alloc o).heap.size = W.heap.size + 1 := Array.size_push _
theorem blk_at {V : World} {B : Nat} {cs : List Value} {t : TypeId} (h : V.heap[B]? = some (.cells cs.toArray t)) : Blk V B cs t := ⟨h⟩
theorem rows2_at {V : World} {B : Nat} {A A' : Option Addr} {n c n' c' : Nat} {xs ys : List Rc} (h : V.heap[B]? = some (.cells #[.slice A n c, .slice A' n' c'] 22)) (hX : Recs V A n c xs) (hY : Recs V A' n' c' ys) : Rows_ V (some ⟨B, 0, none⟩) 2 2 [xs, ys] := by
  have D := blk_at (cs := [.slice A n c, .slice A' n' c']) h
  refine ⟨rfl, Nat.le_refl _, by omega, fun _ => ⟨_, _, rfl, fun j x hj => ?_⟩⟩
  match j, hj with
  | 0, hj => obtain rfl : xs = x := by simpa using hj
             exact row_blk D rfl hX
  | 1, hj => obtain rfl : ys = x := by simpa using hj
             exact row_blk D rfl hY
  | j + 2, hj => simp at hj
theorem rows3_at {V : World} {B : Nat} {A A' A2 : Option Addr} {n c n' c' n2 c2 : Nat} {xs ys zs : List Rc} (h : V.heap[B]? = some (.cells #[.slice A n c, .slice A' n' c', .slice A2 n2 c2] 22)) (hX : Recs V A n c xs) (hY : Recs V A' n' c' ys) (hZ : Recs V A2 n2 c2 zs) : Rows_ V (some ⟨B, 0, none⟩) 3 3 [xs, ys, zs] := by
  have D := blk_at (cs := [.slice A n c, .slice A' n' c', .slice A2 n2 c2]) h
  refine ⟨rfl, Nat.le_refl _, by omega, fun _ => ⟨_, _, rfl, fun j x hj => ?_⟩⟩
  match j, hj with
  | 0, hj => obtain rfl : xs = x := by simpa using hj
             exact row_blk D rfl hX
  | 1, hj => obtain rfl : ys = x := by simpa using hj
             exact row_blk D rfl hY
  | 2, hj => obtain rfl : zs = x := by simpa using hj
             exact row_blk D rfl hZ
  | j + 3, hj => simp at hj
theorem rows4_at {V : World} {B : Nat} {A A' A2 A3 : Option Addr} {n c n' c' n2 c2 n3 c3 : Nat} {xs ys zs us : List Rc} (h : V.heap[B]? = some (.cells #[.slice A n c, .slice A' n' c', .slice A2 n2 c2, .slice A3 n3 c3] 22)) (hX : Recs V A n c xs) (hY : Recs V A' n' c' ys) (hZ : Recs V A2 n2 c2 zs) (hU : Recs V A3 n3 c3 us) : Rows_ V (some ⟨B, 0, none⟩) 4 4 [xs, ys, zs, us] := by
  have D := blk_at (cs := [.slice A n c, .slice A' n' c', .slice A2 n2 c2, .slice A3 n3 c3]) h
  refine ⟨rfl, Nat.le_refl _, by omega, fun _ => ⟨_, _, rfl, fun j x hj => ?_⟩⟩
  match j, hj with
  | 0, hj => obtain rfl : xs = x := by simpa using hj
             exact row_blk D rfl hX
  | 1, hj => obtain rfl : ys = x := by simpa using hj
             exact row_blk D rfl hY
  | 2, hj => obtain rfl : zs = x := by simpa using hj
             exact row_blk D rfl hZ
  | 3, hj => obtain rfl : us = x := by simpa using hj
             exact row_blk D rfl hU
  | j + 4, hj => simp at hj
/-- A number picked. -/
def Picks (n : Nat) (w : World) (e : Ending) (w' : World) : Prop := ∃ k : Nat, k < n ∧ e = .returned (.int .i64 k) ∧ w = w'
theorem pick_any (x : Int) (n : Nat) (w : World) (hn : 0 < n) (h2 : n ≤ 1000) (hx : -9223372036854775808 ≤ x ∧ x ≤ 9223372036854775807) : Calls Try.prog 21 #[.int .i64 x, .int .i64 n] w (Picks n w) := by
  have t1 : -(n : Int) < x.tmod n ∧ x.tmod n < n := by
    have h1 := Int.tmod_lt_of_pos x (show (0 : Int) < n by omega)
    have h2 := Int.tmod_lt_of_pos (-x) (show (0 : Int) < n by omega)
    rw [Int.neg_tmod] at h2
    omega
  obtain ⟨t2, t3⟩ := t1
  have hne : (n : Int) ≠ 0 := by omega
  have d1 : decide ((n : Int) ≤ 0) = false := decide_eq_false (by omega)
  have d1' : decide (n ≤ 0) = false := decide_eq_false (by omega)
  have z1 : IntKind.i64.wrap (x.tmod n) = x.tmod n := IntWalk.i64_in _ ⟨by omega, by omega⟩
  have z2 : IntKind.i64.wrap (x.tmod n + n) = x.tmod n + n := IntWalk.i64_in _ ⟨by omega, by omega⟩
  have hm : (x.tmod n + n).tmod n = (x.tmod n + n) % n := Int.tmod_eq_emod_of_nonneg (by omega)
  have hk := Int.emod_lt_of_pos (x.tmod n + n) (show (0 : Int) < n by omega)
  have hk0 := Int.emod_nonneg (x.tmod n + n) hne
  have z3 : IntKind.i64.wrap ((x.tmod n + n) % n) = (x.tmod n + n) % n := IntWalk.i64_in _ ⟨by omega, by omega⟩
  have HK := Lib.hid (show ∃ k : Nat, k < n ∧ (x.tmod n + n) % n = (k : Int) from ⟨((x.tmod n + n) % n).toNat, by omega, by omega⟩)
  have hne' : ((n : Int) == 0) = false := by simpa using hne
  clear hk hk0
  go_enter Try.func21, Try.ntmps21
  go_wp2_with fail
  go_ret
  obtain ⟨k, h1, h2⟩ := HK.out
  have h3 : (x.tmod n + n) % (n : Int) = x.tmod n % n := by simp
  exact ⟨k, h1, ret_int (by first | exact h2 | (rw [← h3]; exact h2)), rfl⟩
theorem slice_from {w : World} {A : Option Addr} {n c k : Nat} {xs : List Rc} (h : Recs w A n c xs) (hk : k ≤ n) :
    ∃ Ad, (∀ W, (Instr.slice 22 (.slice A n c) (some (.int .i64 k)) none none).run Try.prog W = .ok (.slice Ad (n - k) (c - k)) W) ∧ Recs w Ad (n - k) (c - k) (xs.drop k) := by
  have hc := h.cap
  refine ⟨if c = k then A else A.map (·.add (k * 2)), fun W => ?_, ?_⟩
  · have h1 : (0 : Int) ≤ k := by omega
    have h2 : (k : Int) ≤ n := by omega
    have u := Try.underlying22
    have z := Try.sizeOf32
    go_simp
  · refine ⟨by rw [List.length_drop, h.len], by omega, by have := h.big; omega, fun hn => ?_⟩
    obtain ⟨b, off, rfl, _⟩ := h.at_ (by omega)
    rw [if_neg (by omega)]
    have := (recs_drop h hk (Nat.le_refl _)).at_ hn
    rw [show (some (⟨b, off, none⟩ : Addr)).map (·.add (k * 2)) = some ⟨b, off + k * 2, none⟩ by
      simp only [Option.map_some, Addr.add]; split <;> simp_all]
    exact this
theorem perm1 (xs ys zs : List Rc) : [zs, xs, ys].flatten.Perm [xs, ys, zs].flatten := by
  rw [List.perm_iff_count]
  intro a
  simp [List.count_append]; omega
theorem perm2 (xs ys zs : List Rc) (k : Nat) : [ys, xs.drop k, sortR [zs, ([] : List Rc)].flatten, xs.take k].flatten.Perm [xs, ys, zs].flatten := by
  rw [List.perm_iff_count]
  intro a
  have h1 := congrArg (List.count a) (List.take_append_drop k xs)
  have h2 := (sortR_perm [zs, ([] : List Rc)].flatten).count_eq a
  rw [List.count_append] at h1
  simp [List.count_append] at h2 ⊢
  omega
theorem law_adds_no (A A' A2 : Option Addr) (n c n' c' n2 c2 : Nat) (x : Int) (w : World) (h : 60 < n ∨ n ≤ 60 ∧ 60 < n' ∨ n ≤ 60 ∧ n' ≤ 60 ∧ 60 < n2) :
    Calls Try.prog 4 #[.slice A n c, .slice A' n' c', .slice A2 n2 c2, .int .i64 x] w (Gives (.bool true) w) := by
  rcases h with h | ⟨h, h'⟩ | ⟨h, h', h2⟩
  · have d1 : decide (60 < (n : Int)) = true := decide_eq_true (by omega)
    clear h
    go_enter Try.func4, Try.ntmps4
    go_wp2_with fail
    refine (works_any _).mono ?_
    rintro e w1 ⟨rfl, hb⟩
    have HB := Lib.hid hb
    clear hb
    go_wp2_with fail
    go_ret
    exact .bool rfl HB.out
  · have d1 : decide (60 < (n : Int)) = false := decide_eq_false (by omega)
    have d2 : decide (60 < (n' : Int)) = true := decide_eq_true (by omega)
    clear h h'
    go_enter Try.func4, Try.ntmps4
    go_wp2_with fail
    refine (works_any _).mono ?_
    rintro e w1 ⟨rfl, hb⟩
    have HB := Lib.hid hb
    clear hb
    go_wp2_with fail
    go_ret
    exact .bool rfl HB.out
  · have d1 : decide (60 < (n : Int)) = false := decide_eq_false (by omega)
    have d2 : decide (60 < (n' : Int)) = false := decide_eq_false (by omega)
    have d3 : decide (60 < (n2 : Int)) = true := decide_eq_true (by omega)
    clear h h' h2
    go_enter Try.func4, Try.ntmps4
    go_wp2_with fail
    refine (works_any _).mono ?_
    rintro e w1 ⟨rfl, hb⟩
    have HB := Lib.hid hb
    clear hb
    go_wp2_with fail
    go_ret
    exact .bool rfl HB.out
set_option maxRecDepth 100000 in
set_option maxHeartbeats 32000000 in
theorem law_adds_yes (A A' A2 : Option Addr) (n c n' c' n2 c2 : Nat) (x : Int) (xs ys zs : List Rc) (w : World) (hX : Recs w A n c xs) (hY : Recs w A' n' c' ys) (hZ : Recs w A2 n2 c2 zs) (h1 : n ≤ 60) (h2 : n' ≤ 60) (h3 : n2 ≤ 60) (hx : -9223372036854775808 ≤ x ∧ x ≤ 9223372036854775807) :
    Calls Try.prog 4 #[.slice A n c, .slice A' n' c', .slice A2 n2 c2, .int .i64 x] w (Gives (.bool true) w) := by
  have HX := Lib.hid hX
  have HY := Lib.hid hY
  have HZ := Lib.hid hZ
  have lx := hX.len
  have ly := hY.len
  have lz := hZ.len
  have hcn := hX.cap
  have LX := Lib.hid lx
  have LY := Lib.hid ly
  have LZ := Lib.hid lz
  have d1 : decide (60 < (n : Int)) = false := decide_eq_false (by omega)
  have d2 : decide (60 < (n' : Int)) = false := decide_eq_false (by omega)
  have d3 : decide (60 < (n2 : Int)) = false := decide_eq_false (by omega)
  have CP := Lib.hid (pick_any x (n + 1) w (by omega) (by omega) hx)
  have C40 := Lib.hid (add_any (some ⟨w.heap.size, 0, none⟩) 3 3 [xs, ys, zs] (w.alloc (.cells #[.slice A n c, .slice A' n' c', .slice A2 n2 c2] 22)) (rows3_at (by repeat (first | ((with_reducible refine at_new _ _ _ _ ?_ ?_); (first | with_reducible rfl | (focus (simp; done))); rfl) | with_reducible refine at_old _ ?_ | with_reducible refine at_drew ?_ | with_reducible refine at_below (by assumption) ?_)) (up_new _ hX) (up_new _ hY) (up_new _ hZ)) (by simp [lx, ly, lz]; omega))
  have hal : ([xs, ys, zs].flatten).length ≤ 180 := by simp [lx, ly, lz]; omega
  have HAL := Lib.hid hal
  clear hX hY hZ hal lx ly lz
  go_enter Try.func4, Try.ntmps4
  go_wp2_with fail
  refine CP.out.mono ?_
  rintro e w0 ⟨k, hk, rfl, rfl⟩
  clear CP
  go_wp2_with fail
  refine C40.out.mono ?_
  rintro e w1 ⟨v, rfl, ho, hb⟩
  obtain ⟨A1, c1, ev, R1⟩ := own_recs ho (by rw [sortR_length]; have := HAL.out; omega)
  subst ev
  have hbw := below_then (below_new w _) hb
  have HB1 := Lib.hid hbw
  have X1 := HX.out.below RRc.stays hbw
  have Y1 := HY.out.below RRc.stays hbw
  have Z1 := HZ.out.below RRc.stays hbw
  have hlu : (sortR [xs, ys, zs].flatten).length ≤ 180 := by rw [sortR_length]; exact HAL.out
  have hk60 : k ≤ 60 := by omega
  have hkn : (k : Int) ≤ n := by omega
  have hkc : (k : Int) ≤ c := by omega
  have hkn' : k ≤ n := by omega
  obtain ⟨Ad, hsl, XD1⟩ := slice_from X1 hkn'
  have XT1 := recs_take X1 hkn' (show k ≤ c by omega)
  have E1 : [zs, xs, ys].flatten.Perm [xs, ys, zs].flatten := perm1 xs ys zs
  have E2 : [ys, xs.drop k, sortR [zs, ([] : List Rc)].flatten, xs.take k].flatten.Perm [xs, ys, zs].flatten := perm2 xs ys zs k
  have hl1 : [zs, xs, ys].flatten.length * 16 ≤ 140737488355328 := by rw [E1.length_eq]; have := HAL.out; omega
  have hl2 : [ys, xs.drop k, sortR [zs, ([] : List Rc)].flatten, xs.take k].flatten.length * 16 ≤ 140737488355328 := by rw [E2.length_eq]; have := HAL.out; omega
  have hl3 : [zs, ([] : List Rc)].flatten.length * 16 ≤ 140737488355328 := by simp; have := LZ.out; omega
  have E1 := Lib.hid (sortR_congr.2 E1)
  have E2 := Lib.hid (sortR_congr.2 E2)
  have E3 := Lib.hid (sortR_idem (sortR_sorted [xs, ys, zs].flatten))
  generalize hus : sortR [xs, ys, zs].flatten = us at *
  have HUS := Lib.hid hus
  generalize hul : us.length = ul at *
  have C45 := Lib.hid (fun V B hR => add_any (some ⟨B, 0, none⟩) 3 3 [zs, xs, ys] V hR hl1)
  rw [E1.out] at C45
  have C57 := Lib.hid (fun V B hR => add_any (some ⟨B, 0, none⟩) 2 2 [zs, []] V hR hl3)
  have C62 := Lib.hid (fun V B hR => add_any (some ⟨B, 0, none⟩) 4 4 [ys, xs.drop k, sortR [zs, ([] : List Rc)].flatten, xs.take k] V hR hl2)
  rw [E2.out] at C62
  have C69 := Lib.hid (fun V Av cv hR => sorted_any Av ul cv us V hR (by omega))
  rw [E3.out] at C69
  have CAL := Lib.hid (fun V Av cv Aw cw h1 h2 => alike_any Av Aw ul cv ul cw us us V h1 h2)
  rw [decide_eq_true rfl] at CAL
  have hlz : (sortR [zs, ([] : List Rc)].flatten).length = n2 := by rw [sortR_length]; simp [LZ.out]
  generalize sortR [zs, ([] : List Rc)].flatten = zz at *
  have HLZ := Lib.hid hlz
  have HUL := Lib.hid hul
  clear ho hb C40 E1 E2 E3 hl1 hl2 hl3 hul hus hlz
  go_wp2_with fail
  go_region_held3 (fun w' => True) (trivial)
    (first
      | (go_at_call 17
         first
         | (with_reducible refine (C45.out _ _ ?_).mono ?_
            · exact rows3_at (by repeat (first | ((with_reducible refine at_new _ _ _ _ ?_ ?_); (first | with_reducible rfl | (focus (simp; done))); rfl) | with_reducible refine at_old _ ?_ | with_reducible refine at_drew ?_ | with_reducible refine at_below (by assumption) ?_)) (by repeat (first | with_reducible assumption | exact Rd.nil _ _ _ | with_reducible refine up_new _ ?_ | with_reducible refine up_drew ?_ | with_reducible refine up_below (by assumption) ?_)) (by repeat (first | with_reducible assumption | exact Rd.nil _ _ _ | with_reducible refine up_new _ ?_ | with_reducible refine up_drew ?_ | with_reducible refine up_below (by assumption) ?_)) (by repeat (first | with_reducible assumption | exact Rd.nil _ _ _ | with_reducible refine up_new _ ?_ | with_reducible refine up_drew ?_ | with_reducible refine up_below (by assumption) ?_))
            rintro e w2 ⟨v2, rfl, ho, hb2⟩
            obtain ⟨A2', c2', ev, R2⟩ := own_recs (n := ul) (by rw [HUL.out] at ho; exact ho) (by omega)
            subst ev
            simp only [HUL.out])
         | (with_reducible refine (C57.out _ _ ?_).mono ?_
            · exact rows2_at (by repeat (first | ((with_reducible refine at_new _ _ _ _ ?_ ?_); (first | with_reducible rfl | (focus (simp; done))); rfl) | with_reducible refine at_old _ ?_ | with_reducible refine at_drew ?_ | with_reducible refine at_below (by assumption) ?_)) (by repeat (first | with_reducible assumption | exact Rd.nil _ _ _ | with_reducible refine up_new _ ?_ | with_reducible refine up_drew ?_ | with_reducible refine up_below (by assumption) ?_)) (by repeat (first | with_reducible assumption | exact Rd.nil _ _ _ | with_reducible refine up_new _ ?_ | with_reducible refine up_drew ?_ | with_reducible refine up_below (by assumption) ?_))
            rintro e w4 ⟨v4, rfl, ho, hb4⟩
            obtain ⟨A4, c4, ev, R4⟩ := own_recs (n := n2) (by rw [HLZ.out] at ho; exact ho) (by omega)
            subst ev
            simp only [HLZ.out])
         | (with_reducible refine (C62.out _ _ ?_).mono ?_
            · exact rows4_at (by repeat (first | ((with_reducible refine at_new _ _ _ _ ?_ ?_); (first | with_reducible rfl | (focus (simp; done))); rfl) | with_reducible refine at_old _ ?_ | with_reducible refine at_drew ?_ | with_reducible refine at_below (by assumption) ?_)) (by repeat (first | with_reducible assumption | exact Rd.nil _ _ _ | with_reducible refine up_new _ ?_ | with_reducible refine up_drew ?_ | with_reducible refine up_below (by assumption) ?_)) (by repeat (first | with_reducible assumption | exact Rd.nil _ _ _ | with_reducible refine up_new _ ?_ | with_reducible refine up_drew ?_ | with_reducible refine up_below (by assumption) ?_)) (by repeat (first | with_reducible assumption | exact Rd.nil _ _ _ | with_reducible refine up_new _ ?_ | with_reducible refine up_drew ?_ | with_reducible refine up_below (by assumption) ?_)) (by repeat (first | with_reducible assumption | exact Rd.nil _ _ _ | with_reducible refine up_new _ ?_ | with_reducible refine up_drew ?_ | with_reducible refine up_below (by assumption) ?_))
            rintro e w5 ⟨v5, rfl, ho, hb5⟩
            obtain ⟨A5, c5, ev, R5⟩ := own_recs (n := ul) (by rw [HUL.out] at ho; exact ho) (by omega)
            subst ev
            simp only [HUL.out]))
      | (go_at_call 12
         with_reducible refine (C69.out _ _ _ ?_).mono ?_
         · exact (by repeat (first | with_reducible assumption | exact Rd.nil _ _ _ | with_reducible refine up_new _ ?_ | with_reducible refine up_drew ?_ | with_reducible refine up_below (by assumption) ?_))
         rintro e w7 ⟨v7, rfl, ho, hb7⟩
         obtain ⟨A7, c7, ev, R7⟩ := own_recs (n := ul) (by rw [HUL.out] at ho; exact ho) (by omega)
         subst ev
         simp only [HUL.out])
      | (go_at_call 13
         with_reducible refine (CAL.out _ _ _ _ _ ?_ ?_).mono ?_
         · exact (by repeat (first | with_reducible assumption | exact Rd.nil _ _ _ | with_reducible refine up_new _ ?_ | with_reducible refine up_drew ?_ | with_reducible refine up_below (by assumption) ?_))
         · exact (by repeat (first | with_reducible assumption | exact Rd.nil _ _ _ | with_reducible refine up_new _ ?_ | with_reducible refine up_drew ?_ | with_reducible refine up_below (by assumption) ?_))
         rintro e w8 ⟨rfl, hb8⟩))
  have X8 : Recs w8 A n c xs := (by repeat (first | with_reducible assumption | with_reducible refine up_new _ ?_ | with_reducible refine up_drew ?_ | with_reducible refine up_below (by assumption) ?_))
  have Y8 : Recs w8 A' n' c' ys := (by repeat (first | with_reducible assumption | with_reducible refine up_new _ ?_ | with_reducible refine up_drew ?_ | with_reducible refine up_below (by assumption) ?_))
  have Z8 : Recs w8 A2 n2 c2 zs := (by repeat (first | with_reducible assumption | with_reducible refine up_new _ ?_ | with_reducible refine up_drew ?_ | with_reducible refine up_below (by assumption) ?_))
  have U8 : Recs w8 A1 ul c1 us := (by repeat (first | with_reducible assumption | with_reducible refine up_new _ ?_ | with_reducible refine up_drew ?_ | with_reducible refine up_below (by assumption) ?_))
  have B8 : Below w.heap.size w w8 := (by repeat (first | exact HB1.out | with_reducible refine below_alloc ?_ _ | with_reducible refine below_drew ?_ | with_reducible refine below_then ?_ (by assumption)))
  have HX8 := Lib.hid X8
  have HY8 := Lib.hid Y8
  have HZ8 := Lib.hid Z8
  have HB8 := Lib.hid B8
  have hup : us.Perm ((xs ++ zs) ++ ys) := by
    rw [← HUS.out]
    refine (sortR_perm _).trans ?_
    rw [List.perm_iff_count]; intro a; simp [List.count_append]; omega
  obtain ⟨l, el, hlp⟩ := LS_of hup
  have hll : l.length ≤ 120 := by have := hlp.length_eq; rw [List.length_append, LX.out, LZ.out] at this; omega
  have C7 := Lib.hid (less_any A1 A' ul c1 n' c' us ys w8 U8 Y8 (by omega) (by omega))
  rw [el] at C7
  have HLP := Lib.hid hlp
  clear hb2 hb4 hb5 hb7 hb8 R1 R2 R4 R5 R7 X1 Y1 Z1 XD1 XT1 X8 Y8 Z8 U8 B8 hbw hup el hlp C45 C57 C62 C69 CAL HB1 hsl HUS HLZ HUL
  go_wp2_with fail
  refine C7.out.mono ?_
  rintro e w9 ⟨v, rfl, ho, hb⟩
  obtain ⟨A9, c9, ev, R9⟩ := own_recs (n := l.length) ho (by omega)
  subst ev
  have HB9 := Lib.hid (below_then HB8.out hb)
  have HX9 := Lib.hid (HX8.out.below RRc.stays hb)
  have HY9 := Lib.hid (HY8.out.below RRc.stays hb)
  have HZ9 := Lib.hid (HZ8.out.below RRc.stays hb)
  have HR9 := Lib.hid (show Recs w9 A9 l.length c9 l from R9)
  clear ho hb C7 R9 HB8 HX8 HY8 HZ8
  generalize hnl : l.length = nl at *
  have C10 := Lib.hid (add2_any HX9.out HZ9.out (by omega) (by omega))
  have hql : (sortR (xs ++ zs)).length ≤ 120 := by rw [sortR_length, List.length_append, LX.out, LZ.out]; omega
  have HQE := Lib.hid (show sortR l = sortR (sortR (xs ++ zs)) from sortR_congr.2 (HLP.out.trans (sortR_perm _).symm))
  obtain ⟨m, em, hmp⟩ := LS_of (xs := sortR (xs ++ zs)) (ys := xs) (m := zs) ((sortR_perm _).trans List.perm_append_comm)
  have HMP := Lib.hid (sortR_congr.2 hmp)
  have hml : m.length ≤ 60 := by rw [hmp.length_eq, LZ.out]; omega
  have EM := Lib.hid em
  have CQ := Lib.hid (fun W hx hz => add2_any (W := W) (A := A) (A' := A2) (n := n) (c := c) (n' := n2) (c' := c2) (xs := xs) (ys := zs) hx hz (by omega) (by omega))
  clear em hmp
  generalize sortR (xs ++ zs) = q at *
  generalize hlq : q.length = nq at *
  generalize hlm : m.length = nm at *
  have HLQ := Lib.hid hlq
  have HLM := Lib.hid hlm
  clear hlq hlm
  go_wp2_with fail
  refine C10.out.mono ?_
  rintro e w10 ⟨v, rfl, ho, hb⟩
  rw [HLQ.out] at ho
  obtain ⟨A10, c10, ev, R10⟩ := own_recs (n := nq) (by have := ho; exact this) (by omega)
  subst ev
  have hbn := below_then (below_new w9 _) hb
  have HB10 := Lib.hid (below_then HB9.out hbn)
  have HX10 := Lib.hid (HX9.out.below RRc.stays hbn)
  have HY10 := Lib.hid (HY9.out.below RRc.stays hbn)
  have HZ10 := Lib.hid (HZ9.out.below RRc.stays hbn)
  have HR10 := Lib.hid (HR9.out.below RRc.stays hbn)
  have C11 := Lib.hid (less_any A10 A nq c10 n c q xs w10 R10 HX10.out (by omega) (by omega))
  rw [EM.out] at C11
  simp only [HLQ.out]
  clear ho hb hbn C10 R10 HB9 HX9 HY9 HZ9 HR9 EM
  go_wp2_with fail
  refine C11.out.mono ?_
  rintro e w11 ⟨v, rfl, ho, hb⟩
  have ho := (show w11.ownsRow w10.heap.size 32 2 v nm (recV m) by have := ho; rw [← HLM.out]; exact this)
  obtain ⟨A11, c11, ev, R11⟩ := own_recs (n := nm) ho (by omega)
  subst ev
  have HB11 := Lib.hid (below_then HB10.out hb)
  have X11 := HX10.out.below RRc.stays hb
  have Y11 := HY10.out.below RRc.stays hb
  have Z11 := HZ10.out.below RRc.stays hb
  have L11 := HR10.out.below RRc.stays hb
  clear ho hb C11 HB10 HX10 HY10 HZ10 HR10
  have C12 := Lib.hid (CQ.out w11 X11 Z11)
  have HX11 := Lib.hid X11
  have HY11 := Lib.hid Y11
  have HZ11 := Lib.hid Z11
  have HL11 := Lib.hid L11
  have HM11 := Lib.hid (show Recs w11 A11 nm c11 m from R11)
  clear X11 Y11 Z11 L11 R11 CQ
  go_wp2_with fail
  refine C12.out.mono ?_
  rintro e w12 ⟨v, rfl, ho, hb⟩
  rw [HLQ.out] at ho
  obtain ⟨A12, c12, ev, R12⟩ := own_recs (n := nq) ho (by omega)
  subst ev
  have hbn := below_then (below_new w11 _) hb
  have HB12 := Lib.hid (below_then HB11.out hbn)
  have HX12 := Lib.hid (HX11.out.below RRc.stays hbn)
  have HY12 := Lib.hid (HY11.out.below RRc.stays hbn)
  have HZ12 := Lib.hid (HZ11.out.below RRc.stays hbn)
  have HM12 := Lib.hid (HM11.out.below RRc.stays hbn)
  have C13 := Lib.hid (same_any A9 A12 nl c9 nq c12 l q w12 (HL11.out.below RRc.stays hbn) R12 (by omega) (by omega))
  rw [decide_eq_true HQE.out] at C13
  simp only [HLQ.out]
  clear ho hb hbn C12 R12 HB11 HX11 HY11 HZ11 HM11 HL11
  go_wp2_with fail
  refine C13.out.mono ?_
  rintro e w13 ⟨rfl, hb⟩
  have HB13 := Lib.hid (below_then HB12.out hb)
  have HX13 := Lib.hid (HX12.out.below RRc.stays hb)
  have HY13 := Lib.hid (HY12.out.below RRc.stays hb)
  have C14 := Lib.hid (same_any A11 A2 nm c11 n2 c2 m zs w13 (HM12.out.below RRc.stays hb) (HZ12.out.below RRc.stays hb) (by omega) (by omega))
  rw [decide_eq_true HMP.out] at C14
  clear hb C13 HB12 HX12 HY12 HZ12 HM12 HMP HQE HLQ HLM HLP
  go_wp2_with fail
  refine C14.out.mono ?_
  rintro e w14 ⟨rfl, hb⟩
  have HB14 := Lib.hid (below_then HB13.out hb)
  have hX14 := HX13.out.below RRc.stays hb
  have hY14 := HY13.out.below RRc.stays hb
  have HX14 := Lib.hid hX14
  have HY14 := Lib.hid hY14
  have hbn5 := below_new w14 (.cells #[.int .i64 5, .int .i64 0] 32)
  have HBN5 := Lib.hid hbn5
  have C15 := Lib.hid (add2_any (hX14.below RRc.stays hbn5) (show Recs (w14.alloc (.cells #[.int .i64 5, .int .i64 0] 32)) (some ⟨w14.heap.size, 0, none⟩) 1 1 [(5, 0)] from recs_lit [(5, 0)] rfl (by omega) (heap_alloc_new _ _)) (by omega) (by omega))
  rw [show (w14.alloc (.cells #[.int .i64 5, .int .i64 0] 32)).heap.size = w14.heap.size + 1 from alloc_size' _ _] at C15
  have hbl : (sortR (xs ++ [(5, 0)])).length ≤ 100 := by rw [sortR_length, List.length_append, LX.out]; simp; omega
  have HE := Lib.hid (show LS xs (sortR (xs ++ [(5, 0)])) = none by
    cases e : LS xs (sortR (xs ++ [(5, 0)])) with
    | none => rfl
    | some l => have := LS_len e; rw [sortR_length, List.length_append] at this; simp at this; omega)
  clear hb C14 HB13 HX13 HY13 hX14 hY14 hbn5
  generalize sortR (xs ++ [(5, 0)]) = b5 at *
  generalize hlb : b5.length = n5 at *
  have HL5 := Lib.hid hlb
  clear hlb
  go_wp2_with fail
  refine C15.out.mono ?_
  rintro e w15 ⟨v, rfl, ho, hb⟩
  rw [HL5.out] at ho
  obtain ⟨A15, c15, ev, R15⟩ := own_recs (n := n5) ho (by omega)
  subst ev
  have hbn := below_then HBN5.out (below_then (below_new _ _) hb)
  have HB15 := Lib.hid (below_then HB14.out hbn)
  have HX15 := Lib.hid (HX14.out.below RRc.stays hbn)
  have HY15 := Lib.hid (HY14.out.below RRc.stays hbn)
  have C16 := Lib.hid (less_any A A15 n c n5 c15 xs b5 w15 HX15.out R15 (by omega) (by omega))
  rw [HE.out] at C16
  simp only [HL5.out]
  clear ho hb hbn C15 R15 HB14 HX14 HY14 HBN5 HE HL5
  go_wp2_with fail
  refine C16.out.mono ?_
  rintro e w16 ⟨v, rfl, ho, hb⟩
  obtain ⟨A16, c16, ev, _⟩ := own_recs (n := 0) ho (by decide)
  subst ev
  have HB16 := Lib.hid (below_then HB15.out hb)
  have HX16 := Lib.hid (HX15.out.below RRc.stays hb)
  have HY16 := Lib.hid (HY15.out.below RRc.stays hb)
  have C17 := Lib.hid (same_any A A' n c n' c' xs ys w16 HX16.out HY16.out (by omega) (by omega))
  clear ho hb C16 HB15 HX15 HY15
  go_wp2_with fail
  refine C17.out.mono ?_
  rintro e w17 ⟨rfl, hb⟩
  have HB17 := Lib.hid (below_then HB16.out hb)
  have HX17 := Lib.hid (HX16.out.below RRc.stays hb)
  have HY17 := Lib.hid (HY16.out.below RRc.stays hb)
  have C18 := Lib.hid (sorted_any A n c xs w17 HX17.out (by omega))
  have HLX := Lib.hid (show (sortR xs).length = n by rw [sortR_length, LX.out])
  have HLY := Lib.hid (show (sortR ys).length = n' by rw [sortR_length, LY.out])
  have C19 := Lib.hid (fun W hR => sorted_any A' n' c' ys W hR (by omega))
  generalize sortR xs = sx at *
  generalize sortR ys = sy at *
  have CAL := Lib.hid (fun W Av cv Aw cw h1 h2 => alike_any Av Aw n cv n' cw sx sy W h1 h2)
  generalize decide (sx = sy) = sb at *
  clear hb C17 HB16 HX16 HY16
  go_wp2_with fail
  refine C18.out.mono ?_
  rintro e w18 ⟨v, rfl, ho, hb⟩
  obtain ⟨A18, c18, ev, R18⟩ := own_recs (n := n) (by rw [HLX.out] at ho; exact ho) (by omega)
  subst ev
  simp only [HLX.out]
  have HB18 := Lib.hid (below_then HB17.out hb)
  have HR18 := Lib.hid (show Recs w18 A18 n c18 sx from R18)
  have C19 := Lib.hid (C19.out w18 (HY17.out.below RRc.stays hb))
  clear ho hb C18 HB17 HX17 HY17 R18
  go_wp2_with fail
  refine C19.out.mono ?_
  rintro e w19 ⟨v, rfl, ho, hb⟩
  obtain ⟨A19, c19, ev, R19⟩ := own_recs (n := n') (by rw [HLY.out] at ho; exact ho) (by omega)
  subst ev
  simp only [HLY.out]
  have HB19 := Lib.hid (below_then HB18.out hb)
  have C20 := Lib.hid (CAL.out w19 A18 c18 A19 c19 (HR18.out.below RRc.stays hb) R19)
  clear ho hb C19 HB18 HR18 R19 CAL
  go_wp2_with fail
  refine C20.out.mono ?_
  rintro e w20 ⟨rfl, hb⟩
  have HB20 := Lib.hid (below_then HB19.out hb)
  clear hb C20 HB19
  have hbb : (sb == sb) = true := by simp
  go_wp2_with fail
  refine (works_any _).mono ?_
  rintro e w21 ⟨rfl, hb⟩
  have HB21 := Lib.hid (below_then HB20.out hb)
  clear hb HB20
  go_wp2_with fail
  go_ret
  exact .bool rfl HB21.out
theorem law_adds (A A' A2 : Option Addr) (n c n' c' n2 c2 : Nat) (x : Int) (xs ys zs : List Rc) (w : World) (hX : Recs w A n c xs) (hY : Recs w A' n' c' ys) (hZ : Recs w A2 n2 c2 zs) (hx : -9223372036854775808 ≤ x ∧ x ≤ 9223372036854775807) :
    Calls Try.prog 4 #[.slice A n c, .slice A' n' c', .slice A2 n2 c2, .int .i64 x] w (Gives (.bool true) w) := by
  by_cases h1 : n ≤ 60
  · by_cases h2 : n' ≤ 60
    · by_cases h3 : n2 ≤ 60
      · exact law_adds_yes A A' A2 n c n' c' n2 c2 x xs ys zs w hX hY hZ h1 h2 h3 hx
      · exact law_adds_no A A' A2 n c n' c' n2 c2 x w (.inr (.inr ⟨h1, h2, by omega⟩))
    · exact law_adds_no A A' A2 n c n' c' n2 c2 x w (.inr (.inl ⟨h1, by omega⟩))
  · exact law_adds_no A A' A2 n c n' c' n2 c2 x w (.inl (by omega))
end Go.Proofs.Ytainoghjelfnkaa
