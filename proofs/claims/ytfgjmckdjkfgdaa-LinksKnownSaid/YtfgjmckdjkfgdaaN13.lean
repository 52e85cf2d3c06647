/- all: the links that hold something, one by one. -/
import Derived.RangeFuncNested
import Derived.RangeFuncBound
import Derived.RangeFuncCalls
import Derived.RangeFuncLeaves
import Derived.RangeFuncBox
import Derived.RangeFuncStops
import Derived.Shelf.Abstract
import Derived.Shelf.RegionOpen
import Derived.WalkKit
import Derived.OwnWalkIn
import Derived.TacticsInMore
import Derived.LoopNIn
import Derived.LoopIn
import Derived.Test.YtfgjmckdjkfgdaaRows
import Derived.IntWalk
import Derived.Test.YtfgjmckdjkfgdaaWords
import Derived.Test.YtfgjmckdjkfgdaaFrame
import Derived.Test.YtfgjmckdjkfgdaaHeads
import Derived.Test.YtfgjmckdjkfgdaaRangeFirst
import Derived.Test.YtfgjmckdjkfgdaaN1
import Derived.Test.YtfgjmckdjkfgdaaN2
import Derived.Test.YtfgjmckdjkfgdaaN10
import Derived.Test.YtfgjmckdjkfgdaaN11
import Derived.Test.YtfgjmckdjkfgdaaN12
namespace Go.Proofs.Ytfgjmckdjkfgdaa
open Go Go.RowKit Go.Proofs.Tail
attribute [local go_sem] Oper.semAt_some
set_option linter.unusedSimpArgs false
set_option linter.unusedVariables false
/-- The links of end a to the first j ends that hold something. -/
def partL (N : NetS) (a j : Nat) : List (Nat × Nat) := ((List.range j).filter fun (b : Nat) => decide (0 < lenN N a b)).map fun b => (a, b)
/-- Those of the first i ends. -/
def rowsL (N : NetS) (i : Nat) : List (Nat × Nat) := (List.range i).flatMap fun a => partL N a N.E
def linksN (N : NetS) : List (Nat × Nat) := rowsL N N.E
theorem partL_zero (N : NetS) (a : Nat) : partL N a 0 = [] := rfl
theorem partL_yes {N : NetS} {a j : Nat} (h : 0 < lenN N a j) : partL N a (j + 1) = partL N a j ++ [(a, j)] := by
  unfold partL; rw [List.range_succ, List.filter_append, List.map_append]; simp [h]
theorem partL_no {N : NetS} {a j : Nat} (h : ¬ 0 < lenN N a j) : partL N a (j + 1) = partL N a j := by
  unfold partL; rw [List.range_succ, List.filter_append, List.map_append]; simp [h]
theorem rowsL_succ (N : NetS) (i : Nat) : rowsL N (i + 1) = rowsL N i ++ partL N i N.E := by
  unfold rowsL; rw [List.range_succ, List.flatMap_append]; simp
theorem partL_len (N : NetS) (a j : Nat) : (partL N a j).length ≤ j := by
  unfold partL; rw [List.length_map]; exact Nat.le_trans (List.length_filter_le _ _) (by simp)
theorem rowsL_len (N : NetS) (hE : N.E ≤ 64) (i : Nat) : (rowsL N i).length ≤ i * 64 := by
  induction i with
  | zero => simp [rowsL]
  | succ i ih => rw [rowsL_succ, List.length_append]; have := partL_len N i N.E; omega
set_option maxRecDepth 100000 in
set_option maxHeartbeats 4000000 in
theorem all_in (n : Nat) (hn : 1 ≤ n) (l P n0 : Nat) (D : Nat → Prop) (N : NetS) (J : List (Nat × Nat) → World → Prop) (W : World) (hN : Net W D P N) (hD : ∀ k, D k → k < n0)
    (hY : ∀ pre (x : Nat × Nat) W1, J pre W1 → pre.length < 4096 → YieldAt Fence.wide (n - 1) Try.prog l #[.agg #[.int .i64 x.1, .int .i64 x.2]] W1 fun e W' => e = .returned (.bool true) ∧ J (pre ++ [x]) W' ∧ Below n0 W1 W') (h0 : J [] W) :
    CallsIn Fence.wide n Try.prog 30 #[.pointer (some ⟨P, 0, none⟩), .func (.yield l) #[] #[]] W fun e W' => (∃ v, e = .returned v) ∧ ∃ xs, xs = linksN N ∧ J xs W' := by
  obtain ⟨E64, E1, _⟩ := hN.reads
  have HE := Lib.hid (nends_any hN)
  have HL := Lib.hid (fun (a b : Int) (W : World) (h : Net W D P N) => nlen_any h a b)
  have HN := Lib.hid hN
  have HY := Lib.hid hY
  have H0 := Lib.hid h0
  clear hN hY h0
  refine callsIn_of_wp Try.func30 rfl trivial ?_ rfl
  simp only [Try.ntmps30, List.size_toArray, List.length_cons, List.length_nil, Nat.reduceAdd, Nat.reduceSub, Array.replicate_succ, Array.replicate_zero, List.push_toArray, List.append_toArray, List.nil_append, List.cons_append]
  gi_wp2_with (refine ⟨trivial, ?_⟩; gi_at_call 19; (with_reducible refine (callsIn_wide.2 HE.out).mono ?_); rintro e w1 ⟨rfl, rfl⟩)
  gi_loopw [8] (fun i wr => ∃ k : Nat, k ≤ N.E ∧ i = .int .i64 k ∧ Hid (Net wr D P N) ∧ Hid (J (rowsL N k) wr)) (fun i _ => N.E - (intOf i).toNat)
  case atStart => exact ⟨0, Nat.zero_le _, rfl, HN, H0⟩
  case round =>
    obtain ⟨k, hk, rfl, HNr, HJ⟩ := hrel
    by_cases hlt : k < N.E
    · have hd : decide ((k : Int) < N.E) = true := decide_eq_true (by omega)
      have hd' : decide (k < N.E) = true := decide_eq_true (by omega)
      have cE := HNr.out.reads.2.2.2.1
      have HJ0 := Lib.hid (show J (rowsL N k ++ partL N k 0) wr by rw [partL_zero, List.append_nil]; exact HJ.out)
      obtain ⟨wq, hwq⟩ : ∃ wq, wq = wr := ⟨_, rfl⟩
      gi_wp2
      clear cE HJ
      gi_loopw [15] (fun i wr => ∃ j : Nat, j ≤ N.E ∧ i = .int .i64 j ∧ Hid (Net wr D P N) ∧ Hid (J (rowsL N k ++ partL N k j) wr)) (fun i _ => N.E - (intOf i).toNat)
      case atStart => exact ⟨0, Nat.zero_le _, rfl, HNr, HJ0⟩
      case round =>
        clear HNr HJ0
        obtain ⟨j, hj, rfl, HNj, HJ⟩ := hrel
        by_cases hlj : j < N.E
        · have hd : decide ((j : Int) < N.E) = true := decide_eq_true (by omega)
          have hd' : decide (j < N.E) = true := decide_eq_true (by omega)
          have HC := Lib.hid (HL.out k j wr HNj.out)
          by_cases hp : 0 < lenN N k j
          · have hpd : decide (0 < (lenN N k j : Int)) = true := decide_eq_true (by omega)
            have hpd' : decide (0 < lenN N k j) = true := decide_eq_true hp
            have HP := Lib.hid hp
            clear hp
            have hlen : (rowsL N k ++ partL N k j).length < 4096 := by
              rw [List.length_append]
              have := rowsL_len N E64 k
              have := partL_len N k j
              omega
            obtain ⟨fn, tmps, assign, body, hy, hR⟩ := HY.out (rowsL N k ++ partL N k j) (k, j) wr HJ.out hlen
            have HR := Lib.hid hR
            clear hR hlen
            gi_wp2_with (first
              | (refine ⟨trivial, ?_⟩; gi_at_call 20; (with_reducible refine (callsIn_wide.2 HC.out).mono ?_); rintro e w1 ⟨rfl, rfl⟩)
              | gi_in)
            refine HR.out.mono ?_
            rintro e W3 ⟨rfl, hJ4, hk4⟩
            have HJ4 := Lib.hid hJ4
            have HB4 := Lib.hid hk4
            clear hJ4 hk4 hy HR HC
            gi_wp2
            go_roundw
            case rel => exact ⟨j + 1, by omega, by go_num, Lib.hid (HNj.out.keep (fun b hb => HB4.out.block b (hD b hb)) HB4.out.size), Lib.hid (by rw [partL_yes HP.out, ← List.append_assoc]; exact HJ4.out)⟩
            case measure => simp [intOf]; omega
          · have hpd : decide (0 < (lenN N k j : Int)) = false := decide_eq_false (by omega)
            have hpd' : decide (0 < lenN N k j) = false := decide_eq_false hp
            have HP := Lib.hid hp
            clear hp
            gi_wp2_with (first
              | (refine ⟨trivial, ?_⟩; gi_at_call 20; (with_reducible refine (callsIn_wide.2 HC.out).mono ?_); rintro e w1 ⟨rfl, rfl⟩)
              | gi_in)
            refine ⟨(fun f h => by cases h), ?_⟩
            gi_wp2
            go_roundw
            case rel => exact ⟨j + 1, by omega, by go_num, HNj, Lib.hid (by rw [partL_no HP.out]; exact HJ.out)⟩
            case measure => simp [intOf]; omega
        · have hd : decide ((j : Int) < N.E) = false := decide_eq_false (by omega)
          have hd' : decide (j < N.E) = false := decide_eq_false (by omega)
          have hje : j = N.E := by omega
          gi_wp2
          go_roundw
          case rel => exact ⟨k + 1, by omega, by go_num, HNj, Lib.hid (by rw [rowsL_succ]; have := HJ.out; rwa [hje] at this)⟩
          case measure => simp [intOf]; omega
    · have hd : decide ((k : Int) < N.E) = false := decide_eq_false (by omega)
      have hd' : decide (k < N.E) = false := decide_eq_false (by omega)
      have hke : k = N.E := by omega
      gi_wp2
      go_end0
      exact ⟨⟨_, rfl⟩, linksN N, rfl, by have := HJ.out; rwa [hke] at this⟩
end Go.Proofs.Ytfgjmckdjkfgdaa
