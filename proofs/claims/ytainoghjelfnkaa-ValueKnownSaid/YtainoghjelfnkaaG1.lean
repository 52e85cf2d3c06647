/- The contract of slices.Chunk, of rows of bytes in sixteens. -/
import Derived.RangeFuncNested
import Derived.RangeFuncBound
import Derived.RangeFuncCalls
import Derived.RangeFuncLeaves
import Derived.RangeFuncBox
import Derived.Shelf.Abstract
import Derived.Shelf.RegionOpen
import Derived.WalkKit
import Derived.OwnWalkIn
import Derived.TacticsInMore
import Derived.LoopNIn
import Derived.LoopIn
import Derived.Sort.QuietIn
import Derived.Test.YtainoghjelfnkaaRows
import Derived.IntWalk
import Derived.Test.YtainoghjelfnkaaWords
namespace Go.Proofs.Ytainoghjelfnkaa
open Go Go.RowKit Go.Proofs.Tail Go.Shelf
attribute [local go_sem] Oper.semAt_some
set_option linter.unusedSimpArgs false
set_option linter.unusedVariables false
set_option maxHeartbeats 1000000 in
theorem chunk_in (F : Fence) (n : Nat) (h5 : F.fn 34) (hro : F.round = none) (a : Option Addr) (len cap : Nat) (w : World) :
    CallsIn F n Try.prog 34 #[.slice a len cap, .int .i64 16] w fun e w' => e = .returned (.func (.func 42) #[] #[.pointer (some ⟨w.heap.size, 0, none⟩), .pointer (some ⟨w.heap.size + 1, 0, none⟩)]) ∧ w' = (w.alloc (.cells #[.slice a len cap] 37)).alloc (.cells #[.int .i64 16] 3) := by
  refine callsIn_of_wp Try.func34 rfl h5 ?_ hro
  simp only [Try.ntmps34, List.size_toArray, List.length_cons, List.length_nil, Nat.reduceAdd, Nat.reduceSub, Array.replicate_succ, Array.replicate_zero, List.push_toArray, List.append_toArray, List.nil_append, List.cons_append]
  gi_wp2
  go_ret
  exact ⟨rfl, rfl⟩
/-- Two blocks stay. -/
structure Kb (Bs Bn : Nat) (A B : World) : Prop where
  s : B.heap[Bs]? = A.heap[Bs]?
  n : B.heap[Bn]? = A.heap[Bn]?
theorem Kb.refl (Bs Bn : Nat) (A : World) : Kb Bs Bn A A := ⟨rfl, rfl⟩
theorem Kb.trans {Bs Bn : Nat} {A B C : World} (h : Kb Bs Bn A B) (k : Kb Bs Bn B C) : Kb Bs Bn A C := ⟨k.s.trans h.s, k.n.trans h.n⟩
theorem Kb.below {Bs Bn n₀ : Nat} {A B : World} (h : Below n₀ A B) (hs : Bs < n₀) (hn : Bn < n₀) : Kb Bs Bn A B := ⟨h.block Bs hs, h.block Bn hn⟩
theorem Kb.grown {Bs Bn : Nat} {A B : World} {row : Option Nat} (h : A.grownBy B row) (hs : Bs < A.heap.size) (hn : Bn < A.heap.size) (h1 : some Bs ≠ row) (h2 : some Bn ≠ row) : Kb Bs Bn A B := ⟨h.block Bs hs h1, h.block Bn hn h2⟩
theorem fin_take {m k : Nat} (h : k < m) : (List.finRange m).take (k + 1) = (List.finRange m).take k ++ [⟨k, h⟩] := by
  rw [List.take_succ_eq_append_getElem (by rw [List.length_finRange]; exact h), List.getElem_finRange]
  rfl
/-- The j-th sixteen. -/
def six (b off j : Nat) : Value := .slice (some ⟨b, off + 16 * j, none⟩) 16 16
set_option maxRecDepth 100000 in
set_option maxHeartbeats 4000000 in
theorem chunk1_in (n : Nat) (hn : 1 ≤ n) (l Bs Bn b off m cap : Nat) (hcap : 16 * m ≤ cap) (hm : m ≤ 100000) (W : World) (J Jx : List (Fin m) → World → Prop)
    (hY : ∀ pre x W, J pre W → pre.length < m → YieldAt Fence.wide (n - 1) Try.prog l #[six b off x.1] W fun e W' =>
      (e = .returned (.bool true) ∧ J (pre ++ [x]) W' ∧ Kb Bs Bn W W') ∨ (e = .returned (.bool false) ∧ Jx (pre ++ [x]) W'))
    (hJa : AbidesFrom W.heap.size J) (hBs : W.cell? ⟨Bs, 0, none⟩ = some (.slice (some ⟨b, off, none⟩) (16 * m) cap)) (hBn : W.cell? ⟨Bn, 0, none⟩ = some (.int .i64 16)) (h0 : J [] W) :
    CallsIn Fence.wide n Try.prog 42 #[.func (.yield l) #[] #[], .pointer (some ⟨Bs, 0, none⟩), .pointer (some ⟨Bn, 0, none⟩)] W fun e W' => (∃ v, e = .returned v) ∧
      ((∃ ys, ys = List.finRange m ∧ J ys W') ∨ (∃ pre, (∃ k, k ≤ m ∧ pre = (List.finRange m).take k) ∧ Jx pre W')) := by
  refine callsIn_of_wp Try.func42 rfl trivial ?_ rfl
  simp only [Try.ntmps42, List.size_toArray, List.length_cons, List.length_nil, Nat.reduceAdd, Nat.reduceSub, Array.replicate_succ, Array.replicate_zero, List.push_toArray, List.append_toArray, List.nil_append, List.cons_append]
  gi_wp2
  gi_loopw [4] (fun i wr => ∃ k : Nat, k ≤ m ∧ i = .int .i64 ((16 * k : Nat) : Int) ∧ J ((List.finRange m).take k) wr ∧ Kb Bs Bn W wr)
    (fun i _ => 16 * m - (intOf i).toNat)
  case atStart => exact ⟨0, Nat.zero_le _, rfl, h0, Kb.refl _ _ _⟩
  case round =>
    obtain ⟨k, hk, rfl, hJs, hnx⟩ := hrel
    have cs := (World.cell?_of_block (w := W) (w' := wr) (a := ⟨Bs, 0, none⟩) hnx.s).trans hBs
    have cn := (World.cell?_of_block (w := W) (w' := wr) (a := ⟨Bn, 0, none⟩) hnx.n).trans hBn
    by_cases hlt : k < m
    · obtain ⟨p, hp⟩ : ∃ p, p = 16 * k := ⟨_, rfl⟩
      have hpm : p + 16 ≤ 16 * m := by omega
      rw [← hp]
      have HPK := Lib.hid hp
      have i1 : (0 : Int) ≤ p := by omega
      have i2 : (p : Int) ≤ ((16 * m : Nat) : Int) := by omega
      have i3 : (p : Int) ≤ cap := by omega
      have i4 : ¬ cap = p := by omega
      have i5 : (16 : Int) ≤ ((16 * m - p : Nat) : Int) := by omega
      have i6 : 16 ≤ 16 * m - p := by omega
      have u37 := Try.underlying37
      have z5 := Try.sizeOf5
      clear hp
      gi_wp2
      gi_quiet (fail)
      obtain ⟨wd, hwd⟩ : ∃ q, q = wr.drewN nq := ⟨_, rfl⟩
      rw [← hwd]
      have cs2 : wd.cell? ⟨Bs, 0, none⟩ = some (.slice (some ⟨b, off, none⟩) (16 * m) cap) := by rw [hwd]; exact cs
      have hJd : J ((List.finRange m).take k) wd := hJa _ wr wd none hJs (by rw [hwd]; exact ⟨rfl, rfl, rfl, Nat.le_refl _, fun _ _ _ => rfl⟩) (fun r e => by cases e)
      have hBd : Kb Bs Bn W wd := by rw [hwd]; exact hnx.trans ⟨rfl, rfl⟩
      obtain ⟨fn, tmps, assign, body, hy, hR⟩ := hY _ ⟨k, hlt⟩ wd hJd (by rw [List.length_take, List.length_finRange]; omega)
      dsimp only at hy
      unfold six at hy
      rw [← HPK.out] at hy
      clear hwd cs hnx hJs
      have j1 : IntKind.i64.wrap ((p : Int) + 16) = (p : Int) + 16 := IntWalk.i64_in _ ⟨by omega, by omega⟩
      have i7 : (p : Int) + 16 ≤ cap := by omega
      have i8 : (p : Int) ≤ (p : Int) + 16 := by omega
      gi_wp2
      refine hR.mono ?_
      rintro e W3 (⟨rfl, hJ3, hk3⟩ | ⟨rfl, hJx3⟩)
      · have cn3 := (World.cell?_of_block (w := W) (w' := W3) (a := ⟨Bn, 0, none⟩) (hBd.trans hk3).n).trans hBn
        gi_wp2
        go_roundw
        case rel => exact ⟨k + 1, by omega, by have := HPK.out; go_num, by rw [fin_take hlt]; exact hJ3, hBd.trans hk3⟩
        case measure => simp [intOf]; omega
      · gi_wp2
        refine bodyPost_ret (results_none rfl _ _ _) rfl ?_
        exact ⟨⟨_, rfl⟩, .inr ⟨_, ⟨k + 1, by omega, (fin_take hlt).symm⟩, hJx3⟩⟩
    · obtain rfl : k = m := by omega
      gi_wp2
      go_end0
      exact ⟨⟨_, rfl⟩, .inl ⟨_, rfl, by rw [List.take_of_length_le (by rw [List.length_finRange]; exact Nat.le_refl _)] at hJs; exact hJs⟩⟩
set_option maxRecDepth 100000 in
set_option maxHeartbeats 4000000 in
theorem chunk1_nil (n : Nat) (l Bs Bn c : Nat) (A : Option Addr) (J : List (Fin 0) → World → Prop) (W : World) (hBs : W.cell? ⟨Bs, 0, none⟩ = some (.slice A 0 c)) (h0 : J [] W) :
    CallsIn Fence.wide n Try.prog 42 #[.func (.yield l) #[] #[], .pointer (some ⟨Bs, 0, none⟩), .pointer (some ⟨Bn, 0, none⟩)] W fun e W' => (∃ v, e = .returned v) ∧ J [] W' := by
  refine callsIn_of_wp Try.func42 rfl trivial ?_ rfl
  simp only [Try.ntmps42, List.size_toArray, List.length_cons, List.length_nil, Nat.reduceAdd, Nat.reduceSub, Array.replicate_succ, Array.replicate_zero, List.push_toArray, List.append_toArray, List.nil_append, List.cons_append]
  gi_wp2
  gi_loopw [4] (fun i wr => i = .int .i64 0 ∧ wr = W) (fun _ _ => 0)
  case atStart => exact ⟨rfl, rfl⟩
  case round =>
    obtain ⟨rfl, rfl⟩ := hrel
    gi_wp2
    go_end0
    exact ⟨⟨_, rfl⟩, h0⟩
/-- slices.Chunk's value: all sixteens, in order, or some of them. -/
theorem chunk_stops (n : Nat) (hn : 1 ≤ n) (Bs Bn b off m cap : Nat) (A : Option Addr) (hA : A = some ⟨b, off, none⟩ ∨ m = 0) (hcap : 16 * m ≤ cap) (hm : m ≤ 100000) (w : World) (hs : Bs < w.heap.size) (hnn : Bn < w.heap.size)
    (hBs : w.cell? ⟨Bs, 0, none⟩ = some (.slice A (16 * m) cap)) (hBn : w.cell? ⟨Bn, 0, none⟩ = some (.int .i64 16)) :
    SeqStopsK Fence.wide n Try.prog 42 #[.pointer (some ⟨Bs, 0, none⟩), .pointer (some ⟨Bn, 0, none⟩)] (fun x : Fin m => #[six b off x.1]) (Kb Bs Bn) (fun ys => ys = List.finRange m) (fun _ => True) m w := fun l J Jx W hW hJ _ hY h0 => by
  have hc := (hW.cell (p := ⟨Bs, 0, none⟩) hs).trans hBs
  have hd := (hW.cell (p := ⟨Bn, 0, none⟩) hnn).trans hBn
  rcases hA with rfl | rfl
  · refine (chunk1_in n hn l Bs Bn b off m cap hcap hm W J Jx hY hJ hc hd h0).mono ?_
    rintro e W' ⟨he, ⟨ys, rfl, hj⟩ | ⟨pre, _, hj⟩⟩
    · exact ⟨he, .inl ⟨_, rfl, hj⟩⟩
    · exact ⟨he, .inr ⟨_, trivial, hj⟩⟩
  · exact (chunk1_nil n l Bs Bn cap A J W hc h0).mono fun e W' ⟨he, hj⟩ => ⟨he, .inl ⟨[], rfl, hj⟩⟩
end Go.Proofs.Ytainoghjelfnkaa
