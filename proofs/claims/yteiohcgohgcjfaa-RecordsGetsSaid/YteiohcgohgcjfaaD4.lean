/- Contracts of may's inner function, IndexFunc, ContainsFunc, Same. -/
import Derived.Test.YteiohcgohgcjfaaRows
import Derived.IntWalk
import Derived.Test.YteiohcgohgcjfaaWords
import Derived.Test.YteiohcgohgcjfaaByts
import Derived.Test.YteiohcgohgcjfaaFrame
import Derived.Test.YteiohcgohgcjfaaElems
import Derived.Test.YteiohcgohgcjfaaS1
import Derived.Test.YteiohcgohgcjfaaS2
import Derived.Test.YteiohcgohgcjfaaEqs
import Derived.Test.YteiohcgohgcjfaaD1
import Derived.Test.YteiohcgohgcjfaaD2
import Derived.Test.YteiohcgohgcjfaaD3
namespace Go.Proofs.Yteiohcgohgcjfaa
open Go Go.RowKit Go.Proofs.Tail
set_option linter.unusedSimpArgs false
set_option linter.unusedVariables false
def wrongU (u : Upd) : Bool := !(nodeB u.n) || !u.s.rightB
theorem ints_one1 (w : World) (B : Nat) (x : Int) (hB : w.heap.size = B) : Ints (w.alloc (.cells #[.int .i64 x] 3)) (some ⟨B, 0, none⟩) 1 1 [x] := by
  subst hB
  refine ⟨rfl, Nat.le_refl _, by omega, fun _ => ⟨w.heap.size, 0, rfl, fun j v hj => ?_⟩⟩
  have h := Blk.new w [.int .i64 x] 3 _ rfl
  match j, hj with
  | 0, hj => cases hj; exact h.cell 0
theorem ints_three (w : World) (B : Nat) (x y z : Int) (hB : w.heap.size = B) : Ints (w.alloc (.cells #[.int .i64 x, .int .i64 y, .int .i64 z] 3)) (some ⟨B, 0, none⟩) 3 3 [x, y, z] := by
  subst hB
  refine ⟨rfl, Nat.le_refl _, by omega, fun _ => ⟨w.heap.size, 0, rfl, fun j v hj => ?_⟩⟩
  have h := Blk.new w [.int .i64 x, .int .i64 y, .int .i64 z] 3 _ rfl
  match j, hj with
  | 0, hj => cases hj; exact h.cell 0
  | 1, hj => cases hj; exact h.cell 1
  | 2, hj => cases hj; exact h.cell 2
/-- A change's box. -/
def bxU (u : Upd) : List Value := [.int .i64 u.n, .bool u.h, .int .i64 u.s.d, .int .i64 u.s.e, .int .i64 u.s.a, .int .i64 u.s.b, .int .i64 u.s.c, .int .i64 u.m]
set_option maxHeartbeats 4000000 in
theorem wrong_any (u : Upd) (w : World) : Calls Try.prog 47 #[.agg #[.int .i64 u.n, .bool u.h, .int .i64 u.s.d, .int .i64 u.s.e, .int .i64 u.s.a, .int .i64 u.s.b, .int .i64 u.s.c, .int .i64 u.m]] w (Gives (.bool (wrongU u)) w) := by
  have hB := Blk.new w (bxU u) 54 _ rfl
  have hb1 := below_new w (.cells (bxU u).toArray 54)
  have hb2 := below_then hb1 (below_new (w.alloc (.cells (bxU u).toArray 54)) (.cells #[.int .i64 u.n] 3))
  have hB2 := hB.then (below_new (w.alloc (.cells (bxU u).toArray 54)) (.cells #[.int .i64 u.n] 3))
  have HN := Lib.hid (nodes_any _ 1 1 _ _ (ints_one1 (w.alloc (.cells (bxU u).toArray 54)) (w.heap.size + 1) u.n (by simp)) (by omega))
  have HB2 := Lib.hid hb2
  have HR := Lib.hid (fun W => right_any u.s W)
  have a0 : (w.alloc (.cells (bxU u).toArray 54)).cell? ⟨w.heap.size, 0, none⟩ = some (.int .i64 u.n) := hB.cell 0
  have a2 : ((w.alloc (.cells (bxU u).toArray 54)).alloc (.cells #[.int .i64 u.n] 3)).cell? ⟨w.heap.size, 2, none⟩ = some (.int .i64 u.s.d) := hB2.cell 2
  have a3 : ((w.alloc (.cells (bxU u).toArray 54)).alloc (.cells #[.int .i64 u.n] 3)).cell? ⟨w.heap.size, 3, none⟩ = some (.int .i64 u.s.e) := hB2.cell 3
  have a4 : ((w.alloc (.cells (bxU u).toArray 54)).alloc (.cells #[.int .i64 u.n] 3)).cell? ⟨w.heap.size, 4, none⟩ = some (.int .i64 u.s.a) := hB2.cell 4
  have a5 : ((w.alloc (.cells (bxU u).toArray 54)).alloc (.cells #[.int .i64 u.n] 3)).cell? ⟨w.heap.size, 5, none⟩ = some (.int .i64 u.s.b) := hB2.cell 5
  have a6 : ((w.alloc (.cells (bxU u).toArray 54)).alloc (.cells #[.int .i64 u.n] 3)).cell? ⟨w.heap.size, 6, none⟩ = some (.int .i64 u.s.c) := hB2.cell 6
  have hq : ([u.n].all nodeB) = nodeB u.n := by simp
  rw [hq] at HN
  unfold bxU at a0 a2 a3 a4 a5 a6 HN
  clear hB hb1 hb2 hB2 hq
  cases hn : nodeB u.n with
  | false =>
    rw [hn] at HN
    have HQ := Lib.hid (show wrongU u = true by unfold wrongU; rw [hn]; rfl)
    clear hn
    go_enter Try.func47, Try.ntmps47
    go_wp2_with fail
    with_reducible refine HN.out.mono ?_
    rintro e w1 ⟨rfl, rfl⟩
    go_wp2_with fail
    go_ret
    exact .bool HQ.out.symm HB2.out
  | true =>
    rw [hn] at HN
    have HQ := Lib.hid (show wrongU u = !u.s.rightB by unfold wrongU; rw [hn]; rfl)
    clear hn
    go_enter Try.func47, Try.ntmps47
    go_wp2_with fail
    with_reducible refine HN.out.mono ?_
    rintro e w1 ⟨rfl, rfl⟩
    go_wp2_with fail
    refine (HR.out _).mono ?_
    rintro e w2 ⟨rfl, hb⟩
    have HB3 := Lib.hid (below_then HB2.out hb)
    clear hb a0 a2 a3 a4 a5 a6
    go_wp2_with fail
    go_ret
    exact .bool HQ.out.symm HB3.out
set_option maxHeartbeats 4000000 in
theorem indexf_any (A : Option Addr) (n c : Nat) (U : List Upd) (w : World) (hX : Upds w A n c U) :
    Calls Try.prog 58 #[.slice A n c, .func (.func 47) #[] #[]] w (GivesI (fun i => decide (0 ≤ i) = U.any wrongU) w) := by
  have HX := Lib.hid hX
  have HL := Lib.hid hX.len
  have hbig := hX.big
  have HF := Lib.hid (fun u W => wrong_any u W)
  have H0 := Lib.hid (show ∀ j, j < 0 → ∀ u, U[j]? = some u → wrongU u = false from fun j h => absurd h (Nat.not_lt_zero _))
  have HB := Lib.hid (Below.refl w.heap.size w)
  clear hX
  go_enter Try.func58, Try.ntmps58
  go_wp2_with fail
  go_loopw [8] (fun i wr => ∃ k : Nat, k ≤ n ∧ i = .int .i64 k ∧ Hid (∀ j, j < k → ∀ u, U[j]? = some u → wrongU u = false) ∧ Hid (Below w.heap.size w wr)) (fun i _ => n - (intOf i).toNat)
  case atStart => exact ⟨0, Nat.zero_le _, rfl, H0, HB⟩
  case round =>
    clear H0 HB
    obtain ⟨k, hk, rfl, HK, HB⟩ := hrel
    by_cases hlt : k < n
    · have hd : decide ((k : Int) < n) = true := decide_eq_true (by omega)
      have hd' : decide (k < n) = true := decide_eq_true (by omega)
      have hk0 : (0 : Int) ≤ k := by omega
      have hkn : (k : Int) < n := by omega
      obtain ⟨b1, o1, u, rfl, ex, rx⟩ := HX.out.elem hlt
      obtain ⟨z0, z1, z2, z3, z4, z5, z6, z7⟩ := rx.below HB.out
      have HE := Lib.hid ex
      clear ex rx
      go_wp2_with fail
      refine (HF.out u _).mono ?_
      rintro e w2 ⟨rfl, hb⟩
      have HB2 := Lib.hid (below_then HB.out hb)
      clear hb z0 z1 z2 z3 z4 z5 z6 z7
      cases hq : wrongU u with
      | true =>
        have HQ := Lib.hid (show decide ((0 : Int) ≤ k) = U.any wrongU by
          rw [decide_eq_true hk0, eq_comm, List.any_eq_true]
          exact ⟨u, List.mem_of_getElem? HE.out, hq⟩)
        clear hq
        go_wp2_with fail
        go_ret
        exact ⟨_, rfl, HQ.out, HB2.out⟩
      | false =>
        have HN : Hid (∀ j, j < k + 1 → ∀ y, U[j]? = some y → wrongU y = false) := Lib.hid fun j hj y hy => by
          rcases Nat.eq_or_lt_of_le (Nat.le_of_lt_succ hj) with e | e
          · subst e; rw [HE.out] at hy; cases hy; exact hq
          · exact HK.out j e y hy
        clear hq
        go_wp2_with fail
        go_roundw
        case rel => exact ⟨k + 1, by omega, by go_num, HN, HB2⟩
        case measure => simp [intOf]; omega
    · have hd : decide ((k : Int) < n) = false := decide_eq_false (by omega)
      have hd' : decide (k < n) = false := decide_eq_false (by omega)
      have HQ := Lib.hid (show decide ((0 : Int) ≤ -1) = U.any wrongU by
        rw [decide_eq_false (by omega), eq_comm, List.any_eq_false]
        intro u hu
        obtain ⟨j, hj, rfl⟩ := List.getElem_of_mem hu
        rw [HK.out j (by have := HL.out; omega) _ (List.getElem?_eq_getElem hj)]
        simp)
      go_wp2_with fail
      go_ret
      exact ⟨_, rfl, HQ.out, HB.out⟩
theorem containsf_any (A : Option Addr) (n c : Nat) (U : List Upd) (w : World) (hX : Upds w A n c U) :
    Calls Try.prog 48 #[.slice A n c, .func (.func 47) #[] #[]] w (Gives (.bool (U.any wrongU)) w) := by
  have HI := Lib.hid (indexf_any A n c U w hX)
  clear hX
  go_enter Try.func48, Try.ntmps48
  go_wp2_with fail
  refine HI.out.mono ?_
  rintro e w1 ⟨i, rfl, hi, hb⟩
  have HQ := Lib.hid hi
  have HB := Lib.hid hb
  clear hi hb
  go_wp2_with fail
  go_ret
  exact .bool HQ.out HB.out
end Go.Proofs.Yteiohcgohgcjfaa
