/- Contract of stamp.Get. -/
import Derived.Test.YteiohcgohgcjfaaRows
import Derived.Test.YteiohcgohgcjfaaWords
import Derived.Test.YteiohcgohgcjfaaByts
import Derived.Test.YteiohcgohgcjfaaBitsW
import Derived.Test.YteiohcgohgcjfaaS1
import Derived.Test.YteiohcgohgcjfaaS2
import Derived.Test.YteiohcgohgcjfaaS11
import Derived.Test.YteiohcgohgcjfaaEqs
import Derived.Test.YteiohcgohgcjfaaBs
namespace Go.Proofs.Yteiohcgohgcjfaa
open Go.RowKit Go.Proofs.Tail
set_option linter.unusedSimpArgs false
set_option linter.unusedVariables false

/-- The time that bytes begin with, where they do. -/
def getC (xs : List Int) : T := ⟨xs.getD 0 0, xs.getD 1 0 * 256 + xs.getD 2 0, if 0 < xs.getD 0 0 then xs.getD 3 0 else 0, if 1 < xs.getD 0 0 then xs.getD 4 0 else 0, if 2 < xs.getD 0 0 then xs.getD 5 0 else 0⟩
def getB (xs : List Int) : Bool := decide (3 ≤ xs.length ∧ xs.getD 0 0 ≤ 3 ∧ 3 + (xs.getD 0 0).toNat ≤ xs.length ∧ (getC xs).right)
def getT (xs : List Int) : T := if getB xs = true then getC xs else T0
def getR (xs : List Int) : List Int := if getB xs = true then xs.drop (3 + (xs.getD 0 0).toNat) else []
def getE (xs : List Int) : Int := if getB xs = true then 0 else 50
def GivesGet (xs : List Int) (w : World) (e : Ending) (w' : World) : Prop :=
  ∃ A n c, e = .returned (.tuple #[.agg #[.int .i64 (getT xs).d, .int .i64 (getT xs).e, .int .i64 (getT xs).a, .int .i64 (getT xs).b, .int .i64 (getT xs).c], .slice A n c, .int .i64 (getE xs)]) ∧ Byts w A n c (getR xs) ∧ Below w.heap.size w w'
/-- Refused. -/
def GivesNone (w : World) (e : Ending) (w' : World) : Prop :=
  ∃ A n c, e = .returned (.tuple #[.agg #[.int .i64 0, .int .i64 0, .int .i64 0, .int .i64 0, .int .i64 0], .slice A n c, .int .i64 50]) ∧ A = none ∧ n = 0 ∧ c = 0 ∧ Below w.heap.size w w'
theorem get_none {xs : List Int} (h : getB xs = false) {w : World} {e : Ending} {w' : World} (g : GivesNone w e w') : GivesGet xs w e w' := by
  obtain ⟨A, n, c, rfl, rfl, rfl, rfl, hb⟩ := g
  refine ⟨none, 0, 0, ?_, ?_, hb⟩
  · unfold getT getE; rw [h]; rfl
  · unfold getR; rw [h]; exact Rd.nil _ _ _
/-- A time, and where the rest lies. -/
def GivesAt (t : T) (b o n c : Nat) (w : World) (e : Ending) (w' : World) : Prop :=
  ∃ o', (n = 0 ∨ o' = o) ∧ e = .returned (.tuple #[.agg #[.int .i64 t.d, .int .i64 t.e, .int .i64 t.a, .int .i64 t.b, .int .i64 t.c], .slice (some ⟨b, o', none⟩) n c, .int .i64 0]) ∧ Below w.heap.size w w'

set_option maxRecDepth 100000 in
set_option maxHeartbeats 8000000 in
theorem get_short (A : Option Addr) (n c : Nat) (w : World) (hn : n < 3) : Calls Try.prog 53 #[.slice A n c] w (GivesNone w) := by

  have HB := Lib.hid (below_new w (.cells #[.int .i64 0, .int .i64 0, .int .i64 0, .int .i64 0, .int .i64 0] 24))
  have HB2 := Lib.hid (below_alloc (below_new w (.cells #[.int .i64 0, .int .i64 0, .int .i64 0, .int .i64 0, .int .i64 0] 24)) (.cells #[.int .i64 0, .int .i64 0, .int .i64 0, .int .i64 0, .int .i64 0] 24))
  go_enter Try.func53, Try.ntmps53
  go_wp2_with fail
  (try simp only [Exit.inBlock, Exit.then])
  refine bodyPost_ret (v := .tuple #[.agg #[.int .i64 0, .int .i64 0, .int .i64 0, .int .i64 0, .int .i64 0], .slice none 0 0, .int .i64 50]) ?_ rfl ⟨_, _, _, rfl, rfl, rfl, rfl, ?_⟩
  · rw [results_cell_tmp2 rfl]; go_simp
  · (repeat' with_reducible (first | exact HB.out | exact HB2.out | refine Below.setCell ?_ (by dsimp only; omega) _ | refine Below.drew ?_))
set_option maxRecDepth 100000 in
set_option maxHeartbeats 8000000 in
theorem get_deep (b o n c : Nat) (x0 : Int) (w : World) (z0 : w.cell? ⟨b, o, none⟩ = some (.int .u8 x0)) (h0 : 3 < x0) (h1 : x0 < 256) (hn : 3 ≤ n) (hc : n ≤ c) (hm : n ≤ 9223372036854775807) : Calls Try.prog 53 #[.slice (some ⟨b, o, none⟩) n c] w (GivesNone w) := by
  have hlt := World.block_lt_of_cell? w _ z0
  have HB := Lib.hid (below_new w (.cells #[.int .i64 0, .int .i64 0, .int .i64 0, .int .i64 0, .int .i64 0] 24))
  have HB2 := Lib.hid (below_alloc (below_new w (.cells #[.int .i64 0, .int .i64 0, .int .i64 0, .int .i64 0, .int .i64 0] 24)) (.cells #[.int .i64 0, .int .i64 0, .int .i64 0, .int .i64 0, .int .i64 0] 24))
  go_enter Try.func53, Try.ntmps53
  go_wp2_with fail
  (try simp only [Exit.inBlock, Exit.then])
  refine bodyPost_ret (v := .tuple #[.agg #[.int .i64 0, .int .i64 0, .int .i64 0, .int .i64 0, .int .i64 0], .slice none 0 0, .int .i64 50]) ?_ rfl ⟨_, _, _, rfl, rfl, rfl, rfl, ?_⟩
  · rw [results_cell_tmp2 rfl]; go_simp
  · (repeat' with_reducible (first | exact HB.out | exact HB2.out | refine Below.setCell ?_ (by dsimp only; omega) _ | refine Below.drew ?_))
set_option maxRecDepth 100000 in
set_option maxHeartbeats 8000000 in
theorem get_cut (b o n c : Nat) (x0 : Int) (w : World) (z0 : w.cell? ⟨b, o, none⟩ = some (.int .u8 x0)) (h0 : 0 ≤ x0) (h1 : x0 ≤ 3) (hn : 3 ≤ n) (h2 : n < 3 + x0.toNat) (hc : n ≤ c) (hm : n ≤ 9223372036854775807) : Calls Try.prog 53 #[.slice (some ⟨b, o, none⟩) n c] w (GivesNone w) := by
  have hlt := World.block_lt_of_cell? w _ z0
  have HB := Lib.hid (below_new w (.cells #[.int .i64 0, .int .i64 0, .int .i64 0, .int .i64 0, .int .i64 0] 24))
  have HB2 := Lib.hid (below_alloc (below_new w (.cells #[.int .i64 0, .int .i64 0, .int .i64 0, .int .i64 0, .int .i64 0] 24)) (.cells #[.int .i64 0, .int .i64 0, .int .i64 0, .int .i64 0, .int .i64 0] 24))
  go_enter Try.func53, Try.ntmps53
  go_wp2_with fail
  (try simp only [Exit.inBlock, Exit.then])
  refine bodyPost_ret (v := .tuple #[.agg #[.int .i64 0, .int .i64 0, .int .i64 0, .int .i64 0, .int .i64 0], .slice none 0 0, .int .i64 50]) ?_ rfl ⟨_, _, _, rfl, rfl, rfl, rfl, ?_⟩
  · rw [results_cell_tmp2 rfl]; go_simp
  · (repeat' with_reducible (first | exact HB.out | exact HB2.out | refine Below.setCell ?_ (by dsimp only; omega) _ | refine Below.drew ?_))
set_option maxRecDepth 100000 in
set_option maxHeartbeats 8000000 in
theorem get_0_no (b o n c : Nat) (x1 x2 : Int) (w : World) (z0 : w.cell? ⟨b, o, none⟩ = some (.int .u8 0)) (z1 : w.cell? ⟨b, o + 1, none⟩ = some (.int .u8 x1)) (z2 : w.cell? ⟨b, o + 2, none⟩ = some (.int .u8 x2)) (g1 : 0 ≤ x1 ∧ x1 < 256) (g2 : 0 ≤ x2 ∧ x2 < 256) (hn : 3 ≤ n) (hc : n ≤ c) (hm : n ≤ 9223372036854775807) (hr : T.rightB ⟨0, x1 * 256 + x2, 0, 0, 0⟩ = false) : Calls Try.prog 53 #[.slice (some ⟨b, o, none⟩) n c] w (GivesNone w) := by
  have H1 := fun w => right_any ⟨0, x1 * 256 + x2, 0, 0, 0⟩ w
  rw [hr] at H1
  clear hr
  have H1 := Lib.hid H1
  have hbt := bits_or_byte64 x1 x2 (by omega) (by omega) (by omega) (by omega)
  have hlt := World.block_lt_of_cell? w _ z0
  have N0 : Hid (Bs w ((w.alloc (.cells #[.int .i64 0, .int .i64 0, .int .i64 0, .int .i64 0, .int .i64 0] 24)).alloc (.cells #[.int .i64 0, .int .i64 (x1 * 256 + x2), .int .i64 0, .int .i64 0, .int .i64 0] 24)) [(w.heap.size + 1, ⟨0, x1 * 256 + x2, 0, 0, 0⟩), (w.heap.size, T0)]) := Lib.hid (Bs.two w T0 ⟨0, x1 * 256 + x2, 0, 0, 0⟩)
  go_enter Try.func53, Try.ntmps53
  go_wp2_with fail
  go_region
  go_wp2_with fail
  refine wp_loop_rounds 1 ?_
  rw [rounds_succ]
  go_wp2_with fail
  refine (H1.out _).mono ?_
  rintro e1 w1 ⟨rfl, hb⟩
  first | have N1 := Lib.hid (N0.out.below hb) | have N1 := Lib.hid (N0.out.drew.below hb) | have N1 := Lib.hid (N0.out.drew.drew.below hb) | have N1 := Lib.hid (N0.out.drew.drew.drew.below hb) | have N1 := Lib.hid (N0.out.drew.drew.drew.drew.below hb)
  clear hb N0
  have l0 := N1.out.at 0 rfl
  have l1 := N1.out.at 1 rfl
  have f1 := (N1.out.x (w.heap.size, T0) (by simp)).frozen
  have HE := Lib.hid N1.out.b
  dsimp only [T0] at l0 l1 f1
  go_wp2_with fail
  (try simp only [Exit.inBlock, Exit.then])
  refine bodyPost_ret (v := .tuple #[.agg #[.int .i64 0, .int .i64 0, .int .i64 0, .int .i64 0, .int .i64 0], .slice none 0 0, .int .i64 50]) ?_ rfl ⟨_, _, _, rfl, rfl, rfl, rfl, ?_⟩
  · rw [results_cell_tmp2 rfl]; go_simp
  · (repeat' with_reducible (first | exact HE.out | refine Below.setCell ?_ (by dsimp only; omega) _ | refine Below.drew ?_))
set_option maxRecDepth 100000 in
set_option maxHeartbeats 8000000 in
theorem get_0_ok (b o n c : Nat) (x1 x2 : Int) (w : World) (z0 : w.cell? ⟨b, o, none⟩ = some (.int .u8 0)) (z1 : w.cell? ⟨b, o + 1, none⟩ = some (.int .u8 x1)) (z2 : w.cell? ⟨b, o + 2, none⟩ = some (.int .u8 x2)) (g1 : 0 ≤ x1 ∧ x1 < 256) (g2 : 0 ≤ x2 ∧ x2 < 256) (hn : 3 ≤ n) (hc : n ≤ c) (hm : n ≤ 9223372036854775807) (hr : T.rightB ⟨0, x1 * 256 + x2, 0, 0, 0⟩ = true) (hcc : c ≠ 3) : Calls Try.prog 53 #[.slice (some ⟨b, o, none⟩) n c] w (GivesAt ⟨0, x1 * 256 + x2, 0, 0, 0⟩ b (o + 3) (n - 3) (c - 3) w) := by
  have H1 := fun w => right_any ⟨0, x1 * 256 + x2, 0, 0, 0⟩ w
  rw [hr] at H1
  clear hr
  have H1 := Lib.hid H1
  have hbt := bits_or_byte64 x1 x2 (by omega) (by omega) (by omega) (by omega)
  have hlt := World.block_lt_of_cell? w _ z0
  have N0 : Hid (Bs w ((w.alloc (.cells #[.int .i64 0, .int .i64 0, .int .i64 0, .int .i64 0, .int .i64 0] 24)).alloc (.cells #[.int .i64 0, .int .i64 (x1 * 256 + x2), .int .i64 0, .int .i64 0, .int .i64 0] 24)) [(w.heap.size + 1, ⟨0, x1 * 256 + x2, 0, 0, 0⟩), (w.heap.size, T0)]) := Lib.hid (Bs.two w T0 ⟨0, x1 * 256 + x2, 0, 0, 0⟩)
  go_enter Try.func53, Try.ntmps53
  go_wp2_with fail
  go_region
  go_wp2_with fail
  refine wp_loop_rounds 1 ?_
  rw [rounds_succ]
  go_wp2_with fail
  refine (H1.out _).mono ?_
  rintro e1 w1 ⟨rfl, hb⟩
  first | have N1 := Lib.hid (N0.out.below hb) | have N1 := Lib.hid (N0.out.drew.below hb) | have N1 := Lib.hid (N0.out.drew.drew.below hb) | have N1 := Lib.hid (N0.out.drew.drew.drew.below hb) | have N1 := Lib.hid (N0.out.drew.drew.drew.drew.below hb)
  clear hb N0
  have l0 := N1.out.at 0 rfl
  have l1 := N1.out.at 1 rfl
  have f1 := (N1.out.x (w.heap.size, T0) (by simp)).frozen
  have HE := Lib.hid N1.out.b
  dsimp only [T0] at l0 l1 f1
  go_wp2_with fail
  go_region
  go_wp2_with fail
  (try simp only [Exit.inBlock, Exit.then])
  refine bodyPost_ret (v := .tuple #[.agg #[.int .i64 0, .int .i64 (x1 * 256 + x2), .int .i64 0, .int .i64 0, .int .i64 0], .slice (some ⟨b, (o + 3), none⟩) (n - 3) (c - 3), .int .i64 0]) ?_ rfl ⟨_, .inr rfl, rfl, ?_⟩
  · rw [results_cell_tmp2 rfl]; go_simp
  · (repeat' with_reducible (first | exact HE.out | refine Below.setCell ?_ (by dsimp only; omega) _ | refine Below.drew ?_))
set_option maxRecDepth 100000 in
set_option maxHeartbeats 8000000 in
theorem get_0_full (b o n c : Nat) (x1 x2 : Int) (w : World) (z0 : w.cell? ⟨b, o, none⟩ = some (.int .u8 0)) (z1 : w.cell? ⟨b, o + 1, none⟩ = some (.int .u8 x1)) (z2 : w.cell? ⟨b, o + 2, none⟩ = some (.int .u8 x2)) (g1 : 0 ≤ x1 ∧ x1 < 256) (g2 : 0 ≤ x2 ∧ x2 < 256) (hn : 3 ≤ n) (hc : n ≤ c) (hm : n ≤ 9223372036854775807) (hr : T.rightB ⟨0, x1 * 256 + x2, 0, 0, 0⟩ = true) (hcc : c = 3) : Calls Try.prog 53 #[.slice (some ⟨b, o, none⟩) n c] w (GivesAt ⟨0, x1 * 256 + x2, 0, 0, 0⟩ b (o + 3) (n - 3) (c - 3) w) := by
  obtain rfl : n = 3 := by omega
  subst hcc
  have H1 := fun w => right_any ⟨0, x1 * 256 + x2, 0, 0, 0⟩ w
  rw [hr] at H1
  clear hr
  have H1 := Lib.hid H1
  have hbt := bits_or_byte64 x1 x2 (by omega) (by omega) (by omega) (by omega)
  have hlt := World.block_lt_of_cell? w _ z0
  have N0 : Hid (Bs w ((w.alloc (.cells #[.int .i64 0, .int .i64 0, .int .i64 0, .int .i64 0, .int .i64 0] 24)).alloc (.cells #[.int .i64 0, .int .i64 (x1 * 256 + x2), .int .i64 0, .int .i64 0, .int .i64 0] 24)) [(w.heap.size + 1, ⟨0, x1 * 256 + x2, 0, 0, 0⟩), (w.heap.size, T0)]) := Lib.hid (Bs.two w T0 ⟨0, x1 * 256 + x2, 0, 0, 0⟩)
  go_enter Try.func53, Try.ntmps53
  go_wp2_with fail
  go_region
  go_wp2_with fail
  refine wp_loop_rounds 1 ?_
  rw [rounds_succ]
  go_wp2_with fail
  refine (H1.out _).mono ?_
  rintro e1 w1 ⟨rfl, hb⟩
  first | have N1 := Lib.hid (N0.out.below hb) | have N1 := Lib.hid (N0.out.drew.below hb) | have N1 := Lib.hid (N0.out.drew.drew.below hb) | have N1 := Lib.hid (N0.out.drew.drew.drew.below hb) | have N1 := Lib.hid (N0.out.drew.drew.drew.drew.below hb)
  clear hb N0
  have l0 := N1.out.at 0 rfl
  have l1 := N1.out.at 1 rfl
  have f1 := (N1.out.x (w.heap.size, T0) (by simp)).frozen
  have HE := Lib.hid N1.out.b
  dsimp only [T0] at l0 l1 f1
  go_wp2_with fail
  go_region
  go_wp2_with fail
  (try simp only [Exit.inBlock, Exit.then])
  refine bodyPost_ret (v := .tuple #[.agg #[.int .i64 0, .int .i64 (x1 * 256 + x2), .int .i64 0, .int .i64 0, .int .i64 0], .slice (some ⟨b, o, none⟩) (3 - 3) (3 - 3), .int .i64 0]) ?_ rfl ⟨_, .inl rfl, rfl, ?_⟩
  · rw [results_cell_tmp2 rfl]; go_simp
  · (repeat' with_reducible (first | exact HE.out | refine Below.setCell ?_ (by dsimp only; omega) _ | refine Below.drew ?_))
set_option maxRecDepth 100000 in
set_option maxHeartbeats 8000000 in
theorem get_1_no (b o n c : Nat) (x1 x2 x3 : Int) (w : World) (z0 : w.cell? ⟨b, o, none⟩ = some (.int .u8 1)) (z1 : w.cell? ⟨b, o + 1, none⟩ = some (.int .u8 x1)) (z2 : w.cell? ⟨b, o + 2, none⟩ = some (.int .u8 x2)) (z3 : w.cell? ⟨b, o + 3, none⟩ = some (.int .u8 x3)) (g1 : 0 ≤ x1 ∧ x1 < 256) (g2 : 0 ≤ x2 ∧ x2 < 256) (g3 : 0 ≤ x3 ∧ x3 < 256) (hn : 4 ≤ n) (hc : n ≤ c) (hm : n ≤ 9223372036854775807) (hr : T.rightB ⟨1, x1 * 256 + x2, x3, 0, 0⟩ = false) : Calls Try.prog 53 #[.slice (some ⟨b, o, none⟩) n c] w (GivesNone w) := by
  have H1 := fun w => right_any ⟨1, x1 * 256 + x2, x3, 0, 0⟩ w
  rw [hr] at H1
  clear hr
  have H1 := Lib.hid H1
  have hbt := bits_or_byte64 x1 x2 (by omega) (by omega) (by omega) (by omega)
  have hlt := World.block_lt_of_cell? w _ z0
  have N0 : Hid (Bs w ((w.alloc (.cells #[.int .i64 0, .int .i64 0, .int .i64 0, .int .i64 0, .int .i64 0] 24)).alloc (.cells #[.int .i64 1, .int .i64 (x1 * 256 + x2), .int .i64 x3, .int .i64 0, .int .i64 0] 24)) [(w.heap.size + 1, ⟨1, x1 * 256 + x2, x3, 0, 0⟩), (w.heap.size, T0)]) := Lib.hid (Bs.two w T0 ⟨1, x1 * 256 + x2, x3, 0, 0⟩)
  go_enter Try.func53, Try.ntmps53
  go_wp2_with fail
  go_region
  go_wp2_with fail
  refine wp_loop_rounds 2 ?_
  rw [rounds_succ]
  go_wp2_with fail
  rw [rounds_succ]
  go_wp2_with fail
  refine (H1.out _).mono ?_
  rintro e1 w1 ⟨rfl, hb⟩
  first | have N1 := Lib.hid (N0.out.below hb) | have N1 := Lib.hid (N0.out.drew.below hb) | have N1 := Lib.hid (N0.out.drew.drew.below hb) | have N1 := Lib.hid (N0.out.drew.drew.drew.below hb) | have N1 := Lib.hid (N0.out.drew.drew.drew.drew.below hb)
  clear hb N0
  have l0 := N1.out.at 0 rfl
  have l1 := N1.out.at 1 rfl
  have f1 := (N1.out.x (w.heap.size, T0) (by simp)).frozen
  have HE := Lib.hid N1.out.b
  dsimp only [T0] at l0 l1 f1
  go_wp2_with fail
  (try simp only [Exit.inBlock, Exit.then])
  refine bodyPost_ret (v := .tuple #[.agg #[.int .i64 0, .int .i64 0, .int .i64 0, .int .i64 0, .int .i64 0], .slice none 0 0, .int .i64 50]) ?_ rfl ⟨_, _, _, rfl, rfl, rfl, rfl, ?_⟩
  · rw [results_cell_tmp2 rfl]; go_simp
  · (repeat' with_reducible (first | exact HE.out | refine Below.setCell ?_ (by dsimp only; omega) _ | refine Below.drew ?_))
set_option maxRecDepth 100000 in
set_option maxHeartbeats 8000000 in
theorem get_1_ok (b o n c : Nat) (x1 x2 x3 : Int) (w : World) (z0 : w.cell? ⟨b, o, none⟩ = some (.int .u8 1)) (z1 : w.cell? ⟨b, o + 1, none⟩ = some (.int .u8 x1)) (z2 : w.cell? ⟨b, o + 2, none⟩ = some (.int .u8 x2)) (z3 : w.cell? ⟨b, o + 3, none⟩ = some (.int .u8 x3)) (g1 : 0 ≤ x1 ∧ x1 < 256) (g2 : 0 ≤ x2 ∧ x2 < 256) (g3 : 0 ≤ x3 ∧ x3 < 256) (hn : 4 ≤ n) (hc : n ≤ c) (hm : n ≤ 9223372036854775807) (hr : T.rightB ⟨1, x1 * 256 + x2, x3, 0, 0⟩ = true) (hcc : c ≠ 4) : Calls Try.prog 53 #[.slice (some ⟨b, o, none⟩) n c] w (GivesAt ⟨1, x1 * 256 + x2, x3, 0, 0⟩ b (o + 4) (n - 4) (c - 4) w) := by
  have H1 := fun w => right_any ⟨1, x1 * 256 + x2, x3, 0, 0⟩ w
  rw [hr] at H1
  clear hr
  have H1 := Lib.hid H1
  have hbt := bits_or_byte64 x1 x2 (by omega) (by omega) (by omega) (by omega)
  have hlt := World.block_lt_of_cell? w _ z0
  have N0 : Hid (Bs w ((w.alloc (.cells #[.int .i64 0, .int .i64 0, .int .i64 0, .int .i64 0, .int .i64 0] 24)).alloc (.cells #[.int .i64 1, .int .i64 (x1 * 256 + x2), .int .i64 x3, .int .i64 0, .int .i64 0] 24)) [(w.heap.size + 1, ⟨1, x1 * 256 + x2, x3, 0, 0⟩), (w.heap.size, T0)]) := Lib.hid (Bs.two w T0 ⟨1, x1 * 256 + x2, x3, 0, 0⟩)
  go_enter Try.func53, Try.ntmps53
  go_wp2_with fail
  go_region
  go_wp2_with fail
  refine wp_loop_rounds 2 ?_
  rw [rounds_succ]
  go_wp2_with fail
  rw [rounds_succ]
  go_wp2_with fail
  refine (H1.out _).mono ?_
  rintro e1 w1 ⟨rfl, hb⟩
  first | have N1 := Lib.hid (N0.out.below hb) | have N1 := Lib.hid (N0.out.drew.below hb) | have N1 := Lib.hid (N0.out.drew.drew.below hb) | have N1 := Lib.hid (N0.out.drew.drew.drew.below hb) | have N1 := Lib.hid (N0.out.drew.drew.drew.drew.below hb)
  clear hb N0
  have l0 := N1.out.at 0 rfl
  have l1 := N1.out.at 1 rfl
  have f1 := (N1.out.x (w.heap.size, T0) (by simp)).frozen
  have HE := Lib.hid N1.out.b
  dsimp only [T0] at l0 l1 f1
  go_wp2_with fail
  go_region
  go_wp2_with fail
  (try simp only [Exit.inBlock, Exit.then])
  refine bodyPost_ret (v := .tuple #[.agg #[.int .i64 1, .int .i64 (x1 * 256 + x2), .int .i64 x3, .int .i64 0, .int .i64 0], .slice (some ⟨b, (o + 4), none⟩) (n - 4) (c - 4), .int .i64 0]) ?_ rfl ⟨_, .inr rfl, rfl, ?_⟩
  · rw [results_cell_tmp2 rfl]; go_simp
  · (repeat' with_reducible (first | exact HE.out | refine Below.setCell ?_ (by dsimp only; omega) _ | refine Below.drew ?_))
set_option maxRecDepth 100000 in
set_option maxHeartbeats 8000000 in
theorem get_1_full (b o n c : Nat) (x1 x2 x3 : Int) (w : World) (z0 : w.cell? ⟨b, o, none⟩ = some (.int .u8 1)) (z1 : w.cell? ⟨b, o + 1, none⟩ = some (.int .u8 x1)) (z2 : w.cell? ⟨b, o + 2, none⟩ = some (.int .u8 x2)) (z3 : w.cell? ⟨b, o + 3, none⟩ = some (.int .u8 x3)) (g1 : 0 ≤ x1 ∧ x1 < 256) (g2 : 0 ≤ x2 ∧ x2 < 256) (g3 : 0 ≤ x3 ∧ x3 < 256) (hn : 4 ≤ n) (hc : n ≤ c) (hm : n ≤ 9223372036854775807) (hr : T.rightB ⟨1, x1 * 256 + x2, x3, 0, 0⟩ = true) (hcc : c = 4) : Calls Try.prog 53 #[.slice (some ⟨b, o, none⟩) n c] w (GivesAt ⟨1, x1 * 256 + x2, x3, 0, 0⟩ b (o + 4) (n - 4) (c - 4) w) := by
  obtain rfl : n = 4 := by omega
  subst hcc
  have H1 := fun w => right_any ⟨1, x1 * 256 + x2, x3, 0, 0⟩ w
  rw [hr] at H1
  clear hr
  have H1 := Lib.hid H1
  have hbt := bits_or_byte64 x1 x2 (by omega) (by omega) (by omega) (by omega)
  have hlt := World.block_lt_of_cell? w _ z0
  have N0 : Hid (Bs w ((w.alloc (.cells #[.int .i64 0, .int .i64 0, .int .i64 0, .int .i64 0, .int .i64 0] 24)).alloc (.cells #[.int .i64 1, .int .i64 (x1 * 256 + x2), .int .i64 x3, .int .i64 0, .int .i64 0] 24)) [(w.heap.size + 1, ⟨1, x1 * 256 + x2, x3, 0, 0⟩), (w.heap.size, T0)]) := Lib.hid (Bs.two w T0 ⟨1, x1 * 256 + x2, x3, 0, 0⟩)
  go_enter Try.func53, Try.ntmps53
  go_wp2_with fail
  go_region
  go_wp2_with fail
  refine wp_loop_rounds 2 ?_
  rw [rounds_succ]
  go_wp2_with fail
  rw [rounds_succ]
  go_wp2_with fail
  refine (H1.out _).mono ?_
  rintro e1 w1 ⟨rfl, hb⟩
  first | have N1 := Lib.hid (N0.out.below hb) | have N1 := Lib.hid (N0.out.drew.below hb) | have N1 := Lib.hid (N0.out.drew.drew.below hb) | have N1 := Lib.hid (N0.out.drew.drew.drew.below hb) | have N1 := Lib.hid (N0.out.drew.drew.drew.drew.below hb)
  clear hb N0
  have l0 := N1.out.at 0 rfl
  have l1 := N1.out.at 1 rfl
  have f1 := (N1.out.x (w.heap.size, T0) (by simp)).frozen
  have HE := Lib.hid N1.out.b
  dsimp only [T0] at l0 l1 f1
  go_wp2_with fail
  go_region
  go_wp2_with fail
  (try simp only [Exit.inBlock, Exit.then])
  refine bodyPost_ret (v := .tuple #[.agg #[.int .i64 1, .int .i64 (x1 * 256 + x2), .int .i64 x3, .int .i64 0, .int .i64 0], .slice (some ⟨b, o, none⟩) (4 - 4) (4 - 4), .int .i64 0]) ?_ rfl ⟨_, .inl rfl, rfl, ?_⟩
  · rw [results_cell_tmp2 rfl]; go_simp
  · (repeat' with_reducible (first | exact HE.out | refine Below.setCell ?_ (by dsimp only; omega) _ | refine Below.drew ?_))
set_option maxRecDepth 100000 in
set_option maxHeartbeats 8000000 in
theorem get_2_no (b o n c : Nat) (x1 x2 x3 x4 : Int) (w : World) (z0 : w.cell? ⟨b, o, none⟩ = some (.int .u8 2)) (z1 : w.cell? ⟨b, o + 1, none⟩ = some (.int .u8 x1)) (z2 : w.cell? ⟨b, o + 2, none⟩ = some (.int .u8 x2)) (z3 : w.cell? ⟨b, o + 3, none⟩ = some (.int .u8 x3)) (z4 : w.cell? ⟨b, o + 4, none⟩ = some (.int .u8 x4)) (g1 : 0 ≤ x1 ∧ x1 < 256) (g2 : 0 ≤ x2 ∧ x2 < 256) (g3 : 0 ≤ x3 ∧ x3 < 256) (g4 : 0 ≤ x4 ∧ x4 < 256) (hn : 5 ≤ n) (hc : n ≤ c) (hm : n ≤ 9223372036854775807) (hr : T.rightB ⟨2, x1 * 256 + x2, x3, x4, 0⟩ = false) : Calls Try.prog 53 #[.slice (some ⟨b, o, none⟩) n c] w (GivesNone w) := by
  have H1 := fun w => right_any ⟨2, x1 * 256 + x2, x3, x4, 0⟩ w
  rw [hr] at H1
  clear hr
  have H1 := Lib.hid H1
  have hbt := bits_or_byte64 x1 x2 (by omega) (by omega) (by omega) (by omega)
  have hlt := World.block_lt_of_cell? w _ z0
  have N0 : Hid (Bs w ((w.alloc (.cells #[.int .i64 0, .int .i64 0, .int .i64 0, .int .i64 0, .int .i64 0] 24)).alloc (.cells #[.int .i64 2, .int .i64 (x1 * 256 + x2), .int .i64 x3, .int .i64 x4, .int .i64 0] 24)) [(w.heap.size + 1, ⟨2, x1 * 256 + x2, x3, x4, 0⟩), (w.heap.size, T0)]) := Lib.hid (Bs.two w T0 ⟨2, x1 * 256 + x2, x3, x4, 0⟩)
  go_enter Try.func53, Try.ntmps53
  go_wp2_with fail
  go_region
  go_wp2_with fail
  refine wp_loop_rounds 3 ?_
  rw [rounds_succ]
  go_wp2_with fail
  rw [rounds_succ]
  go_wp2_with fail
  rw [rounds_succ]
  go_wp2_with fail
  refine (H1.out _).mono ?_
  rintro e1 w1 ⟨rfl, hb⟩
  first | have N1 := Lib.hid (N0.out.below hb) | have N1 := Lib.hid (N0.out.drew.below hb) | have N1 := Lib.hid (N0.out.drew.drew.below hb) | have N1 := Lib.hid (N0.out.drew.drew.drew.below hb) | have N1 := Lib.hid (N0.out.drew.drew.drew.drew.below hb)
  clear hb N0
  have l0 := N1.out.at 0 rfl
  have l1 := N1.out.at 1 rfl
  have f1 := (N1.out.x (w.heap.size, T0) (by simp)).frozen
  have HE := Lib.hid N1.out.b
  dsimp only [T0] at l0 l1 f1
  go_wp2_with fail
  (try simp only [Exit.inBlock, Exit.then])
  refine bodyPost_ret (v := .tuple #[.agg #[.int .i64 0, .int .i64 0, .int .i64 0, .int .i64 0, .int .i64 0], .slice none 0 0, .int .i64 50]) ?_ rfl ⟨_, _, _, rfl, rfl, rfl, rfl, ?_⟩
  · rw [results_cell_tmp2 rfl]; go_simp
  · (repeat' with_reducible (first | exact HE.out | refine Below.setCell ?_ (by dsimp only; omega) _ | refine Below.drew ?_))
set_option maxRecDepth 100000 in
set_option maxHeartbeats 8000000 in
theorem get_2_ok (b o n c : Nat) (x1 x2 x3 x4 : Int) (w : World) (z0 : w.cell? ⟨b, o, none⟩ = some (.int .u8 2)) (z1 : w.cell? ⟨b, o + 1, none⟩ = some (.int .u8 x1)) (z2 : w.cell? ⟨b, o + 2, none⟩ = some (.int .u8 x2)) (z3 : w.cell? ⟨b, o + 3, none⟩ = some (.int .u8 x3)) (z4 : w.cell? ⟨b, o + 4, none⟩ = some (.int .u8 x4)) (g1 : 0 ≤ x1 ∧ x1 < 256) (g2 : 0 ≤ x2 ∧ x2 < 256) (g3 : 0 ≤ x3 ∧ x3 < 256) (g4 : 0 ≤ x4 ∧ x4 < 256) (hn : 5 ≤ n) (hc : n ≤ c) (hm : n ≤ 9223372036854775807) (hr : T.rightB ⟨2, x1 * 256 + x2, x3, x4, 0⟩ = true) (hcc : c ≠ 5) : Calls Try.prog 53 #[.slice (some ⟨b, o, none⟩) n c] w (GivesAt ⟨2, x1 * 256 + x2, x3, x4, 0⟩ b (o + 5) (n - 5) (c - 5) w) := by
  have H1 := fun w => right_any ⟨2, x1 * 256 + x2, x3, x4, 0⟩ w
  rw [hr] at H1
  clear hr
  have H1 := Lib.hid H1
  have hbt := bits_or_byte64 x1 x2 (by omega) (by omega) (by omega) (by omega)
  have hlt := World.block_lt_of_cell? w _ z0
  have N0 : Hid (Bs w ((w.alloc (.cells #[.int .i64 0, .int .i64 0, .int .i64 0, .int .i64 0, .int .i64 0] 24)).alloc (.cells #[.int .i64 2, .int .i64 (x1 * 256 + x2), .int .i64 x3, .int .i64 x4, .int .i64 0] 24)) [(w.heap.size + 1, ⟨2, x1 * 256 + x2, x3, x4, 0⟩), (w.heap.size, T0)]) := Lib.hid (Bs.two w T0 ⟨2, x1 * 256 + x2, x3, x4, 0⟩)
  go_enter Try.func53, Try.ntmps53
  go_wp2_with fail
  go_region
  go_wp2_with fail
  refine wp_loop_rounds 3 ?_
  rw [rounds_succ]
  go_wp2_with fail
  rw [rounds_succ]
  go_wp2_with fail
  rw [rounds_succ]
  go_wp2_with fail
  refine (H1.out _).mono ?_
  rintro e1 w1 ⟨rfl, hb⟩
  first | have N1 := Lib.hid (N0.out.below hb) | have N1 := Lib.hid (N0.out.drew.below hb) | have N1 := Lib.hid (N0.out.drew.drew.below hb) | have N1 := Lib.hid (N0.out.drew.drew.drew.below hb) | have N1 := Lib.hid (N0.out.drew.drew.drew.drew.below hb)
  clear hb N0
  have l0 := N1.out.at 0 rfl
  have l1 := N1.out.at 1 rfl
  have f1 := (N1.out.x (w.heap.size, T0) (by simp)).frozen
  have HE := Lib.hid N1.out.b
  dsimp only [T0] at l0 l1 f1
  go_wp2_with fail
  go_region
  go_wp2_with fail
  (try simp only [Exit.inBlock, Exit.then])
  refine bodyPost_ret (v := .tuple #[.agg #[.int .i64 2, .int .i64 (x1 * 256 + x2), .int .i64 x3, .int .i64 x4, .int .i64 0], .slice (some ⟨b, (o + 5), none⟩) (n - 5) (c - 5), .int .i64 0]) ?_ rfl ⟨_, .inr rfl, rfl, ?_⟩
  · rw [results_cell_tmp2 rfl]; go_simp
  · (repeat' with_reducible (first | exact HE.out | refine Below.setCell ?_ (by dsimp only; omega) _ | refine Below.drew ?_))
set_option maxRecDepth 100000 in
set_option maxHeartbeats 8000000 in
theorem get_2_full (b o n c : Nat) (x1 x2 x3 x4 : Int) (w : World) (z0 : w.cell? ⟨b, o, none⟩ = some (.int .u8 2)) (z1 : w.cell? ⟨b, o + 1, none⟩ = some (.int .u8 x1)) (z2 : w.cell? ⟨b, o + 2, none⟩ = some (.int .u8 x2)) (z3 : w.cell? ⟨b, o + 3, none⟩ = some (.int .u8 x3)) (z4 : w.cell? ⟨b, o + 4, none⟩ = some (.int .u8 x4)) (g1 : 0 ≤ x1 ∧ x1 < 256) (g2 : 0 ≤ x2 ∧ x2 < 256) (g3 : 0 ≤ x3 ∧ x3 < 256) (g4 : 0 ≤ x4 ∧ x4 < 256) (hn : 5 ≤ n) (hc : n ≤ c) (hm : n ≤ 9223372036854775807) (hr : T.rightB ⟨2, x1 * 256 + x2, x3, x4, 0⟩ = true) (hcc : c = 5) : Calls Try.prog 53 #[.slice (some ⟨b, o, none⟩) n c] w (GivesAt ⟨2, x1 * 256 + x2, x3, x4, 0⟩ b (o + 5) (n - 5) (c - 5) w) := by
  obtain rfl : n = 5 := by omega
  subst hcc
  have H1 := fun w => right_any ⟨2, x1 * 256 + x2, x3, x4, 0⟩ w
  rw [hr] at H1
  clear hr
  have H1 := Lib.hid H1
  have hbt := bits_or_byte64 x1 x2 (by omega) (by omega) (by omega) (by omega)
  have hlt := World.block_lt_of_cell? w _ z0
  have N0 : Hid (Bs w ((w.alloc (.cells #[.int .i64 0, .int .i64 0, .int .i64 0, .int .i64 0, .int .i64 0] 24)).alloc (.cells #[.int .i64 2, .int .i64 (x1 * 256 + x2), .int .i64 x3, .int .i64 x4, .int .i64 0] 24)) [(w.heap.size + 1, ⟨2, x1 * 256 + x2, x3, x4, 0⟩), (w.heap.size, T0)]) := Lib.hid (Bs.two w T0 ⟨2, x1 * 256 + x2, x3, x4, 0⟩)
  go_enter Try.func53, Try.ntmps53
  go_wp2_with fail
  go_region
  go_wp2_with fail
  refine wp_loop_rounds 3 ?_
  rw [rounds_succ]
  go_wp2_with fail
  rw [rounds_succ]
  go_wp2_with fail
  rw [rounds_succ]
  go_wp2_with fail
  refine (H1.out _).mono ?_
  rintro e1 w1 ⟨rfl, hb⟩
  first | have N1 := Lib.hid (N0.out.below hb) | have N1 := Lib.hid (N0.out.drew.below hb) | have N1 := Lib.hid (N0.out.drew.drew.below hb) | have N1 := Lib.hid (N0.out.drew.drew.drew.below hb) | have N1 := Lib.hid (N0.out.drew.drew.drew.drew.below hb)
  clear hb N0
  have l0 := N1.out.at 0 rfl
  have l1 := N1.out.at 1 rfl
  have f1 := (N1.out.x (w.heap.size, T0) (by simp)).frozen
  have HE := Lib.hid N1.out.b
  dsimp only [T0] at l0 l1 f1
  go_wp2_with fail
  go_region
  go_wp2_with fail
  (try simp only [Exit.inBlock, Exit.then])
  refine bodyPost_ret (v := .tuple #[.agg #[.int .i64 2, .int .i64 (x1 * 256 + x2), .int .i64 x3, .int .i64 x4, .int .i64 0], .slice (some ⟨b, o, none⟩) (5 - 5) (5 - 5), .int .i64 0]) ?_ rfl ⟨_, .inl rfl, rfl, ?_⟩
  · rw [results_cell_tmp2 rfl]; go_simp
  · (repeat' with_reducible (first | exact HE.out | refine Below.setCell ?_ (by dsimp only; omega) _ | refine Below.drew ?_))
set_option maxRecDepth 100000 in
set_option maxHeartbeats 8000000 in
theorem get_3_no (b o n c : Nat) (x1 x2 x3 x4 x5 : Int) (w : World) (z0 : w.cell? ⟨b, o, none⟩ = some (.int .u8 3)) (z1 : w.cell? ⟨b, o + 1, none⟩ = some (.int .u8 x1)) (z2 : w.cell? ⟨b, o + 2, none⟩ = some (.int .u8 x2)) (z3 : w.cell? ⟨b, o + 3, none⟩ = some (.int .u8 x3)) (z4 : w.cell? ⟨b, o + 4, none⟩ = some (.int .u8 x4)) (z5 : w.cell? ⟨b, o + 5, none⟩ = some (.int .u8 x5)) (g1 : 0 ≤ x1 ∧ x1 < 256) (g2 : 0 ≤ x2 ∧ x2 < 256) (g3 : 0 ≤ x3 ∧ x3 < 256) (g4 : 0 ≤ x4 ∧ x4 < 256) (g5 : 0 ≤ x5 ∧ x5 < 256) (hn : 6 ≤ n) (hc : n ≤ c) (hm : n ≤ 9223372036854775807) (hr : T.rightB ⟨3, x1 * 256 + x2, x3, x4, x5⟩ = false) : Calls Try.prog 53 #[.slice (some ⟨b, o, none⟩) n c] w (GivesNone w) := by
  have H1 := fun w => right_any ⟨3, x1 * 256 + x2, x3, x4, x5⟩ w
  rw [hr] at H1
  clear hr
  have H1 := Lib.hid H1
  have hbt := bits_or_byte64 x1 x2 (by omega) (by omega) (by omega) (by omega)
  have hlt := World.block_lt_of_cell? w _ z0
  have N0 : Hid (Bs w ((w.alloc (.cells #[.int .i64 0, .int .i64 0, .int .i64 0, .int .i64 0, .int .i64 0] 24)).alloc (.cells #[.int .i64 3, .int .i64 (x1 * 256 + x2), .int .i64 x3, .int .i64 x4, .int .i64 x5] 24)) [(w.heap.size + 1, ⟨3, x1 * 256 + x2, x3, x4, x5⟩), (w.heap.size, T0)]) := Lib.hid (Bs.two w T0 ⟨3, x1 * 256 + x2, x3, x4, x5⟩)
  go_enter Try.func53, Try.ntmps53
  go_wp2_with fail
  go_region
  go_wp2_with fail
  refine wp_loop_rounds 4 ?_
  rw [rounds_succ]
  go_wp2_with fail
  rw [rounds_succ]
  go_wp2_with fail
  rw [rounds_succ]
  go_wp2_with fail
  rw [rounds_succ]
  go_wp2_with fail
  refine (H1.out _).mono ?_
  rintro e1 w1 ⟨rfl, hb⟩
  first | have N1 := Lib.hid (N0.out.below hb) | have N1 := Lib.hid (N0.out.drew.below hb) | have N1 := Lib.hid (N0.out.drew.drew.below hb) | have N1 := Lib.hid (N0.out.drew.drew.drew.below hb) | have N1 := Lib.hid (N0.out.drew.drew.drew.drew.below hb)
  clear hb N0
  have l0 := N1.out.at 0 rfl
  have l1 := N1.out.at 1 rfl
  have f1 := (N1.out.x (w.heap.size, T0) (by simp)).frozen
  have HE := Lib.hid N1.out.b
  dsimp only [T0] at l0 l1 f1
  go_wp2_with fail
  (try simp only [Exit.inBlock, Exit.then])
  refine bodyPost_ret (v := .tuple #[.agg #[.int .i64 0, .int .i64 0, .int .i64 0, .int .i64 0, .int .i64 0], .slice none 0 0, .int .i64 50]) ?_ rfl ⟨_, _, _, rfl, rfl, rfl, rfl, ?_⟩
  · rw [results_cell_tmp2 rfl]; go_simp
  · (repeat' with_reducible (first | exact HE.out | refine Below.setCell ?_ (by dsimp only; omega) _ | refine Below.drew ?_))
set_option maxRecDepth 100000 in
set_option maxHeartbeats 8000000 in
theorem get_3_ok (b o n c : Nat) (x1 x2 x3 x4 x5 : Int) (w : World) (z0 : w.cell? ⟨b, o, none⟩ = some (.int .u8 3)) (z1 : w.cell? ⟨b, o + 1, none⟩ = some (.int .u8 x1)) (z2 : w.cell? ⟨b, o + 2, none⟩ = some (.int .u8 x2)) (z3 : w.cell? ⟨b, o + 3, none⟩ = some (.int .u8 x3)) (z4 : w.cell? ⟨b, o + 4, none⟩ = some (.int .u8 x4)) (z5 : w.cell? ⟨b, o + 5, none⟩ = some (.int .u8 x5)) (g1 : 0 ≤ x1 ∧ x1 < 256) (g2 : 0 ≤ x2 ∧ x2 < 256) (g3 : 0 ≤ x3 ∧ x3 < 256) (g4 : 0 ≤ x4 ∧ x4 < 256) (g5 : 0 ≤ x5 ∧ x5 < 256) (hn : 6 ≤ n) (hc : n ≤ c) (hm : n ≤ 9223372036854775807) (hr : T.rightB ⟨3, x1 * 256 + x2, x3, x4, x5⟩ = true) (hcc : c ≠ 6) : Calls Try.prog 53 #[.slice (some ⟨b, o, none⟩) n c] w (GivesAt ⟨3, x1 * 256 + x2, x3, x4, x5⟩ b (o + 6) (n - 6) (c - 6) w) := by
  have H1 := fun w => right_any ⟨3, x1 * 256 + x2, x3, x4, x5⟩ w
  rw [hr] at H1
  clear hr
  have H1 := Lib.hid H1
  have hbt := bits_or_byte64 x1 x2 (by omega) (by omega) (by omega) (by omega)
  have hlt := World.block_lt_of_cell? w _ z0
  have N0 : Hid (Bs w ((w.alloc (.cells #[.int .i64 0, .int .i64 0, .int .i64 0, .int .i64 0, .int .i64 0] 24)).alloc (.cells #[.int .i64 3, .int .i64 (x1 * 256 + x2), .int .i64 x3, .int .i64 x4, .int .i64 x5] 24)) [(w.heap.size + 1, ⟨3, x1 * 256 + x2, x3, x4, x5⟩), (w.heap.size, T0)]) := Lib.hid (Bs.two w T0 ⟨3, x1 * 256 + x2, x3, x4, x5⟩)
  go_enter Try.func53, Try.ntmps53
  go_wp2_with fail
  go_region
  go_wp2_with fail
  refine wp_loop_rounds 4 ?_
  rw [rounds_succ]
  go_wp2_with fail
  rw [rounds_succ]
  go_wp2_with fail
  rw [rounds_succ]
  go_wp2_with fail
  rw [rounds_succ]
  go_wp2_with fail
  refine (H1.out _).mono ?_
  rintro e1 w1 ⟨rfl, hb⟩
  first | have N1 := Lib.hid (N0.out.below hb) | have N1 := Lib.hid (N0.out.drew.below hb) | have N1 := Lib.hid (N0.out.drew.drew.below hb) | have N1 := Lib.hid (N0.out.drew.drew.drew.below hb) | have N1 := Lib.hid (N0.out.drew.drew.drew.drew.below hb)
  clear hb N0
  have l0 := N1.out.at 0 rfl
  have l1 := N1.out.at 1 rfl
  have f1 := (N1.out.x (w.heap.size, T0) (by simp)).frozen
  have HE := Lib.hid N1.out.b
  dsimp only [T0] at l0 l1 f1
  go_wp2_with fail
  go_region
  go_wp2_with fail
  (try simp only [Exit.inBlock, Exit.then])
  refine bodyPost_ret (v := .tuple #[.agg #[.int .i64 3, .int .i64 (x1 * 256 + x2), .int .i64 x3, .int .i64 x4, .int .i64 x5], .slice (some ⟨b, (o + 6), none⟩) (n - 6) (c - 6), .int .i64 0]) ?_ rfl ⟨_, .inr rfl, rfl, ?_⟩
  · rw [results_cell_tmp2 rfl]; go_simp
  · (repeat' with_reducible (first | exact HE.out | refine Below.setCell ?_ (by dsimp only; omega) _ | refine Below.drew ?_))
set_option maxRecDepth 100000 in
set_option maxHeartbeats 8000000 in
theorem get_3_full (b o n c : Nat) (x1 x2 x3 x4 x5 : Int) (w : World) (z0 : w.cell? ⟨b, o, none⟩ = some (.int .u8 3)) (z1 : w.cell? ⟨b, o + 1, none⟩ = some (.int .u8 x1)) (z2 : w.cell? ⟨b, o + 2, none⟩ = some (.int .u8 x2)) (z3 : w.cell? ⟨b, o + 3, none⟩ = some (.int .u8 x3)) (z4 : w.cell? ⟨b, o + 4, none⟩ = some (.int .u8 x4)) (z5 : w.cell? ⟨b, o + 5, none⟩ = some (.int .u8 x5)) (g1 : 0 ≤ x1 ∧ x1 < 256) (g2 : 0 ≤ x2 ∧ x2 < 256) (g3 : 0 ≤ x3 ∧ x3 < 256) (g4 : 0 ≤ x4 ∧ x4 < 256) (g5 : 0 ≤ x5 ∧ x5 < 256) (hn : 6 ≤ n) (hc : n ≤ c) (hm : n ≤ 9223372036854775807) (hr : T.rightB ⟨3, x1 * 256 + x2, x3, x4, x5⟩ = true) (hcc : c = 6) : Calls Try.prog 53 #[.slice (some ⟨b, o, none⟩) n c] w (GivesAt ⟨3, x1 * 256 + x2, x3, x4, x5⟩ b (o + 6) (n - 6) (c - 6) w) := by
  obtain rfl : n = 6 := by omega
  subst hcc
  have H1 := fun w => right_any ⟨3, x1 * 256 + x2, x3, x4, x5⟩ w
  rw [hr] at H1
  clear hr
  have H1 := Lib.hid H1
  have hbt := bits_or_byte64 x1 x2 (by omega) (by omega) (by omega) (by omega)
  have hlt := World.block_lt_of_cell? w _ z0
  have N0 : Hid (Bs w ((w.alloc (.cells #[.int .i64 0, .int .i64 0, .int .i64 0, .int .i64 0, .int .i64 0] 24)).alloc (.cells #[.int .i64 3, .int .i64 (x1 * 256 + x2), .int .i64 x3, .int .i64 x4, .int .i64 x5] 24)) [(w.heap.size + 1, ⟨3, x1 * 256 + x2, x3, x4, x5⟩), (w.heap.size, T0)]) := Lib.hid (Bs.two w T0 ⟨3, x1 * 256 + x2, x3, x4, x5⟩)
  go_enter Try.func53, Try.ntmps53
  go_wp2_with fail
  go_region
  go_wp2_with fail
  refine wp_loop_rounds 4 ?_
  rw [rounds_succ]
  go_wp2_with fail
  rw [rounds_succ]
  go_wp2_with fail
  rw [rounds_succ]
  go_wp2_with fail
  rw [rounds_succ]
  go_wp2_with fail
  refine (H1.out _).mono ?_
  rintro e1 w1 ⟨rfl, hb⟩
  first | have N1 := Lib.hid (N0.out.below hb) | have N1 := Lib.hid (N0.out.drew.below hb) | have N1 := Lib.hid (N0.out.drew.drew.below hb) | have N1 := Lib.hid (N0.out.drew.drew.drew.below hb) | have N1 := Lib.hid (N0.out.drew.drew.drew.drew.below hb)
  clear hb N0
  have l0 := N1.out.at 0 rfl
  have l1 := N1.out.at 1 rfl
  have f1 := (N1.out.x (w.heap.size, T0) (by simp)).frozen
  have HE := Lib.hid N1.out.b
  dsimp only [T0] at l0 l1 f1
  go_wp2_with fail
  go_region
  go_wp2_with fail
  (try simp only [Exit.inBlock, Exit.then])
  refine bodyPost_ret (v := .tuple #[.agg #[.int .i64 3, .int .i64 (x1 * 256 + x2), .int .i64 x3, .int .i64 x4, .int .i64 x5], .slice (some ⟨b, o, none⟩) (6 - 6) (6 - 6), .int .i64 0]) ?_ rfl ⟨_, .inl rfl, rfl, ?_⟩
  · rw [results_cell_tmp2 rfl]; go_simp
  · (repeat' with_reducible (first | exact HE.out | refine Below.setCell ?_ (by dsimp only; omega) _ | refine Below.drew ?_))
set_option maxHeartbeats 4000000 in
theorem get_any (A : Option Addr) (n c : Nat) (xs : List Int) (w : World) (hR : Byts w A n c xs) (hB : InB xs) : Calls Try.prog 53 #[.slice A n c] w (GivesGet xs w) := by
  have hl := hR.len
  have hc := hR.cap
  have hm := hR.big
  by_cases h3 : n < 3
  · exact (get_short A n c w h3).mono fun _ _ g => get_none (decide_eq_false (by omega)) g
  · have hin : ∀ j, j < n → 0 ≤ xs.getD j 0 ∧ xs.getD j 0 < 256 := fun j hj => hB _ (by rw [List.getD_eq_getElem?_getD, List.getElem?_eq_getElem (by omega)]; exact List.getElem_mem (by omega))
    obtain ⟨b, o, rfl, _⟩ := hR.byte (j := 0) (by omega)
    have hz : ∀ j, j < n → w.cell? ⟨b, o + j, none⟩ = some (.int .u8 (xs.getD j 0)) := by
      intro j hj
      obtain ⟨b', o', e, h⟩ := hR.byte hj
      injection e with e
      injection e with e1 e2
      subst e1 e2
      exact h
    have z0 := hz 0 (by omega)
    have z1 := hz 1 (by omega)
    have z2 := hz 2 (by omega)
    have g0 := hin 0 (by omega)
    have g1 := hin 1 (by omega)
    have g2 := hin 2 (by omega)
    rw [Nat.add_zero] at z0
    by_cases h4 : 3 < xs.getD 0 0
    · exact (get_deep b o n c _ w z0 h4 (by omega) (by omega) hc hm).mono fun _ _ g => get_none (decide_eq_false (by omega)) g
    · by_cases h5 : n < 3 + (xs.getD 0 0).toNat
      · exact (get_cut b o n c _ w z0 (by omega) (by omega) (by omega) h5 hc hm).mono fun _ _ g => get_none (decide_eq_false (by omega)) g
      · have hd : xs.getD 0 0 = 0 ∨ xs.getD 0 0 = 1 ∨ xs.getD 0 0 = 2 ∨ xs.getD 0 0 = 3 := by omega
        have key : ∀ d : Nat, xs.getD 0 0 = d → ∀ t, getC xs = t → t.rightB = true → Calls Try.prog 53 #[.slice (some ⟨b, o, none⟩) n c] w (GivesAt t b (o + (3 + d)) (n - (3 + d)) (c - (3 + d)) w) → Calls Try.prog 53 #[.slice (some ⟨b, o, none⟩) n c] w (GivesGet xs w) := by
          intro d hd t ht hr h
          refine h.mono fun e w' g => ?_
          obtain ⟨o', ho, rfl, hb⟩ := g
          have hg : getB xs = true := by
            unfold getB
            rw [decide_eq_true_eq]
            exact ⟨by omega, by omega, by omega, by rw [ht]; exact right_iff.1 hr⟩
          refine ⟨some ⟨b, o', none⟩, n - (3 + d), c - (3 + d), ?_, ?_, hb⟩
          · unfold getT getE; rw [hg, ← ht]; rfl
          · unfold getR
            rw [hg, hd]
            refine ⟨by simp; omega, by omega, by omega, fun hp => ⟨b, o', rfl, fun j x hj => ?_⟩⟩
            rcases ho with ho | rfl
            · omega
            · have hj' : j < n - (3 + d) := by have := (List.getElem?_eq_some_iff.1 hj).1; simp at this; omega
              have h1 := hz (3 + d + j) (by omega)
              simp only [if_true, Int.toNat_natCast] at hj
              rw [List.getElem?_drop] at hj
              rw [List.getD_eq_getElem?_getD, hj] at h1
              unfold RByte
              rw [Nat.mul_one, Nat.add_assoc]
              exact h1
        have kno : ∀ t, getC xs = t → t.rightB = false → Calls Try.prog 53 #[.slice (some ⟨b, o, none⟩) n c] w (GivesNone w) → Calls Try.prog 53 #[.slice (some ⟨b, o, none⟩) n c] w (GivesGet xs w) := by
          intro t ht hr h
          refine h.mono fun e w' g => get_none ?_ g
          unfold getB
          rw [decide_eq_false_iff_not, ht]
          rintro ⟨_, _, _, hh⟩
          rw [right_iff.2 hh] at hr
          cases hr
        rcases hd with hd | hd | hd | hd
        · have ht : getC xs = ⟨0, xs.getD 1 0 * 256 + xs.getD 2 0, 0, 0, 0⟩ := by unfold getC; rw [hd]; simp
          rw [hd] at z0
          cases hr : T.rightB ⟨0, xs.getD 1 0 * 256 + xs.getD 2 0, 0, 0, 0⟩ with
          | false => exact kno _ ht hr (get_0_no b o n c _ _ w z0 z1 z2 g1 g2 (by omega) hc hm hr)
          | true =>
            by_cases hcc : c = 3
            · exact key 0 hd _ ht hr (get_0_full b o n c _ _ w z0 z1 z2 g1 g2 (by omega) hc hm hr hcc)
            · exact key 0 hd _ ht hr (get_0_ok b o n c _ _ w z0 z1 z2 g1 g2 (by omega) hc hm hr hcc)
        · have ht : getC xs = ⟨1, xs.getD 1 0 * 256 + xs.getD 2 0, xs.getD 3 0, 0, 0⟩ := by unfold getC; rw [hd]; simp
          rw [hd] at z0
          have z3 := hz 3 (by omega)
          have g3 := hin 3 (by omega)
          cases hr : T.rightB ⟨1, xs.getD 1 0 * 256 + xs.getD 2 0, xs.getD 3 0, 0, 0⟩ with
          | false => exact kno _ ht hr (get_1_no b o n c _ _ _ w z0 z1 z2 z3 g1 g2 g3 (by omega) hc hm hr)
          | true =>
            by_cases hcc : c = 4
            · exact key 1 hd _ ht hr (get_1_full b o n c _ _ _ w z0 z1 z2 z3 g1 g2 g3 (by omega) hc hm hr hcc)
            · exact key 1 hd _ ht hr (get_1_ok b o n c _ _ _ w z0 z1 z2 z3 g1 g2 g3 (by omega) hc hm hr hcc)
        · have ht : getC xs = ⟨2, xs.getD 1 0 * 256 + xs.getD 2 0, xs.getD 3 0, xs.getD 4 0, 0⟩ := by unfold getC; rw [hd]; simp
          rw [hd] at z0
          have z3 := hz 3 (by omega)
          have g3 := hin 3 (by omega)
          have z4 := hz 4 (by omega)
          have g4 := hin 4 (by omega)
          cases hr : T.rightB ⟨2, xs.getD 1 0 * 256 + xs.getD 2 0, xs.getD 3 0, xs.getD 4 0, 0⟩ with
          | false => exact kno _ ht hr (get_2_no b o n c _ _ _ _ w z0 z1 z2 z3 z4 g1 g2 g3 g4 (by omega) hc hm hr)
          | true =>
            by_cases hcc : c = 5
            · exact key 2 hd _ ht hr (get_2_full b o n c _ _ _ _ w z0 z1 z2 z3 z4 g1 g2 g3 g4 (by omega) hc hm hr hcc)
            · exact key 2 hd _ ht hr (get_2_ok b o n c _ _ _ _ w z0 z1 z2 z3 z4 g1 g2 g3 g4 (by omega) hc hm hr hcc)
        · have ht : getC xs = ⟨3, xs.getD 1 0 * 256 + xs.getD 2 0, xs.getD 3 0, xs.getD 4 0, xs.getD 5 0⟩ := by unfold getC; rw [hd]; simp
          rw [hd] at z0
          have z3 := hz 3 (by omega)
          have g3 := hin 3 (by omega)
          have z4 := hz 4 (by omega)
          have g4 := hin 4 (by omega)
          have z5 := hz 5 (by omega)
          have g5 := hin 5 (by omega)
          cases hr : T.rightB ⟨3, xs.getD 1 0 * 256 + xs.getD 2 0, xs.getD 3 0, xs.getD 4 0, xs.getD 5 0⟩ with
          | false => exact kno _ ht hr (get_3_no b o n c _ _ _ _ _ w z0 z1 z2 z3 z4 z5 g1 g2 g3 g4 g5 (by omega) hc hm hr)
          | true =>
            by_cases hcc : c = 6
            · exact key 3 hd _ ht hr (get_3_full b o n c _ _ _ _ _ w z0 z1 z2 z3 z4 z5 g1 g2 g3 g4 g5 (by omega) hc hm hr hcc)
            · exact key 3 hd _ ht hr (get_3_ok b o n c _ _ _ _ _ w z0 z1 z2 z3 z4 z5 g1 g2 g3 g4 g5 (by omega) hc hm hr hcc)
end Go.Proofs.Yteiohcgohgcjfaa
