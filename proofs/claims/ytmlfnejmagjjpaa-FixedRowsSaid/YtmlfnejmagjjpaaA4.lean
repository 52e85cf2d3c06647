/- Contracts of small functions of layer 19: (Rule).in, (Rule).need, the reference's in, the statement's few; each for every argument that can be read. -/
import Derived.Test.YtmlfnejmagjjpaaRows
import Derived.Test.YtmlfnejmagjjpaaWords
import Derived.Test.YtmlfnejmagjjpaaFxPlain
namespace Go.Proofs.Ytmlfnejmagjjpaa
open Go.RowKit Go.Proofs.Tail
def RRule (w : World) (b o : Nat) (r : Fx.R) : Prop :=
  ∃ A n c, w.cell? ⟨b, o, none⟩ = some (.int .i64 r.x) ∧ w.cell? ⟨b, o + 1, none⟩ = some (.int .i64 r.y) ∧ w.cell? ⟨b, o + 2, none⟩ = some (.slice A n c) ∧ Ints w A n c r.need
theorem RRule.stays : Stays RRule := fun _ _ _ _ _ hb ⟨A, n, c, h1, h2, h3, h4⟩ => ⟨A, n, c, below_cell hb h1, below_cell hb h2, below_cell hb h3, h4.below RInt.stays hb⟩
abbrev Rules (w : World) (A : Option Addr) (n c : Nat) (xs : List Fx.R) : Prop := Rd 3 RRule w A n c xs
def inB (x y n : Int) : Bool := decide (0 ≤ x ∧ x < n ∧ 0 ≤ y ∧ y < n)
def in1 (x n : Int) : Bool := decide (0 ≤ x ∧ x < n)

set_option maxHeartbeats 400000 in
theorem in_any (x y : Int) (sv : Value) (n : Int) (w : World) :
    Calls Try.prog 25 #[.agg #[.int .i64 x, .int .i64 y, sv], .int .i64 n] w (Gives (.bool (inB x y n)) w) := by
  go_enter Try.func25, Try.ntmps25
  go_wp2
  all_goals
    go_ret
    refine .bool ?_ (below_new _ _)
    unfold inB
    first
    | (rw [eq_comm, decide_eq_false_iff_not]; omega)
    | (rw [Bool.eq_iff_iff, decide_eq_true_eq, decide_eq_true_eq]; omega)

set_option maxHeartbeats 400000 in
theorem need_any (x y : Int) (A : Option Addr) (n c : Nat) (need : List Int) (i : Int) (w : World) (h : Ints w A n c need) :
    Calls Try.prog 20 #[.agg #[.int .i64 x, .int .i64 y, .slice A n c], .int .i64 i] w (Gives (.int .i64 (Fx.nd need i)) w) := by
  have hl := h.len
  have hm := h.big
  by_cases h0 : i ≤ 0
  · go_enter Try.func20, Try.ntmps20
    go_wp2
    go_ret
    exact .int (by unfold Fx.nd; rw [if_pos h0]) (below_new _ _)
  · by_cases h1 : (n : Int) ≤ i
    · have HH := Lib.hid (show Fx.nd need i = 0 from by unfold Fx.nd; rw [if_neg h0, if_pos (by omega)])
      clear hl
      go_enter Try.func20, Try.ntmps20
      go_wp2
      go_ret
      exact .int HH.out.symm (below_new _ _)
    · obtain ⟨b, off, rfl, hc⟩ := Rd.int h (j := i.toNat) (by omega)
      have hi : i.toNat < need.length := by omega
      have H : Fx.nd need i = max 0 (need.getD i.toNat 0) := by unfold Fx.nd; rw [if_neg h0, if_neg (by omega)]
      have HH := Lib.hid H
      clear H hl
      generalize need.getD i.toNat 0 = q at hc HH
      have h0' : 0 < i := by omega
      have h1' : i < (n : Int) := by omega
      have hc' := below_cell (below_new w (.cells #[.int .i64 x, .int .i64 y, .slice (some ⟨b, off, none⟩) n c] 35)) hc
      clear h0 h1 hi hc
      go_enter Try.func20, Try.ntmps20
      go_wp2
      all_goals
        go_ret
        exact .int (by rw [HH.out]; omega) (below_new _ _)

theorem refin_any (i n : Int) (w : World) :
    Calls Try.prog 30 #[.int .i64 i, .int .i64 n] w (Tells (.bool (in1 i n)) w) := by
  go_enter Try.func30, Try.ntmps30
  go_wp2
  all_goals
    go_ret
    refine .bool ?_
    unfold in1
    first
    | (rw [eq_comm, decide_eq_false_iff_not]; omega)
    | (rw [Bool.eq_iff_iff, decide_eq_true_eq, decide_eq_true_eq]; omega)

def FewQ (n0 n1 : Nat) (rules : List Fx.R) (top : Int) (b : Bool) : Prop := b = true → (n0 : Int) ≤ top ∧ n1 ≤ 40 ∧ ∀ r ∈ rules, r.need.length ≤ 30
set_option maxHeartbeats 400000 in
theorem few_any (A0 A1 : Option Addr) (n0 n1 c0 c1 : Nat) (rules : List Fx.R) (top : Int) (w : World) (h1 : Rules w A1 n1 c1 rules) :
    Calls Try.prog 8 #[.slice A0 n0 c0, .slice A1 n1 c1, .int .i64 top] w (GivesB (FewQ n0 n1 rules top) w) := by
  have hm := h1.big
  by_cases hn : (n0 : Int) ≤ top ∧ n1 ≤ 40
  · obtain ⟨g0, g1⟩ := hn
    have t0 : decide (top < (n0 : Int)) = false := by simpa using g0
    have t1 : decide ((40 : Int) < (n1 : Int)) = false := by simp; omega
    go_enter Try.func8, Try.ntmps8
    go_wp2
    go_loop [7] (fun i => ∃ k : Nat, k ≤ n1 ∧ i = .int .i64 k ∧ Hid (∀ j r, j < k → rules[j]? = some r → r.need.length ≤ 30)) (fun i => n1 - (intOf i).toNat)
    case atStart => exact ⟨0, Nat.zero_le _, rfl, fun j _ h => absurd h (Nat.not_lt_zero _)⟩
    case round =>
      obtain ⟨k, hk, rfl, H⟩ := hrel
      by_cases hlt : k < n1
      · obtain ⟨b, off, r, rfl, hx, A, n, c, e1, e2, e3, h2⟩ := h1.elem hlt
        have hl := Lib.hid h2.len
        have Hx := Lib.hid hx
        clear hx h2
        go_wp2
        · go_ret
          exact ⟨_, rfl, fun h => by simp at h, Below.refl _ _⟩
        · go_round
          case rel =>
            refine ⟨k + 1, by omega, by go_num, fun j s hj hs => ?_⟩
            rcases Nat.lt_or_eq_of_le (Nat.le_of_lt_succ hj) with h | h
            · exact H.out j s h hs
            · subst h
              rw [Hx.out] at hs
              obtain rfl := Option.some.inj hs
              rw [hl.out]
              omega
          case measure => simp [intOf]; omega
      · go_wp2
        go_ret
        refine ⟨_, rfl, fun _ => ⟨g0, g1, fun r hr => ?_⟩, Below.refl _ _⟩
        obtain ⟨j, hj, rfl⟩ := List.getElem_of_mem hr
        exact H.out j _ (by have := h1.len; omega) (List.getElem?_eq_getElem hj)
  · go_enter Try.func8, Try.ntmps8
    by_cases g0 : (n0 : Int) ≤ top
    · have t0 : decide (top < (n0 : Int)) = false := by simpa using g0
      have t1 : decide ((40 : Int) < (n1 : Int)) = true := by simp; omega
      go_wp2
      go_ret
      exact ⟨_, rfl, fun h => by simp at h, Below.refl _ _⟩
    · have t0 : decide (top < (n0 : Int)) = true := by simp; omega
      go_wp2
      go_ret
      exact ⟨_, rfl, fun h => by simp at h, Below.refl _ _⟩
end Go.Proofs.Ytmlfnejmagjjpaa
