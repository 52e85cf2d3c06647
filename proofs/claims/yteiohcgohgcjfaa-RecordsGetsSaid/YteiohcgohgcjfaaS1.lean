/- Contracts of stamp.Right and of the reference's Right: for every time. -/
import Derived.Test.YteiohcgohgcjfaaRows
import Derived.Test.YteiohcgohgcjfaaWords
namespace Go.Proofs.Yteiohcgohgcjfaa
open Go.RowKit Go.Proofs.Tail
set_option linter.unusedSimpArgs false
set_option linter.unusedVariables false
/-- A time. -/
structure T where
  d : Int
  e : Int
  a : Int
  b : Int
  c : Int
def T.right (t : T) : Prop := 0 ≤ t.d ∧ t.d ≤ 3 ∧ 0 ≤ t.e ∧ t.e < 1000 ∧ 0 ≤ t.a ∧ t.a < 16 ∧ 0 ≤ t.b ∧ t.b < 16 ∧ 0 ≤ t.c ∧ t.c < 16 ∧ (t.d ≤ 0 → t.a = 0) ∧ (t.d ≤ 1 → t.b = 0) ∧ (t.d ≤ 2 → t.c = 0)
instance (t : T) : Decidable t.right := by unfold T.right; infer_instance
def T.rightB (t : T) : Bool := decide t.right
set_option maxRecDepth 100000 in
set_option maxHeartbeats 4000000 in
theorem right_any5 (d e a b c : Int) (w : World) :
    Calls Try.prog 46 #[.agg #[.int .i64 d, .int .i64 e, .int .i64 a, .int .i64 b, .int .i64 c]] w (Gives (.bool (T.rightB ⟨d, e, a, b, c⟩)) w) := by
  have HB := Lib.hid (below_new w (.cells #[.int .i64 d, .int .i64 e, .int .i64 a, .int .i64 b, .int .i64 c] 24))
  go_enter Try.func46, Try.ntmps46
  go_wp2
  all_goals (try (refine wp_loop_rounds 4 ?_; rw [rounds_succ]; go_wp2))
  all_goals (try (rw [rounds_succ]; go_wp2))
  all_goals (try (rw [rounds_succ]; go_wp2))
  all_goals (try (rw [rounds_succ]; go_wp2))
  all_goals
    go_ret
    refine .bool ?_ HB.out
    unfold T.rightB
    try simp only [bne_iff_ne, beq_iff_eq, ne_eq, Bool.not_eq_true', bne_eq_false_iff_eq, beq_eq_false_iff_ne] at *
    first
    | (rw [eq_comm, decide_eq_true_eq]; unfold T.right; dsimp only; omega)
    | (rw [eq_comm, decide_eq_false_iff_not]; unfold T.right; dsimp only; omega)
set_option maxRecDepth 100000 in
set_option maxHeartbeats 4000000 in
theorem refright_any5 (d e a b c : Int) (w : World) :
    Calls Try.prog 20 #[.agg #[.int .i64 d, .int .i64 e, .int .i64 a, .int .i64 b, .int .i64 c]] w (Gives (.bool (T.rightB ⟨d, e, a, b, c⟩)) w) := by
  have HB := Lib.hid (below_new w (.cells #[.int .i64 d, .int .i64 e, .int .i64 a, .int .i64 b, .int .i64 c] 24))
  go_enter Try.func20, Try.ntmps20
  go_wp2
  all_goals (try (refine wp_loop_rounds 4 ?_; rw [rounds_succ]; go_wp2))
  all_goals (try (rw [rounds_succ]; go_wp2))
  all_goals (try (rw [rounds_succ]; go_wp2))
  all_goals (try (rw [rounds_succ]; go_wp2))
  all_goals
    go_ret
    refine .bool ?_ HB.out
    unfold T.rightB
    try simp only [bne_iff_ne, beq_iff_eq, ne_eq, Bool.not_eq_true', bne_eq_false_iff_eq, beq_eq_false_iff_ne] at *
    first
    | (rw [eq_comm, decide_eq_true_eq]; unfold T.right; dsimp only; omega)
    | (rw [eq_comm, decide_eq_false_iff_not]; unfold T.right; dsimp only; omega)
theorem right_any (t : T) (w : World) : Calls Try.prog 46 #[.agg #[.int .i64 t.d, .int .i64 t.e, .int .i64 t.a, .int .i64 t.b, .int .i64 t.c]] w (Gives (.bool t.rightB) w) := right_any5 t.d t.e t.a t.b t.c w
theorem refright_any (t : T) (w : World) : Calls Try.prog 20 #[.agg #[.int .i64 t.d, .int .i64 t.e, .int .i64 t.a, .int .i64 t.b, .int .i64 t.c]] w (Gives (.bool t.rightB) w) := refright_any5 t.d t.e t.a t.b t.c w
/-- A time in memory. -/
structure At (w : World) (B o : Nat) (t : T) : Prop where
  c0 : w.cell? ⟨B, o, none⟩ = some (.int .i64 t.d)
  c1 : w.cell? ⟨B, o + 1, none⟩ = some (.int .i64 t.e)
  c2 : w.cell? ⟨B, o + 2, none⟩ = some (.int .i64 t.a)
  c3 : w.cell? ⟨B, o + 3, none⟩ = some (.int .i64 t.b)
  c4 : w.cell? ⟨B, o + 4, none⟩ = some (.int .i64 t.c)
theorem At.below {w w' : World} {B o : Nat} {t : T} (h : At w B o t) (hb : Below w.heap.size w w') : At w' B o t := ⟨below_cell hb h.c0, below_cell hb h.c1, below_cell hb h.c2, below_cell hb h.c3, below_cell hb h.c4⟩
theorem At.zero {w : World} {B : Nat} {t : T} (h : At w B 0 t) : w.cell? ⟨B, 0, none⟩ = some (.int .i64 t.d) ∧ w.cell? ⟨B, 1, none⟩ = some (.int .i64 t.e) ∧ w.cell? ⟨B, 2, none⟩ = some (.int .i64 t.a) ∧ w.cell? ⟨B, 3, none⟩ = some (.int .i64 t.b) ∧ w.cell? ⟨B, 4, none⟩ = some (.int .i64 t.c) := ⟨h.c0, h.c1, h.c2, h.c3, h.c4⟩
theorem at_box (w : World) (t : T) (B : Nat) (hB : w.heap.size = B) : At (w.alloc (.cells #[.int .i64 t.d, .int .i64 t.e, .int .i64 t.a, .int .i64 t.b, .int .i64 t.c] 24)) B 0 t := by
  subst hB
  exact ⟨box_cell w [.int .i64 t.d, .int .i64 t.e, .int .i64 t.a, .int .i64 t.b, .int .i64 t.c] _ 0 _ rfl, box_cell w [.int .i64 t.d, .int .i64 t.e, .int .i64 t.a, .int .i64 t.b, .int .i64 t.c] _ 1 _ rfl, box_cell w [.int .i64 t.d, .int .i64 t.e, .int .i64 t.a, .int .i64 t.b, .int .i64 t.c] _ 2 _ rfl, box_cell w [.int .i64 t.d, .int .i64 t.e, .int .i64 t.a, .int .i64 t.b, .int .i64 t.c] _ 3 _ rfl, box_cell w [.int .i64 t.d, .int .i64 t.e, .int .i64 t.a, .int .i64 t.b, .int .i64 t.c] _ 4 _ rfl⟩
end Go.Proofs.Yteiohcgohgcjfaa
