/- What '==' says of two times, and of two rows of three numbers. -/
import Derived.Test.YteiohcgohgcjfaaRows
import Derived.Laws.StructEq
import Derived.ChangeKeysEq
import Derived.Test.YteiohcgohgcjfaaWords
import Derived.Test.YteiohcgohgcjfaaS1
namespace Go.Proofs.Yteiohcgohgcjfaa
open Go.RowKit Go.Proofs.Tail
set_option linter.unusedSimpArgs false
set_option linter.unusedVariables false
theorem eq_loops_at (k : Nat) (a b c x y z : Int) (w : World) : (Op.equalIn (k + 2) 22 (.agg #[.int .i64 a, .int .i64 b, .int .i64 c]) (.agg #[.int .i64 x, .int .i64 y, .int .i64 z])).run Try.prog w = .ok (a == x && (b == y && c == z)) w := by
  have u3 := Try.underlying3
  have a3 := Try.isAgg3
  have z3 := Try.sizeOf3
  rw [Op.equalIn]
  simp only [Sem.run_bind, run_underlying Try.underlying22, Result.andThen_ok]
  simp only [Std.Legacy.Range.forIn_eq_forIn_range', Std.Legacy.Range.size, Nat.sub_zero, Nat.add_sub_cancel, Nat.div_one, List.range'_succ, List.range'_zero, List.forIn_cons, List.forIn_nil]
  go_simp
  by_cases h1 : a = x <;> by_cases h2 : b = y <;> by_cases h3 : c = z <;> simp [h1, h2, h3]
@[go_sem] theorem eq_loops (a b c x y z : Int) (w : World) : (Op.equalIn 10000 22 (.agg #[.int .i64 a, .int .i64 b, .int .i64 c]) (.agg #[.int .i64 x, .int .i64 y, .int .i64 z])).run Try.prog w = .ok (a == x && (b == y && c == z)) w := eq_loops_at 9998 a b c x y z w
@[go_sem] theorem eq_loops' (a b c x y z : Int) (w : World) : (Op.equalIn 9999 22 (.agg #[.int .i64 a, .int .i64 b, .int .i64 c]) (.agg #[.int .i64 x, .int .i64 y, .int .i64 z])).run Try.prog w = .ok (a == x && (b == y && c == z)) w := eq_loops_at 9997 a b c x y z w
def T.eqB (s t : T) : Bool := s.d == t.d && (s.e == t.e && (s.a == t.a && (s.b == t.b && s.c == t.c)))
theorem T.eqB_iff {s t : T} : s.eqB t = true ↔ s = t := by
  obtain ⟨d, e, a, b, c⟩ := s
  obtain ⟨d', e', a', b', c'⟩ := t
  unfold T.eqB
  simp
theorem T.eqB_self (s : T) : s.eqB s = true := T.eqB_iff.2 rfl
@[go_sem] theorem eq_stamp (d e a b c d' e' x y z : Int) (w : World) : (Op.equalIn 10000 24 (.agg #[.int .i64 d, .int .i64 e, .int .i64 a, .int .i64 b, .int .i64 c]) (.agg #[.int .i64 d', .int .i64 e', .int .i64 x, .int .i64 y, .int .i64 z])).run Try.prog w = .ok (T.eqB ⟨d, e, a, b, c⟩ ⟨d', e', x, y, z⟩) w := by
  have u3 := Try.underlying3
  have a3 := Try.isAgg3
  have z3 := Try.sizeOf3
  have a22 := Try.isAgg22
  have z22 := Try.sizeOf22
  have hS : Try.prog.underlying 24 = some (.struct (Try.prog.fieldsOf 24)) := by kernel_rfl
  rw [show (10000 : Nat) = 9999 + 1 from rfl, run_equalIn_agg w 9999 24 _ _ hS (by kernel_rfl)]
  simp only [Program.fieldsOf, Try.underlying24]
  go_simp
  unfold T.eqB
  by_cases h1 : d = d' <;> by_cases h2 : e = e' <;> by_cases h3 : a = x <;> by_cases h4 : b = y <;> by_cases h5 : c = z <;> simp [h1, h2, h3, h4, h5]
end Go.Proofs.Yteiohcgohgcjfaa
