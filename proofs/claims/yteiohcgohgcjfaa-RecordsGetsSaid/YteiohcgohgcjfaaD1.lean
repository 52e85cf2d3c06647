/- Records, changes, messages in memory; what '==' says of them. -/
import Derived.Test.YteiohcgohgcjfaaRows
import Derived.Laws.StructEq
import Derived.ChangeKeysEq
import Derived.IntWalk
import Derived.Test.YteiohcgohgcjfaaWords
import Derived.Test.YteiohcgohgcjfaaByts
import Derived.Test.YteiohcgohgcjfaaStrs
import Derived.Test.YteiohcgohgcjfaaFrame
import Derived.Test.YteiohcgohgcjfaaElems
import Derived.Test.YteiohcgohgcjfaaS1
import Derived.Test.YteiohcgohgcjfaaS2
import Derived.Test.YteiohcgohgcjfaaEqs
namespace Go.Proofs.Yteiohcgohgcjfaa
open Go Go.RowKit Go.Proofs.Tail
set_option linter.unusedSimpArgs false
set_option linter.unusedVariables false
abbrev Rc := Int × Int
/-- A change: a node, held or not, a time, how many. -/
structure Upd where
  n : Int
  h : Bool
  s : T
  m : Int
def Upd.eqB (a b : Upd) : Bool := (a.n == b.n && (a.h == b.h && a.s.eqB b.s)) && a.m == b.m
theorem Upd.eqB_iff {a b : Upd} : a.eqB b = true ↔ a = b := by
  obtain ⟨n, h, s, m⟩ := a
  obtain ⟨n', h', s', m'⟩ := b
  unfold Upd.eqB
  simp only [Bool.and_eq_true, beq_iff_eq, T.eqB_iff, Upd.mk.injEq]
  constructor
  · rintro ⟨⟨h1, h2, h3⟩, h4⟩; exact ⟨h1, h2, h3, h4⟩
  · rintro ⟨h1, h2, h3, h4⟩; exact ⟨⟨h1, h2, h3⟩, h4⟩
instance : DecidableEq Upd := fun a b => decidable_of_iff (a.eqB b = true) Upd.eqB_iff
def RRec (w : World) (b o : Nat) (x : Rc) : Prop := w.cell? ⟨b, o, none⟩ = some (.int .i64 x.1) ∧ w.cell? ⟨b, o + 1, none⟩ = some (.int .i64 x.2)
theorem RRec.stays : Stays RRec := fun _ _ _ _ _ hb h => ⟨below_cell hb h.1, below_cell hb h.2⟩
abbrev Recs (w : World) (A : Option Addr) (n c : Nat) (L : List Rc) : Prop := Rd 2 RRec w A n c L
structure RUpd (w : World) (b o : Nat) (u : Upd) : Prop where
  c0 : w.cell? ⟨b, o, none⟩ = some (.int .i64 u.n)
  c1 : w.cell? ⟨b, o + 1, none⟩ = some (.bool u.h)
  c2 : w.cell? ⟨b, o + 2, none⟩ = some (.int .i64 u.s.d)
  c3 : w.cell? ⟨b, o + 3, none⟩ = some (.int .i64 u.s.e)
  c4 : w.cell? ⟨b, o + 4, none⟩ = some (.int .i64 u.s.a)
  c5 : w.cell? ⟨b, o + 5, none⟩ = some (.int .i64 u.s.b)
  c6 : w.cell? ⟨b, o + 6, none⟩ = some (.int .i64 u.s.c)
  c7 : w.cell? ⟨b, o + 7, none⟩ = some (.int .i64 u.m)
theorem RUpd.below {w w' : World} {b o : Nat} {u : Upd} (h : RUpd w b o u) (hb : Below w.heap.size w w') : RUpd w' b o u :=
  ⟨below_cell hb h.c0, below_cell hb h.c1, below_cell hb h.c2, below_cell hb h.c3, below_cell hb h.c4, below_cell hb h.c5, below_cell hb h.c6, below_cell hb h.c7⟩
theorem RUpd.stays : Stays RUpd := fun _ _ _ _ _ hb h => h.below hb
abbrev Upds (w : World) (A : Option Addr) (n c : Nat) (U : List Upd) : Prop := Rd 8 RUpd w A n c U
def recB (a b x y : Int) : Bool := a == x && b == y
theorem recB_iff {a b x y : Int} : recB a b x y = true ↔ (a, b) = (x, y) := by unfold recB; simp
theorem eq_rec (a b x y : Int) (w : World) : (Op.equalIn 10000 50 (.agg #[.int .i64 a, .int .i64 b]) (.agg #[.int .i64 x, .int .i64 y])).run Try.prog w = .ok (recB a b x y) w := by
  unfold recB
  have u3 := Try.underlying2
  have a3 := Try.isAgg2
  have z3 := Try.sizeOf2
  have hS : Try.prog.underlying 50 = some (.struct (Try.prog.fieldsOf 50)) := by kernel_rfl
  rw [show (10000 : Nat) = 9999 + 1 from rfl, run_equalIn_agg w 9999 50 _ _ hS (by kernel_rfl)]
  simp only [Program.fieldsOf, Try.underlying50]
  go_simp
  by_cases h1 : a = x <;> by_cases h2 : b = y <;> simp [h1, h2]
theorem eq_stamp_at (k : Nat) (d e a b c d' e' x y z : Int) (w : World) : (Op.equalIn (k + 3) 24 (.agg #[.int .i64 d, .int .i64 e, .int .i64 a, .int .i64 b, .int .i64 c]) (.agg #[.int .i64 d', .int .i64 e', .int .i64 x, .int .i64 y, .int .i64 z])).run Try.prog w = .ok (T.eqB ⟨d, e, a, b, c⟩ ⟨d', e', x, y, z⟩) w := by
  have u3 := Try.underlying3
  have a3 := Try.isAgg3
  have z3 := Try.sizeOf3
  have a22 := Try.isAgg22
  have z22 := Try.sizeOf22
  have hl := eq_loops_at k a b c x y z w
  have hS : Try.prog.underlying 24 = some (.struct (Try.prog.fieldsOf 24)) := by kernel_rfl
  rw [run_equalIn_agg w (k + 2) 24 _ _ hS (by kernel_rfl)]
  simp only [Program.fieldsOf, Try.underlying24]
  go_simp
  unfold T.eqB
  by_cases h1 : d = d' <;> by_cases h2 : e = e' <;> by_cases h3 : a = x <;> by_cases h4 : b = y <;> by_cases h5 : c = z <;> simp [h1, h2, h3, h4, h5]
section
attribute [local go_sem high] eq_stamp_at
theorem eq_place_at (k : Nat) (n : Int) (h : Bool) (d e a b c n' : Int) (h' : Bool) (d' e' a' b' c' : Int) (w : World) :
    (Op.equalIn (k + 4) 52 (.agg #[.int .i64 n, .bool h, .int .i64 d, .int .i64 e, .int .i64 a, .int .i64 b, .int .i64 c]) (.agg #[.int .i64 n', .bool h', .int .i64 d', .int .i64 e', .int .i64 a', .int .i64 b', .int .i64 c'])).run Try.prog w = .ok (n == n' && (h == h' && T.eqB ⟨d, e, a, b, c⟩ ⟨d', e', a', b', c'⟩)) w := by
  have u3 := Try.underlying3
  have a3 := Try.isAgg3
  have z3 := Try.sizeOf3
  have u4 := Try.underlying4
  have a4 := Try.isAgg4
  have z4 := Try.sizeOf4
  have a22 := Try.isAgg24
  have z22 := Try.sizeOf24
  have hS : Try.prog.underlying 52 = some (.struct (Try.prog.fieldsOf 52)) := by kernel_rfl
  rw [run_equalIn_agg w (k + 3) 52 _ _ hS (by kernel_rfl)]
  simp only [Program.fieldsOf, Try.underlying52]
  go_simp
  generalize T.eqB _ _ = q at *
  by_cases h1 : n = n' <;> cases h <;> cases h' <;> cases q <;> simp [h1]
end
section
attribute [local go_sem high] eq_place_at
theorem eq_chg (n : Int) (h : Bool) (d e a b c m n' : Int) (h' : Bool) (d' e' a' b' c' m' : Int) (w : World) :
    (Op.equalIn 10000 54 (.agg #[.int .i64 n, .bool h, .int .i64 d, .int .i64 e, .int .i64 a, .int .i64 b, .int .i64 c, .int .i64 m]) (.agg #[.int .i64 n', .bool h', .int .i64 d', .int .i64 e', .int .i64 a', .int .i64 b', .int .i64 c', .int .i64 m'])).run Try.prog w = .ok (Upd.eqB ⟨n, h, ⟨d, e, a, b, c⟩, m⟩ ⟨n', h', ⟨d', e', a', b', c'⟩, m'⟩) w := by
  have u5 := Try.underlying2
  have a5 := Try.isAgg2
  have z5 := Try.sizeOf2
  have aP := Try.isAgg52
  have zP := Try.sizeOf52
  have hS : Try.prog.underlying 54 = some (.struct (Try.prog.fieldsOf 54)) := by kernel_rfl
  rw [show (10000 : Nat) = 9999 + 1 from rfl, run_equalIn_agg w 9999 54 _ _ hS (by kernel_rfl)]
  simp only [Program.fieldsOf, Try.underlying54]
  go_simp
  unfold Upd.eqB
  dsimp only
  generalize T.eqB _ _ = q at *
  by_cases h1 : n = n' <;> by_cases h2 : m = m' <;> cases h <;> cases h' <;> cases q <;> simp [h1, h2]
end
section
attribute [local go_sem high] eq_stamp_at
theorem eq_upd (n : Int) (h : Bool) (d e a b c m n' : Int) (h' : Bool) (d' e' a' b' c' m' : Int) (w : World) :
    (Op.equalIn 10000 59 (.agg #[.int .i64 n, .bool h, .int .i64 d, .int .i64 e, .int .i64 a, .int .i64 b, .int .i64 c, .int .i64 m]) (.agg #[.int .i64 n', .bool h', .int .i64 d', .int .i64 e', .int .i64 a', .int .i64 b', .int .i64 c', .int .i64 m'])).run Try.prog w = .ok (Upd.eqB ⟨n, h, ⟨d, e, a, b, c⟩, m⟩ ⟨n', h', ⟨d', e', a', b', c'⟩, m'⟩) w := by
  have u3 := Try.underlying3
  have a3 := Try.isAgg3
  have z3 := Try.sizeOf3
  have u4 := Try.underlying4
  have a4 := Try.isAgg4
  have z4 := Try.sizeOf4
  have a22 := Try.isAgg24
  have z22 := Try.sizeOf24
  have u5 := Try.underlying2
  have a5 := Try.isAgg2
  have z5 := Try.sizeOf2
  have hS : Try.prog.underlying 59 = some (.struct (Try.prog.fieldsOf 59)) := by kernel_rfl
  rw [show (10000 : Nat) = 9999 + 1 from rfl, run_equalIn_agg w 9999 59 _ _ hS (by kernel_rfl)]
  simp only [Program.fieldsOf, Try.underlying59]
  go_simp
  unfold Upd.eqB
  dsimp only
  generalize T.eqB _ _ = q at *
  by_cases h1 : n = n' <;> by_cases h2 : m = m' <;> cases h <;> cases h' <;> cases q <;> simp [h1, h2]
end
end Go.Proofs.Yteiohcgohgcjfaa
