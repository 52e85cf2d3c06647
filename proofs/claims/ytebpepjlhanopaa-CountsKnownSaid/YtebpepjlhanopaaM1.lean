/- The map of counts; what a Counts holds. -/
import Derived.Test.YtebpepjlhanopaaRows
import Derived.Test.YtebpepjlhanopaaWords
import Derived.Test.YtebpepjlhanopaaFrame
import Derived.Test.YtebpepjlhanopaaElems
import Derived.Test.YtebpepjlhanopaaMapOwn
import Derived.Test.YtebpepjlhanopaaS1
import Derived.Test.YtebpepjlhanopaaS2
import Derived.Test.YtebpepjlhanopaaEqs
namespace Go.Proofs.Ytebpepjlhanopaa
open Go Go.RowKit Go.Proofs.Tail
set_option linter.unusedSimpArgs false
set_option linter.unusedVariables false
def eT (t : T) : Value := .agg #[.int .i64 t.d, .int .i64 t.e, .int .i64 t.a, .int .i64 t.b, .int .i64 t.c]
theorem eT_inj (s t : T) (h : eT s = eT t) : s = t := by
  obtain ⟨d, e, a, b, c⟩ := s
  obtain ⟨d', e', a', b', c'⟩ := t
  simpa [eT] using h
theorem ck_int (n : Nat) (e : Bool) (x : Int) (w : World) : (Instr.checkKey e (n + 1) 3 (.int .i64 x)).run Try.prog w = .ok () w := by
  rw [Instr.checkKey.eq_def]
  simp only [Sem.run_bind, run_underlying Try.underlying3, Result.andThen_ok, Sem.run_pure]
theorem ck_arr (n : Nat) (e : Bool) (x y z : Int) (w : World) : (Instr.checkKey e (n + 2) 26 (.agg #[.int .i64 x, .int .i64 y, .int .i64 z])).run Try.prog w = .ok () w := by
  have u3 := Try.underlying3
  have a3 := Try.isAgg3
  have z3 := Try.sizeOf3
  have hc := ck_int n e
  rw [Instr.checkKey.eq_def]
  simp only [Sem.run_bind, run_underlying Try.underlying26, Result.andThen_ok]
  simp only [Std.Legacy.Range.forIn_eq_forIn_range', Std.Legacy.Range.size, Nat.sub_zero, Nat.add_sub_cancel, Nat.div_one, List.range'_succ, List.range'_zero, List.forIn_cons, List.forIn_nil]
  go_simp
theorem keyT : KeyT Try.prog 28 eT where
  eq s t w := by
    have h := eq_stamp s.d s.e s.a s.b s.c t.d t.e t.a t.b t.c w
    have h3 : T.eqB ⟨s.d, s.e, s.a, s.b, s.c⟩ ⟨t.d, t.e, t.a, t.b, t.c⟩ = decide (s = t) := by
      rw [Bool.eq_iff_iff, decide_eq_true_iff]
      exact T.eqB_iff
    rw [h3] at h
    unfold Op.equal eT
    rw [show Op.maxDepth = 10000 from rfl]
    exact h
  now := ⟨_, Try.underlying28, .inl fun _ _ => rfl⟩
  ck t e w := by
    have u3 := Try.underlying3
    have a3 := Try.isAgg3
    have z3 := Try.sizeOf3
    have u22 := Try.underlying26
    have a22 := Try.isAgg26
    have z22 := Try.sizeOf26
    have h1 := fun x w => ck_int 9998 e x w
    have h2 := fun x y z w => ck_arr 9997 e x y z w
    unfold eT
    rw [show (10000 : Nat) = 9999 + 1 from rfl, Instr.checkKey.eq_def]
    simp only [Sem.run_bind, run_underlying Try.underlying28, Result.andThen_ok]
    go_simp
  bits t := by
    unfold eT
    simp [Instr.sameBits]
/-- How often a time is counted. -/
def cnt (C : List (T × Int)) (t : T) : Int := ((C.find? fun p => decide (p.1 = t)).map (·.2)).getD 0
/-- What a map's entries say of counts. -/
def Cpl (L : List (T × Value)) (C : List (T × Int)) : Prop := ∀ t, lk L t = if cnt C t = 0 then none else some (.int .i64 (cnt C t))
theorem Cpl.get {L : List (T × Value)} {C : List (T × Int)} (h : Cpl L C) (t : T) : (lk L t).getD (.int .i64 0) = .int .i64 (cnt C t) := by
  rw [h t]
  split
  · rename_i e; rw [e]; rfl
  · rfl
/-- A Counts at P: its map lies at b. -/
structure Cs (w : World) (P b : Nat) (d : Int) (C : List (T × Int)) : Prop where
  blk : Blk w P [.int .i64 d, .map (some b)] 54
  mp : ∃ L, Mp eT w b L ∧ Cpl L C
theorem Cs.below {w w' : World} {P b : Nat} {d : Int} {C : List (T × Int)} (h : Cs w P b d C) (hb : Below w.heap.size w w') : Cs w' P b d C := by
  obtain ⟨L, h1, h2⟩ := h.mp
  exact ⟨h.blk.then hb, L, h1.below hb, h2⟩
theorem Cs.ne {w : World} {P b : Nat} {d : Int} {C : List (T × Int)} (h : Cs w P b d C) : P ≠ b := by
  obtain ⟨L, ⟨es, clock, hm, _⟩, _⟩ := h.mp
  have := h.blk.h
  rintro rfl
  rw [this] at hm
  cases hm
theorem Cs.lt {w : World} {P b : Nat} {d : Int} {C : List (T × Int)} (h : Cs w P b d C) : P < w.heap.size ∧ b < w.heap.size := by
  obtain ⟨L, h1, _⟩ := h.mp
  exact ⟨h.blk.lt, h1.lt⟩
theorem Cs.fr {S : Nat → Prop} {w w' : World} {P b : Nat} {d : Int} {C : List (T × Int)} (h : Cs w P b d C) (hf : Fr S w w') (h1 : ¬ S P) (h2 : ¬ S b) : Cs w' P b d C := by
  obtain ⟨L, h3, h4⟩ := h.mp
  exact ⟨h.blk.fr hf h1, L, h3.at_ (hf.block b h3.lt h2), h4⟩
theorem zero64 (w : World) : (zeroValue 2).run Try.prog w = .ok (.int .i64 0) w := Try.zeroValue2 w
theorem Cs.look {w : World} {P b : Nat} {d : Int} {C : List (T × Int)} (h : Cs w P b d C) (t : T) : (Instr.lookup 52 (.map (some b)) (.agg #[.int .i64 t.d, .int .i64 t.e, .int .i64 t.a, .int .i64 t.b, .int .i64 t.c]) false).run Try.prog w = .ok (.int .i64 (cnt C t)) w := by
  obtain ⟨L, h1, h2⟩ := h.mp
  have := h1.lookup keyT Try.underlying52 (zero64 w) t
  rw [h2.get] at this
  exact this
end Go.Proofs.Ytebpepjlhanopaa
