/- Contracts of stamp's Into and Leq, of the reference's both, Join, Meet, Leq. -/
import Derived.Test.YtebpepjlhanopaaRows
import Derived.Test.YtebpepjlhanopaaWords
import Derived.Test.YtebpepjlhanopaaS1
import Derived.Test.YtebpepjlhanopaaS2
import Derived.Test.YtebpepjlhanopaaEqs
import Derived.Laws.ResultCell
namespace Go.Proofs.Ytebpepjlhanopaa
open Go.RowKit Go.Proofs.Tail
set_option linter.unusedSimpArgs false
set_option linter.unusedVariables false
def leP (s t : T) : Prop := s.right ∧ t.right ∧ s.d = t.d ∧ s.e ≤ t.e ∧ s.a ≤ t.a ∧ s.b ≤ t.b ∧ s.c ≤ t.c
instance (s t : T) : Decidable (leP s t) := by unfold leP; infer_instance
def leqB (s t : T) : Bool := decide (leP s t)
theorem leq_alike (s t : T) : leqB s t = (alikeB s t && (decide ((joinT s t).e = t.e) && (decide ((joinT s t).a = t.a) && (decide ((joinT s t).b = t.b) && decide ((joinT s t).c = t.c))))) := by
  unfold leqB
  cases h : alikeB s t
  · rw [Bool.false_and, decide_eq_false_iff_not]
    unfold alikeB at h
    rw [decide_eq_false_iff_not] at h
    exact fun k => h ⟨k.2.2.1, k.1, k.2.1⟩
  · unfold joinT
    rw [h]
    unfold alikeB at h
    rw [decide_eq_true_eq] at h
    obtain ⟨h1, h2, h3⟩ := h
    simp only [if_true, Bool.true_and]
    rw [← Bool.decide_and, ← Bool.decide_and, ← Bool.decide_and, decide_eq_decide]
    unfold leP
    simp only [h1, h2, h3, true_and]
    omega
set_option maxHeartbeats 4000000 in
theorem leq_any (s t : T) (w : World) : Calls Try.prog 53 #[.agg #[.int .i64 s.d, .int .i64 s.e, .int .i64 s.a, .int .i64 s.b, .int .i64 s.c], .agg #[.int .i64 t.d, .int .i64 t.e, .int .i64 t.a, .int .i64 t.b, .int .i64 t.c]] w (Gives (.bool (leqB s t)) w) := by
  have BX := Lib.hid ((Bx.new w s _ rfl).below (below_new _ (.cells #[.int .i64 t.d, .int .i64 t.e, .int .i64 t.a, .int .i64 t.b, .int .i64 t.c] 28)))
  have BY := Lib.hid (Bx.new (w.alloc (.cells #[.int .i64 s.d, .int .i64 s.e, .int .i64 s.a, .int .i64 s.b, .int .i64 s.c] 28)) t (w.heap.size + 1) (by simp))
  have HB := Lib.hid (below_alloc (below_new w (.cells #[.int .i64 s.d, .int .i64 s.e, .int .i64 s.a, .int .i64 s.b, .int .i64 s.c] 28)) (.cells #[.int .i64 t.d, .int .i64 t.e, .int .i64 t.a, .int .i64 t.b, .int .i64 t.c] 28))
  have HL := Lib.hid (leq_alike s t)
  have HJ := Lib.hid (join_any s t)
  generalize joinT s t = j at HL HJ
  generalize hA : alikeB s t = b at HL HJ
  clear hA
  go_enter Try.func53, Try.ntmps53
  go_wp2_with fail
  refine (HJ.out _).mono ?_
  rintro e1 w1 ⟨rfl, hb1⟩
  have HB2 := Lib.hid (below_then HB.out hb1)
  have HB3 := Lib.hid (below_alloc HB2.out (.cells #[.int .i64 j.d, .int .i64 j.e, .int .i64 j.a, .int .i64 j.b, .int .i64 j.c] 28))
  obtain ⟨y0, y1, y2, y3, y4⟩ := ((BY.out.below hb1).below (below_new _ (.cells #[.int .i64 j.d, .int .i64 j.e, .int .i64 j.a, .int .i64 j.b, .int .i64 j.c] 28))).cells
  clear hb1
  cases b
  · have HQ := Lib.hid (show false = leqB s t by rw [HL.out]; rfl)
    go_wp2
    go_ret
    exact .bool HQ.out HB3.out
  · cases g1 : (j.e == t.e)
    · have HQ := Lib.hid (show false = leqB s t by rw [HL.out]; simp at g1; simp [g1])
      go_wp2
      go_ret
      exact .bool HQ.out HB3.out
    · have HQ := Lib.hid (show (j.a == t.a && (j.b == t.b && j.c == t.c)) = leqB s t by rw [HL.out]; simp at g1; simp [g1]; rfl)
      go_wp2
      all_goals
        go_ret
        refine .bool (Eq.trans ?_ HQ.out) HB3.out
        simp_all
end Go.Proofs.Ytebpepjlhanopaa
