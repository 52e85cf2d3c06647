/- Plain laws of times: order, joins, meets, loops. -/
import Derived.Test.YtebpepjlhanopaaS2
import Derived.Test.YtebpepjlhanopaaU1
import Derived.Test.YtebpepjlhanopaaS4
import Derived.Test.YtebpepjlhanopaaS7
import Derived.Test.YtebpepjlhanopaaS8
namespace Go.Proofs.Ytebpepjlhanopaa
open Go.RowKit Go.Proofs.Tail
set_option linter.unusedSimpArgs false
set_option linter.unusedVariables false
theorem T.ext' {s t : T} (h : s.d = t.d ∧ s.e = t.e ∧ s.a = t.a ∧ s.b = t.b ∧ s.c = t.c) : s = t := by
  obtain ⟨d, e, a, b, c⟩ := s
  obtain ⟨d', e', a', b', c'⟩ := t
  simpa using h
theorem sgn_anti (x y : Int) : sgn y x = - sgn x y := by unfold sgn; (repeat' split) <;> omega
theorem orI_neg (x y : Int) : orI (-x) (-y) = - orI x y := by unfold orI; (repeat' split) <;> omega
theorem cmp_anti (s t : T) : ∀ k, cmpP t s k = - cmpP s t k
  | 0 => by unfold cmpP; rw [sgn_anti s.d, sgn_anti s.e, orI_neg]
  | k + 1 => by rw [cmpP, cmpP, cmp_anti s t k, sgn_anti (s.lp k), orI_neg]
theorem cmp_zero {s t : T} : cmpP s t 3 = 0 ↔ s = t := by
  obtain ⟨d, e, a, b, c⟩ := s
  obtain ⟨d', e', a', b', c'⟩ := t
  simp [cmpP, orI_zero, sgn_zero, T.lp]
  omega
theorem orI_le {x y : Int} : orI x y ≤ 0 ↔ x < 0 ∨ x = 0 ∧ y ≤ 0 := by unfold orI; split <;> omega
theorem sgn_le {x y : Int} : sgn x y ≤ 0 ↔ x ≤ y := by unfold sgn; (repeat' split) <;> omega
theorem cmp_le {s t : T} : cmpP s t 3 ≤ 0 ↔ s.d < t.d ∨ s.d = t.d ∧ (s.e < t.e ∨ s.e = t.e ∧ (s.a < t.a ∨ s.a = t.a ∧ (s.b < t.b ∨ s.b = t.b ∧ s.c ≤ t.c))) := by
  obtain ⟨d, e, a, b, c⟩ := s
  obtain ⟨d', e', a', b', c'⟩ := t
  simp [cmpP, orI_zero, orI_le, orI_lt, sgn_zero, sgn_lt, sgn_le, T.lp]
  omega
theorem cmp_trans {s t u : T} (h : cmpP s t 3 ≤ 0) (k : cmpP t u 3 ≤ 0) : cmpP s u 3 ≤ 0 := by
  rw [cmp_le] at *
  omega
theorem cmp_range (s t : T) : ∀ k, cmpP s t k = -1 ∨ cmpP s t k = 0 ∨ cmpP s t k = 1
  | 0 => by unfold cmpP orI sgn; (repeat' split) <;> omega
  | k + 1 => by
    have := cmp_range s t k
    unfold cmpP orI sgn; (repeat' split) <;> omega
theorem leq_iff {s t : T} : leqB s t = true ↔ leP s t := by unfold leqB; simp
theorem leq_cmp {s t : T} (h : leqB s t = true) : cmpP s t 3 ≤ 0 := by
  rw [leq_iff] at h
  rw [cmp_le]
  unfold leP at h
  omega
theorem leq_self (s : T) : leqB s s = s.rightB := by unfold leqB T.rightB leP; simp
theorem leq_anti {s t : T} (h : leqB s t = true) (k : leqB t s = true) : s = t := by
  rw [leq_iff] at *
  obtain ⟨d, e, a, b, c⟩ := s
  obtain ⟨d', e', a', b', c'⟩ := t
  unfold leP at *
  simp at *
  omega
theorem leq_trans {s t u : T} (h : leqB s t = true) (k : leqB t u = true) : leqB s u = true := by
  rw [leq_iff] at *
  unfold leP at *
  exact ⟨h.1, k.2.1, by omega⟩
theorem alike_iff {s t : T} : alikeB s t = true ↔ s.d = t.d ∧ s.right ∧ t.right := by unfold alikeB; simp
theorem alike_comm (s t : T) : alikeB s t = alikeB t s := by rw [Bool.eq_iff_iff, alike_iff, alike_iff]; exact ⟨fun h => ⟨h.1.symm, h.2.2, h.2.1⟩, fun h => ⟨h.1.symm, h.2.2, h.2.1⟩⟩
theorem leq_alike' {s t : T} (h : leqB s t = true) : alikeB s t = true := by rw [leq_iff] at h; rw [alike_iff]; unfold leP at h; exact ⟨h.2.2.1, h.1, h.2.1⟩
theorem join_of {s t : T} (h : alikeB s t = true) : joinT s t = ⟨s.d, max s.e t.e, max s.a t.a, max s.b t.b, max s.c t.c⟩ := by unfold joinT; rw [if_pos h]
theorem meet_of {s t : T} (h : alikeB s t = true) : meetT s t = ⟨s.d, min s.e t.e, min s.a t.a, min s.b t.b, min s.c t.c⟩ := by unfold meetT; rw [if_pos h]
theorem join_right {s t : T} (h : alikeB s t = true) : (joinT s t).rightB = true := by
  rw [join_of h]; rw [alike_iff] at h; unfold T.rightB; rw [decide_eq_true_eq]; unfold T.right at *; dsimp only; omega
theorem meet_right {s t : T} (h : alikeB s t = true) : (meetT s t).rightB = true := by
  rw [meet_of h]; rw [alike_iff] at h; unfold T.rightB; rw [decide_eq_true_eq]; unfold T.right at *; dsimp only; omega
theorem right_iff {t : T} : t.rightB = true ↔ t.right := by unfold T.rightB; simp
theorem leq_join {s t : T} (h : alikeB s t = true) : leqB s (joinT s t) = true ∧ leqB t (joinT s t) = true := by
  have hr := right_iff.1 (join_right h)
  rw [leq_iff, leq_iff]
  have h' := alike_iff.1 h
  unfold leP
  refine ⟨⟨h'.2.1, hr, ?_⟩, ⟨h'.2.2, hr, ?_⟩⟩ <;> (rw [join_of h]; dsimp only; omega)
theorem leq_meet {s t : T} (h : alikeB s t = true) : leqB (meetT s t) s = true ∧ leqB (meetT s t) t = true := by
  have hr := right_iff.1 (meet_right h)
  rw [leq_iff, leq_iff]
  have h' := alike_iff.1 h
  unfold leP
  refine ⟨⟨hr, h'.2.1, ?_⟩, ⟨hr, h'.2.2, ?_⟩⟩ <;> (rw [meet_of h]; dsimp only; omega)
theorem join_least {s t : T} (u : T) (h : alikeB s t = true) : leqB (joinT s t) u = (leqB s u && leqB t u) := by
  have hr := right_iff.1 (join_right h)
  have h' := alike_iff.1 h
  rw [Bool.eq_iff_iff, Bool.and_eq_true, leq_iff, leq_iff, leq_iff]
  unfold leP
  rw [join_of h] at *
  dsimp only
  simp only [hr, h'.2.1, h'.2.2, true_and]
  by_cases hu : u.right
  · simp only [hu, true_and]; omega
  · simp only [hu, false_and, and_false]
theorem meet_greatest {s t : T} (u : T) (h : alikeB s t = true) : leqB u (meetT s t) = (leqB u s && leqB u t) := by
  have hr := right_iff.1 (meet_right h)
  have h' := alike_iff.1 h
  rw [Bool.eq_iff_iff, Bool.and_eq_true, leq_iff, leq_iff, leq_iff]
  unfold leP
  rw [meet_of h] at *
  dsimp only
  simp only [hr, h'.2.1, h'.2.2, true_and]
  by_cases hu : u.right
  · simp only [hu, true_and]; omega
  · simp only [hu, false_and, and_false]
theorem join_comm (s t : T) : joinT s t = joinT t s := by
  unfold joinT
  rw [alike_comm s t]
  split
  · rename_i h
    rw [alike_iff] at h
    simp only [T.mk.injEq]
    omega
  · rfl
theorem meet_comm (s t : T) : meetT s t = meetT t s := by
  unfold meetT
  rw [alike_comm s t]
  split
  · rename_i h
    rw [alike_iff] at h
    simp only [T.mk.injEq]
    omega
  · rfl
theorem alike_join {s t u : T} (h : alikeB s t = true) (k : alikeB t u = true) : alikeB (joinT s t) u = true ∧ alikeB u (joinT s t) = true ∧ alikeB (meetT s t) u = true ∧ alikeB u (meetT s t) = true := by
  have hr := right_iff.1 (join_right h)
  have hm := right_iff.1 (meet_right h)
  simp only [alike_iff] at *
  refine ⟨⟨?_, hr, k.2.2⟩, ⟨?_, k.2.2, hr⟩, ⟨?_, hm, k.2.2⟩, ⟨?_, k.2.2, hm⟩⟩
  all_goals first | rw [join_of (alike_iff.2 h)] | rw [meet_of (alike_iff.2 h)]
  all_goals (dsimp only; omega)
theorem alike_trans {s t u : T} (h : alikeB s t = true) (k : alikeB t u = true) : alikeB s u = true := by
  simp only [alike_iff] at *; exact ⟨h.1.trans k.1, h.2.1, k.2.2⟩
theorem alike_self {s t : T} (h : alikeB s t = true) : alikeB s s = true ∧ alikeB t t = true := by
  rw [alike_iff] at h; exact ⟨alike_iff.2 ⟨rfl, h.2.1, h.2.1⟩, alike_iff.2 ⟨rfl, h.2.2, h.2.2⟩⟩
theorem join_meet {s t : T} (h : alikeB s t = true) : joinT s (meetT s t) = s ∧ meetT s (joinT s t) = s := by
  have h1 := alike_join h (alike_comm t s ▸ h)
  rw [join_of h1.2.2.2, meet_of h1.2.1, join_of h, meet_of h]
  constructor
  · refine T.ext' ⟨rfl, ?_, ?_, ?_, ?_⟩ <;> (dsimp only; omega)
  · refine T.ext' ⟨rfl, ?_, ?_, ?_, ?_⟩ <;> (dsimp only; omega)
theorem join_over {s t u : T} (h : alikeB s t = true) (k : alikeB t u = true) : joinT s (meetT t u) = meetT (joinT s t) (joinT s u) ∧ joinT (joinT s t) u = joinT s (joinT t u) := by
  have hs := alike_trans h k
  have h1 := (alike_join k (alike_comm u s ▸ hs)).2.2.2
  have h2 := (alike_join k (alike_comm u s ▸ hs)).2.1
  have h3 := (alike_join h k).1
  have h4 : alikeB (joinT s t) (joinT s u) = true := by
    have hsu := alike_comm s u ▸ hs
    have hj := alike_join hs hsu
    have hj2 := alike_join h (alike_comm s t ▸ h)
    exact alike_trans hj2.1 hj.2.1
  rw [join_of h1, meet_of h4, join_of h3, join_of h2, join_of h, join_of hs, meet_of k, join_of k]
  constructor
  · refine T.ext' ⟨rfl, ?_, ?_, ?_, ?_⟩ <;> (dsimp only; omega)
  · refine T.ext' ⟨rfl, ?_, ?_, ?_, ?_⟩ <;> (dsimp only; omega)
end Go.Proofs.Ytebpepjlhanopaa
