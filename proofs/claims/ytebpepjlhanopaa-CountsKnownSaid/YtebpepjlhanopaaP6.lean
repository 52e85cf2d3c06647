/- Plain laws of counts: frontiers. -/
import Derived.Test.YtebpepjlhanopaaS1
import Derived.Test.YtebpepjlhanopaaS2
import Derived.Test.YtebpepjlhanopaaS4
import Derived.Test.YtebpepjlhanopaaS8
import Derived.Test.YtebpepjlhanopaaU1
import Derived.Test.YtebpepjlhanopaaA1
import Derived.Test.YtebpepjlhanopaaA2
import Derived.Test.YtebpepjlhanopaaA3
import Derived.Test.YtebpepjlhanopaaA5
import Derived.Test.YtebpepjlhanopaaF1
import Derived.Test.YtebpepjlhanopaaP1
import Derived.Test.YtebpepjlhanopaaP3
import Derived.Test.YtebpepjlhanopaaM1
import Derived.Test.YtebpepjlhanopaaM2
import Derived.Test.YtebpepjlhanopaaM3
import Derived.Test.YtebpepjlhanopaaM8
import Derived.Test.YtebpepjlhanopaaR1
import Derived.Test.YtebpepjlhanopaaR2
import Derived.Test.YtebpepjlhanopaaP4
namespace Go.Proofs.Ytebpepjlhanopaa
open Go Go.RowKit Go.Proofs.Tail Go.Sort
set_option linter.unusedSimpArgs false
set_option linter.unusedVariables false
theorem pos_alk {d : Int} {N : Nat} {C : List (T × Int)} (h : Good d N C) : (∀ t ∈ posC C, t.rightB = true ∧ t.d = d) ∧ Alk (posC C) := by
  have h1 : ∀ t ∈ posC C, t.rightB = true ∧ t.d = d := fun t ht => by
    have hc := (pos_mem h.can t).1 ht
    rcases cnt_or C t with e | e
    · omega
    · exact ⟨(h.all _ e).1, (h.all _ e).2.1⟩
  exact ⟨h1, alk_of (fun t ht => (h1 t ht).1) (fun s hs t ht => (h1 s hs).2.trans (h1 t ht).2.symm)⟩
/-- What a frontier of counts says. -/
theorem front_up {d : Int} {N : Nat} {C : List (T × Int)} (h : Good d N C) : rightF (frontC C) = true ∧ (∀ t ∈ frontC C, t.rightB = true ∧ t.d = d) ∧ ∀ t, Up (frontC C) t ↔ ∃ s, 0 < cnt C s ∧ leqB s t = true := by
  obtain ⟨h1, h2⟩ := pos_alk h
  obtain ⟨l, e, h3, h4, h5⟩ := of_up h2
  have hf : frontC C = l := by unfold frontC; rw [e]; rfl
  rw [hf]
  refine ⟨h3, fun t ht => h1 t (h4 t ht), fun t => ?_⟩
  rw [h5 t]
  unfold Up
  constructor
  · rintro ⟨s, hs, hl⟩; exact ⟨s, (pos_mem h.can s).1 hs, hl⟩
  · rintro ⟨s, hs, hl⟩; exact ⟨s, (pos_mem h.can s).2 hs, hl⟩
theorem front_alike {d : Int} {N N' : Nat} {C C' : List (T × Int)} (h : Good d N C) (h' : Good d N' C') : alikeF (frontC C) (frontC C') = true := by
  obtain ⟨a1, a2, _⟩ := front_up h
  obtain ⟨b1, b2, _⟩ := front_up h'
  exact alikeF_iff.2 ⟨a1, b1, fun s hs t ht => (a2 s hs).2.trans (b2 t ht).2.symm⟩
theorem two_both {d : Int} {N N' M : Nat} {X Y Z : List (T × Int)} (hx : Good d N X) (hy : Good d N' Y) (hz : Good d M Z) (h : ∀ t, 0 < cnt Z t ↔ 0 < cnt X t ∨ 0 < cnt Y t) : bothF (frontC X) (frontC Y) = some (frontC Z) := by
  obtain ⟨p, e, p1, _, p3⟩ := both_good (front_alike hx hy)
  rw [e]
  congr 1
  refine fro_ext p1 (front_up hz).1 fun t => ?_
  rw [p3, (front_up hx).2.2, (front_up hy).2.2, (front_up hz).2.2]
  constructor
  · rintro (⟨s, h1, h2⟩ | ⟨s, h1, h2⟩)
    · exact ⟨s, (h s).2 (.inl h1), h2⟩
    · exact ⟨s, (h s).2 (.inr h1), h2⟩
  · rintro ⟨s, h1, h2⟩
    rcases (h s).1 h1 with h1 | h1
    · exact .inl ⟨s, h1, h2⟩
    · exact .inr ⟨s, h1, h2⟩
/-- Each with 1. -/
def one (t : T) : T × Int := (t, 1)
theorem one_small (l : List T) : ∀ p ∈ l.map one, -999 ≤ p.2 ∧ p.2 ≤ 999 := by
  intro p hp
  obtain ⟨q, _, rfl⟩ := List.mem_map.1 hp
  exact ⟨by show (-999 : Int) ≤ 1; omega, by show (1 : Int) ≤ 999; omega⟩
theorem one_pos (t : T) (l : List T) : 0 ≤ sm t (l.map one) := by
  induction l with
  | nil => exact Int.le_refl _
  | cons x l ih =>
    simp only [List.map_cons, sm, one] at *
    split <;> omega
theorem add_one {d : Int} {l : List (T × Int)} (hs : ∀ p ∈ l, -999 ≤ p.2 ∧ p.2 ≤ 999) (hl : l.length ≤ 999) (t : T) : addE d (addsC d l) t 1 = if t.rightB = true ∧ t.d = d then 0 else 50 := by
  have h := (adds_sum d l hs (by omega) t).2
  unfold addE
  have h1 : inB 1 = true := by decide
  have h2 : inB (cnt (addsC d l) t + 1) = true := inB_iff.2 (by omega)
  rw [h1, h2]
  simp
theorem two_cnt (d : Int) (us vs : List T) (ha : us.length ≤ 30) (hb : vs.length ≤ 30) (t : T) :
    0 < cnt (addsC d (us.map one ++ vs.map one)) t ↔ 0 < cnt (addsC d (us.map one)) t ∨ 0 < cnt (addsC d (vs.map one)) t := by
  have h1 := (adds_sum d (us.map one) (one_small us) (by rw [List.length_map]; omega) t).1
  have h2 := (adds_sum d (vs.map one) (one_small vs) (by rw [List.length_map]; omega) t).1
  have h3 := (adds_sum d (us.map one ++ vs.map one) (fun p hp => by
    rcases List.mem_append.1 hp with hp | hp
    · exact one_small us p hp
    · exact one_small vs p hp) (by rw [List.length_append, List.length_map, List.length_map]; omega) t).1
  have p1 := one_pos t us
  have p2 := one_pos t vs
  rw [h1, h2, h3, sm_append]
  split <;> omega
/-- The frontier never goes back. -/
theorem rises {d : Int} {N : Nat} {C : List (T × Int)} (h : Good d N C) (t : T) (n : Int) (hn : 0 < n → frontC C ≠ [] ∧ holdsF (frontC C) t = false ∧ 0 ≤ cnt C t) : rightF (frontC (addC d C t n)) = true ∧ withinF (frontC C) (frontC (addC d C t n)) = true := by
  have h' := h.add t n
  obtain ⟨a1, a2, a3⟩ := front_up h
  obtain ⟨b1, b2, b3⟩ := front_up h'
  refine ⟨b1, (within_good (front_alike h h')).2 fun u hu => ?_⟩
  rw [b3] at hu
  obtain ⟨s, hs, hl⟩ := hu
  have hsr : s.rightB = true := by
    have := leq_iff.1 hl
    exact rightB_of this.1
  have key : ∀ s, 0 < cnt C s → leqB s u = true → Up (frontC C) u := fun s hs hl => (a3 u).2 ⟨s, hs, hl⟩
  by_cases he : addE d C t n = 0
  · rw [addC_added h he s] at hs
    by_cases hst : s = t
    · subst hst
      rw [if_pos rfl] at hs
      by_cases hc : 0 < cnt C s
      · exact key s hc hl
      · obtain ⟨g1, g2, g3⟩ := hn (by omega)
        obtain ⟨_, e2, _, _⟩ := addE_ok he
        have hup : Up (frontC C) s := by
          refine Classical.byContradiction fun hno => ?_
          have := (holds_good a1 hsr (fun r hr => (a2 r hr).2.trans e2.symm)).2 hno
          rw [g2] at this
          cases this
        exact hup.step hl
    · rw [if_neg hst] at hs
      exact key s hs hl
  · have hC : addC d C t n = C := by unfold addC; rw [if_neg he]
    rw [hC] at hs
    exact key s hs hl
end Go.Proofs.Ytebpepjlhanopaa
