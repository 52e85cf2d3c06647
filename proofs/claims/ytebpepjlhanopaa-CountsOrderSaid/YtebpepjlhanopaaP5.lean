/- Plain laws of counts: sums of what is added, in whatever order. -/
import Derived.Test.YtebpepjlhanopaaS1
import Derived.Test.YtebpepjlhanopaaS2
import Derived.Test.YtebpepjlhanopaaS4
import Derived.Test.YtebpepjlhanopaaS8
import Derived.Test.YtebpepjlhanopaaU1
import Derived.Test.YtebpepjlhanopaaA1
import Derived.Test.YtebpepjlhanopaaA2
import Derived.Test.YtebpepjlhanopaaF1
import Derived.Test.YtebpepjlhanopaaP1
import Derived.Test.YtebpepjlhanopaaM1
import Derived.Test.YtebpepjlhanopaaM2
import Derived.Test.YtebpepjlhanopaaM3
import Derived.Test.YtebpepjlhanopaaM8
import Derived.Test.YtebpepjlhanopaaR1
import Derived.Test.YtebpepjlhanopaaR2
import Derived.Test.YtebpepjlhanopaaP4
namespace Go.Proofs.Ytebpepjlhanopaa
open Go Go.RowKit Go.Proofs.Tail Go.Sort
set_option linter.unusedSimpArgs false
set_option linter.unusedVariables false
theorem snoc_ind {α : Type} {M : List α → Prop} (h0 : M []) (h1 : ∀ l x, M l → M (l ++ [x])) (l : List α) : M l := by
  have : ∀ m : List α, M m.reverse := by
    intro m
    induction m with
    | nil => exact h0
    | cons x m ih => rw [List.reverse_cons]; exact h1 _ _ ih
  have h := this l.reverse
  rwa [List.reverse_reverse] at h
/-- What is added at a time. -/
def sm (t : T) : List (T × Int) → Int
  | [] => 0
  | p :: l => (if p.1 = t then p.2 else 0) + sm t l
theorem sm_append (t : T) (l l' : List (T × Int)) : sm t (l ++ l') = sm t l + sm t l' := by
  induction l with
  | nil => simp [sm]
  | cons p l ih => simp only [List.cons_append, sm, ih]; omega
theorem sm_perm (t : T) {l l' : List (T × Int)} (h : l.Perm l') : sm t l = sm t l' := by
  induction h with
  | nil => rfl
  | cons x _ ih => simp only [sm, ih]
  | swap x y l => simp only [sm]; omega
  | trans _ _ h1 h2 => exact h1.trans h2
def negP (p : T × Int) : T × Int := (p.1, 0 - p.2)
theorem sm_neg (t : T) (l : List (T × Int)) : sm t (l.map negP) = - sm t l := by
  induction l with
  | nil => rfl
  | cons p l ih =>
    simp only [List.map_cons, sm, ih, negP]
    split <;> omega
/-- Counts behind additions, one by one. -/
def addsC (d : Int) (l : List (T × Int)) : List (T × Int) := l.foldl (fun C p => addC d C p.1 p.2) []
theorem addsC_snoc (d : Int) (l : List (T × Int)) (p : T × Int) : addsC d (l ++ [p]) = addC d (addsC d l) p.1 p.2 := by
  unfold addsC
  rw [List.foldl_append]
  rfl
theorem adds_good (d : Int) (l : List (T × Int)) : Good d l.length (addsC d l) := by
  refine snoc_ind (M := fun l => Good d l.length (addsC d l)) (Good.nil d) (fun l p ih => ?_) l
  rw [addsC_snoc, List.length_append]
  exact ih.add p.1 p.2
/-- Small additions all go well, and sum up. -/
theorem adds_sum' (d : Int) (l : List (T × Int)) : (∀ p ∈ l, -999 ≤ p.2 ∧ p.2 ≤ 999) → l.length ≤ 1000 → ∀ t : T,
    cnt (addsC d l) t = (if t.rightB = true ∧ t.d = d then sm t l else 0) ∧ - (999 * (l.length : Int)) ≤ cnt (addsC d l) t ∧ cnt (addsC d l) t ≤ 999 * (l.length : Int) := by
  refine snoc_ind (M := fun l => (∀ p ∈ l, -999 ≤ p.2 ∧ p.2 ≤ 999) → l.length ≤ 1000 → ∀ t : T, cnt (addsC d l) t = (if t.rightB = true ∧ t.d = d then sm t l else 0) ∧ - (999 * (l.length : Int)) ≤ cnt (addsC d l) t ∧ cnt (addsC d l) t ≤ 999 * (l.length : Int)) ?_ ?_ l
  · intro _ _ t
    have : cnt (addsC d []) t = 0 := rfl
    rw [this]
    refine ⟨by simp [sm], by simp, by simp⟩
  · intro l p ih hs hl t
    have hl' : l.length ≤ 1000 := by rw [List.length_append] at hl; omega
    have ih := ih (fun q hq => hs q (List.mem_append_left _ hq)) hl'
    have hp := hs p (by simp)
    have hsn : sm t (l ++ [p]) = sm t l + (if p.1 = t then p.2 else 0) := by rw [sm_append]; simp [sm]
    have hlen : ((l ++ [p]).length : Int) = l.length + 1 := by simp
    rw [addsC_snoc, hsn, hlen]
    by_cases hr : p.1.rightB = true ∧ p.1.d = d
    · have h1 := ih p.1
      have hin : inB p.2 = true := inB_iff.2 (by omega)
      have hin2 : inB (cnt (addsC d l) p.1 + p.2) = true := inB_iff.2 (by omega)
      have hE : addE d (addsC d l) p.1 p.2 = 0 := by unfold addE; simp [hr.1, hr.2, hin, hin2]
      rw [addC_added (adds_good d l) hE t]
      by_cases ht : t = p.1
      · subst ht
        rw [if_pos rfl, if_pos rfl]
        have h2 := h1.1
        rw [if_pos hr] at h2
        rw [if_pos hr]
        refine ⟨by omega, by omega, by omega⟩
      · have ht' : ¬ p.1 = t := fun e => ht e.symm
        rw [if_neg ht, if_neg ht']
        have h2 := ih t
        refine ⟨by rw [h2.1]; split <;> omega, by omega, by omega⟩
    · have hE : addE d (addsC d l) p.1 p.2 = 50 := by unfold addE; rw [if_neg hr]
      have hC : addC d (addsC d l) p.1 p.2 = addsC d l := by unfold addC; rw [hE]; rfl
      rw [hC]
      have h2 := ih t
      by_cases ht : p.1 = t
      · subst ht
        rw [if_neg hr] at h2 ⊢
        refine ⟨h2.1, by omega, by omega⟩
      · rw [if_neg ht]
        refine ⟨by rw [h2.1]; split <;> omega, by omega, by omega⟩
theorem adds_sum (d : Int) (l : List (T × Int)) (hs : ∀ p ∈ l, -999 ≤ p.2 ∧ p.2 ≤ 999) (hl : l.length ≤ 1000) (t : T) :
    cnt (addsC d l) t = (if t.rightB = true ∧ t.d = d then sm t l else 0) ∧ - (999 * (l.length : Int)) ≤ cnt (addsC d l) t ∧ cnt (addsC d l) t ≤ 999 * (l.length : Int) := adds_sum' d l hs hl t
/-- In whatever order. -/
theorem adds_perm (d : Int) {l l' : List (T × Int)} (h : l.Perm l') (hs : ∀ p ∈ l, -999 ≤ p.2 ∧ p.2 ≤ 999) (hl : l.length ≤ 1000) : addsC d l = addsC d l' := by
  refine canon_ext (adds_good d l).can (adds_good d l').can fun t => ?_
  have h1 := (adds_sum d l hs hl t).1
  have h2 := (adds_sum d l' (fun p hp => hs p (h.mem_iff.2 hp)) (by rw [← h.length_eq]; exact hl) t).1
  rw [h1, h2, sm_perm t h]
/-- A row, turned. -/
def rot {α : Type} (l : List α) (t : Nat) : List α := l.drop (t % l.length) ++ l.take (t % l.length)
theorem rot_perm {α : Type} (l : List α) (t : Nat) : (rot l t).Perm l := by
  unfold rot
  refine List.perm_append_comm.trans ?_
  rw [List.take_append_drop]
theorem rot_length {α : Type} (l : List α) (t : Nat) : (rot l t).length = l.length := (rot_perm l t).length_eq
theorem rot_get {α : Type} (l : List α) (t i : Nat) (hi : i < l.length) : (rot l t)[i]? = l[(i + t) % l.length]? := by
  have hn : 0 < l.length := by omega
  have hk : t % l.length < l.length := Nat.mod_lt _ hn
  have e : (i + t) % l.length = (i + t % l.length) % l.length := by rw [Nat.add_mod_mod]
  rw [e]
  unfold rot
  generalize t % l.length = k at *
  by_cases h : i < l.length - k
  · rw [List.getElem?_append_left (by rw [List.length_drop]; exact h), List.getElem?_drop, Nat.mod_eq_of_lt (by omega), Nat.add_comm]
  · rw [List.getElem?_append_right (by rw [List.length_drop]; omega), List.length_drop, List.getElem?_take, if_pos (by omega), Nat.mod_eq_sub_mod (by omega), Nat.mod_eq_of_lt (by omega)]
    congr 1
    omega
/-- A step's addition: modulo 1000. -/
def stp (p : T × Int) : T × Int := (p.1, p.2.tmod 1000)
theorem tm_bound (n : Int) : -999 ≤ n.tmod 1000 ∧ n.tmod 1000 ≤ 999 := by
  rcases Int.le_total 0 n with h | h
  · rw [Int.tmod_eq_emod_of_nonneg h]; omega
  · have : n.tmod 1000 = - ((-n).tmod 1000) := by rw [Int.neg_tmod]; omega
    rw [this, Int.tmod_eq_emod_of_nonneg (by omega)]
    omega
theorem stp_small (l : List (T × Int)) : ∀ p ∈ l.map stp, -999 ≤ p.2 ∧ p.2 ≤ 999 := by
  intro p hp
  obtain ⟨q, _, rfl⟩ := List.mem_map.1 hp
  exact tm_bound q.2
theorem take_snoc {α : Type} {l : List α} {k : Nat} {x : α} (h : l[k]? = some x) : l.take (k + 1) = l.take k ++ [x] := by
  obtain ⟨hk, hx⟩ := List.getElem?_eq_some_iff.1 h
  rw [List.take_succ_eq_append_getElem hk, hx]
/-- Added, and taken away again: the first k rounds. -/
def und (l : List (T × Int)) (t : Nat) : Nat → List (T × Int)
  | 0 => []
  | k + 1 => und l t k ++ (match l[k]?, (rot l t)[k]? with
    | some x, some y => [stp x, negP (stp y)]
    | _, _ => [])
theorem und_step {l : List (T × Int)} {t k : Nat} {x y : T × Int} (hx : l[k]? = some x) (hy : (rot l t)[k]? = some y) : und l t (k + 1) = und l t k ++ [stp x] ++ [negP (stp y)] := by
  rw [und, hx, hy, List.append_assoc]
  rfl
theorem und_sum (l : List (T × Int)) (t : Nat) (c : T) : ∀ k, k ≤ l.length → sm c (und l t k) = sm c ((l.take k).map stp) - sm c (((rot l t).take k).map stp)
  | 0, _ => by simp [und, sm]
  | k + 1, hk => by
    have hx := List.getElem?_eq_getElem (show k < l.length by omega)
    have hy := List.getElem?_eq_getElem (show k < (rot l t).length by rw [rot_length]; omega)
    rw [und_step hx hy, sm_append, sm_append, und_sum l t c k (by omega), take_snoc hx, take_snoc hy, List.map_append, List.map_append, sm_append, sm_append]
    have e1 : ∀ p : T × Int, sm c [negP p] = - sm c [p] := fun p => sm_neg c [p]
    rw [e1]
    simp only [List.map_cons, List.map_nil]
    omega
theorem und_small (l : List (T × Int)) (t k : Nat) : (∀ p ∈ und l t k, -999 ≤ p.2 ∧ p.2 ≤ 999) ∧ (und l t k).length ≤ 2 * k := by
  induction k with
  | zero => exact ⟨(fun p hp => by cases hp), by simp [und]⟩
  | succ k ih =>
    rw [und]
    split
    · rename_i x y _ _
      refine ⟨fun p hp => ?_, by rw [List.length_append]; have := ih.2; simp; omega⟩
      rcases List.mem_append.1 hp with hp | hp
      · exact ih.1 p hp
      · have h1 := tm_bound x.2
        have h2 := tm_bound y.2
        simp only [List.mem_cons, List.not_mem_nil, or_false] at hp
        rcases hp with rfl | rfl
        · exact h1
        · unfold negP stp
          dsimp only
          omega
    · rw [List.append_nil]
      exact ⟨ih.1, by have := ih.2; omega⟩
theorem undone (d : Int) (l : List (T × Int)) (t : Nat) (hl : l.length ≤ 40) : addsC d (und l t l.length) = [] := by
  have h1 := und_small l t l.length
  have h2 := adds_sum d (und l t l.length) h1.1 (by have := h1.2; omega)
  refine canon_ext (adds_good d _).can ⟨by simp, by simp⟩ fun c => ?_
  rw [(h2 c).1, und_sum l t c _ (Nat.le_refl _), List.take_of_length_le (Nat.le_refl _), List.take_of_length_le (by rw [rot_length]; exact Nat.le_refl _)]
  rw [sm_perm c ((rot_perm l t).map stp)]
  have : cnt ([] : List (T × Int)) c = 0 := rfl
  rw [this]
  split <;> omega
end Go.Proofs.Ytebpepjlhanopaa
