/- Plain laws of counts: what is added, whatever stays. -/
import Derived.Test.YtebpepjlhanopaaS1
import Derived.Test.YtebpepjlhanopaaS2
import Derived.Test.YtebpepjlhanopaaS4
import Derived.Test.YtebpepjlhanopaaS8
import Derived.Test.YtebpepjlhanopaaU1
import Derived.Test.YtebpepjlhanopaaA1
import Derived.Test.YtebpepjlhanopaaA2
import Derived.Test.YtebpepjlhanopaaF1
import Derived.Test.YtebpepjlhanopaaP1
import Derived.Test.YtebpepjlhanopaaB1
import Derived.Test.YtebpepjlhanopaaM1
import Derived.Test.YtebpepjlhanopaaM2
import Derived.Test.YtebpepjlhanopaaM3
import Derived.Test.YtebpepjlhanopaaM8
import Derived.Test.YtebpepjlhanopaaR1
import Derived.Test.YtebpepjlhanopaaR2
namespace Go.Proofs.Ytebpepjlhanopaa
open Go Go.RowKit Go.Proofs.Tail Go.Sort
set_option linter.unusedSimpArgs false
set_option linter.unusedVariables false
/-- A count put in its place. -/
def insC : List (T × Int) → T → Int → List (T × Int)
  | [], t, m => if m ≠ 0 then [(t, m)] else []
  | p :: C, t, m => if cfT p.1 t < 0 then p :: insC C t m else if p.1 = t then (if m ≠ 0 then (t, m) :: C else C) else (if m ≠ 0 then (t, m) :: p :: C else p :: C)
theorem putC_ins (C : List (T × Int)) (t : T) (m : Int) : putC C t m = insC C t m := by
  induction C with
  | nil =>
    have h1 : plN [] t = 0 := rfl
    have h2 : plB [] t = false := rfl
    unfold putC insC
    rw [h1, h2]
    simp
  | cons p C ih =>
    unfold insC
    by_cases h : cfT p.1 t < 0
    · have h1 : plN (p :: C) t = plN C t + 1 := by
        unfold plN
        rw [List.takeWhile_cons_of_pos (by simpa using h)]
        rfl
      have h2 : plB (p :: C) t = plB C t := by
        unfold plB
        rw [h1]
        rfl
      rw [if_pos h, ← ih]
      unfold putC
      rw [h1, h2]
      simp only [List.take_succ_cons, List.cons_append]
      congr 2
      rw [show plN C t + 1 + (if plB C t = true then 1 else 0) = (plN C t + (if plB C t = true then 1 else 0)) + 1 by omega, List.drop_succ_cons]
    · have h1 : plN (p :: C) t = 0 := by
        unfold plN
        rw [List.takeWhile_cons_of_neg (by simpa using h)]
        rfl
      have h2 : plB (p :: C) t = T.eqB p.1 t := by
        unfold plB
        rw [h1]
        rfl
      rw [if_neg h]
      unfold putC
      rw [h1, h2]
      by_cases he : p.1 = t
      · rw [if_pos he, T.eqB_iff.2 he]
        by_cases hm : m ≠ 0 <;> simp [hm]
      · have hf : T.eqB p.1 t = false := by
          rw [← Bool.not_eq_true]
          exact fun h => he (T.eqB_iff.1 h)
        rw [if_neg he, hf]
        by_cases hm : m ≠ 0 <;> simp [hm]
theorem insC_mem {C : List (T × Int)} {t : T} {m : Int} {q : T × Int} (h : q ∈ insC C t m) : q ∈ C ∨ (q = (t, m) ∧ m ≠ 0) := by
  induction C with
  | nil =>
    unfold insC at h
    split at h
    · rename_i hm; simp at h; exact .inr ⟨h, hm⟩
    · cases h
  | cons p C ih =>
    unfold insC at h
    split at h
    · rcases List.mem_cons.1 h with rfl | h
      · exact .inl List.mem_cons_self
      · rcases ih h with h | h
        · exact .inl (List.mem_cons_of_mem _ h)
        · exact .inr h
    · split at h
      · split at h
        · rename_i hm
          rcases List.mem_cons.1 h with rfl | h
          · exact .inr ⟨rfl, hm⟩
          · exact .inl (List.mem_cons_of_mem _ h)
        · exact .inl (List.mem_cons_of_mem _ h)
      · split at h
        · rename_i hm
          rcases List.mem_cons.1 h with rfl | h
          · exact .inr ⟨rfl, hm⟩
          · exact .inl h
        · exact .inl h
theorem insC_length (C : List (T × Int)) (t : T) (m : Int) : (insC C t m).length ≤ C.length + 1 := by
  induction C with
  | nil => unfold insC; split <;> simp
  | cons p C ih =>
    unfold insC
    split
    · simpa using ih
    · split <;> split <;> simp
      omega
theorem cf_lt_ne {x y : T} (h : cfT x y < 0) : x ≠ y := by
  rintro rfl
  have := (cmp_zero (s := x) (t := x)).2 rfl
  unfold cfT at h
  omega
theorem cf_gt {x y : T} (h1 : ¬ cfT x y < 0) (h2 : x ≠ y) : cfT y x < 0 := by
  have h := cmp_anti x y 3
  have h3 : cmpP x y 3 ≠ 0 := fun e => h2 (cmp_zero.1 e)
  unfold cfT at *
  omega
theorem cf_tr {x y z : T} (h1 : cfT x y < 0) (h2 : cfT y z < 0) : cfT x z < 0 := cfT_trans h1 h2
theorem Canon.tail {p : T × Int} {C : List (T × Int)} (h : Canon (p :: C)) : Canon C := ⟨(List.pairwise_cons.1 h.srt).2, fun q hq => h.nz q (List.mem_cons_of_mem _ hq)⟩
theorem Canon.head {p : T × Int} {C : List (T × Int)} (h : Canon (p :: C)) {q : T × Int} (hq : q ∈ C) : cfT p.1 q.1 < 0 := (List.pairwise_cons.1 h.srt).1 _ (List.mem_map.2 ⟨q, hq, rfl⟩)
theorem Canon.cons {p : T × Int} {C : List (T × Int)} (h : Canon C) (hn : p.2 ≠ 0) (hp : ∀ q ∈ C, cfT p.1 q.1 < 0) : Canon (p :: C) :=
  ⟨List.pairwise_cons.2 ⟨fun t ht => by obtain ⟨q, hq, rfl⟩ := List.mem_map.1 ht; exact hp q hq, h.srt⟩, fun q hq => by
    rcases List.mem_cons.1 hq with rfl | hq
    · exact hn
    · exact h.nz q hq⟩
theorem insC_canon {C : List (T × Int)} (h : Canon C) (t : T) (m : Int) : Canon (insC C t m) := by
  induction C with
  | nil =>
    unfold insC
    split
    · rename_i hm
      exact ⟨by simp, fun p hp => by simp at hp; subst hp; exact hm⟩
    · exact h
  | cons p C ih =>
    unfold insC
    split
    · rename_i hlt
      refine (ih h.tail).cons (h.nz p List.mem_cons_self) fun q hq => ?_
      rcases insC_mem hq with hq | ⟨rfl, _⟩
      · exact h.head hq
      · exact hlt
    · rename_i hlt
      split
      · rename_i he
        split
        · rename_i hm
          exact h.tail.cons hm fun q hq => by rw [← he]; exact h.head hq
        · exact h.tail
      · rename_i he
        have hg := cf_gt hlt he
        split
        · rename_i hm
          refine h.cons hm fun q hq => ?_
          rcases List.mem_cons.1 hq with rfl | hq
          · exact hg
          · exact cf_tr hg (h.head hq)
        · exact h
theorem insC_cnt {C : List (T × Int)} (h : Canon C) (t : T) (m : Int) (c : T) : cnt (insC C t m) c = if c = t then m else cnt C c := by
  induction C with
  | nil =>
    unfold insC
    by_cases hc : c = t
    · subst hc
      by_cases hm : m = 0 <;> simp [hm, cnt]
    · have : ¬ t = c := fun e => hc e.symm
      by_cases hm : m = 0 <;> simp [hm, cnt, hc, this]
  | cons p C ih =>
    unfold insC
    split
    · rename_i hlt
      rw [cnt_cons, cnt_cons, ih h.tail]
      by_cases hp : p.1 = c
      · have : c ≠ t := fun e => cf_lt_ne hlt (hp.trans e)
        simp [hp, this]
      · simp [hp]
    · rename_i hlt
      split
      · rename_i he
        have ho : cnt C t = 0 := cnt_out fun hm => by
          obtain ⟨q, hq, hqt⟩ := List.mem_map.1 hm
          exact cf_lt_ne (h.head hq) (he.trans hqt.symm)
        by_cases hc : c = t
        · subst hc
          by_cases hm : m = 0 <;> simp [hm, cnt_cons, ho]
        · have h1 : ¬ t = c := fun e => hc e.symm
          have h2 : ¬ p.1 = c := fun e => hc (by rw [← e, he])
          by_cases hm : m = 0 <;> simp [hm, cnt_cons, hc, h1, h2]
      · rename_i he
        have ho : cnt (p :: C) t = 0 := cnt_out fun hm => by
          rw [List.map_cons, List.mem_cons] at hm
          rcases hm with hm | hm
          · exact he hm.symm
          · obtain ⟨q, hq, hqt⟩ := List.mem_map.1 hm
            have := h.head hq
            rw [hqt] at this
            exact hlt this
        by_cases hc : c = t
        · subst hc
          by_cases hm : m = 0
          · rw [if_pos rfl, hm]; simpa using ho
          · rw [if_pos hm, cnt_cons]
            try simp
        · have h1 : ¬ t = c := fun e => hc e.symm
          by_cases hm : m = 0
          · simp [hm, hc]
          · rw [if_pos hm, cnt_cons, if_neg h1, if_neg hc]
/-- Counts that may be. -/
structure Good (d : Int) (N : Nat) (C : List (T × Int)) : Prop where
  can : Canon C
  all : ∀ p ∈ C, p.1.rightB = true ∧ p.1.d = d ∧ -1099511627776 ≤ p.2 ∧ p.2 ≤ 1099511627776
  len : C.length ≤ N
theorem Good.nil (d : Int) : Good d 0 [] := ⟨⟨by simp, by simp⟩, by simp, Nat.le_refl _⟩
theorem Good.mono {d : Int} {N N' : Nat} {C : List (T × Int)} (h : Good d N C) (hn : N ≤ N') : Good d N' C := ⟨h.can, h.all, Nat.le_trans h.len hn⟩
theorem cnt_or (C : List (T × Int)) (t : T) : cnt C t = 0 ∨ (t, cnt C t) ∈ C := by
  induction C with
  | nil => exact .inl rfl
  | cons p C ih =>
    rw [cnt_cons]
    split
    · rename_i e
      subst e
      exact .inr List.mem_cons_self
    · rcases ih with h | h
      · exact .inl h
      · exact .inr (List.mem_cons_of_mem _ h)
theorem Good.bound {d : Int} {N : Nat} {C : List (T × Int)} (h : Good d N C) (t : T) : -1099511627776 ≤ cnt C t ∧ cnt C t ≤ 1099511627776 := by
  rcases cnt_or C t with e | e
  · rw [e]; omega
  · exact ⟨(h.all _ e).2.2.1, (h.all _ e).2.2.2⟩
theorem addE_ok {d : Int} {C : List (T × Int)} {t : T} {n : Int} (h : addE d C t n = 0) : t.rightB = true ∧ t.d = d ∧ inB n = true ∧ inB (cnt C t + n) = true := by
  unfold addE at h
  split at h
  · rename_i h1
    split at h
    · rename_i h2
      exact ⟨h1.1, h1.2, h2.1, h2.2⟩
    · cases h
  · cases h
theorem inB_iff {n : Int} : inB n = true ↔ -1099511627776 ≤ n ∧ n ≤ 1099511627776 := by unfold inB; simp
theorem addC_added {d : Int} {N : Nat} {C : List (T × Int)} (hg : Good d N C) {t : T} {n : Int} (h : addE d C t n = 0) : Added C t n (addC d C t n) := by
  intro c
  unfold addC
  rw [if_pos h, putC_ins, insC_cnt hg.can]
theorem Good.add {d : Int} {N : Nat} {C : List (T × Int)} (h : Good d N C) (t : T) (n : Int) : Good d (N + 1) (addC d C t n) := by
  unfold addC
  split
  · rename_i he
    obtain ⟨h1, h2, h3, h4⟩ := addE_ok he
    rw [putC_ins]
    refine ⟨insC_canon h.can _ _, fun p hp => ?_, Nat.le_trans (insC_length _ _ _) (by have := h.len; omega)⟩
    rcases insC_mem hp with hp | ⟨rfl, _⟩
    · exact h.all p hp
    · exact ⟨h1, h2, inB_iff.1 h4⟩
  · exact h.mono (by omega)
/-- Counts are what they count. -/
theorem canon_ext {C C' : List (T × Int)} (h : Canon C) (h' : Canon C') (he : ∀ t, cnt C t = cnt C' t) : C = C' := by
  have hk : C.map Prod.fst = C'.map Prod.fst := ssrt_eq h.srt h'.srt fun t => by rw [h.mem, h'.mem, he]
  have hl : C.length = C'.length := by simpa using congrArg List.length hk
  apply List.ext_getElem hl
  intro i h1 h2
  have e1 : C[i].1 = C'[i].1 := by
    have := List.getElem_of_eq hk (by simpa using h1)
    simpa using this
  have e2 : cnt C C[i].1 = C[i].2 := cnt_mem (ssrt_nodup h.srt) (List.getElem_mem h1)
  have e3 : cnt C' C'[i].1 = C'[i].2 := cnt_mem (ssrt_nodup h'.srt) (List.getElem_mem h2)
  refine Prod.ext e1 ?_
  rw [← e2, ← e3, he, e1]
theorem pos_srt {C : List (T × Int)} (h : Canon C) : SSrt (posC C) := by
  unfold posC
  exact List.Pairwise.sublist ((List.filter_sublist).map _) h.srt
theorem pos_mem {C : List (T × Int)} (h : Canon C) (t : T) : t ∈ posC C ↔ 0 < cnt C t := by
  unfold posC
  constructor
  · intro hm
    obtain ⟨p, hp, rfl⟩ := List.mem_map.1 hm
    obtain ⟨hp1, hp2⟩ := List.mem_filter.1 hp
    rw [cnt_mem (ssrt_nodup h.srt) (t := p.1) (n := p.2) hp1]
    simpa using hp2
  · intro hc
    rcases cnt_or C t with e | e
    · omega
    · exact List.mem_map.2 ⟨_, List.mem_filter.2 ⟨e, by simpa using hc⟩, rfl⟩
theorem front_eq {C : List (T × Int)} (h : Canon C) : frontC C = if anyBad (posC C) then [] else minS [] (posC C) := by
  unfold frontC ofT
  rw [sortT_ssrt (pos_srt h)]
  split <;> rfl
theorem snoc_ind {α : Type} {M : List α → Prop} (h0 : M []) (h1 : ∀ l x, M l → M (l ++ [x])) (l : List α) : M l := by
  have : ∀ m : List α, M m.reverse := by
    intro m
    induction m with
    | nil => exact h0
    | cons x m ih => rw [List.reverse_cons]; exact h1 _ _ ih
  have h := this l.reverse
  rwa [List.reverse_reverse] at h
/-- What is added at a time. -/
def sm (t : T) : List (T × Int) → Int
  | [] => 0
  | p :: l => (if p.1 = t then p.2 else 0) + sm t l
theorem sm_append (t : T) (l l' : List (T × Int)) : sm t (l ++ l') = sm t l + sm t l' := by
  induction l with
  | nil => simp [sm]
  | cons p l ih => simp only [List.cons_append, sm, ih]; omega
theorem sm_perm (t : T) {l l' : List (T × Int)} (h : l.Perm l') : sm t l = sm t l' := by
  induction h with
  | nil => rfl
  | cons x _ ih => simp only [sm, ih]
  | swap x y l => simp only [sm]; omega
  | trans _ _ h1 h2 => exact h1.trans h2
def negP (p : T × Int) : T × Int := (p.1, 0 - p.2)
theorem sm_neg (t : T) (l : List (T × Int)) : sm t (l.map negP) = - sm t l := by
  induction l with
  | nil => rfl
  | cons p l ih =>
    simp only [List.map_cons, sm, ih, negP]
    split <;> omega
/-- Counts behind additions, one by one. -/
def addsC (d : Int) (l : List (T × Int)) : List (T × Int) := l.foldl (fun C p => addC d C p.1 p.2) []
theorem addsC_snoc (d : Int) (l : List (T × Int)) (p : T × Int) : addsC d (l ++ [p]) = addC d (addsC d l) p.1 p.2 := by
  unfold addsC
  rw [List.foldl_append]
  rfl
theorem adds_good (d : Int) (l : List (T × Int)) : Good d l.length (addsC d l) := by
  refine snoc_ind (M := fun l => Good d l.length (addsC d l)) (Good.nil d) (fun l p ih => ?_) l
  rw [addsC_snoc, List.length_append]
  exact ih.add p.1 p.2
/-- Small additions all go well, and sum up. -/
theorem adds_sum' (d : Int) (l : List (T × Int)) : (∀ p ∈ l, -999 ≤ p.2 ∧ p.2 ≤ 999) → l.length ≤ 1000 → ∀ t : T,
    cnt (addsC d l) t = (if t.rightB = true ∧ t.d = d then sm t l else 0) ∧ - (999 * (l.length : Int)) ≤ cnt (addsC d l) t ∧ cnt (addsC d l) t ≤ 999 * (l.length : Int) := by
  refine snoc_ind (M := fun l => (∀ p ∈ l, -999 ≤ p.2 ∧ p.2 ≤ 999) → l.length ≤ 1000 → ∀ t : T, cnt (addsC d l) t = (if t.rightB = true ∧ t.d = d then sm t l else 0) ∧ - (999 * (l.length : Int)) ≤ cnt (addsC d l) t ∧ cnt (addsC d l) t ≤ 999 * (l.length : Int)) ?_ ?_ l
  · intro _ _ t
    have : cnt (addsC d []) t = 0 := rfl
    rw [this]
    refine ⟨by simp [sm], by simp, by simp⟩
  · intro l p ih hs hl t
    have hl' : l.length ≤ 1000 := by rw [List.length_append] at hl; omega
    have ih := ih (fun q hq => hs q (List.mem_append_left _ hq)) hl'
    have hp := hs p (by simp)
    have hsn : sm t (l ++ [p]) = sm t l + (if p.1 = t then p.2 else 0) := by rw [sm_append]; simp [sm]
    have hlen : ((l ++ [p]).length : Int) = l.length + 1 := by simp
    rw [addsC_snoc, hsn, hlen]
    by_cases hr : p.1.rightB = true ∧ p.1.d = d
    · have h1 := ih p.1
      have hin : inB p.2 = true := inB_iff.2 (by omega)
      have hin2 : inB (cnt (addsC d l) p.1 + p.2) = true := inB_iff.2 (by omega)
      have hE : addE d (addsC d l) p.1 p.2 = 0 := by unfold addE; simp [hr.1, hr.2, hin, hin2]
      rw [addC_added (adds_good d l) hE t]
      by_cases ht : t = p.1
      · subst ht
        rw [if_pos rfl, if_pos rfl]
        have h2 := h1.1
        rw [if_pos hr] at h2
        rw [if_pos hr]
        refine ⟨by omega, by omega, by omega⟩
      · have ht' : ¬ p.1 = t := fun e => ht e.symm
        rw [if_neg ht, if_neg ht']
        have h2 := ih t
        refine ⟨by rw [h2.1]; split <;> omega, by omega, by omega⟩
    · have hE : addE d (addsC d l) p.1 p.2 = 50 := by unfold addE; rw [if_neg hr]
      have hC : addC d (addsC d l) p.1 p.2 = addsC d l := by unfold addC; rw [hE]; rfl
      rw [hC]
      have h2 := ih t
      by_cases ht : p.1 = t
      · subst ht
        rw [if_neg hr] at h2 ⊢
        refine ⟨h2.1, by omega, by omega⟩
      · rw [if_neg ht]
        refine ⟨by rw [h2.1]; split <;> omega, by omega, by omega⟩
theorem adds_sum (d : Int) (l : List (T × Int)) (hs : ∀ p ∈ l, -999 ≤ p.2 ∧ p.2 ≤ 999) (hl : l.length ≤ 1000) (t : T) :
    cnt (addsC d l) t = (if t.rightB = true ∧ t.d = d then sm t l else 0) ∧ - (999 * (l.length : Int)) ≤ cnt (addsC d l) t ∧ cnt (addsC d l) t ≤ 999 * (l.length : Int) := adds_sum' d l hs hl t
/-- In whatever order. -/
theorem adds_perm (d : Int) {l l' : List (T × Int)} (h : l.Perm l') (hs : ∀ p ∈ l, -999 ≤ p.2 ∧ p.2 ≤ 999) (hl : l.length ≤ 1000) : addsC d l = addsC d l' := by
  refine canon_ext (adds_good d l).can (adds_good d l').can fun t => ?_
  have h1 := (adds_sum d l hs hl t).1
  have h2 := (adds_sum d l' (fun p hp => hs p (h.mem_iff.2 hp)) (by rw [← h.length_eq]; exact hl) t).1
  rw [h1, h2, sm_perm t h]
/-- A row, turned. -/
def rot {α : Type} (l : List α) (t : Nat) : List α := l.drop (t % l.length) ++ l.take (t % l.length)
theorem rot_perm {α : Type} (l : List α) (t : Nat) : (rot l t).Perm l := by
  unfold rot
  refine List.perm_append_comm.trans ?_
  rw [List.take_append_drop]
theorem rot_length {α : Type} (l : List α) (t : Nat) : (rot l t).length = l.length := (rot_perm l t).length_eq
theorem rot_get {α : Type} (l : List α) (t i : Nat) (hi : i < l.length) : (rot l t)[i]? = l[(i + t) % l.length]? := by
  have hn : 0 < l.length := by omega
  have hk : t % l.length < l.length := Nat.mod_lt _ hn
  have e : (i + t) % l.length = (i + t % l.length) % l.length := by rw [Nat.add_mod_mod]
  rw [e]
  unfold rot
  generalize t % l.length = k at *
  by_cases h : i < l.length - k
  · rw [List.getElem?_append_left (by rw [List.length_drop]; exact h), List.getElem?_drop, Nat.mod_eq_of_lt (by omega), Nat.add_comm]
  · rw [List.getElem?_append_right (by rw [List.length_drop]; omega), List.length_drop, List.getElem?_take, if_pos (by omega), Nat.mod_eq_sub_mod (by omega), Nat.mod_eq_of_lt (by omega)]
    congr 1
    omega
/-- A step's addition: modulo 1000. -/
def stp (p : T × Int) : T × Int := (p.1, p.2.tmod 1000)
theorem tm_bound (n : Int) : -999 ≤ n.tmod 1000 ∧ n.tmod 1000 ≤ 999 := by
  rcases Int.le_total 0 n with h | h
  · rw [Int.tmod_eq_emod_of_nonneg h]; omega
  · have : n.tmod 1000 = - ((-n).tmod 1000) := by rw [Int.neg_tmod]; omega
    rw [this, Int.tmod_eq_emod_of_nonneg (by omega)]
    omega
theorem stp_small (l : List (T × Int)) : ∀ p ∈ l.map stp, -999 ≤ p.2 ∧ p.2 ≤ 999 := by
  intro p hp
  obtain ⟨q, _, rfl⟩ := List.mem_map.1 hp
  exact tm_bound q.2
theorem take_snoc {α : Type} {l : List α} {k : Nat} {x : α} (h : l[k]? = some x) : l.take (k + 1) = l.take k ++ [x] := by
  obtain ⟨hk, hx⟩ := List.getElem?_eq_some_iff.1 h
  rw [List.take_succ_eq_append_getElem hk, hx]
/-- Added, and taken away again: the first k rounds. -/
def und (l : List (T × Int)) (t : Nat) : Nat → List (T × Int)
  | 0 => []
  | k + 1 => und l t k ++ (match l[k]?, (rot l t)[k]? with
    | some x, some y => [stp x, negP (stp y)]
    | _, _ => [])
theorem und_step {l : List (T × Int)} {t k : Nat} {x y : T × Int} (hx : l[k]? = some x) (hy : (rot l t)[k]? = some y) : und l t (k + 1) = und l t k ++ [stp x] ++ [negP (stp y)] := by
  rw [und, hx, hy, List.append_assoc]
  rfl
theorem und_sum (l : List (T × Int)) (t : Nat) (c : T) : ∀ k, k ≤ l.length → sm c (und l t k) = sm c ((l.take k).map stp) - sm c (((rot l t).take k).map stp)
  | 0, _ => by simp [und, sm]
  | k + 1, hk => by
    have hx := List.getElem?_eq_getElem (show k < l.length by omega)
    have hy := List.getElem?_eq_getElem (show k < (rot l t).length by rw [rot_length]; omega)
    rw [und_step hx hy, sm_append, sm_append, und_sum l t c k (by omega), take_snoc hx, take_snoc hy, List.map_append, List.map_append, sm_append, sm_append]
    have e1 : ∀ p : T × Int, sm c [negP p] = - sm c [p] := fun p => sm_neg c [p]
    rw [e1]
    simp only [List.map_cons, List.map_nil]
    omega
theorem und_small (l : List (T × Int)) (t k : Nat) : (∀ p ∈ und l t k, -999 ≤ p.2 ∧ p.2 ≤ 999) ∧ (und l t k).length ≤ 2 * k := by
  induction k with
  | zero => exact ⟨(fun p hp => by cases hp), by simp [und]⟩
  | succ k ih =>
    rw [und]
    split
    · rename_i x y _ _
      refine ⟨fun p hp => ?_, by rw [List.length_append]; have := ih.2; simp; omega⟩
      rcases List.mem_append.1 hp with hp | hp
      · exact ih.1 p hp
      · have h1 := tm_bound x.2
        have h2 := tm_bound y.2
        simp only [List.mem_cons, List.not_mem_nil, or_false] at hp
        rcases hp with rfl | rfl
        · exact h1
        · unfold negP stp
          dsimp only
          omega
    · rw [List.append_nil]
      exact ⟨ih.1, by have := ih.2; omega⟩
theorem undone (d : Int) (l : List (T × Int)) (t : Nat) (hl : l.length ≤ 40) : addsC d (und l t l.length) = [] := by
  have h1 := und_small l t l.length
  have h2 := adds_sum d (und l t l.length) h1.1 (by have := h1.2; omega)
  refine canon_ext (adds_good d _).can ⟨by simp, by simp⟩ fun c => ?_
  rw [(h2 c).1, und_sum l t c _ (Nat.le_refl _), List.take_of_length_le (Nat.le_refl _), List.take_of_length_le (by rw [rot_length]; exact Nat.le_refl _)]
  rw [sm_perm c ((rot_perm l t).map stp)]
  have : cnt ([] : List (T × Int)) c = 0 := rfl
  rw [this]
  split <;> omega
end Go.Proofs.Ytebpepjlhanopaa
