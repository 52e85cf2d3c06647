/- Plain laws: the frontier of times. -/
import Derived.Test.YtebpepjlhanopaaS1
import Derived.Test.YtebpepjlhanopaaS2
import Derived.Test.YtebpepjlhanopaaS4
import Derived.Test.YtebpepjlhanopaaS8
import Derived.Test.YtebpepjlhanopaaU1
import Derived.Test.YtebpepjlhanopaaA1
import Derived.Test.YtebpepjlhanopaaA2
import Derived.Test.YtebpepjlhanopaaA3
import Derived.Test.YtebpepjlhanopaaF1
namespace Go.Proofs.Ytebpepjlhanopaa
open Go Go.RowKit Go.Proofs.Tail Go.Sort
set_option linter.unusedSimpArgs false
set_option linter.unusedVariables false
theorem sortT_perm (xs : List T) : (sortT xs).Perm xs := List.mergeSort_perm _ _
theorem leT_iff {x y : T} : leT x y = true ↔ cfT x y ≤ 0 := by
  unfold leT ltOf
  have h := cmp_anti x y 3
  unfold cfT
  simp only [Bool.not_eq_true', decide_eq_false_iff_not]
  omega
theorem leT_trans (a b c : T) (h : leT a b = true) (k : leT b c = true) : leT a c = true := leT_iff.2 (cmp_trans (leT_iff.1 h) (leT_iff.1 k))
theorem leT_total (a b : T) : (leT a b || leT b a) = true := by
  have h := cmp_anti a b 3
  rw [Bool.or_eq_true, leT_iff, leT_iff]
  unfold cfT
  omega
abbrev Srt (l : List T) : Prop := l.Pairwise fun a b => leT a b = true
theorem sortT_sorted (xs : List T) : Srt (sortT xs) := List.pairwise_mergeSort leT_trans leT_total xs
/-- Strictly sorted. -/
abbrev SSrt (l : List T) : Prop := l.Pairwise fun a b => cfT a b < 0
theorem ssrt_eq {xs ys : List T} (h1 : SSrt xs) (h2 : SSrt ys) (h : ∀ t, t ∈ xs ↔ t ∈ ys) : xs = ys := by
  have n1 : xs.Nodup := h1.imp fun {a b} h e => by subst e; have := (cmp_zero (s := a) (t := a)).2 rfl; unfold cfT at h; omega
  have n2 : ys.Nodup := h2.imp fun {a b} h e => by subst e; have := (cmp_zero (s := a) (t := a)).2 rfl; unfold cfT at h; omega
  refine List.Perm.eq_of_pairwise (le := fun a b => cfT a b ≤ 0) (fun a b _ _ h1 h2 => ?_) (h1.imp fun h => by omega) (h2.imp fun h => by omega) ((List.perm_ext_iff_of_nodup n1 n2).2 h)
  have h := cmp_anti a b 3
  unfold cfT at h1 h2
  exact cmp_zero.1 (by omega)
/-- All right, of one depth. -/
def Alk (ts : List T) : Prop := ∀ t ∈ ts, t.rightB = true ∧ t.d = (ts.headD T0).d
theorem alk_iff {ts : List T} : anyBad ts = false ↔ Alk ts := by
  unfold anyBad Alk
  rw [List.any_eq_false]
  refine forall_congr' fun t => forall_congr' fun _ => ?_
  unfold badT
  cases t.rightB <;> simp
theorem minS_mem {t : T} : ∀ (l out : List T), t ∈ minS out l → t ∈ out ∨ t ∈ l
  | [], out, h => .inl h
  | x :: l, out, h => by
    simp only [minS] at h
    split at h
    · rcases minS_mem l out h with h | h
      · exact .inl h
      · exact .inr (by simp [h])
    · rcases minS_mem l _ h with h | h
      · rcases List.mem_append.1 h with h | h
        · exact .inl h
        · simp at h; subst h; exact .inr (by simp)
      · exact .inr (by simp [h])
theorem minS_out {t : T} : ∀ (l out : List T), t ∈ out → t ∈ minS out l
  | [], out, h => h
  | x :: l, out, h => by
    simp only [minS]
    split
    · exact minS_out l out h
    · exact minS_out l _ (by simp [h])
/-- Each has one in it that is at or ahead of it. -/
theorem minS_below : ∀ (l out : List T), (∀ t ∈ l, t.rightB = true) → ∀ t ∈ l, ∃ s ∈ minS out l, leqB s t = true
  | x :: l, out, hr, t, ht => by
    simp only [minS]
    split
    · rename_i ha
      rcases List.mem_cons.1 ht with rfl | ht
      · obtain ⟨s, hs, h⟩ := List.any_eq_true.1 ha
        exact ⟨s, minS_out l out hs, h⟩
      · exact minS_below l out (fun t ht => hr t (by simp [ht])) t ht
    · rcases List.mem_cons.1 ht with rfl | ht
      · exact ⟨t, minS_out l _ (by simp), by rw [leq_self]; exact hr t (by simp)⟩
      · exact minS_below l _ (fun t ht => hr t (by simp [ht])) t ht
/-- Of sorted ones: what is taken is strictly sorted, and none is at or ahead of another one. -/
theorem minS_good : ∀ (l out : List T), (∀ t ∈ out ++ l, t.rightB = true) → Srt (out ++ l) → SSrt out → out.Pairwise (fun a b => leqB a b = false ∧ leqB b a = false) →
    SSrt (minS out l) ∧ (minS out l).Pairwise (fun a b => leqB a b = false ∧ leqB b a = false)
  | [], out, _, _, h1, h2 => ⟨h1, h2⟩
  | x :: l, out, hr, hs, h1, h2 => by
    simp only [minS]
    have hs0 := List.pairwise_append.1 hs
    split
    · refine minS_good l out (fun t ht => hr t ?_) ?_ h1 h2
      · rcases List.mem_append.1 ht with h | h <;> simp [h]
      · exact hs.sublist (by simp)
    · rename_i ha
      have ha' : out.any (fun s => leqB s x) = false := by simpa using ha
      have hx : ∀ s ∈ out, leqB s x = false := fun s hs => by
        have := List.any_eq_false.1 ha' s hs; simpa using this
      have hlt : ∀ s ∈ out, cfT s x < 0 := fun s hm => by
        have h3 := leT_iff.1 (hs0.2.2 s hm x (by simp))
        rcases Int.lt_or_eq_of_le h3 with h | h
        · exact h
        · have e := cmp_zero.1 (show cmpP s x 3 = 0 from h)
          have h5 := hx s hm
          rw [e, leq_self, hr x (by simp)] at h5
          cases h5
      have hge : ∀ s ∈ out, leqB x s = false := fun s hs => by
        cases e : leqB x s with
        | false => rfl
        | true =>
          have h4 := leq_cmp e
          have h5 := hlt s hs
          have h6 := cmp_anti x s 3
          unfold cfT at h5
          omega
      refine minS_good l (out ++ [x]) (fun t ht => hr t ?_) ?_ ?_ ?_
      · simpa using ht
      · simpa using hs
      · refine List.pairwise_append.2 ⟨h1, List.pairwise_singleton _ _, fun a hm b hb => ?_⟩
        obtain rfl : b = x := by simpa using hb
        exact hlt a hm
      · refine List.pairwise_append.2 ⟨h2, List.pairwise_singleton _ _, fun a hm b hb => ?_⟩
        obtain rfl : b = x := by simpa using hb
        exact ⟨hx a hm, hge a hm⟩
/-- A least one of them. -/
def Mn (ts : List T) (t : T) : Prop := t ∈ ts ∧ ∀ s ∈ ts, leqB s t = true → s = t
/-- A frontier, said plainly. -/
structure Fro (l : List T) : Prop where
  alk : ∀ t ∈ l, t.rightB = true
  srt : SSrt l
  anti : l.Pairwise fun a b => leqB a b = false ∧ leqB b a = false
theorem anti_eq {l : List T} (h : l.Pairwise fun a b => leqB a b = false ∧ leqB b a = false) {s t : T} (hs : s ∈ l) (ht : t ∈ l) (hl : leqB s t = true) : s = t := by
  induction l with
  | nil => simp at hs
  | cons x l ih =>
    obtain ⟨h1, h2⟩ := List.pairwise_cons.1 h
    rcases List.mem_cons.1 hs with e1 | hs' <;> rcases List.mem_cons.1 ht with e2 | ht'
    · rw [e1, e2]
    · rw [e1, (h1 t ht').1] at hl; cases hl
    · rw [e2, (h1 s hs').2] at hl; cases hl
    · exact ih h2 hs' ht'
/-- What the frontier of times is. -/
theorem of_good {ts : List T} (h : Alk ts) : ∃ l, ofT ts = some l ∧ Fro l ∧ ∀ t, t ∈ l ↔ Mn ts t := by
  have hr : ∀ t ∈ sortT ts, t.rightB = true := fun t ht => (h t ((sortT_perm ts).mem_iff.1 ht)).1
  obtain ⟨g1, g2⟩ := minS_good (sortT ts) [] (by simpa using hr) (by simpa using sortT_sorted ts) List.Pairwise.nil List.Pairwise.nil
  have hmem : ∀ t, t ∈ minS [] (sortT ts) → t ∈ ts := fun t ht => by
    rcases minS_mem _ _ ht with h | h
    · simp at h
    · exact (sortT_perm ts).mem_iff.1 h
  refine ⟨_, by unfold ofT; rw [alk_iff.2 h]; rfl, ⟨fun t ht => (h t (hmem t ht)).1, g1, g2⟩, fun t => ⟨fun ht => ⟨hmem t ht, fun s hs hl => ?_⟩, fun ⟨ht, hm⟩ => ?_⟩⟩
  · obtain ⟨r, hr', hrs⟩ := minS_below (sortT ts) [] hr s ((sortT_perm ts).mem_iff.2 hs)
    have e := anti_eq g2 hr' ht (leq_trans hrs hl)
    subst e
    exact leq_anti hl hrs
  · obtain ⟨r, hr', hrt⟩ := minS_below (sortT ts) [] hr t ((sortT_perm ts).mem_iff.2 ht)
    have e := hm r (hmem r hr') hrt
    subst e
    exact hr'
theorem of_bad {ts : List T} (h : ¬ Alk ts) : ofT ts = none := by
  cases e : anyBad ts with
  | false => exact absurd (alk_iff.1 e) h
  | true => unfold ofT; rw [e]; rfl
/-- When times are a frontier. -/
theorem rightF_iff {ts : List T} : rightF ts = true ↔ Alk ts ∧ SSrt ts ∧ ts.Pairwise (fun a b => leqB a b = false ∧ leqB b a = false) := by
  unfold rightF
  rw [decide_eq_true_iff]
  constructor
  · intro h
    by_cases ha : Alk ts
    · obtain ⟨l, e, hf, _⟩ := of_good ha
      rw [h] at e
      injection e with e
      subst e
      exact ⟨ha, hf.srt, hf.anti⟩
    · rw [of_bad ha] at h; cases h
  · rintro ⟨ha, h1, h2⟩
    obtain ⟨l, e, hf, hm⟩ := of_good ha
    rw [e]
    congr 1
    refine ssrt_eq hf.srt h1 fun t => ⟨fun ht => ((hm t).1 ht).1, fun ht => (hm t).2 ⟨ht, fun s hs hl => anti_eq h2 hs ht hl⟩⟩
end Go.Proofs.Ytebpepjlhanopaa
