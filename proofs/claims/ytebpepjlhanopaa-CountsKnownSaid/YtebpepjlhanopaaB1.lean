/- Contract of the reference's Right. -/
import Derived.Test.YtebpepjlhanopaaRows
import Derived.Test.YtebpepjlhanopaaWords
import Derived.Test.YtebpepjlhanopaaByts
import Derived.Test.YtebpepjlhanopaaFrame
import Derived.Test.YtebpepjlhanopaaElems
import Derived.Test.YtebpepjlhanopaaS1
import Derived.Test.YtebpepjlhanopaaS2
import Derived.Test.YtebpepjlhanopaaS4
import Derived.Test.YtebpepjlhanopaaS7
import Derived.Test.YtebpepjlhanopaaS8
import Derived.Test.YtebpepjlhanopaaU1
import Derived.Test.YtebpepjlhanopaaA1
import Derived.Test.YtebpepjlhanopaaA2
import Derived.Test.YtebpepjlhanopaaA3
import Derived.Test.YtebpepjlhanopaaF1
import Derived.Test.YtebpepjlhanopaaP1
import Derived.Test.YtebpepjlhanopaaA4
namespace Go.Proofs.Ytebpepjlhanopaa
open Go Go.RowKit Go.Proofs.Tail Go.Sort
set_option linter.unusedSimpArgs false
set_option linter.unusedVariables false
/-- The first k are a frontier. -/
structure Pre (ts : List T) (k : Nat) : Prop where
  alk : ∀ t ∈ ts.take k, t.rightB = true ∧ t.d = (ts.headD T0).d
  srt : SSrt (ts.take k)
  anti : (ts.take k).Pairwise fun a b => leqB a b = false ∧ leqB b a = false
theorem Pre.zero (ts : List T) : Pre ts 0 := ⟨by simp, by simp, by simp⟩
theorem Pre.all {ts : List T} {k : Nat} (h : Pre ts k) (hk : ts.length ≤ k) : rightF ts = true := by
  have e := List.take_of_length_le hk
  refine rightF_iff.2 ⟨?_, ?_, ?_⟩
  · have := h.alk; rw [e] at this; exact this
  · have := h.srt; rw [e] at this; exact this
  · have := h.anti; rw [e] at this; exact this
theorem cfT_trans {a b c : T} (h : cfT a b < 0) (k : cfT b c < 0) : cfT a c < 0 := by
  have h1 := swoT.trans a b c (by unfold ltOf; exact decide_eq_true h) (by unfold ltOf; exact decide_eq_true k)
  unfold ltOf at h1
  exact of_decide_eq_true h1
theorem take_mem {α : Type} {ts : List α} {k : Nat} {t : α} (h : t ∈ ts.take k) : ∃ j, j < k ∧ ts[j]? = some t := by
  obtain ⟨j, hj, e⟩ := List.getElem_of_mem h
  rw [List.length_take] at hj
  refine ⟨j, by omega, ?_⟩
  rw [← e, List.getElem_take, List.getElem?_eq_getElem]
theorem Pre.succ {ts : List T} {k : Nat} {z : T} (h : Pre ts k) (hz : ts[k]? = some z) (hr : z.rightB = true) (hd : z.d = (ts.headD T0).d)
    (hl : ∀ m y, k = m + 1 → ts[m]? = some y → cfT y z < 0) (ha : ∀ j y, j < k → ts[j]? = some y → leqB y z = false ∧ leqB z y = false) : Pre ts (k + 1) := by
  have e : ts.take (k + 1) = ts.take k ++ [z] := by rw [List.take_add_one, hz]; rfl
  refine ⟨?_, ?_, ?_⟩
  · rw [e]
    intro t ht
    rcases List.mem_append.1 ht with ht | ht
    · exact h.alk t ht
    · obtain rfl : t = z := by simpa using ht
      exact ⟨hr, hd⟩
  · rw [e]
    refine List.pairwise_append.2 ⟨h.srt, List.pairwise_singleton _ _, fun a hm b hb => ?_⟩
    obtain rfl : b = z := by simpa using hb
    obtain ⟨j, hj, ej⟩ := take_mem hm
    rcases Nat.lt_or_ge (j + 1) k with hlt | hge
    · obtain ⟨m, rfl⟩ : ∃ m, k = m + 1 := ⟨k - 1, by omega⟩
      have hmk : m < ts.length := by have := (List.getElem?_eq_some_iff.1 hz).1; omega
      have h2 := hl m _ rfl (List.getElem?_eq_getElem hmk)
      refine cfT_trans ?_ h2
      have hjl : j < (ts.take (m + 1)).length := by rw [List.length_take]; omega
      have hml : m < (ts.take (m + 1)).length := by rw [List.length_take]; omega
      have h3 := List.pairwise_iff_getElem.1 h.srt j m hjl hml (by omega)
      simp only [List.getElem_take] at h3
      have ej' : ts[j] = a := (List.getElem?_eq_some_iff.1 ej).2
      rw [ej'] at h3
      exact h3
    · obtain rfl : k = j + 1 := by omega
      exact hl j a rfl ej
  · rw [e]
    refine List.pairwise_append.2 ⟨h.anti, List.pairwise_singleton _ _, fun a hm b hb => ?_⟩
    obtain rfl : b = z := by simpa using hb
    obtain ⟨j, hj, ej⟩ := take_mem hm
    exact ha j a hj ej
theorem right_no1 {ts : List T} {k : Nat} {z : T} (hz : ts[k]? = some z) (h : z.rightB = false ∨ z.d ≠ (ts.headD T0).d) : rightF ts = false := by
  cases e : rightF ts with
  | false => rfl
  | true =>
    have := (rightF_iff.1 e).1 z (List.mem_of_getElem? hz)
    rcases h with h | h
    · rw [h] at this; exact absurd this.1 (by simp)
    · exact absurd this.2 h
theorem right_no2 {ts : List T} {m : Nat} {y z : T} (hy : ts[m]? = some y) (hz : ts[m + 1]? = some z) (h : ¬ cfT y z < 0) : rightF ts = false := by
  cases e : rightF ts with
  | false => rfl
  | true =>
    have h1 := (rightF_iff.1 e).2.1
    obtain ⟨k1, e1⟩ := List.getElem?_eq_some_iff.1 hy
    obtain ⟨k2, e2⟩ := List.getElem?_eq_some_iff.1 hz
    have := List.pairwise_iff_getElem.1 h1 m (m + 1) k1 k2 (by omega)
    rw [e1, e2] at this
    exact absurd this h
theorem right_no3 {ts : List T} {j k : Nat} {y z : T} (hjk : j < k) (hy : ts[j]? = some y) (hz : ts[k]? = some z) (h : leqB y z = true ∨ leqB z y = true) : rightF ts = false := by
  cases e : rightF ts with
  | false => rfl
  | true =>
    have h1 := (rightF_iff.1 e).2.2
    obtain ⟨k1, e1⟩ := List.getElem?_eq_some_iff.1 hy
    obtain ⟨k2, e2⟩ := List.getElem?_eq_some_iff.1 hz
    have := List.pairwise_iff_getElem.1 h1 j k k1 k2 hjk
    rw [e1, e2] at this
    rcases h with h | h
    · rw [h] at this; exact absurd this.1 (by simp)
    · rw [h] at this; exact absurd this.2 (by simp)
theorem cells_of {w : World} {b off n c : Nat} {ts : List T} (h : Tms w (some ⟨b, off, none⟩) n c ts) {j : Nat} {t : T} (hj : ts[j]? = some t) : At w b (off + j * 5) t := by
  have hl := (List.getElem?_eq_some_iff.1 hj).1
  have hn := h.len
  obtain ⟨b', off', e, hc⟩ := h.at_ (by omega)
  cases e
  exact hc j t hj
theorem holdsF_no {ts : List T} {t x : T} (hx : x ∈ ts) (hb : barT t x = true) : holdsF ts t = false := by
  unfold holdsF inF
  rw [List.any_eq_true.2 ⟨x, hx, hb⟩]
  simp
theorem holdsF_yes {ts : List T} {t : T} {n : Nat} (h1 : rightF ts = true) (h2 : t.rightB = true) (hl : ts.length ≤ n) (h : ∀ j x, j < n → ts[j]? = some x → barT t x = false) : holdsF ts t = true := by
  unfold holdsF inF
  rw [h1, h2, List.any_eq_false.2 (fun x hx => by
    obtain ⟨j, hj, e⟩ := List.getElem_of_mem hx
    rw [h j x (by omega) (by rw [← e, List.getElem?_eq_getElem hj])]; simp)]
  rfl
theorem alikeF_right {xs ys : List T} (h : alikeF xs ys = true) : rightF xs = true ∧ rightF ys = true := by
  unfold alikeF at h
  cases h1 : rightF xs <;> cases h2 : rightF ys <;> simp [h1, h2] at h <;> exact ⟨rfl, rfl⟩
theorem holdsF_in {xs ys : List T} (h : alikeF xs ys = true) {y : T} (hy : y ∈ ys) : holdsF xs y = inF xs y := by
  obtain ⟨h1, h2⟩ := alikeF_right h
  unfold holdsF
  rw [h1, ((rightF_iff.1 h2).1 y hy).1]
  rfl
end Go.Proofs.Ytebpepjlhanopaa
