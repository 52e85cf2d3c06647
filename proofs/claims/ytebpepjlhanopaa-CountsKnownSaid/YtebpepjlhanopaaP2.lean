/- Plain laws: the frontier, made by insertion of the least ones. -/
import Derived.Test.YtebpepjlhanopaaS1
import Derived.Test.YtebpepjlhanopaaS2
import Derived.Test.YtebpepjlhanopaaS4
import Derived.Test.YtebpepjlhanopaaS8
import Derived.Test.YtebpepjlhanopaaU1
import Derived.Test.YtebpepjlhanopaaA1
import Derived.Test.YtebpepjlhanopaaA2
import Derived.Test.YtebpepjlhanopaaA3
import Derived.Test.YtebpepjlhanopaaF1
import Derived.Test.YtebpepjlhanopaaP1
import Derived.Test.YtebpepjlhanopaaB1
namespace Go.Proofs.Ytebpepjlhanopaa
open Go Go.RowKit Go.Proofs.Tail Go.Sort
set_option linter.unusedSimpArgs false
set_option linter.unusedVariables false
/-- What the reference's Of holds behind k times. -/
structure OutR (ts : List T) (k : Nat) (l : List T) : Prop where
  good : ∀ t ∈ ts.take k, t.rightB = true ∧ t.d = (ts.headD T0).d
  srt : SSrt l
  mem : ∀ t, t ∈ l ↔ t ∈ ts.take k ∧ Mn ts t
theorem OutR.zero (ts : List T) : OutR ts 0 [] := ⟨by simp, List.Pairwise.nil, by simp⟩
theorem nodup_len : ∀ (l ts : List T), l.Nodup → (∀ t ∈ l, t ∈ ts) → l.length ≤ ts.length
  | [], ts, _, _ => Nat.zero_le _
  | x :: l, ts, hn, hs => by
    obtain ⟨h1, h2⟩ := List.nodup_cons.1 hn
    have hx := hs x (by simp)
    have := nodup_len l (ts.erase x) h2 fun t ht => (List.mem_erase_of_ne (fun e => h1 (by rw [← e]; exact ht))).2 (hs t (by simp [ht]))
    rw [List.length_erase_of_mem hx] at this
    have := List.length_pos_of_mem hx
    simp only [List.length_cons]
    omega
theorem OutR.len {ts l : List T} {k : Nat} (h : OutR ts k l) : l.length ≤ ts.length := by
  have n1 : l.Nodup := h.srt.imp fun {a b} h e => by subst e; have := (cmp_zero (s := a) (t := a)).2 rfl; unfold cfT at h; omega
  exact nodup_len l ts n1 fun t ht => List.mem_of_mem_take ((h.mem t).1 ht).1
/-- Is the k-th one to be put in? -/
def Least (ts : List T) (k : Nat) (z : T) : Prop := Mn ts z ∧ z ∉ ts.take k
theorem OutR.skip {ts l : List T} {k : Nat} {z : T} (h : OutR ts k l) (hz : ts[k]? = some z) (hg : z.rightB = true ∧ z.d = (ts.headD T0).d) (hn : ¬ Least ts k z) : OutR ts (k + 1) l := by
  have e : ts.take (k + 1) = ts.take k ++ [z] := by rw [List.take_add_one, hz]; rfl
  refine ⟨?_, h.srt, fun t => ?_⟩
  · rw [e]
    intro t ht
    rcases List.mem_append.1 ht with ht | ht
    · exact h.good t ht
    · obtain rfl : t = z := by simpa using ht
      exact hg
  · rw [h.mem t, e]
    constructor
    · rintro ⟨h1, h2⟩; exact ⟨List.mem_append_left _ h1, h2⟩
    · rintro ⟨h1, h2⟩
      rcases List.mem_append.1 h1 with h1 | h1
      · exact ⟨h1, h2⟩
      · obtain rfl : t = z := by simpa using h1
        by_cases hm : t ∈ ts.take k
        · exact ⟨hm, h2⟩
        · exact absurd ⟨h2, hm⟩ hn
theorem OutR.put {ts l : List T} {k p : Nat} {z : T} (h : OutR ts k l) (hz : ts[k]? = some z) (hg : z.rightB = true ∧ z.d = (ts.headD T0).d) (hn : Least ts k z)
    (hlo : ∀ t ∈ l.take p, cfT t z < 0) (hhi : ∀ t, l[p]? = some t → ¬ cfT t z < 0) : OutR ts (k + 1) (l.take p ++ [z] ++ l.drop p) := by
  have e : ts.take (k + 1) = ts.take k ++ [z] := by rw [List.take_add_one, hz]; rfl
  have hzl : z ∉ l := fun hm => hn.2 ((h.mem z).1 hm).1
  have hsp := h.srt
  rw [← List.take_append_drop p l] at hsp
  obtain ⟨s1, s2, s3⟩ := List.pairwise_append.1 hsp
  have hup : ∀ t ∈ l.drop p, cfT z t < 0 := by
    cases hd : l.drop p with
    | nil => simp
    | cons y ys =>
      have hy : l[p]? = some y := by
        have := congrArg (fun r => r[0]?) hd
        simpa using this
      have hyz : cfT z y < 0 := by
        have h1 := hhi y hy
        have h2 := cmp_anti y z 3
        have h3 : ¬ cmpP y z 3 = 0 := fun e0 => hzl (by rw [← cmp_zero.1 e0]; exact List.mem_of_getElem? hy)
        unfold cfT at *
        omega
      rw [hd] at s2
      intro t ht
      rcases List.mem_cons.1 ht with rfl | ht
      · exact hyz
      · exact cfT_trans hyz ((List.pairwise_cons.1 s2).1 t ht)
  refine ⟨?_, ?_, fun t => ?_⟩
  · rw [e]
    intro t ht
    rcases List.mem_append.1 ht with ht | ht
    · exact h.good t ht
    · obtain rfl : t = z := by simpa using ht
      exact hg
  · rw [List.append_assoc]
    refine List.pairwise_append.2 ⟨s1, List.pairwise_cons.2 ⟨hup, s2⟩, fun a ha b hb => ?_⟩
    rcases List.mem_cons.1 hb with rfl | hb
    · exact hlo a ha
    · exact s3 a ha b hb
  · have h1 : t ∈ l.take p ++ [z] ++ l.drop p ↔ t ∈ l ∨ t = z := by
      conv => rhs; rw [← List.take_append_drop p l]
      simp only [List.mem_append, List.mem_singleton]
      constructor
      · rintro ((h | h) | h)
        · exact .inl (.inl h)
        · exact .inr h
        · exact .inl (.inr h)
      · rintro ((h | h) | h)
        · exact .inl (.inl h)
        · exact .inr h
        · exact .inl (.inr h)
    rw [h1, h.mem t, e]
    constructor
    · rintro (⟨h1, h2⟩ | rfl)
      · exact ⟨List.mem_append_left _ h1, h2⟩
      · exact ⟨by simp, hn.1⟩
    · rintro ⟨h1, h2⟩
      rcases List.mem_append.1 h1 with h1 | h1
      · exact .inl ⟨h1, h2⟩
      · exact .inr (by simpa using h1)
theorem OutR.all {ts l : List T} {k : Nat} (h : OutR ts k l) (hk : ts.length ≤ k) : ofT ts = some l := by
  have e := List.take_of_length_le hk
  have ha : Alk ts := by have := h.good; rw [e] at this; exact this
  obtain ⟨l', e', hf, hm⟩ := of_good ha
  rw [e']
  congr 1
  refine ssrt_eq hf.srt h.srt fun t => ?_
  rw [hm t, h.mem t, e]
  exact ⟨fun h => ⟨h.1, h⟩, fun h => h.2⟩
theorem of_bad_at {ts : List T} {k : Nat} {z : T} (hz : ts[k]? = some z) (h : z.rightB = false ∨ z.d ≠ (ts.headD T0).d) : ofT ts = none := by
  refine of_bad fun ha => ?_
  have := ha z (List.mem_of_getElem? hz)
  rcases h with h | h
  · rw [h] at this; exact absurd this.1 (by simp)
  · exact h this.2
end Go.Proofs.Ytebpepjlhanopaa
