/- Plain laws: a row less another one. -/
import Derived.Test.YtainoghjelfnkaaRows
import Derived.Test.YtainoghjelfnkaaV1
import Derived.Test.YtainoghjelfnkaaV4
namespace Go.Proofs.Ytainoghjelfnkaa
open Go Go.RowKit Go.Proofs.Tail Go.Sort
set_option linter.unusedSimpArgs false
set_option linter.unusedVariables false
theorem leR_iff {x y : Rc} : leR x y = true ↔ (x.1 < y.1 ∨ x.1 = y.1 ∧ x.2 ≤ y.2) := by
  unfold leR
  rw [ltR]
  simp only [Bool.not_eq_true', decide_eq_false_iff_not]
  omega
theorem leR_anti {x y : Rc} (h1 : leR x y = true) (h2 : leR y x = true) : x = y := by
  rw [leR_iff] at *
  obtain ⟨a, b⟩ := x; obtain ⟨c, d⟩ := y
  dsimp only at *
  have : a = c ∧ b = d := by omega
  rw [this.1, this.2]
abbrev Srt (l : List Rc) : Prop := l.Pairwise fun a b => leR a b = true
theorem srt_eq {xs ys : List Rc} (hp : xs.Perm ys) (h1 : Srt xs) (h2 : Srt ys) : xs = ys :=
  List.Perm.eq_of_pairwise (le := fun a b => leR a b = true) (fun a b _ _ h1 h2 => leR_anti h1 h2) h1 h2 hp
/-- Taken one by one. -/
def lessR : List Rc → List Rc → Option (List Rc)
  | l, [] => some l
  | l, y :: ys => if y ∈ l then lessR (l.erase y) ys else none
/-- What a row less another one is. -/
def LS (xs ys : List Rc) : Option (List Rc) := lessR (sortR xs) ys
theorem lessR_some : ∀ (ys l m : List Rc), lessR l ys = some m → l.Perm (m ++ ys) ∧ m.Sublist l
  | [], l, m, h => by
    have : l = m := by simpa [lessR] using h
    subst this
    exact ⟨by simp, List.Sublist.refl _⟩
  | y :: ys, l, m, h => by
    rw [lessR] at h
    split at h
    · rename_i hy
      obtain ⟨h1, h2⟩ := lessR_some ys _ _ h
      refine ⟨?_, h2.trans List.erase_sublist⟩
      exact (List.perm_cons_erase hy).trans ((h1.cons y).trans List.perm_middle.symm)
    · cases h
theorem lessR_none : ∀ (ys l : List Rc), lessR l ys = none → ¬ ∃ m, l.Perm (m ++ ys)
  | [], l, h => by simp [lessR] at h
  | y :: ys, l, h => by
    rw [lessR] at h
    split at h
    · rename_i hy
      rintro ⟨m, hm⟩
      refine lessR_none ys _ h ⟨m, ?_⟩
      have h1 : (y :: l.erase y).Perm (y :: (m ++ ys)) := ((List.perm_cons_erase hy).symm.trans hm).trans List.perm_middle
      exact h1.cons_inv
    · rename_i hy
      rintro ⟨m, hm⟩
      exact hy (hm.mem_iff.2 (by simp))
/-- What a walk over sorted records leaves, that takes those of another sorted row. -/
def takeG : List Rc → List Rc → List Rc × List Rc
  | [], g => ([], g)
  | x :: xs, g => if g.head? = some x then takeG xs g.tail else (x :: (takeG xs g).1, (takeG xs g).2)
theorem takeG_sub : ∀ (xs g : List Rc), (takeG xs g).1.Sublist xs ∧ ∃ t, xs.Perm ((takeG xs g).1 ++ t) ∧ g = t ++ (takeG xs g).2
  | [], g => by simp [takeG]
  | x :: xs, g => by
    unfold takeG
    split
    · rename_i h
      obtain ⟨h1, t, h2, h3⟩ := takeG_sub xs g.tail
      refine ⟨h1.trans (List.sublist_cons_self _ _), x :: t, (h2.cons x).trans List.perm_middle.symm, ?_⟩
      cases g with
      | nil => simp at h
      | cons y ys =>
        obtain rfl : y = x := by simpa using h
        simp only [List.tail_cons] at h3 ⊢
        rw [List.cons_append, ← h3]
    · obtain ⟨h1, t, h2, h3⟩ := takeG_sub xs g
      exact ⟨h1.cons_cons x, t, h2.cons x, h3⟩
theorem takeG_left : ∀ (xs g : List Rc), Srt xs → Srt g → (takeG xs g).2 ≠ [] → ¬ ∃ m, xs.Perm (m ++ g)
  | [], g, _, _, h => by
    rintro ⟨m, hm⟩
    have := hm.symm.eq_nil
    simp [takeG] at h
    simp at this
    exact h this.2
  | x :: xs, g, hs, hg, h => by
    unfold takeG at h
    have hs' := (List.pairwise_cons.1 hs).2
    split at h
    · rename_i hh
      cases g with
      | nil => simp at hh
      | cons y gs =>
        obtain rfl : y = x := by simpa using hh
        rintro ⟨m, hm⟩
        exact takeG_left xs gs hs' (List.pairwise_cons.1 hg).2 h ⟨m, (hm.trans List.perm_middle).cons_inv⟩
    · rename_i hh
      rintro ⟨m, hm⟩
      by_cases hx : x ∈ m
      · refine takeG_left xs g hs' hg h ⟨m.erase x, ?_⟩
        have h1 : (x :: xs).Perm (x :: (m.erase x ++ g)) := hm.trans ((List.perm_cons_erase hx).append_right g)
        exact h1.cons_inv
      · have hxg : x ∈ g := by
          have := hm.mem_iff.1 (List.mem_cons_self ..)
          rcases List.mem_append.1 this with h' | h'
          · exact absurd h' hx
          · exact h'
        cases g with
        | nil => simp at hxg
        | cons y gs =>
          have hxy : x ≠ y := fun e => hh (by simp [e])
          have h1 : x ∈ gs := by
            rcases List.mem_cons.1 hxg with e | e
            · exact absurd e hxy
            · exact e
          have h2 : y ∈ xs := by
            have := hm.mem_iff.2 (show y ∈ m ++ y :: gs by simp)
            rcases List.mem_cons.1 this with e | e
            · exact absurd e.symm hxy
            · exact e
          exact hxy (leR_anti ((List.pairwise_cons.1 hs).1 y h2) ((List.pairwise_cons.1 hg).1 x h1))
theorem takeG_LS (xs ys : List Rc) : LS xs ys = if (takeG (sortR xs) (sortR ys)).2 = [] then some (takeG (sortR xs) (sortR ys)).1 else none := by
  obtain ⟨h1, t, h2, h3⟩ := takeG_sub (sortR xs) (sortR ys)
  have hy := sortR_perm ys
  split
  · rename_i h
    rw [h, List.append_nil] at h3
    rw [← h3] at h2
    cases e : LS xs ys with
    | none => exact absurd ⟨_, h2.trans (hy.append_left _)⟩ (lessR_none _ _ e)
    | some m =>
      obtain ⟨g1, g2⟩ := lessR_some _ _ _ e
      have hp : (m ++ ys).Perm ((takeG (sortR xs) (sortR ys)).1 ++ ys) := g1.symm.trans (h2.trans (hy.append_left _))
      rw [srt_eq ((List.perm_append_right_iff _).1 hp) ((sortR_sorted xs).sublist g2) ((sortR_sorted xs).sublist h1)]
  · rename_i h
    cases e : LS xs ys with
    | none => rfl
    | some m =>
      obtain ⟨g1, g2⟩ := lessR_some _ _ _ e
      exact absurd ⟨m, g1.trans (hy.symm.append_left _)⟩ (takeG_left _ _ (sortR_sorted xs) (sortR_sorted ys) h)
theorem LS_some {xs ys l : List Rc} (h : LS xs ys = some l) : xs.Perm (l ++ ys) ∧ Srt l := by
  obtain ⟨h1, h2⟩ := lessR_some _ _ _ h
  exact ⟨(sortR_perm xs).symm.trans h1, (sortR_sorted xs).sublist h2⟩
theorem LS_none {xs ys : List Rc} (h : LS xs ys = none) : ¬ ∃ m, xs.Perm (m ++ ys) := fun ⟨m, hm⟩ => lessR_none _ _ h ⟨m, (sortR_perm xs).trans hm⟩
theorem sortR_congr {xs ys : List Rc} : sortR xs = sortR ys ↔ xs.Perm ys :=
  ⟨fun h => (sortR_perm xs).symm.trans (h ▸ sortR_perm ys), fun h => srt_eq ((sortR_perm xs).trans (h.trans (sortR_perm ys).symm)) (sortR_sorted _) (sortR_sorted _)⟩
theorem sortR_idem {l : List Rc} (h : Srt l) : sortR l = l := srt_eq (sortR_perm l) (sortR_sorted l) h
end Go.Proofs.Ytainoghjelfnkaa
