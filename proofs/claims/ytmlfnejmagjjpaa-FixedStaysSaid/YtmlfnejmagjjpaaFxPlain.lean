/- The plain law of the greatest choice: lowering by a rule that does not hold keeps every choice by which all rules hold below; where nothing is lowered any more it is the greatest one. No condition. -/
namespace Fx
/-- A rule: X, Y, Need. -/
structure R where
  x : Int
  y : Int
  need : List Int
/-- What a rule needs of Y where X is at i. -/
def nd (need : List Int) (i : Int) : Int := if i ≤ 0 then 0 else if (need.length : Int) ≤ i then 0 else max 0 (need.getD i.toNat 0)
def lk (l : List Int) (i : Int) : Int := l.getD i.toNat 0
/-- The rule holds of a choice without negative numbers. -/
def ok (r : R) (a : List Int) : Prop := nd r.need (lk a r.x) ≤ lk a r.y
def inn (r : R) (n : Nat) : Prop := 0 ≤ r.x ∧ r.x < n ∧ 0 ≤ r.y ∧ r.y < n
def le (a b : List Int) : Prop := ∀ i : Nat, i < a.length → a.getD i 0 ≤ b.getD i 0
def pos (a : List Int) : Prop := ∀ i : Nat, i < a.length → 0 ≤ a.getD i 0
def choice (tops : List Int) (rules : List R) (b : List Int) : Prop := b.length = tops.length ∧ pos b ∧ le b tops ∧ ∀ r ∈ rules, ok r b
def Inv (tops : List Int) (rules : List R) (a : List Int) : Prop := a.length = tops.length ∧ pos a ∧ le a tops ∧ ∀ b, choice tops rules b → le b a
def Great (tops : List Int) (rules : List R) (a : List Int) : Prop := choice tops rules a ∧ ∀ b, choice tops rules b → le b a
def sum : List Int → Nat
  | [] => 0
  | x :: l => x.toNat + sum l
theorem le_refl (a : List Int) : le a a := fun _ _ => Int.le_refl _
theorem le_trans {a b c : List Int} (h : a.length = b.length) (h1 : le a b) (h2 : le b c) : le a c := fun i hi => Int.le_trans (h1 i hi) (h2 i (h ▸ hi))
theorem le_antisymm {a b : List Int} (h : a.length = b.length) (h1 : le a b) (h2 : le b a) : a = b := by
  apply List.ext_getElem h
  intro i h3 h4
  have x := h1 i h3
  have y := h2 i h4
  simp only [List.getD_eq_getElem?_getD, List.getElem?_eq_getElem h3, List.getElem?_eq_getElem h4, Option.getD_some] at x y
  omega
theorem inv_start {tops : List Int} {rules : List R} (h : pos tops) : Inv tops rules tops := ⟨rfl, h, le_refl _, fun _ hb => hb.2.2.1⟩
theorem getD_set (a : List Int) (i j : Nat) (v : Int) (hi : i < a.length) : (a.set i v).getD j 0 = if j = i then v else a.getD j 0 := by
  simp only [List.getD_eq_getElem?_getD, List.getElem?_set]
  by_cases h : i = j
  · subst h; simp [hi]
  · simp [h, Ne.symm h]
theorem nd_nonneg (l : List Int) (i : Int) : 0 ≤ nd l i := by unfold nd; split <;> (try split) <;> omega
theorem lk_le {a b : List Int} (hl : a.length = b.length) (h : le a b) {i : Int} (h0 : 0 ≤ i) (h1 : i < a.length) : lk a i ≤ lk b i := h i.toNat (by omega)
theorem lk_pos {a : List Int} (h : pos a) {i : Int} (h0 : 0 ≤ i) (h1 : i < a.length) : 0 ≤ lk a i := h i.toNat (by omega)
theorem nd_zero (l : List Int) {i : Int} (h : i ≤ 0) : nd l i = 0 := by unfold nd; rw [if_pos h]
theorem inv_lower {tops : List Int} {rules : List R} {a : List Int} (h : Inv tops rules a) {r : R} (hr : r ∈ rules) (hn : inn r tops.length) (hk : ¬ ok r a) :
    0 < lk a r.x ∧ Inv tops rules (a.set r.x.toNat (lk a r.x - 1)) := by
  obtain ⟨hl, hp, ht, hg⟩ := h
  obtain ⟨x0, x1, y0, y1⟩ := hn
  unfold ok at hk
  have hy := lk_pos hp y0 (by omega)
  have hx := lk_pos hp x0 (by omega)
  have hx0 : 0 < lk a r.x := by
    rcases Int.lt_or_le 0 (lk a r.x) with h | h
    · exact h
    · exfalso; rw [nd_zero _ h] at hk; omega
  refine ⟨hx0, by simpa using hl, ?_, ?_, ?_⟩
  · intro i hi
    rw [getD_set _ _ _ _ (by omega)]
    have hi' : i < a.length := by simpa using hi
    split
    · omega
    · exact hp i hi'
  · intro i hi
    rw [getD_set _ _ _ _ (by omega)]
    have hi' : i < a.length := by simpa using hi
    have := ht i hi'
    split
    · rename_i e; subst e; unfold lk; omega
    · exact this
  · intro b hb i hi
    rw [getD_set _ _ _ _ (by omega)]
    have h1 := hg b hb i hi
    split
    · rename_i e
      subst e
      have hbl : b.length = a.length := by rw [hb.1, hl]
      rcases Int.lt_or_eq_of_le h1 with h2 | h2
      · unfold lk; omega
      · exfalso
        apply hk
        have h3 := hb.2.2.2 r hr
        unfold ok at h3
        have e1 : lk b r.x = lk a r.x := h2
        rw [e1] at h3
        exact Int.le_trans h3 (lk_le hbl (hg b hb) y0 (by omega))
    · exact h1
theorem sum_set : ∀ (a : List Int) (i : Nat), i < a.length → 0 < a.getD i 0 → sum (a.set i (a.getD i 0 - 1)) + 1 = sum a
  | [], i, h, _ => by simp at h
  | x :: l, 0, _, h => by simp [sum] at *; omega
  | x :: l, i + 1, h, h1 => by
    have := sum_set l i (by simpa using h) (by simpa using h1)
    simp [sum] at *
    omega
theorem inv_done {tops : List Int} {rules : List R} {a : List Int} (h : Inv tops rules a) (hk : ∀ r ∈ rules, ok r a) : Great tops rules a :=
  ⟨⟨h.1, h.2.1, h.2.2.1, hk⟩, h.2.2.2⟩
theorem great_unique {tops : List Int} {rules : List R} {a b : List Int} (h : Great tops rules a) (k : Great tops rules b) : a = b :=
  le_antisymm (by rw [h.1.1, k.1.1]) (k.2 a h.1) (h.2 b k.1)
/-- With the choice as tops it is the choice. -/
theorem great_again {tops : List Int} {rules : List R} {a : List Int} (h : Great tops rules a) : Great a rules a :=
  ⟨⟨rfl, h.1.2.1, le_refl _, h.1.2.2.2⟩, fun _ hb => hb.2.2.1⟩
/-- Nowhere below another such one. -/
theorem great_above {tops : List Int} {rules : List R} {a b : List Int} (h : Great tops rules a) (h1 : b.length = tops.length) (h2 : le b tops) (h3 : pos b) (h4 : ∀ r ∈ rules, ok r b) : le b a := h.2 b ⟨h1, h3, h2, h4⟩
/-- With lower tops. -/
theorem great_lower {tops tops' : List Int} {rules : List R} {a b : List Int} (h : Great tops rules a) (k : Great tops' rules b) (hl : tops'.length = tops.length) (ht : le tops' tops) : le b a :=
  h.2 b ⟨by rw [k.1.1, hl], k.1.2.1, le_trans k.1.1 k.1.2.2.1 ht, k.1.2.2.2⟩
/-- With rules more. -/
theorem great_more {tops : List Int} {rules rules' : List R} {a b : List Int} (h : Great tops rules a) (k : Great tops rules' b) (hs : ∀ r ∈ rules, r ∈ rules') : le b a :=
  h.2 b ⟨k.1.1, k.1.2.1, k.1.2.2.1, fun r hr => k.1.2.2.2 r (hs r hr)⟩
theorem great_same {tops : List Int} {rules rules' : List R} {a b : List Int} (h : Great tops rules a) (k : Great tops rules' b) (hs : ∀ r, r ∈ rules ↔ r ∈ rules') : a = b :=
  le_antisymm (by rw [h.1.1, k.1.1]) (great_more k h fun r hr => (hs r).2 hr) (great_more h k fun r hr => (hs r).1 hr)
/-- A variable that no rule lowers stays. -/
theorem great_stays {tops : List Int} {rules : List R} {a : List Int} (h : Great tops rules a) (hp : pos tops) (v : Nat) (hv : v < tops.length) (hn : ∀ r ∈ rules, inn r tops.length) (ha : ∀ r ∈ rules, r.x ≠ v) : a.getD v 0 = tops.getD v 0 := by
  have hl := h.1.1
  have h1 := h.1.2.2.1 v (by omega)
  have h2 : choice tops rules (a.set v (tops.getD v 0)) := by
    refine ⟨by simpa using hl, ?_, ?_, ?_⟩
    · intro i hi
      rw [getD_set _ _ _ _ (by omega)]
      have hi' : i < a.length := by simpa using hi
      split
      · exact hp v hv
      · exact h.1.2.1 i hi'
    · intro i hi
      rw [getD_set _ _ _ _ (by omega)]
      have hi' : i < a.length := by simpa using hi
      split
      · rename_i e; subst e; omega
      · exact h.1.2.2.1 i hi'
    · intro r hr
      have h3 := h.1.2.2.2 r hr
      obtain ⟨x0, x1, y0, y1⟩ := hn r hr
      have h4 := ha r hr
      unfold ok lk at *
      rw [getD_set _ _ _ _ (by omega), getD_set _ _ _ _ (by omega), if_neg (by omega)]
      split
      · rename_i e; rw [e] at h3; omega
      · exact h3
  have h3 := h.2 _ h2 v (by simp; omega)
  rw [getD_set _ _ _ _ (by omega), if_pos rfl] at h3
  omega
/-- With each top 0 all are 0. -/
theorem great_none {n : Nat} {rules : List R} {a : List Int} (h : Great (List.replicate n 0) rules a) : a = List.replicate n 0 := by
  have hl := h.1.1
  refine le_antisymm hl h.1.2.2.1 fun i hi => ?_
  have := h.1.2.1 i (by omega)
  simp only [List.length_replicate] at hi
  have e : (List.replicate n (0 : Int)).getD i 0 = 0 := by simp [List.getD_eq_getElem?_getD, hi]
  omega
/-- Of two choices the greater ones. -/
theorem ok_join {r : R} {a b : List Int} (hn : inn r a.length) (h : ok r a) (k : ok r b) (j : List Int) (hj : ∀ i : Nat, i < a.length → j.getD i 0 = max (a.getD i 0) (b.getD i 0)) : ok r j := by
  obtain ⟨x0, x1, y0, y1⟩ := hn
  unfold ok lk at *
  rw [hj _ (by omega), hj _ (by omega)]
  rcases Int.le_total (a.getD r.x.toNat 0) (b.getD r.x.toNat 0) with h1 | h1
  · rw [Int.max_eq_right h1]; omega
  · rw [Int.max_eq_left h1]; omega
end Fx
