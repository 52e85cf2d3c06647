/- Plain laws: frontiers by the times that are at or ahead of them. -/
import Derived.Test.YtebpepjlhanopaaS1
import Derived.Test.YtebpepjlhanopaaS2
import Derived.Test.YtebpepjlhanopaaS4
import Derived.Test.YtebpepjlhanopaaS8
import Derived.Test.YtebpepjlhanopaaU1
import Derived.Test.YtebpepjlhanopaaA1
import Derived.Test.YtebpepjlhanopaaA2
import Derived.Test.YtebpepjlhanopaaA3
import Derived.Test.YtebpepjlhanopaaA4
import Derived.Test.YtebpepjlhanopaaA5
import Derived.Test.YtebpepjlhanopaaF1
import Derived.Test.YtebpepjlhanopaaP1
import Derived.Test.YtebpepjlhanopaaB1
namespace Go.Proofs.Ytebpepjlhanopaa
open Go Go.RowKit Go.Proofs.Tail Go.Sort
set_option linter.unusedSimpArgs false
set_option linter.unusedVariables false
/-- Is some time of l at or behind t? -/
def Up (l : List T) (t : T) : Prop := ∃ s ∈ l, leqB s t = true
theorem Up.step {l : List T} {s t : T} (h : Up l s) (hl : leqB s t = true) : Up l t := by
  obtain ⟨r, h1, h2⟩ := h
  exact ⟨r, h1, leq_trans h2 hl⟩
theorem Up.mem {l : List T} {t : T} (h : t ∈ l) (hr : t.rightB = true) : Up l t := ⟨t, h, by rw [leq_self]; exact hr⟩
theorem Up.right {l : List T} {t : T} (h : Up l t) : t.rightB = true := by
  obtain ⟨s, _, h2⟩ := h
  rw [leq_iff] at h2
  exact rightB_of h2.2.1
theorem Up.depth {l : List T} {t : T} (h : Up l t) : ∃ s ∈ l, s.d = t.d := by
  obtain ⟨s, h1, h2⟩ := h
  rw [leq_iff] at h2
  exact ⟨s, h1, h2.2.2.1⟩
theorem alk_sub {l ts : List T} (h : Alk ts) (hs : ∀ t ∈ l, t ∈ ts) : Alk l := fun t ht => by
  refine ⟨(h t (hs t ht)).1, ?_⟩
  cases l with
  | nil => simp at ht
  | cons a l => rw [(h t (hs t ht)).2]; exact ((h a (hs a (by simp))).2).symm
theorem alk_of {l : List T} (hr : ∀ t ∈ l, t.rightB = true) (hd : ∀ s ∈ l, ∀ t ∈ l, s.d = t.d) : Alk l := fun t ht => by
  refine ⟨hr t ht, ?_⟩
  cases l with
  | nil => simp at ht
  | cons a l => exact hd t ht a (by simp)
theorem Alk.depth {l : List T} (h : Alk l) {s t : T} (hs : s ∈ l) (ht : t ∈ l) : s.d = t.d := (h s hs).2.trans (h t ht).2.symm
/-- What Of says. -/
theorem of_up {ts : List T} (h : Alk ts) : ∃ l, ofT ts = some l ∧ rightF l = true ∧ (∀ t ∈ l, t ∈ ts) ∧ ∀ t, Up l t ↔ Up ts t := by
  obtain ⟨l, e, hf, hm⟩ := of_good h
  have hs : ∀ t ∈ l, t ∈ ts := fun t ht => ((hm t).1 ht).1
  refine ⟨l, e, rightF_iff.2 ⟨alk_sub h hs, hf.srt, hf.anti⟩, hs, fun t => ⟨fun ⟨s, h1, h2⟩ => ⟨s, hs s h1, h2⟩, fun ⟨s, h1, h2⟩ => ?_⟩⟩
  have e2 : l = minS [] (sortT ts) := by
    unfold ofT at e
    rw [alk_iff.2 h] at e
    injection e with e
    exact e.symm
  obtain ⟨r, h3, h4⟩ := minS_below (sortT ts) [] (fun t ht => (h t ((sortT_perm ts).mem_iff.1 ht)).1) s ((sortT_perm ts).mem_iff.2 h1)
  exact ⟨r, by rw [e2]; exact h3, leq_trans h4 h2⟩
/-- Frontiers are known by it. -/
theorem fro_ext {x y : List T} (hx : rightF x = true) (hy : rightF y = true) (h : ∀ t, Up x t ↔ Up y t) : x = y := by
  obtain ⟨ax, sx, nx⟩ := rightF_iff.1 hx
  obtain ⟨ay, sy, ny⟩ := rightF_iff.1 hy
  have key : ∀ (x y : List T), Alk x → Alk y → x.Pairwise (fun a b => leqB a b = false ∧ leqB b a = false) → (∀ t, Up x t ↔ Up y t) → ∀ t, t ∈ x → t ∈ y := by
    intro x y ax ay nx h t ht
    obtain ⟨s, h1, h2⟩ := (h t).1 (Up.mem ht (ax t ht).1)
    obtain ⟨r, h3, h4⟩ := (h s).2 (Up.mem h1 (ay s h1).1)
    have e := anti_eq nx h3 ht (leq_trans h4 h2)
    subst e
    rw [leq_anti h4 h2]
    exact h1
  exact ssrt_eq sx sy fun t => ⟨key x y ax ay nx h t, key y x ay ax ny (fun t => (h t).symm) t⟩
theorem alikeF_iff {x y : List T} : alikeF x y = true ↔ rightF x = true ∧ rightF y = true ∧ ∀ s ∈ x, ∀ t ∈ y, s.d = t.d := by
  unfold alikeF
  simp only [Bool.and_eq_true, Bool.or_eq_true, List.isEmpty_iff, beq_iff_eq]
  constructor
  · rintro ⟨h1, h2, h3⟩
    refine ⟨h1, h2, fun s hs t ht => ?_⟩
    rcases h3 with rfl | rfl | h3
    · simp at hs
    · simp at ht
    · rw [((rightF_iff.1 h1).1 s hs).2, ((rightF_iff.1 h2).1 t ht).2, h3]
  · rintro ⟨h1, h2, h3⟩
    refine ⟨h1, h2, ?_⟩
    cases x with
    | nil => exact .inl rfl
    | cons a x =>
      cases y with
      | nil => exact .inr (.inl rfl)
      | cons b y => exact .inr (.inr (h3 a (by simp) b (by simp)))
theorem alikeF_symm {x y : List T} (h : alikeF x y = true) : alikeF y x = true := by
  obtain ⟨h1, h2, h3⟩ := alikeF_iff.1 h
  exact alikeF_iff.2 ⟨h2, h1, fun s hs t ht => (h3 t ht s hs).symm⟩
theorem alikeF_self {x : List T} (h : rightF x = true) : alikeF x x = true := alikeF_iff.2 ⟨h, h, fun _ hs _ ht => (rightF_iff.1 h).1.depth hs ht⟩
theorem both_bad {x y : List T} (h : alikeF x y = false) : bothF x y = none := by unfold bothF; rw [h]; rfl
theorem either_bad {x y : List T} (h : alikeF x y = false) : eitherF x y = none := by unfold eitherF; rw [h]; rfl
theorem both_some {x y p : List T} (h : bothF x y = some p) : alikeF x y = true := by
  cases e : alikeF x y with
  | true => rfl
  | false => rw [both_bad e] at h; cases h
theorem either_some {x y p : List T} (h : eitherF x y = some p) : alikeF x y = true := by
  cases e : alikeF x y with
  | true => rfl
  | false => rw [either_bad e] at h; cases h
theorem both_good {x y : List T} (h : alikeF x y = true) : ∃ p, bothF x y = some p ∧ rightF p = true ∧ (∀ t ∈ p, t ∈ x ∨ t ∈ y) ∧ ∀ t, Up p t ↔ Up x t ∨ Up y t := by
  obtain ⟨h1, h2, h3⟩ := alikeF_iff.1 h
  have a1 := (rightF_iff.1 h1).1
  have a2 := (rightF_iff.1 h2).1
  have ha : Alk (x ++ y) := alk_of (fun t ht => by
    rcases List.mem_append.1 ht with ht | ht
    · exact (a1 t ht).1
    · exact (a2 t ht).1) fun s hs t ht => by
    rcases List.mem_append.1 hs with hs | hs <;> rcases List.mem_append.1 ht with ht | ht
    · exact a1.depth hs ht
    · exact h3 s hs t ht
    · exact (h3 t ht s hs).symm
    · exact a2.depth hs ht
  obtain ⟨p, e, hp, hs, hu⟩ := of_up ha
  refine ⟨p, by unfold bothF; rw [h]; exact e, hp, fun t ht => List.mem_append.1 (hs t ht), fun t => ?_⟩
  rw [hu t]
  unfold Up
  constructor
  · rintro ⟨s, h4, h5⟩
    rcases List.mem_append.1 h4 with h4 | h4
    · exact .inl ⟨s, h4, h5⟩
    · exact .inr ⟨s, h4, h5⟩
  · rintro (⟨s, h4, h5⟩ | ⟨s, h4, h5⟩)
    · exact ⟨s, List.mem_append_left _ h4, h5⟩
    · exact ⟨s, List.mem_append_right _ h4, h5⟩
theorem mem_joins {x y : List T} {u : T} : u ∈ joins x y ↔ ∃ s ∈ x, ∃ t ∈ y, joinT s t = u := by unfold joins; simp
theorem either_good {x y : List T} (h : alikeF x y = true) : ∃ q, eitherF x y = some q ∧ rightF q = true ∧ (∀ u ∈ q, ∃ s ∈ x, ∃ t ∈ y, u.d = s.d) ∧ ∀ t, Up q t ↔ Up x t ∧ Up y t := by
  obtain ⟨h1, h2, h3⟩ := alikeF_iff.1 h
  have a1 := (rightF_iff.1 h1).1
  have a2 := (rightF_iff.1 h2).1
  have hal : ∀ s ∈ x, ∀ t ∈ y, alikeB s t = true := fun s hs t ht => alike_iff.2 ⟨h3 s hs t ht, right_iff.1 (a1 s hs).1, right_iff.1 (a2 t ht).1⟩
  have hd : ∀ s ∈ x, ∀ t ∈ y, (joinT s t).d = s.d := fun s hs t ht => by rw [join_of (hal s hs t ht)]
  have ha : Alk (joins x y) := alk_of (fun u hu => by
    obtain ⟨s, hs, t, ht, rfl⟩ := mem_joins.1 hu
    exact join_right (hal s hs t ht)) fun u hu v hv => by
    obtain ⟨s, hs, t, ht, rfl⟩ := mem_joins.1 hu
    obtain ⟨s', hs', t', ht', rfl⟩ := mem_joins.1 hv
    rw [hd s hs t ht, hd s' hs' t' ht']
    exact a1.depth hs hs'
  obtain ⟨q, e, hq, hs, hu⟩ := of_up ha
  refine ⟨q, by unfold eitherF; rw [h]; exact e, hq, fun u hu => ?_, fun t => ?_⟩
  · obtain ⟨s, hs, t, ht, rfl⟩ := mem_joins.1 (hs u hu)
    exact ⟨s, hs, t, ht, hd s hs t ht⟩
  · rw [hu t]
    unfold Up
    constructor
    · rintro ⟨u, h4, h5⟩
      obtain ⟨s, hs, r, hr, rfl⟩ := mem_joins.1 h4
      rw [join_least t (hal s hs r hr), Bool.and_eq_true] at h5
      exact ⟨⟨s, hs, h5.1⟩, ⟨r, hr, h5.2⟩⟩
    · rintro ⟨⟨s, hs, h4⟩, ⟨r, hr, h5⟩⟩
      exact ⟨joinT s r, mem_joins.2 ⟨s, hs, r, hr, rfl⟩, by rw [join_least t (hal s hs r hr), h4, h5]; rfl⟩
theorem inF_iff {x : List T} {t : T} (hd : ∀ s ∈ x, s.d = t.d) : inF x t = true ↔ ¬ Up x t := by
  unfold inF Up
  rw [Bool.not_eq_true', List.any_eq_false]
  constructor
  · rintro h ⟨s, h1, h2⟩
    refine h s h1 ?_
    unfold barT
    rw [h2, Bool.or_true]
  · intro h s hs hb
    refine h ⟨s, hs, ?_⟩
    unfold barT at hb
    rw [hd s hs] at hb
    simpa using hb
theorem within_good {x y : List T} (h : alikeF x y = true) : withinF x y = true ↔ ∀ t, Up y t → Up x t := by
  obtain ⟨h1, h2, h3⟩ := alikeF_iff.1 h
  have a2 := (rightF_iff.1 h2).1
  unfold withinF
  rw [h, Bool.true_and, Bool.not_eq_true', List.any_eq_false]
  constructor
  · rintro h t ⟨s, hs, hl⟩
    have h5 := h s hs
    rw [inF_iff (fun r hr => h3 r hr s hs)] at h5
    exact (Classical.not_not.1 h5).step hl
  · intro h t ht
    rw [inF_iff (fun r hr => h3 r hr t ht), Classical.not_not]
    exact h t (Up.mem ht (a2 t ht).1)
theorem holds_good {x : List T} {t : T} (hx : rightF x = true) (ht : t.rightB = true) (hd : ∀ s ∈ x, s.d = t.d) : holdsF x t = true ↔ ¬ Up x t := by
  unfold holdsF
  rw [hx, ht, Bool.true_and, Bool.true_and]
  exact inF_iff hd
theorem holds_bad {x : List T} {t : T} (ht : t.rightB = false) : holdsF x t = false := by unfold holdsF; rw [ht]; simp
/-- Behind one that is in it. -/
theorem holds_down {x : List T} {s t : T} (h : holdsF x t = true) (hl : leqB s t = true) : holdsF x s = true := by
  unfold holdsF at *
  rw [Bool.and_eq_true, Bool.and_eq_true] at *
  have hp := leq_iff.1 hl
  refine ⟨h.1, rightB_of hp.1, ?_⟩
  have h3 := h.2.2
  unfold inF at *
  rw [Bool.not_eq_true', List.any_eq_false] at *
  intro r hr hb
  refine h3 r hr ?_
  unfold barT at *
  rw [Bool.or_eq_true] at *
  rcases hb with hb | hb
  · left; have := hp.2.2.1; rw [← this]; exact hb
  · exact .inr (leq_trans hb hl)
/-- The frontier of l, of which times. -/
theorem of_some {ts l : List T} (h : ofT ts = some l) : Alk ts ∧ rightF l = true ∧ (∀ t ∈ l, t ∈ ts) ∧ ∀ t, Up l t ↔ Up ts t := by
  by_cases ha : Alk ts
  · obtain ⟨l', e, h1, h2, h3⟩ := of_up ha
    rw [h] at e
    injection e with e
    subst e
    exact ⟨ha, h1, h2, h3⟩
  · rw [of_bad ha] at h; cases h
theorem law_holds {l f : List T} {t : T} (h : ofT l = some f) (ht : t.rightB = true) (hd : l = [] ∨ (l.headD T0).d = t.d) : holdsF f t = !(l.any fun s => leqB s t) := by
  obtain ⟨ha, h1, h2, h3⟩ := of_some h
  have hd' : ∀ s ∈ l, s.d = t.d := fun s hs => by
    rcases hd with rfl | hd
    · simp at hs
    · rw [(ha s hs).2, hd]
  rw [Bool.eq_iff_iff, holds_good h1 ht (fun s hs => hd' s (h2 s hs)), h3 t, Bool.not_eq_true', List.any_eq_false]
  unfold Up
  constructor
  · intro h4 s hs hl; exact h4 ⟨s, hs, hl⟩
  · rintro h4 ⟨s, hs, hl⟩; exact h4 s hs hl
/-- What the chapter's theorem says of three frontiers of one depth. -/
structure Ord (x y z p q : List T) : Prop where
  xx : withinF x x = true
  anti : withinF x y = true → withinF y x = true → x = y
  trans : withinF x y = true → withinF y z = true → withinF x z = true
  px : withinF p x = true
  py : withinF p y = true
  xq : withinF x q = true
  yq : withinF y q = true
  zp : withinF z p = (withinF z x && withinF z y)
  qz : withinF q z = (withinF x z && withinF y z)
theorem law_ord {x y z p q : List T} (hxy : alikeF x y = true) (hxz : alikeF x z = true) (hyz : alikeF y z = true) (hp : bothF x y = some p) (hq : eitherF x y = some q) : Ord x y z p q := by
  obtain ⟨p', e, p1, p2, p3⟩ := both_good hxy
  rw [hp] at e; injection e with e; subst e
  obtain ⟨q', e, q1, q2, q3⟩ := either_good hxy
  rw [hq] at e; injection e with e; subst e
  obtain ⟨rx, ry, dxy⟩ := alikeF_iff.1 hxy
  obtain ⟨_, rz, dxz⟩ := alikeF_iff.1 hxz
  obtain ⟨_, _, dyz⟩ := alikeF_iff.1 hyz
  have ax := (rightF_iff.1 rx).1
  have ay := (rightF_iff.1 ry).1
  have hpx : alikeF p x = true := alikeF_iff.2 ⟨p1, rx, fun s hs t ht => by
    rcases p2 s hs with hs | hs
    · exact ax.depth hs ht
    · exact (dxy t ht s hs).symm⟩
  have hpy : alikeF p y = true := alikeF_iff.2 ⟨p1, ry, fun s hs t ht => by
    rcases p2 s hs with hs | hs
    · exact dxy s hs t ht
    · exact ay.depth hs ht⟩
  have hxq : alikeF x q = true := alikeF_iff.2 ⟨rx, q1, fun s hs t ht => by
    obtain ⟨r, hr, _, _, e⟩ := q2 t ht
    rw [e]; exact ax.depth hs hr⟩
  have hyq : alikeF y q = true := alikeF_iff.2 ⟨ry, q1, fun s hs t ht => by
    obtain ⟨r, hr, _, _, e⟩ := q2 t ht
    rw [e]; exact (dxy r hr s hs).symm⟩
  have hzp : alikeF z p = true := alikeF_iff.2 ⟨rz, p1, fun s hs t ht => by
    rcases p2 t ht with ht | ht
    · exact (dxz t ht s hs).symm
    · exact (dyz t ht s hs).symm⟩
  have hqz : alikeF q z = true := alikeF_iff.2 ⟨q1, rz, fun s hs t ht => by
    obtain ⟨r, hr, _, _, e⟩ := q2 s hs
    rw [e]; exact dxz r hr t ht⟩
  refine ⟨(within_good (alikeF_self rx)).2 fun _ h => h, fun h1 h2 => ?_, fun h1 h2 => ?_, (within_good hpx).2 fun t h => (p3 t).2 (.inl h), (within_good hpy).2 fun t h => (p3 t).2 (.inr h), (within_good hxq).2 fun t h => ((q3 t).1 h).1, (within_good hyq).2 fun t h => ((q3 t).1 h).2, ?_, ?_⟩
  · rw [within_good hxy] at h1
    rw [within_good (alikeF_symm hxy)] at h2
    exact fro_ext rx ry fun t => ⟨h2 t, h1 t⟩
  · rw [within_good hxy] at h1
    rw [within_good hyz] at h2
    exact (within_good hxz).2 fun t h => h1 t (h2 t h)
  · rw [Bool.eq_iff_iff, Bool.and_eq_true, within_good hzp, within_good (alikeF_symm hxz), within_good (alikeF_symm hyz)]
    exact ⟨fun h => ⟨fun t ht => h t ((p3 t).2 (.inl ht)), fun t ht => h t ((p3 t).2 (.inr ht))⟩, fun h t ht => by
      rcases (p3 t).1 ht with ht | ht
      · exact h.1 t ht
      · exact h.2 t ht⟩
  · rw [Bool.eq_iff_iff, Bool.and_eq_true, within_good hqz, within_good hxz, within_good hyz]
    exact ⟨fun h => ⟨fun t ht => ((q3 t).1 (h t ht)).1, fun t ht => ((q3 t).1 (h t ht)).2⟩, fun h t ht => (q3 t).2 ⟨h.1 t ht, h.2 t ht⟩⟩
/-- And of the times in them. -/
theorem law_ord_in {x y p q : List T} {t : T} (hxy : alikeF x y = true) (hp : bothF x y = some p) (hq : eitherF x y = some q) (hx : x ≠ []) (hd : t.d = (x.headD T0).d) :
    holdsF p t = (holdsF x t && holdsF y t) ∧ holdsF q t = (holdsF x t || holdsF y t) ∧ (withinF x y = true → holdsF x t = true → holdsF y t = true) := by
  cases hr : t.rightB with
  | false => simp [holds_bad hr]
  | true =>
    obtain ⟨p', e, p1, p2, p3⟩ := both_good hxy
    rw [hp] at e; injection e with e; subst e
    obtain ⟨q', e, q1, q2, q3⟩ := either_good hxy
    rw [hq] at e; injection e with e; subst e
    obtain ⟨rx, ry, dxy⟩ := alikeF_iff.1 hxy
    have dx : ∀ s ∈ x, s.d = t.d := fun s hs => by rw [((rightF_iff.1 rx).1 s hs).2, hd]
    obtain ⟨x0, hx0⟩ := List.exists_mem_of_ne_nil x hx
    have dy : ∀ s ∈ y, s.d = t.d := fun s hs => by rw [← dxy x0 hx0 s hs]; exact dx x0 hx0
    have ex := holds_good rx hr dx
    have ey := holds_good ry hr dy
    have ep := holds_good p1 hr (fun s hs => by
      rcases p2 s hs with hs | hs
      · exact dx s hs
      · exact dy s hs)
    have eq := holds_good q1 hr (fun s hs => by
      obtain ⟨r, hr, _, _, e⟩ := q2 s hs
      rw [e]; exact dx r hr)
    refine ⟨?_, ?_, fun h1 h2 => ?_⟩
    · rw [Bool.eq_iff_iff, Bool.and_eq_true, ep, ex, ey, p3 t]; exact not_or
    · rw [Bool.eq_iff_iff, Bool.or_eq_true, eq, ex, ey, q3 t]; exact Classical.not_and_iff_not_or_not
    · rw [within_good hxy] at h1
      rw [ex] at h2
      rw [ey]
      exact fun h => h2 (h1 t h)
theorem both_comm {x y : List T} : bothF x y = bothF y x := by
  cases h : alikeF x y with
  | false =>
    have h' : alikeF y x = false := by
      cases e : alikeF y x with
      | false => rfl
      | true => rw [alikeF_symm e] at h; cases h
    rw [both_bad h, both_bad h']
  | true =>
    obtain ⟨p, e, p1, _, p3⟩ := both_good h
    obtain ⟨q, e', q1, _, q3⟩ := both_good (alikeF_symm h)
    rw [e, e', fro_ext p1 q1 fun t => by rw [p3, q3]; exact or_comm]
theorem either_comm {x y : List T} : eitherF x y = eitherF y x := by
  cases h : alikeF x y with
  | false =>
    have h' : alikeF y x = false := by
      cases e : alikeF y x with
      | false => rfl
      | true => rw [alikeF_symm e] at h; cases h
    rw [either_bad h, either_bad h']
  | true =>
    obtain ⟨p, e, p1, _, p3⟩ := either_good h
    obtain ⟨q, e', q1, _, q3⟩ := either_good (alikeF_symm h)
    rw [e, e', fro_ext p1 q1 fun t => by rw [p3, q3]; exact and_comm]
/-- Both and Either absorb each other, and each goes through the other. -/
theorem law_lattice {x y z p o yz xz : List T} (hxy : alikeF x y = true) (hxz : alikeF x z = true) (hyz : alikeF y z = true)
    (hp : bothF x y = some p) (ho : eitherF x y = some o) (h1 : eitherF y z = some yz) (h2 : bothF x z = some xz) :
    bothF x o = some x ∧ eitherF x p = some x ∧ ∃ s, bothF x yz = some s ∧ eitherF p xz = some s := by
  obtain ⟨_, e, p1, p2, p3⟩ := both_good hxy
  rw [hp] at e; injection e with e; subst e
  obtain ⟨_, e, o1, o2, o3⟩ := either_good hxy
  rw [ho] at e; injection e with e; subst e
  obtain ⟨_, e, a1, a2, a3⟩ := either_good hyz
  rw [h1] at e; injection e with e; subst e
  obtain ⟨_, e, b1, b2, b3⟩ := both_good hxz
  rw [h2] at e; injection e with e; subst e
  obtain ⟨rx, ry, dxy⟩ := alikeF_iff.1 hxy
  obtain ⟨_, rz, dxz⟩ := alikeF_iff.1 hxz
  obtain ⟨_, _, dyz⟩ := alikeF_iff.1 hyz
  have ax := (rightF_iff.1 rx).1
  have hxo : alikeF x o = true := alikeF_iff.2 ⟨rx, o1, fun s hs t ht => by
    obtain ⟨r, hr, _, _, e⟩ := o2 t ht
    rw [e]; exact ax.depth hs hr⟩
  have hxp : alikeF x p = true := alikeF_iff.2 ⟨rx, p1, fun s hs t ht => by
    rcases p2 t ht with ht | ht
    · exact ax.depth hs ht
    · exact dxy s hs t ht⟩
  have hxyz : alikeF x yz = true := alikeF_iff.2 ⟨rx, a1, fun s hs t ht => by
    obtain ⟨r, hr, _, _, e⟩ := a2 t ht
    rw [e]; exact dxy s hs r hr⟩
  have hpz : alikeF p xz = true := alikeF_iff.2 ⟨p1, b1, fun s hs t ht => by
    rcases p2 s hs with hs | hs <;> rcases b2 t ht with ht | ht
    · exact ax.depth hs ht
    · exact dxz s hs t ht
    · exact (dxy t ht s hs).symm
    · exact dyz s hs t ht⟩
  refine ⟨?_, ?_, ?_⟩
  · obtain ⟨q, e, q1, _, q3⟩ := both_good hxo
    rw [e, fro_ext q1 rx fun t => by rw [q3, o3]; exact ⟨fun h => h.elim id fun h => h.1, .inl⟩]
  · obtain ⟨q, e, q1, _, q3⟩ := either_good hxp
    rw [e, fro_ext q1 rx fun t => by rw [q3, p3]; exact ⟨fun h => h.1, fun h => ⟨h, .inl h⟩⟩]
  · obtain ⟨s, e, s1, _, s3⟩ := both_good hxyz
    obtain ⟨u, e', u1, _, u3⟩ := either_good hpz
    refine ⟨s, e, ?_⟩
    rw [e', fro_ext u1 s1 fun t => by rw [u3, s3, p3, b3, a3]; exact ⟨fun h => by
      rcases h with ⟨h1 | h1, h2 | h2⟩
      · exact .inl h1
      · exact .inl h1
      · exact .inl h2
      · exact .inr ⟨h1, h2⟩, fun h => by
      rcases h with h | ⟨h1, h2⟩
      · exact ⟨.inl h, .inl h⟩
      · exact ⟨.inr h1, .inr h2⟩⟩]
/-- With a time more. -/
theorem law_more {l f g : List T} {t : T} (hf : ofT l = some f) (hg : ofT (l ++ [t]) = some g) :
    ofT f = some f ∧ withinF g f = true ∧ decide (f = g) = (!f.isEmpty && !holdsF f t) := by
  obtain ⟨a1, f1, f2, f3⟩ := of_some hf
  obtain ⟨a2, g1, g2, g3⟩ := of_some hg
  have hal : alikeF g f = true := alikeF_iff.2 ⟨g1, f1, fun s hs r hr => a2.depth (g2 s hs) (List.mem_append_left _ (f2 r hr))⟩
  have hup : ∀ s, Up (l ++ [t]) s ↔ Up l s ∨ leqB t s = true := fun s => by
    unfold Up
    constructor
    · rintro ⟨r, h1, h2⟩
      rcases List.mem_append.1 h1 with h1 | h1
      · exact .inl ⟨r, h1, h2⟩
      · obtain rfl : r = t := by simpa using h1
        exact .inr h2
    · rintro (⟨r, h1, h2⟩ | h)
      · exact ⟨r, List.mem_append_left _ h1, h2⟩
      · exact ⟨t, by simp, h⟩
  have hr : t.rightB = true := (a2 t (by simp)).1
  refine ⟨of_decide_eq_true f1, (within_good hal).2 fun s hs => by rw [g3, hup]; exact .inl ((f3 s).1 hs), ?_⟩
  have hfg : f = g ↔ Up l t := by
    constructor
    · intro e
      subst e
      rw [← f3, g3, hup]
      exact .inr (by rw [leq_self]; exact hr)
    · intro h
      refine fro_ext f1 g1 fun s => ?_
      rw [f3, g3, hup]
      exact ⟨.inl, fun h1 => h1.elim id fun h2 => h.step h2⟩
  have hh := holds_good f1 hr (fun s hs => a2.depth (List.mem_append_left _ (f2 s hs)) (by simp))
  rw [Bool.eq_iff_iff, decide_eq_true_iff, hfg, Bool.and_eq_true, Bool.not_eq_true', Bool.not_eq_true']
  rw [f3] at hh
  constructor
  · intro h
    refine ⟨?_, ?_⟩
    · obtain ⟨s, hs, _⟩ := (f3 t).2 h
      cases f with
      | nil => simp at hs
      | cons a f => rfl
    · cases e : holdsF f t with
      | false => rfl
      | true => exact absurd h (hh.1 e)
  · rintro ⟨_, h2⟩
    by_cases e : Up l t
    · exact e
    · rw [hh.2 e] at h2; cases h2
end Go.Proofs.Ytebpepjlhanopaa
