/- Plain: the links of a net are those of the reference's one row. -/
import Derived.Test.YtfgjmckdjkfgdaaRows
import Derived.Test.YtfgjmckdjkfgdaaWords
import Derived.Test.YtfgjmckdjkfgdaaHeads
import Derived.Test.YtfgjmckdjkfgdaaN10
import Derived.Test.YtfgjmckdjkfgdaaN11
import Derived.Test.YtfgjmckdjkfgdaaN12
import Derived.Test.YtfgjmckdjkfgdaaR1
import Derived.Test.YtfgjmckdjkfgdaaR2
import Derived.Test.YtfgjmckdjkfgdaaR3
import Derived.Test.YtfgjmckdjkfgdaaR4
namespace Go.Proofs.Ytfgjmckdjkfgdaa
open Go Go.RowKit Go.Proofs.Tail
set_option linter.unusedVariables false
structure Sim (N : NetS) (R : RefS) : Prop where
  E : R.E = N.E
  s : R.s = N.s
  t : R.t = N.t
  q : ∀ a b : Nat, a < N.E → b < N.E → N.q (a * 64 + b) = (R.L.filter (ofR a b)).map Mail.b
  inn : ∀ m ∈ R.L, inN N m.f m.t
  e64 : N.E ≤ 64
variable {N : NetS} {R : RefS}
theorem ofR_iff {a b : Int} {m : Mail} : ofR a b m = true ↔ m.f = a ∧ m.t = b := by unfold ofR; simp
theorem Sim.none (h : Sim N R) {a b : Int} (hn : ¬ inN N a b) : R.L.filter (ofR a b) = [] := by
  rw [List.filter_eq_nil_iff]
  intro m hm ho
  obtain ⟨rfl, rfl⟩ := ofR_iff.1 ho
  exact hn (h.inn m hm)
theorem Sim.row (h : Sim N R) {a b : Int} (hi : inN N a b) : N.q (ix a b) = (R.L.filter (ofR a b)).map Mail.b := by
  obtain ⟨x, y, rfl, rfl, hx, hy, hxy, _⟩ := ix_of h.e64 hi
  rw [hxy]
  exact h.q x y hx hy
theorem Sim.len (h : Sim N R) (a b : Int) : lenN N a b = lenR R a b := by
  unfold lenN lenR
  by_cases hi : inN N a b
  · rw [if_pos hi, h.row hi, List.length_map]
  · rw [if_neg hi, h.none hi]; rfl
theorem Sim.head (h : Sim N R) (a b : Int) : headN N a b = headR R a b := by
  unfold headN headR
  by_cases hi : inN N a b
  · rw [if_pos hi, h.row hi, List.head?_map, List.head?_filter]
  · rw [if_neg hi, ← List.head?_filter, h.none hi]; rfl
theorem isR_iff (h : Sim N R) (a b : Int) : (isR R a = true ∧ isR R b = true) ↔ inN N a b := by
  unfold isR inN
  rw [h.E]
  simp only [decide_eq_true_eq]
  omega
theorem Sim.code (h : Sim N R) (a b : Int) (n : Nat) : sendE N a b n = sendER R a b n := by
  unfold sendE sendER
  by_cases hi : inN N a b
  · have h2 := (isR_iff h a b).2 hi
    have h3 := h.len a b
    unfold lenN at h3
    rw [if_pos hi] at h3
    rw [if_neg (not_not_intro hi), if_neg (not_not_intro h2), h3]
  · rw [if_pos hi, if_pos (fun h2 => hi ((isR_iff h a b).1 h2))]
theorem ofR_other {a b c d : Int} (h : ¬ (a = c ∧ b = d)) (xs : List Int) : ofR c d ⟨a, b, xs⟩ = false := by
  unfold ofR
  simp only [Bool.and_eq_false_iff, beq_eq_false_iff_ne, ne_eq]
  by_cases h1 : a = c
  · exact .inr fun h2 => h ⟨h1, h2⟩
  · exact .inl h1
theorem Sim.send (h : Sim N R) (a b : Int) (xs : List Int) : Sim (sendN N a b xs) (sendR R a b xs) := by
  unfold sendN sendR
  rw [h.code]
  by_cases hz : sendER R a b xs.length = 0
  · rw [if_pos hz, if_pos hz]
    have hi : inN N a b := by
      rw [← h.code] at hz
      unfold sendE at hz
      by_cases hi : inN N a b
      · exact hi
      · rw [if_pos hi] at hz; omega
    obtain ⟨x, y, rfl, rfl, hx, hy, hxy, _⟩ := ix_of h.e64 hi
    have h64 := h.e64
    refine ⟨h.E, by show wrap64 _ = wrap64 _; rw [h.s], h.t, fun c d hc hd => ?_, fun m hm => ?_, h.e64⟩
    · show upd N.q (ix x y) _ (c * 64 + d) = _
      have hc' : c < N.E := hc
      have hd' : d < N.E := hd
      rw [hxy, List.filter_append, List.map_append]
      by_cases hcd : c = x ∧ d = y
      · obtain ⟨rfl, rfl⟩ := hcd
        rw [upd_same, h.q c d hc hd]
        congr 1
        rw [List.filter_cons_of_pos (by rw [ofR_iff]; exact ⟨rfl, rfl⟩)]
        rfl
      · rw [upd_other _ _ (by omega), h.q c d hc hd, List.filter_cons_of_neg (by rw [ofR_other (by omega)]; simp)]
        simp
    · rcases List.mem_append.1 hm with hm | hm
      · exact h.inn m hm
      · rw [List.mem_singleton] at hm; subst hm; exact hi
  · rw [if_neg hz, if_neg hz]; exact h
theorem Sim.take (h : Sim N R) (a b : Int) : Sim (takeN N a b) (takeR R a b) := by
  unfold takeN takeR
  have hh : (headN N a b).isSome = decide (atI R a b < R.L.length) := by
    rw [h.head]
    unfold headR
    rw [find_at, Option.isSome_map]
    by_cases hl : atI R a b < R.L.length
    · rw [decide_eq_true hl]; unfold atI at hl; rw [List.getElem?_eq_getElem hl]; rfl
    · rw [decide_eq_false hl]; unfold atI at hl; rw [List.getElem?_eq_none (by omega)]; rfl
  by_cases hl : atI R a b < R.L.length
  · rw [if_pos (by rw [hh]; exact decide_eq_true hl), if_pos hl]
    have hi : inN N a b := by
      by_cases hi : inN N a b
      · exact hi
      · unfold headN at hh; rw [if_neg hi, decide_eq_true hl] at hh; cases hh
    have hp : ofR a b (R.L[atI R a b]) = true := List.findIdx_getElem (w := hl)
    have hpre : ∀ m ∈ R.L.take (atI R a b), ofR a b m = false := by
      intro m hm
      obtain ⟨j, hj, rfl⟩ := List.getElem_of_mem hm
      rw [List.length_take] at hj
      have h1 : j < R.L.findIdx (ofR a b) := by unfold atI at hj; omega
      have := List.not_of_lt_findIdx h1
      rw [List.getElem_take]
      simpa using this
    have hsplit : R.L = R.L.take (atI R a b) ++ R.L[atI R a b] :: R.L.drop (atI R a b + 1) := by
      rw [List.getElem_cons_drop, List.take_append_drop]
    generalize R.L[atI R a b] = m0 at *
    generalize R.L.take (atI R a b) = pre at *
    generalize R.L.drop (atI R a b + 1) = post at *
    clear hh hl
    obtain ⟨x, y, rfl, rfl, hx, hy, hxy, _⟩ := ix_of h.e64 hi
    have h64 := h.e64
    refine ⟨h.E, h.s, by show wrap64 _ = wrap64 _; rw [h.t], fun c d hc hd => ?_, fun m hm => ?_, h.e64⟩
    · show upd N.q (ix x y) _ (c * 64 + d) = ((pre ++ post).filter (ofR c d)).map Mail.b
      have hc' : c < N.E := hc
      have hd' : d < N.E := hd
      have hq := h.q c d hc hd
      rw [hsplit, List.filter_append] at hq
      rw [hxy, List.filter_append]
      by_cases hcd : c = x ∧ d = y
      · obtain ⟨rfl, rfl⟩ := hcd
        rw [List.filter_cons_of_pos hp] at hq
        have hpn : pre.filter (ofR c d) = [] := by rw [List.filter_eq_nil_iff]; intro m hm; rw [hpre m hm]; simp
        rw [hpn] at hq ⊢
        rw [upd_same, hq]
        rfl
      · have hp2 : ofR (c : Int) d m0 = false := by
          obtain ⟨e1, e2⟩ := ofR_iff.1 hp
          obtain ⟨f, t, bs⟩ := m0
          dsimp only at e1 e2
          subst e1 e2
          exact ofR_other (by omega) _
        rw [List.filter_cons_of_neg (by rw [hp2]; simp)] at hq
        rw [upd_other _ _ (by omega), hq]
    · refine h.inn m ?_
      rw [hsplit]
      have hm' : m ∈ pre ++ post := hm
      rcases List.mem_append.1 hm' with hm | hm
      · exact List.mem_append_left _ hm
      · exact List.mem_append_right _ (List.mem_cons_of_mem _ hm)
  · rw [if_neg (by rw [hh, decide_eq_false hl]; simp), if_neg hl]; exact h
theorem Sim.clear (h : Sim N R) (e : Int) : Sim (clearN N e) (clearR R e) := by
  unfold clearN clearR
  have h64 := h.e64
  by_cases he : 0 ≤ e ∧ e < N.E
  · rw [if_pos he]
    refine ⟨h.E, h.s, h.t, fun c d hc hd => ?_, fun m hm => h.inn m (List.mem_filter.1 hm).1, h.e64⟩
    have hc' : c < N.E := hc
    have hd' : d < N.E := hd
    show clrq N.q e.toNat N.E (c * 64 + d) = ((R.L.filter (offE e)).filter (ofR c d)).map Mail.b
    rw [List.filter_filter]
    unfold clrq
    by_cases hcd : c = e.toNat ∨ d = e.toNat
    · rw [if_pos (by omega)]
      have : R.L.filter (fun m => ofR c d m && offE e m) = [] := by
        rw [List.filter_eq_nil_iff]
        intro m hm ho
        rw [Bool.and_eq_true] at ho
        obtain ⟨e1, e2⟩ := ofR_iff.1 ho.1
        have h2 := ho.2
        unfold offE at h2
        simp only [Bool.and_eq_true, bne_iff_ne, ne_eq] at h2
        omega
      rw [this]; rfl
    · rw [if_neg (by omega), h.q c d hc hd]
      congr 1
      refine List.filter_congr fun m hm => ?_
      cases ho : ofR c d m with
      | false => rfl
      | true =>
        obtain ⟨e1, e2⟩ := ofR_iff.1 ho
        have : offE e m = true := by
          unfold offE
          simp only [Bool.and_eq_true, bne_iff_ne, ne_eq]
          omega
        rw [this]; rfl
  · rw [if_neg he]
    have : R.L.filter (offE e) = R.L := by
      rw [List.filter_eq_self]
      intro m hm
      have := h.inn m hm
      unfold inN at this
      unfold offE
      simp only [Bool.and_eq_true, bne_iff_ne, ne_eq]
      omega
    rw [this]
    exact h
theorem Sim.new (E : Int) : Sim ⟨endsN E, fun _ => [], 0, 0⟩ ⟨endsN E, [], 0, 0⟩ :=
  ⟨rfl, rfl, rfl, fun _ _ _ _ => rfl, fun m hm => by simp at hm, (endsN_in E).2⟩
end Go.Proofs.Ytfgjmckdjkfgdaa
