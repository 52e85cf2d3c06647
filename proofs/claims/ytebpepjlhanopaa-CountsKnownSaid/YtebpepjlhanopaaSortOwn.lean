/- General: a row of one's own of elements of k cells, in the sort's words; behind the sort it owns the sorted ones. -/
import Derived.Shelf.SlSortCmp.NoneTotal
import Derived.Sort.LotA
import Derived.Test.YtebpepjlhanopaaWords
import Derived.Test.YtebpepjlhanopaaFrame
namespace Go.Proofs.Tail
open Go Go.RowKit Go.Sort Go.Lib
theorem flatMap_length {α : Type} {enc : α → List Value} {k : Nat} (hk : ∀ x, (enc x).length = k) : ∀ (zs : List α), (zs.flatMap enc).length = zs.length * k
  | [] => by simp
  | z :: zs => by rw [List.flatMap_cons, List.length_append, flatMap_length hk zs, hk, List.length_cons, Nat.add_mul]; omega
variable {α : Type} [Inhabited α]
theorem flatMap_get {enc : α → List Value} {k : Nat} (hk : ∀ x, (enc x).length = k) : ∀ (zs : List α) (t : Nat), t < zs.length * k → (zs.flatMap enc)[t]? = some ((enc zs[t / k]!)[t % k]!)
  | [], t, h => by simp at h
  | z :: zs, t, h => by
    have k0 : 0 < k := by rcases Nat.eq_zero_or_pos k with e | e; · subst e; simp at h
                          · exact e
    rw [List.flatMap_cons]
    rcases Nat.lt_or_ge t k with hlt | hge
    · rw [List.getElem?_append_left (by rw [hk]; exact hlt), Nat.div_eq_of_lt hlt, Nat.mod_eq_of_lt hlt]
      have hz : (z :: zs)[0]! = z := rfl
      rw [hz, List.getElem?_eq_getElem (by rw [hk]; exact hlt), getElem!_pos _ t (by rw [hk]; exact hlt)]
    · rw [List.getElem?_append_right (by rw [hk]; exact hge), hk, flatMap_get hk zs (t - k) (by simp only [List.length_cons, Nat.add_mul, Nat.one_mul] at h; omega)]
      have e1 : t / k = (t - k) / k + 1 := by rw [Nat.div_eq_sub_div k0 hge]
      have e2 : t % k = (t - k) % k := by rw [Nat.mod_eq_sub_mod hge]
      rw [e1, e2]
      rfl
theorem flatK_list {enc : α → List Value} {k : Nat} (hk : ∀ x, (enc x).length = k) (zs : List α) : (flatK enc k zs.toArray).toList = zs.flatMap enc := by
  apply List.ext_getElem?
  intro t
  by_cases h : t < zs.length * k
  · rw [flatMap_get hk zs t h, Array.getElem?_toList, Array.getElem?_eq_getElem (by simpa using h)]
    have := get_flatK enc k zs.toArray t (by simpa using h)
    rw [getElem!_pos _ t (by simpa using h)] at this
    rw [this]
    simp
  · rw [List.getElem?_eq_none (by simp; omega), List.getElem?_eq_none (by rw [flatMap_length hk]; omega)]
theorem holdsK_own {enc : α → List Value} {k : Nat} (hk : ∀ x, (enc x).length = k) {w : World} {base : Nat} {e : TypeId} {g n cap : Nat} {zs : List α} (h : w.ownsRow base e k (.slice (some ⟨g, 0, none⟩) n cap) n (zs.flatMap enc)) :
    HoldsK enc k w g 0 zs.toArray := by
  intro j hj
  have hj' : j < (zs.flatMap enc).length := by rw [flatMap_length hk]; simpa using hj
  have hv : (flatK enc k zs.toArray)[j]! = (zs.flatMap enc)[j] := by
    rw [getElem!_pos _ j hj]
    have h1 : (flatK enc k zs.toArray).toList[j]? = (zs.flatMap enc)[j]? := by rw [flatK_list hk]
    rw [Array.getElem?_toList, Array.getElem?_eq_getElem hj, List.getElem?_eq_getElem hj'] at h1
    exact Option.some.inj h1
  have hc := h.cells (g := g) rfl j _ (List.getElem?_eq_getElem hj')
  rw [add_plain] at hc
  rw [Nat.zero_add]
  exact ⟨by rw [hc, hv]; rfl, h.frozenAt j⟩
/-- Behind the sort. -/
theorem own_sorted {enc : α → List Value} {k : Nat} (hk : ∀ x, (enc x).length = k) {w : World} {base : Nat} {e : TypeId} {g n cap q : Nat} {zs ys : List α} {os : Array Obj} (h : w.ownsRow base e k (.slice (some ⟨g, 0, none⟩) n cap) n (zs.flatMap enc)) (hy : ys.length = n) :
    (sortWorldK enc k w g 0 q ys.toArray os).ownsRow base e k (.slice (some ⟨g, 0, none⟩) n cap) n (ys.flatMap enc) ∧ Fr (fun b => b = g) w (sortWorldK enc k w g 0 q ys.toArray os) := by
  have hp : (putRowK enc k (Sort.ahead w q) g 0 ys.toArray).ownsRow base e k (.slice (some ⟨g, 0, none⟩) n cap) n (ys.flatMap enc) := by
    rcases h.2 with ⟨e0, _⟩ | ⟨g', cap', cur, e0, hb, hg, hn, hm, hs, ht⟩
    · cases e0
    · injection e0 with e1 _ e3
      injection e1 with e1
      injection e1 with e1
      subst e1; subst e3
      refine ⟨by rw [flatMap_length hk, hy], .inr ⟨g, cap, putCells id 0 (flatK enc k ys.toArray) cur, rfl, hb, ?_, hn, hm, by simpa [putCells] using hs, ?_⟩⟩
      · simp [putRowK, putRow, mapBlock, Sort.ahead, Array.getElem?_modify, hg, onCells]
      · apply List.ext_getElem?
        intro j
        rw [List.getElem?_take, Array.getElem?_toList]
        by_cases hj : j < n * k
        · have hjc : j < cur.size := by rw [hs]; exact Nat.lt_of_lt_of_le hj (Nat.mul_le_mul_right _ hn)
          have hjf : j < (flatK enc k ys.toArray).size := by rw [size_flatK]; simpa [hy] using hj
          simp only [if_pos hj, putCells, Array.getElem?_mapIdx, Array.getElem?_eq_getElem hjc, Option.map_some]
          rw [if_pos (by omega)]
          have h1 : (flatK enc k ys.toArray).toList[j]? = (ys.flatMap enc)[j]? := by rw [flatK_list hk]
          rw [← h1, Array.getElem?_toList, Array.getElem?_eq_getElem hjf, Nat.sub_zero, getElem!_pos _ j hjf]
          rfl
        · rw [if_neg hj, List.getElem?_eq_none (by rw [flatMap_length hk, hy]; omega)]
  have hf : Fr (fun b => b = g) w (putRowK enc k (Sort.ahead w q) g 0 ys.toArray) :=
    ⟨rfl, rfl, rfl, by simp [putRowK, putRow, mapBlock, Sort.ahead], fun b hb hn => by
      simp [putRowK, putRow, mapBlock, Sort.ahead, Array.getElem?_modify, show g ≠ b from fun e => hn e.symm]⟩
  have hgr : Below (putRowK enc k (Sort.ahead w q) g 0 ys.toArray).heap.size (putRowK enc k (Sort.ahead w q) g 0 ys.toArray) (sortWorldK enc k w g 0 q ys.toArray os) :=
    ⟨rfl, rfl, rfl, by simp [sortWorldK, grow], fun b hb => by
      unfold sortWorldK grow
      simp only
      rw [Array.getElem?_append_left hb]⟩
  exact ⟨own_below hp hgr, hf.then hgr⟩
/-- An outcome whose world has only grown. -/
theorem grow_below (w : World) (q : Nat) (os : Array Obj) : Below w.heap.size w (grow (w.drewN q) os) :=
  ⟨rfl, rfl, rfl, by simp [grow, World.drewN], fun b hb => by
    unfold grow World.drewN
    simp only
    rw [Array.getElem?_append_left hb]⟩
end Go.Proofs.Tail
