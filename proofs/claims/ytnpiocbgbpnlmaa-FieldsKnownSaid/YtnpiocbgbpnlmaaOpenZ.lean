/- General: arguments that can be read as data of the form's reach, opened: strings and slices in them are bounded. -/
import Derived.Test.YtnpiocbgbpnlmaaOpen
import Derived.Test.YtnpiocbgbpnlmaaOpenB
namespace Go.Proofs.Tail
open Go Go.Lib Go.RowKit
section
variable {H : Type} {enc : TypeId × Value → H} {P : Program} {w : World} {base : Nat} {spare : Nat → Bool} {held : Bool}
/-- Data of the form's reach. -/
def DReach (P : Program) (t : TypeId) (d : DataW H) : Prop := ∀ k ∈ d.weights P t, k ≤ 140737488351232
/-- Whatever reads as data of type t, of the form's reach, tells an a. -/
def OpensZ {α : Type} (enc : TypeId × Value → H) (P : Program) (w : World) (base : Nat) (spare : Nat → Bool) (held : Bool) (t : TypeId) (V : List Value → α → Prop) : Prop :=
  ∀ fuel cs x, DataW.trod enc P w base spare held fuel t cs = some x → DReach P t x.1 → ∃ a, V cs a
theorem Opens.z {α : Type} {t : TypeId} {V : List Value → α → Prop} (h : Opens enc P w base spare held t V) : OpensZ enc P w base spare held t V := fun fuel cs x hx _ => h fuel cs x hx
theorem mem_weightsAll {e : TypeId} {d : DataW H} {k : Nat} (hk : k ∈ d.weights P e) : ∀ (l : List (DataW H)), d ∈ l → k ∈ DataW.weightsAll P e l
  | x :: l, h => by
    rw [DataW.weightsAll, List.mem_append]
    rcases List.mem_cons.1 h with rfl | h
    · exact .inl hk
    · exact .inr (mem_weightsAll hk l h)
theorem mem_weightsEach {t : TypeId} {d : DataW H} {k : Nat} (hk : k ∈ d.weights P t) : ∀ (ts : List TypeId) (l : List (DataW H)) (i : Nat), ts[i]? = some t → l[i]? = some d → k ∈ DataW.weightsEach P ts l
  | t' :: ts, x :: l, 0, h1, h2 => by
    rw [DataW.weightsEach, List.mem_append]
    have e1 : t' = t := by simpa using h1
    have e2 : x = d := by simpa using h2
    subst e1 e2
    exact .inl hk
  | t' :: ts, x :: l, i + 1, h1, h2 => by
    rw [DataW.weightsEach, List.mem_append]
    exact .inr (mem_weightsEach hk ts l i (by simpa using h1) (by simpa using h2))
  | [], _, i, h1, _ => by simp at h1
  | _ :: _, [], i, _, h2 => by simp at h2
theorem DReach.each {ts : List TypeId} {l : List (DataW H)} (h : (DataW.weightsEach P ts l).all (· ≤ reachBytes) = true) (i : Nat) {t : TypeId} {d : DataW H} (h1 : ts[i]? = some t) (h2 : l[i]? = some d) : DReach P t d := fun k hk => by
  have := List.all_eq_true.1 h k (mem_weightsEach hk ts l i h1 h2)
  exact of_decide_eq_true this
def VStringZ (cs : List Value) (s : ByteArray) : Prop := cs = [.string s] ∧ s.size ≤ 140737488351232
theorem opensZ_string {t : TypeId} (ht : P.underlying t = some .string) : OpensZ enc P w base spare held t VStringZ := fun fuel cs x h hz => by
  obtain ⟨s, rfl, rfl, _⟩ := DataW.trod_string ht h
  refine ⟨s, rfl, ?_⟩
  have := hz s.data.toList.length (by simp [DataW.weights])
  rwa [Array.length_toList] at this
/-- A slice, that is read in w; its bytes are of the reach. -/
def VSliceZ {α : Type} (k bytes : Nat) (R : World → Nat → Nat → α → Prop) (w : World) (cs : List Value) (xs : List α) : Prop := ∃ A n c, cs = [.slice A n c] ∧ Rd k R w A n c xs ∧ n * bytes ≤ 140737488351232
theorem opensZ_slice {α β : Type} {t e : TypeId} {k bytes : Nat} {V : List Value → β → Prop} {R : World → Nat → Nat → α → Prop} (ht : P.underlying t = some (.slice e)) (hk : P.cellsOf e = k) (hk0 : 0 < k) (hby : P.bytesOf e = bytes)
    (he : OpensZ enc P w base spare held e V) (hR : ∀ b o cs y, cs.length = k → (∀ i v, cs[i]? = some v → w.cell? ⟨b, o + i, none⟩ = some v) → V cs y → ∃ x, R w b o x) :
    OpensZ enc P w base spare held t (VSliceZ k bytes R w) := fun fuel cs x h hz => by
  rcases DataW.trod_slice ht h with ⟨rfl, _⟩ | ⟨a, len, cap, elems, rest, n, _, rfl, rfl, hb, hl, hm, hlen, hel, _, _⟩
  · exact ⟨[], none, 0, 0, rfl, Rd.nil _ _ _, by omega⟩
  · have hze : ∀ y ∈ elems, DReach P e y.1 := fun y hy k hk => hz k (by
      rw [DataW.weights, ht]
      exact List.mem_cons_of_mem _ (List.mem_append.2 (.inl (mem_weightsAll hk _ (List.mem_map.2 ⟨y, hy, rfl⟩)))))
    have hzl : (elems.length + rest.length) * bytes ≤ 140737488351232 := by
      have := hz ((elems.length + rest.length) * bytes) (by
        rw [DataW.weights, ht]
        simp [hby])
      exact this
    have hzn : len * bytes ≤ 140737488351232 := Nat.le_trans (Nat.mul_le_mul_right _ (by omega)) hzl
    have each : ∀ i, i < len → ∃ cs' y, w.cells? base (a.add (i * k)) k = some cs' ∧ V cs' y := by
      intro i hi
      have h1 := hel i hi
      rw [List.getElem?_eq_getElem (by omega), hk] at h1
      obtain ⟨cs', hc, hd⟩ := Option.bind_eq_some_iff.1 h1
      obtain ⟨y, hy⟩ := he _ _ _ hd (hze _ (List.getElem_mem _))
      exact ⟨cs', y, hc, hy⟩
    have hm' : len ≤ 9223372036854775807 := by unfold maxLen at hm; omega
    rcases Nat.eq_zero_or_pos len with h0 | h0
    · subst h0
      exact ⟨[], some a, 0, cap, rfl, ⟨rfl, hl, hm', fun hn => absurd hn (Nat.lt_irrefl _)⟩, by omega⟩
    · obtain ⟨b, off, spot⟩ := a
      obtain ⟨_, _, hf, _⟩ := each 0 h0
      obtain ⟨_, hlc, hc0⟩ := World.cells?_some hf
      have h1 := hc0 0 hk0
      rw [List.getElem?_eq_getElem (by omega)] at h1
      have hspot : spot = none := by simpa [Addr.add] using World.cell?_spot h1
      subst hspot
      have each' : ∀ i, i < len → ∃ x, R w b (off + i * k) x := by
        intro i hi
        obtain ⟨cs', y, hc, hy⟩ := each i hi
        obtain ⟨_, hl', hce⟩ := World.cells?_some hc
        refine hR b (off + i * k) cs' y hl' (fun j v hj => ?_) hy
        have hjk : j < k := by have := (List.getElem?_eq_some_iff.1 hj).1; omega
        have h2 := hce j hjk
        rw [hj] at h2
        rw [← h2]
        congr 1
        unfold Addr.add
        by_cases e1 : i * k = 0 <;> by_cases e2 : j = 0 <;> simp [e1, e2, Nat.add_assoc]
      obtain ⟨xs, hx, hp⟩ := choose_list (β := Unit) _ len each'
      exact ⟨xs, _, len, cap, rfl, ⟨hx, hl, hm', fun _ => ⟨b, off, rfl, fun j y hj => hp j y hj⟩⟩, hzn⟩
/-- A struct's fields. -/
theorem opensZ_fields {t : TypeId} {fs : Array Field} {fuel : Nat} {cs : List Value} {x : DataW H × List MemPlace} (ht : P.underlying t = some (.struct fs)) (h : DataW.trod enc P w base spare held fuel t cs = some x) (hz : DReach P t x.1) :
    cs.length = P.cellsOf t ∧ ∃ n, ∀ (i : Nat) (f : Field), fs[i]? = some f → ∃ y, DataW.trod enc P w base spare held n f.type ((cs.drop f.offset).take (P.cellsOf f.type)) = some y ∧ DReach P f.type y.1 := by
  obtain ⟨xs, n, _, rfl, hl, hxl, hf⟩ := DataW.trod_struct ht h
  refine ⟨hl, n, fun i f hi => ?_⟩
  have hlt : i < xs.length := by have := (Array.getElem?_eq_some_iff.1 hi).1; omega
  refine ⟨_, (hf i f hi).trans (List.getElem?_eq_getElem hlt), fun k hk => hz k ?_⟩
  rw [DataW.weights, ht]
  refine mem_weightsEach hk _ _ i ?_ ?_
  · rw [List.getElem?_map, Array.getElem?_toList, hi]; rfl
  · rw [List.getElem?_map, List.getElem?_eq_getElem hlt]; rfl
end
end Go.Proofs.Tail
