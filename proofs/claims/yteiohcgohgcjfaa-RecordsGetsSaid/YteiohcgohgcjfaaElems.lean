/- Rows of elements of several cells: what is told of each, one behind the other; owned, appended to, read: of whatever program. -/
import Derived.Test.YteiohcgohgcjfaaWords
namespace Go.Proofs.Tail
open Go.RowKit
/-- Cells of elements, k each: what each element's cells are. -/
def Cells {α : Type} (k : Nat) (V : α → List Value → Prop) (cs : List Value) (xs : List α) : Prop := cs.length = xs.length * k ∧ ∀ j x, xs[j]? = some x → V x ((cs.drop (j * k)).take k)
theorem Cells.nil {α : Type} (k : Nat) (V : α → List Value → Prop) : Cells k V [] [] := ⟨by simp, fun j x h => by simp at h⟩
theorem Cells.append {α : Type} {k : Nat} {V : α → List Value → Prop} {cs ds : List Value} {xs ys : List α} (h : Cells k V cs xs) (g : Cells k V ds ys) : Cells k V (cs ++ ds) (xs ++ ys) := by
  refine ⟨by rw [List.length_append, h.1, g.1, List.length_append, Nat.add_mul], fun j x hj => ?_⟩
  rcases Nat.lt_or_ge j xs.length with hlt | hge
  · rw [List.getElem?_append_left hlt] at hj
    have h1 : j * k + k ≤ cs.length := by rw [h.1, ← Nat.succ_mul]; exact Nat.mul_le_mul_right _ hlt
    rw [List.drop_append_of_le_length (by omega), List.take_append_of_le_length (by rw [List.length_drop]; omega)]
    exact h.2 j x hj
  · rw [List.getElem?_append_right hge] at hj
    have h2 := g.2 (j - xs.length) x hj
    have h3 : j * k = cs.length + (j - xs.length) * k := by rw [h.1, ← Nat.add_mul]; congr 1; omega
    rw [h3, ← List.drop_drop, List.drop_left]
    exact h2
theorem Cells.one {α : Type} {k : Nat} {V : α → List Value → Prop} {vs : List Value} {x : α} (h : V x vs) (hl : vs.length = k) : Cells k V vs [x] :=
  ⟨by simp [hl], fun j y hj => by
    match j, hj with
    | 0, hj =>
      obtain rfl : x = y := by simpa using hj
      rw [Nat.zero_mul, List.drop_zero, List.take_of_length_le (by omega)]
      exact h
    | j + 1, hj => simp at hj⟩
theorem Cells.snoc {α : Type} {k : Nat} {V : α → List Value → Prop} {cs vs : List Value} {xs : List α} {x : α} (h : Cells k V cs xs) (hx : V x vs) (hl : vs.length = k) : Cells k V (cs ++ vs) (xs ++ [x]) := h.append (.one hx hl)
theorem Cells.mono {α : Type} {k : Nat} {V V' : α → List Value → Prop} {cs : List Value} {xs : List α} (h : Cells k V cs xs) (hv : ∀ x vs, V x vs → V' x vs) : Cells k V' cs xs := ⟨h.1, fun j x hj => hv _ _ (h.2 j x hj)⟩
/-- A row of one's own is read. -/
theorem own_rd {α : Type} {w : World} {base n k : Nat} {e : TypeId} {v : Value} {cs : List Value} {V : α → List Value → Prop} {R : World → Nat → Nat → α → Prop} {xs : List α}
    (h : w.ownsRow base e k v n cs) (hn : xs.length = n) (hb : n ≤ 9223372036854775807) (hc : Cells k V cs xs)
    (hR : ∀ b o x vs, V x vs → (∀ i v, vs[i]? = some v → w.cell? ⟨b, o + i, none⟩ = some v) → R w b o x) : ∃ A c, v = .slice A n c ∧ Rd k R w A n c xs := by
  rcases h.2 with ⟨rfl, rfl⟩ | ⟨g, cap, cur, rfl, hbg, hh, hnc, hcm, hcs, ht⟩
  · exact ⟨.none, 0, rfl, hn, Nat.le_refl _, hb, fun hp => absurd hp (by omega)⟩
  · refine ⟨_, cap, rfl, hn, hnc, hb, fun hp => ⟨g, 0, rfl, fun j x hj => ?_⟩⟩
    have hv := hc.2 j x hj
    have hjl : j < xs.length := (List.getElem?_eq_some_iff.1 hj).1
    refine hR g (0 + j * k) x _ hv fun i u hu => ?_
    rw [List.getElem?_take] at hu
    split at hu
    · rw [List.getElem?_drop] at hu
      have := h.cells (g := g) rfl _ u hu
      rw [add_plain] at this
      rw [Nat.zero_add]
      exact this
    · cases hu
/-- A slice that is read, as cells to append. -/
theorem Rd.cells {α : Type} {k : Nat} {R : World → Nat → Nat → α → Prop} {V : α → List Value → Prop} {w : World} {A : Option Addr} {n c : Nat} {xs : List α} (h : Rd k R w A n c xs)
    (hR : ∀ b o x, R w b o x → ∃ vs, V x vs ∧ vs.length = k ∧ (∀ i v, vs[i]? = some v → w.cell? ⟨b, o + i, none⟩ = some v) ∧ ∀ u ∈ vs, u.oneCell' = true) :
    ∃ cs, Cells k V cs xs ∧ cs.length = n * k ∧ (0 < n → ∃ ad, A = some ad ∧ ∀ j u, cs[j]? = some u → w.cell? (ad.add j) = some u) ∧ ∀ u ∈ cs, u.oneCell' = true := by
  rcases Nat.eq_zero_or_pos n with h0 | h0
  · have hx : xs = [] := List.eq_nil_of_length_eq_zero (by rw [h.len, h0])
    subst hx h0
    exact ⟨[], Cells.nil _ _, by simp, fun h => absurd h (Nat.lt_irrefl _), by simp⟩
  · obtain ⟨b, off, rfl, hc⟩ := h.at_ h0
    have key : ∀ (m : Nat), m ≤ xs.length → ∃ cs, Cells k V cs (xs.take m) ∧ (∀ j u, cs[j]? = some u → w.cell? ⟨b, off + j, none⟩ = some u) ∧ ∀ u ∈ cs, u.oneCell' = true := by
      intro m
      induction m with
      | zero => exact fun _ => ⟨[], by rw [List.take_zero]; exact Cells.nil _ _, by simp, by simp⟩
      | succ m ih =>
        intro hm
        obtain ⟨cs, h1, h2, h3⟩ := ih (by omega)
        have hx := List.getElem?_eq_getElem (show m < xs.length by omega)
        obtain ⟨vs, g1, g2, g3, g4⟩ := hR _ _ _ (hc m _ hx)
        have hl : cs.length = m * k := by rw [h1.1, List.length_take, Nat.min_eq_left (by omega)]
        refine ⟨cs ++ vs, by rw [List.take_succ_eq_append_getElem (by omega)]; exact h1.snoc g1 g2, fun j u hj => ?_, fun u hu => ?_⟩
        · rcases Nat.lt_or_ge j cs.length with hlt | hge
          · rw [List.getElem?_append_left hlt] at hj; exact h2 j u hj
          · rw [List.getElem?_append_right hge] at hj
            have := g3 _ u hj
            rw [show off + m * k + (j - cs.length) = off + j by omega] at this
            exact this
        · rcases List.mem_append.1 hu with hu | hu
          · exact h3 u hu
          · exact g4 u hu
    obtain ⟨cs, h1, h2, h3⟩ := key xs.length (Nat.le_refl _)
    rw [List.take_length] at h1
    refine ⟨cs, h1, by rw [h1.1, h.len], fun _ => ⟨_, rfl, fun j u hj => ?_⟩, h3⟩
    have ha : (⟨b, off, Option.none⟩ : Addr).add j = ⟨b, off + j, Option.none⟩ := by unfold Addr.add; split <;> simp_all
    rw [ha]
    exact h2 j u hj
/-- make([]int, n). -/
theorem own_make {P : Program} {w : World} {ops : Array Oper} {rest : List Oper} {o : Oper} {a : Act} {Q : Exit → Act → World → Prop}
    (hg : o.guard = none) (l c : Operand) (t e : TypeId) (hop : o.op = Op.makeSlice t l c) (ht : P.underlying t = some (.slice e)) (hinfo : (P.info? e).map (fun i => (i.zero, i.size, i.bytes)) = some (some (.int .i64 0), 1, 8))
    (base n : Nat) (kl kc : IntKind) (hl : a.eval l = .int kl (n : Int)) (hc : a.eval c = .int kc (n : Int)) (hn : 8 * n ≤ 281474976710656) (hb : base ≤ w.heap.size)
    (h : ∀ w', w'.ownsRow base e 1 (.slice (some ⟨w.heap.size, 0, Option.none⟩) n n) n (ints (List.replicate n 0)) → w.grownBy w' none → wpList P ops Q rest (a.put o.dst (.slice (some ⟨w.heap.size, 0, Option.none⟩) n n)) w') :
    wpList P ops Q (o :: rest) a w := by
  obtain ⟨i, hi, hz0, hz1, hz2⟩ := info_parts hinfo
  refine wpList_make_full w hg l c t hop base e i (.int .i64 0) 1 ht hi hz0 hz1 kl kc n n n hl hc rfl rfl (by rw [hz2]; exact hn) (by unfold maxLen; omega) hb fun w' h1 h2 => h w' ?_ h2
  have : (madeCells (Value.int .i64 0).cells (n * 1)).toList = ints (List.replicate n 0) := by
    apply List.ext_getElem
    · simp [ints, madeCells]
    · intro i h1 h2
      simp [ints, madeCells, Nat.mod_one, Value.cells]
  rwa [this] at h1
end Go.Proofs.Tail
