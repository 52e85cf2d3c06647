/- General: a block of slice headers, each a row of one's own; D: the blocks that are owned. -/
import Derived.Test.YtfgjmckdjkfgdaaRows
import Derived.Test.YtfgjmckdjkfgdaaWords
import Derived.Test.YtfgjmckdjkfgdaaFrame
import Derived.Test.YtfgjmckdjkfgdaaOwnAt
namespace Go.Proofs.Ytfgjmckdjkfgdaa
open Go Go.RowKit Go.Proofs.Tail
set_option linter.unusedSimpArgs false
set_option linter.unusedVariables false
def upd {α : Type} (f : Nat → α) (k : Nat) (x : α) : Nat → α := fun j => if j = k then x else f j
theorem upd_same {α : Type} (f : Nat → α) (k : Nat) (x : α) : upd f k x k = x := by simp [upd]
theorem upd_other {α : Type} (f : Nat → α) {k j : Nat} (x : α) (h : j ≠ k) : upd f k x j = f j := by simp [upd, h]
/-- Blocks that are owned behind a call: new ones besides. -/
def grewD (D : Nat → Prop) (w w' : World) : Nat → Prop := fun b => D b ∨ (w.heap.size ≤ b ∧ b < w'.heap.size)
theorem OwnAt.weak {w : World} {base base' : Nat} {e : TypeId} {size : Nat} {v : Value} {n : Nat} {xs : List Value} (h : OwnAt w base e size v n xs) (hb : base' ≤ base) : OwnAt w base' e size v n xs := by
  refine ⟨h.1, ?_⟩
  rcases h.2 with hn | ⟨g, off, cap, cur, rfl, h1, rest⟩
  · exact .inl hn
  · exact .inr ⟨g, off, cap, cur, rfl, Nat.le_trans hb h1, rest⟩
structure Heads (w : World) (D : Nat → Prop) (B o0 K : Nat) (e : TypeId) (H : Nat → Value) (q : Nat → List Value) : Prop where
  cell : ∀ k, k < K → w.cell? ⟨B, o0 + k, none⟩ = some (H k)
  own : ∀ k, k < K → OwnAt w 0 e 1 (H k) (q k).length (q k)
  dB : ∀ k b, k < K → (H k).ownBlock = some b → D b ∧ b ≠ B
  ne : ∀ k j b, k < K → j < K → k ≠ j → (H k).ownBlock = some b → (H j).ownBlock ≠ some b
variable {w w' w2 : World} {D : Nat → Prop} {B o0 K : Nat} {e : TypeId} {H : Nat → Value} {q : Nat → List Value}
theorem Heads.keep (h : Heads w D B o0 K e H q) (hB : D B) (hb : ∀ b, D b → w'.heap[b]? = w.heap[b]?) : Heads w' D B o0 K e H q :=
  ⟨fun k hk => (World.cell?_of_block (hb B hB)).trans (h.cell k hk), fun k hk => (h.own k hk).block fun b hb' => hb b (h.dB k b hk hb').1, h.dB, h.ne⟩
theorem Heads.mono (h : Heads w D B o0 K e H q) {D' : Nat → Prop} (hD : ∀ b, D b → D' b) : Heads w D' B o0 K e H q :=
  ⟨h.cell, h.own, fun k b hk hb => ⟨hD b (h.dB k b hk hb).1, (h.dB k b hk hb).2⟩, h.ne⟩
/-- A store into the same block, elsewhere. -/
theorem Heads.beside (h : Heads w D B o0 K e H q) {i : Nat} (hi : i < o0 ∨ o0 + K ≤ i) (v : Value) : Heads (w.setCell ⟨B, i, none⟩ v) D B o0 K e H q :=
  ⟨fun k hk => by
    rw [World.cell?_setCell_other _ _ _ _ (by simp only [ne_eq, Addr.mk.injEq, and_true, true_and]; omega)]
    exact h.cell k hk, fun k hk => (h.own k hk).block fun b hb => Below.heap_setCell _ _ _ _ (h.dB k b hk hb).2, h.dB, h.ne⟩
/-- A row turned: its header is stored, its block may be another one. -/
theorem Heads.put (h : Heads w D B o0 K e H q) (hB : D B) (hlt : ∀ b, D b → b < w.heap.size) {k : Nat} (hk : k < K) (hbl : ∀ b, D b → (H k).ownBlock ≠ some b → w2.heap[b]? = w.heap[b]?) (hsz : w.heap.size ≤ w2.heap.size)
    {v : Value} {l : List Value} (hv : OwnAt w2 0 e 1 v l.length l) (hvb : ∀ b, v.ownBlock = some b → (H k).ownBlock = some b ∨ w.heap.size ≤ b) :
    Heads (w2.setCell ⟨B, o0 + k, none⟩ v) (grewD D w w2) B o0 K e (upd H k v) (upd q k l) := by
  have hBk : (H k).ownBlock ≠ some B := fun e => (h.dB k B hk e).2 rfl
  refine ⟨fun j hj => ?_, fun j hj => ?_, fun j b hj hb => ?_, fun i j b hi hj hij hb => ?_⟩
  · by_cases hjk : j = k
    · subst hjk
      rw [upd_same]
      exact World.cell?_setCell_same _ _ _ ((World.cell?_of_block (hbl B hB hBk)).trans (h.cell j hj))
    · rw [upd_other _ _ hjk, World.cell?_setCell_other _ _ _ _ (by simp only [ne_eq, Addr.mk.injEq, and_true, true_and]; omega)]
      exact (World.cell?_of_block (hbl B hB hBk)).trans (h.cell j hj)
  · by_cases hjk : j = k
    · subst hjk
      rw [upd_same, upd_same]
      refine hv.block fun b hb => Below.heap_setCell _ _ _ _ ?_
      rcases hvb b hb with h1 | h1
      · exact (h.dB j b hj h1).2
      · have := hlt B hB
        show b ≠ B
        omega
    · rw [upd_other _ _ hjk, upd_other _ _ hjk]
      refine (h.own j hj).block fun b hb => ?_
      have hd := h.dB j b hj hb
      rw [Below.heap_setCell _ _ _ _ hd.2]
      exact hbl b hd.1 (h.ne j k b hj hk hjk hb)
  · by_cases hjk : j = k
    · subst hjk
      rw [upd_same] at hb
      rcases hvb b hb with h1 | h1
      · exact ⟨.inl (h.dB j b hj h1).1, (h.dB j b hj h1).2⟩
      · have := hlt B hB
        exact ⟨.inr ⟨h1, (hv.lt b hb).2⟩, by omega⟩
    · rw [upd_other _ _ hjk] at hb
      exact ⟨.inl (h.dB j b hj hb).1, (h.dB j b hj hb).2⟩
  · by_cases hik : i = k
    · subst hik
      rw [upd_same] at hb
      rw [upd_other _ _ (Ne.symm hij)]
      rcases hvb b hb with h1 | h1
      · exact h.ne i j b hi hj hij h1
      · intro h2
        have := hlt b (h.dB j b hj h2).1
        omega
    · rw [upd_other _ _ hik] at hb
      by_cases hjk : j = k
      · subst hjk
        rw [upd_same]
        intro h2
        rcases hvb b h2 with h1 | h1
        · exact h.ne i j b hi hj hij hb h1
        · have := hlt b (h.dB i b hi hb).1
          omega
      · rw [upd_other _ _ hjk]
        exact h.ne i j b hi hj hij hb
end Go.Proofs.Ytfgjmckdjkfgdaa
