/- What a net holds; New, Len, Ends, First, Take, Send as steps of it. -/
import Derived.Test.YtfgjmckdjkfgdaaRows
import Derived.IntWalk
import Derived.Test.YtfgjmckdjkfgdaaWords
import Derived.Test.YtfgjmckdjkfgdaaByts
import Derived.Test.YtfgjmckdjkfgdaaStrs
import Derived.Test.YtfgjmckdjkfgdaaFrame
import Derived.Test.YtfgjmckdjkfgdaaOwnAt
import Derived.Test.YtfgjmckdjkfgdaaHeads
import Derived.Test.YtfgjmckdjkfgdaaN1
import Derived.Test.YtfgjmckdjkfgdaaN2
import Derived.Test.YtfgjmckdjkfgdaaN3
import Derived.Test.YtfgjmckdjkfgdaaN4
import Derived.Test.YtfgjmckdjkfgdaaN6
import Derived.Test.YtfgjmckdjkfgdaaN7
import Derived.Test.YtfgjmckdjkfgdaaN8
import Derived.Test.YtfgjmckdjkfgdaaN9
namespace Go.Proofs.Ytfgjmckdjkfgdaa
open Go Go.RowKit Go.Proofs.Tail
set_option linter.unusedSimpArgs false
set_option linter.unusedVariables false
theorem cut_own {w : World} {base : Nat} {e : TypeId} {g o n c : Nat} {xs : List Value} (h : OwnAt w base e 1 (.slice (some ⟨g, o, none⟩) n c) n xs) (hn : 0 < n) : OwnAt w base e 1 (.slice (some (cutA g o c)) (n - 1) (c - 1)) (n - 1) (xs.drop 1) := by
  have h1 := h.tail (k := 1) (by omega)
  unfold cutA
  split
  · rename_i hc
    subst hc
    rcases h.2 with ⟨hv, _⟩ | ⟨g', off', cap', cur, hv, hb, hg, hnc, hcm, hcs, ht⟩
    · simp at hv
    · simp only [Value.slice.injEq, Option.some.injEq, Addr.mk.injEq, and_true, true_and] at hv
      obtain ⟨⟨rfl, rfl⟩, rfl⟩ := hv
      obtain rfl : n = 1 := by omega
      have hl : xs.length = 1 := by rw [h.1]
      refine ⟨by rw [List.length_drop, hl], .inr ⟨g, o, 0, cur, rfl, hb, hg, by omega, by unfold maxLen; omega, by omega, ?_⟩⟩
      have h0 : xs.drop 1 = [] := List.drop_eq_nil_of_le (by omega)
      rw [h0]
      simp
  · simpa using h1
/-- A net, told. -/
structure NetS where
  E : Nat
  q : Nat → List (List Int)
  s : Int
  t : Int
/-- The messages of a link. -/
def Msgs (w : World) (D : Nat → Prop) (P : Nat) (H : Nat → Value) (l : List Value) (Q : List (List Int)) : Prop :=
  ∀ (i : Nat) (xs : List Int), Q[i]? = some xs → ∃ (A : Option Addr) (n c : Nat), l[i]? = some (Value.slice A n c) ∧ Byts w A n c xs ∧ n ≤ 1048576 ∧ ∀ ad, A = some ad → D ad.block ∧ ad.block ≠ P ∧ ∀ j, j < 4096 → (H j).ownBlock ≠ some ad.block
structure NetH (w : World) (D : Nat → Prop) (P : Nat) (N : NetS) (H : Nat → Value) (hs : Nat → List Value) : Prop where
  e1 : 1 ≤ N.E
  e64 : N.E ≤ 64
  dP : D P
  lt : ∀ k, D k → k < w.heap.size
  cE : w.cell? ⟨P, 0, none⟩ = some (.int .i64 N.E)
  cs : w.cell? ⟨P, 4097, none⟩ = some (.int .i64 N.s)
  ct : w.cell? ⟨P, 4098, none⟩ = some (.int .i64 N.t)
  fz : ∀ i, w.frozen? ⟨P, i, none⟩ = false
  hd : Heads w D P 1 4096 30 H hs
  len : ∀ k, k < 4096 → (hs k).length = (N.q k).length
  el : ∀ k, k < 4096 → Msgs w D P H (hs k) (N.q k)
  out : ∀ k, ¬ (k / 64 < N.E ∧ k % 64 < N.E) → N.q k = []
def Net (w : World) (D : Nat → Prop) (P : Nat) (N : NetS) : Prop := ∃ H hs, NetH w D P N H hs
variable {w w' w2 : World} {D : Nat → Prop} {P : Nat} {N : NetS} {H : Nat → Value} {hs : Nat → List Value}
theorem byts_blocks {w w' : World} {A : Option Addr} {n c : Nat} {xs : List Int} (h : Byts w A n c xs) (hb : ∀ ad, A = some ad → w'.heap[ad.block]? = w.heap[ad.block]?) : Byts w' A n c xs :=
  ⟨h.len, h.cap, h.big, fun hp => by
    obtain ⟨b, off, rfl, hc⟩ := h.at_ hp
    exact ⟨b, off, rfl, fun j x hj => RByte.block (hb _ rfl) (hc j x hj)⟩⟩
theorem Msgs.keep {l : List Value} {Q : List (List Int)} (h : Msgs w D P H l Q) (hb : ∀ b, D b → b ≠ P → (∀ j, j < 4096 → (H j).ownBlock ≠ some b) → w'.heap[b]? = w.heap[b]?) : Msgs w' D P H l Q := fun i xs hi => by
  obtain ⟨A, n, c, h1, h2, h3, h4⟩ := h i xs hi
  exact ⟨A, n, c, h1, byts_blocks h2 (fun ad ha => hb _ (h4 ad ha).1 (h4 ad ha).2.1 (h4 ad ha).2.2), h3, h4⟩
theorem NetH.keep (h : NetH w D P N H hs) (hb : ∀ k, D k → w'.heap[k]? = w.heap[k]?) (hsz : w.heap.size ≤ w'.heap.size) : NetH w' D P N H hs :=
  ⟨h.e1, h.e64, h.dP, fun k hk => Nat.lt_of_lt_of_le (h.lt k hk) hsz, (World.cell?_of_block (hb P h.dP)).trans h.cE, (World.cell?_of_block (hb P h.dP)).trans h.cs, (World.cell?_of_block (hb P h.dP)).trans h.ct,
    fun i => (World.frozen?_of_block (hb P h.dP)).trans (h.fz i), h.hd.keep h.dP hb, h.len, fun k hk => (h.el k hk).keep fun b hd _ _ => hb b hd, h.out⟩
theorem Net.keep (h : Net w D P N) (hb : ∀ k, D k → w'.heap[k]? = w.heap[k]?) (hsz : w.heap.size ≤ w'.heap.size) : Net w' D P N := by
  obtain ⟨H, hs, h⟩ := h
  exact ⟨H, hs, h.keep hb hsz⟩
theorem Net.lt (h : Net w D P N) : ∀ k, D k → k < w.heap.size := by
  obtain ⟨H, hs, h⟩ := h
  exact h.lt
theorem Net.below (h : Net w D P N) (hb : Below w.heap.size w w') : Net w' D P N := h.keep (fun k hk => hb.block k (h.lt k hk)) hb.size
theorem Net.fr {S : Nat → Prop} (h : Net w D P N) (hf : Fr S w w') (hn : ∀ k, D k → ¬ S k) : Net w' D P N := h.keep (fun k hk => hf.block k (h.lt k hk) (hn k hk)) hf.size
/-- A row turned. -/
theorem NetH.put (h : NetH w D P N H hs) {k : Nat} (hk : k < 4096) (hkE : k / 64 < N.E ∧ k % 64 < N.E) (hbl : ∀ b, D b → (H k).ownBlock ≠ some b → w2.heap[b]? = w.heap[b]?) (hsz : w.heap.size ≤ w2.heap.size)
    {v : Value} {l : List Value} (hv : OwnAt w2 0 30 1 v l.length l) (hvb : ∀ b, v.ownBlock = some b → (H k).ownBlock = some b ∨ w.heap.size ≤ b) {Q : List (List Int)} (hl : l.length = Q.length)
    (hel : ∀ (i : Nat) (xs : List Int), Q[i]? = some xs → ∃ (A : Option Addr) (n c : Nat), l[i]? = some (Value.slice A n c) ∧ Byts w2 A n c xs ∧ n ≤ 1048576 ∧ ∀ ad, A = some ad → grewD D w w2 ad.block ∧ ad.block ≠ P ∧ v.ownBlock ≠ some ad.block ∧ ∀ j, j < 4096 → (H j).ownBlock ≠ some ad.block) :
    NetH (w2.setCell ⟨P, 1 + k, none⟩ v) (grewD D w w2) P { N with q := upd N.q k Q } (upd H k v) (upd hs k l) := by
  have hBk : (H k).ownBlock ≠ some P := fun e => (h.hd.dB k P hk e).2 rfl
  have hP := hbl P h.dP hBk
  have other : ∀ i, i ≠ 1 + k → (w2.setCell ⟨P, 1 + k, none⟩ v).cell? ⟨P, i, none⟩ = w.cell? ⟨P, i, none⟩ := fun i hi => by
    rw [World.cell?_setCell_other _ _ _ _ (by simp only [ne_eq, Addr.mk.injEq, and_true, true_and]; omega)]
    exact World.cell?_of_block hP
  refine ⟨h.e1, h.e64, .inl h.dP, fun b hb => ?_, (other 0 (by omega)).trans h.cE, (other 4097 (by omega)).trans h.cs, (other 4098 (by omega)).trans h.ct, fun i => ?_, h.hd.put h.dP h.lt hk hbl hsz hv hvb, fun j hj => ?_, fun j hj => ?_, fun j hj => ?_⟩
  · show b < (w2.heap.modify _ _).size
    rw [Array.size_modify]
    rcases hb with hb | hb
    · exact Nat.lt_of_lt_of_le (h.lt b hb) hsz
    · exact hb.2
  · rw [World.frozen?_setCell]
    exact (World.frozen?_of_block hP).trans (h.fz i)
  · by_cases hjk : j = k
    · subst hjk; simpa [upd_same] using hl
    · simpa [upd_other _ _ hjk] using h.len j hj
  · by_cases hjk : j = k
    · subst hjk
      simp only [upd_same]
      intro i xs hi
      obtain ⟨A, n, c, h1, h2, h3, h4⟩ := hel i xs hi
      refine ⟨A, n, c, h1, byts_blocks h2 (fun ad ha => Below.heap_setCell _ _ _ _ (h4 ad ha).2.1), h3, fun ad ha => ⟨(h4 ad ha).1, (h4 ad ha).2.1, fun i hi => ?_⟩⟩
      by_cases hik : i = j
      · subst hik; rw [upd_same]; exact (h4 ad ha).2.2.1
      · rw [upd_other _ _ hik]; exact (h4 ad ha).2.2.2 i hi
    · simp only [upd_other _ _ hjk]
      intro i xs hi
      obtain ⟨A, n, c, h1, h2, h3, h4⟩ := h.el j hj i xs hi
      refine ⟨A, n, c, h1, byts_blocks h2 (fun ad ha => ?_), h3, fun ad ha => ⟨.inl (h4 ad ha).1, (h4 ad ha).2.1, fun i hi => ?_⟩⟩
      · rw [Below.heap_setCell _ _ _ _ (h4 ad ha).2.1]
        exact hbl _ (h4 ad ha).1 ((h4 ad ha).2.2 k hk)
      · by_cases hik : i = k
        · subst hik
          rw [upd_same]
          intro hvv
          rcases hvb _ hvv with h5 | h5
          · exact (h4 ad ha).2.2 i hi h5
          · have := h.lt _ (h4 ad ha).1
            omega
        · rw [upd_other _ _ hik]; exact (h4 ad ha).2.2 i hi
  · have hjk : j ≠ k := by rintro rfl; exact hj hkE
    show upd N.q k Q j = []
    rw [upd_other _ _ hjk]
    exact h.out j hj
/-- The counters. -/
theorem NetH.sent (h : NetH w D P N H hs) (x : Int) : NetH (w.setCell ⟨P, 4097, none⟩ (.int .i64 x)) D P { N with s := x } H hs := by
  have other : ∀ i, i ≠ 4097 → (w.setCell ⟨P, 4097, none⟩ (.int .i64 x)).cell? ⟨P, i, none⟩ = w.cell? ⟨P, i, none⟩ := fun i hi =>
    World.cell?_setCell_other _ _ _ _ (by simp only [ne_eq, Addr.mk.injEq, and_true, true_and]; omega)
  exact ⟨h.e1, h.e64, h.dP, fun k hk => by show k < (w.heap.modify _ _).size; rw [Array.size_modify]; exact h.lt k hk, (other 0 (by omega)).trans h.cE, World.cell?_setCell_same _ _ _ h.cs, (other 4098 (by omega)).trans h.ct,
    fun i => by rw [World.frozen?_setCell]; exact h.fz i, h.hd.beside (.inr (by omega)) _, h.len, fun k hk => (h.el k hk).keep fun b _ hb _ => Below.heap_setCell _ _ _ _ hb, h.out⟩
theorem NetH.taken (h : NetH w D P N H hs) (x : Int) : NetH (w.setCell ⟨P, 4098, none⟩ (.int .i64 x)) D P { N with t := x } H hs := by
  have other : ∀ i, i ≠ 4098 → (w.setCell ⟨P, 4098, none⟩ (.int .i64 x)).cell? ⟨P, i, none⟩ = w.cell? ⟨P, i, none⟩ := fun i hi =>
    World.cell?_setCell_other _ _ _ _ (by simp only [ne_eq, Addr.mk.injEq, and_true, true_and]; omega)
  exact ⟨h.e1, h.e64, h.dP, fun k hk => by show k < (w.heap.modify _ _).size; rw [Array.size_modify]; exact h.lt k hk, (other 0 (by omega)).trans h.cE, (other 4097 (by omega)).trans h.cs, World.cell?_setCell_same _ _ _ h.ct,
    fun i => by rw [World.frozen?_setCell]; exact h.fz i, h.hd.beside (.inr (by omega)) _, h.len, fun k hk => (h.el k hk).keep fun b _ hb _ => Below.heap_setCell _ _ _ _ hb, h.out⟩
end Go.Proofs.Ytfgjmckdjkfgdaa
