/- LinksOrder's state: a net and sixteen rows of strings. -/
import Derived.Test.YtfgjmckdjkfgdaaRows
import Derived.IntWalk
import Derived.Test.YtfgjmckdjkfgdaaWords
import Derived.Test.YtfgjmckdjkfgdaaByts
import Derived.Test.YtfgjmckdjkfgdaaStrs
import Derived.Test.YtfgjmckdjkfgdaaFrame
import Derived.Test.YtfgjmckdjkfgdaaElems
import Derived.Test.YtfgjmckdjkfgdaaOwnAt
import Derived.Test.YtfgjmckdjkfgdaaHeads
import Derived.Test.YtfgjmckdjkfgdaaN4
import Derived.Test.YtfgjmckdjkfgdaaN8
import Derived.Test.YtfgjmckdjkfgdaaN10
import Derived.Test.YtfgjmckdjkfgdaaN11
import Derived.Test.YtfgjmckdjkfgdaaN12
import Derived.Test.YtfgjmckdjkfgdaaN13
import Derived.Test.YtfgjmckdjkfgdaaT5
namespace Go.Proofs.Ytfgjmckdjkfgdaa
open Go Go.RowKit Go.Proofs.Tail
set_option linter.unusedSimpArgs false
set_option linter.unusedVariables false
theorem and3 (x : Int) : ∃ a : Nat, a < 4 ∧ bits .and .i64 x 3 = (a : Int) := by
  refine ⟨(BitVec.ofInt 64 x &&& BitVec.ofInt 64 3).toNat, ?_, ?_⟩
  · rw [BitVec.toNat_and]
    have h3 : (BitVec.ofInt 64 3).toNat = 3 := by decide
    have := Nat.and_le_right (n := (BitVec.ofInt 64 x).toNat) (m := (BitVec.ofInt 64 3).toNat)
    omega
  · have hlt : (BitVec.ofInt 64 x &&& BitVec.ofInt 64 3).toNat < 4 := by
      rw [BitVec.toNat_and]
      have h3 : (BitVec.ofInt 64 3).toNat = 3 := by decide
      have := Nat.and_le_right (n := (BitVec.ofInt 64 x).toNat) (m := (BitVec.ofInt 64 3).toNat)
      omega
    show IntKind.i64.wrap ((BitVec.ofInt 64 x &&& BitVec.ofInt 64 3).toNat : Int) = _
    exact IntWalk.i64_in _ ⟨by omega, by omega⟩
def strV (Q : List (List Int)) : List Value := Q.map fun xs => .string (strOfNums xs)
theorem strV_length (Q : List (List Int)) : (strV Q).length = Q.length := by simp [strV]
theorem strV_append (P Q : List (List Int)) : strV (P ++ Q) = strV P ++ strV Q := by simp [strV]
theorem strV_one (Q : List (List Int)) : ∀ u ∈ strV Q, u.oneCell' = true := by
  intro u hu; simp only [strV, List.mem_map] at hu; obtain ⟨q, _, rfl⟩ := hu; rfl
/-- How many lie in the first n rows. -/
def sumL (q : Nat → List (List Int)) : Nat → Nat
  | 0 => 0
  | n + 1 => sumL q n + (q n).length
theorem sumL_congr {q p : Nat → List (List Int)} : ∀ {n : Nat}, (∀ k, k < n → q k = p k) → sumL q n = sumL p n
  | 0, _ => rfl
  | n + 1, h => by rw [sumL, sumL, sumL_congr (fun k hk => h k (by omega)), h n (by omega)]
theorem sumL_upd {q : Nat → List (List Int)} {k : Nat} {l : List (List Int)} : ∀ {n : Nat}, k < n → sumL (upd q k l) n + (q k).length = sumL q n + l.length
  | n + 1, h => by
    rw [sumL, sumL]
    by_cases hk : k = n
    · subst hk
      rw [upd_same, sumL_congr (q := upd q k l) (p := q) (fun j hj => upd_other _ _ (by omega))]
      omega
    · rw [upd_other _ _ (show n ≠ k by omega)]
      have := sumL_upd (q := q) (k := k) (l := l) (n := n) (by omega)
      omega
theorem sumL_le {q : Nat → List (List Int)} {k : Nat} : ∀ {n : Nat}, k < n → (q k).length ≤ sumL q n
  | n + 1, h => by
    rw [sumL]
    by_cases hk : k = n
    · subst hk; omega
    · have := sumL_le (q := q) (k := k) (n := n) (by omega); omega
/-- The rows of a net of four ends, as sixteen. -/
def qr (N : NetS) (k : Nat) : List (List Int) := N.q (k / 4 * 64 + k % 4)
structure OrH (w0 : World) (P RB : Nat) (N : NetS) (q : Nat → List (List Int)) (D1 D2 : Nat → Prop) (H : Nat → Value) (w : World) : Prop where
  net : NS w0 D1 P N w
  hd : Heads w D2 RB 0 16 9 H (fun k => strV (q k))
  dR : D2 RB
  lt : ∀ k, D2 k → k < w.heap.size
  low : ∀ k, D2 k → w0.heap.size ≤ k
  dis : ∀ k, D1 k → ¬ D2 k
  fz : ∀ i, w.frozen? ⟨RB, i, none⟩ = false
  E : N.E = 4
variable {w w' w2 w0 : World} {D1 D2 : Nat → Prop} {P RB : Nat} {N : NetS} {q : Nat → List (List Int)} {H : Nat → Value}
theorem OrH.below (h : OrH w0 P RB N q D1 D2 H w) (hb : Below w.heap.size w w') : OrH w0 P RB N q D1 D2 H w' :=
  ⟨h.net.then hb, h.hd.keep h.dR (fun b hd => hb.block b (h.lt b hd)), h.dR, fun k hk => Nat.lt_of_lt_of_le (h.lt k hk) hb.size, h.low, h.dis, fun i => (World.frozen?_of_block (hb.block RB (h.lt RB h.dR))).trans (h.fz i), h.E⟩
/-- The net turned. -/
theorem OrH.turn (h : OrH w0 P RB N q D1 D2 H w) {D1' : Nat → Prop} {N' : NetS} (hn : NS w0 D1' P N' w') (hf : Fr D1 w w') (hD : ∀ k, D1' k → D1 k ∨ w.heap.size ≤ k) (hE : N'.E = 4) : OrH w0 P RB N' q D1' D2 H w' :=
  have hk : ∀ b, D2 b → w'.heap[b]? = w.heap[b]? := fun b hb => hf.block b (h.lt b hb) (fun h1 => h.dis b h1 hb)
  ⟨hn, h.hd.keep h.dR hk, h.dR, fun k hk => Nat.lt_of_lt_of_le (h.lt k hk) hf.size, h.low, fun k h1 h2 => by
    rcases hD k h1 with h3 | h3
    · exact h.dis k h3 h2
    · have := h.lt k h2; omega, fun i => (World.frozen?_of_block (hk RB h.dR)).trans (h.fz i), hE⟩
/-- A row turned. -/
theorem OrH.put (h : OrH w0 P RB N q D1 D2 H w) {k : Nat} (hk : k < 16) (hw : Fr D2 w w2) (hbl : ∀ b, D2 b → (H k).ownBlock ≠ some b → w2.heap[b]? = w.heap[b]?) {v : Value} {l : List (List Int)} (hv : OwnAt w2 0 9 1 v l.length (strV l))
    (hvb : ∀ b, v.ownBlock = some b → (H k).ownBlock = some b ∨ w.heap.size ≤ b) : OrH w0 P RB N (upd q k l) D1 (grewD D2 w w2) (upd H k v) (w2.setCell ⟨RB, k, none⟩ v) := by
  have hRk : (H k).ownBlock ≠ some RB := fun e => (h.hd.dB k RB hk e).2 rfl
  have hf : Fr D2 w (w2.setCell ⟨RB, k, none⟩ v) := hw.set (fun _ => h.dR) v
  have hp := h.hd.put (k := k) (w2 := w2) (v := v) (l := strV l) h.dR h.lt hk hbl hw.size (by rw [strV_length]; exact hv) hvb
  rw [Nat.zero_add] at hp
  refine ⟨h.net.fr hf (fun b h1 h2 => h.dis b h1 h2) h.low, ?_, .inl h.dR, fun b hb => ?_, fun b hb => ?_, fun b h1 h2 => ?_, fun i => ?_, h.E⟩
  · refine ⟨hp.cell, fun j hj => ?_, hp.dB, hp.ne⟩
    have := hp.own j hj
    by_cases hjk : j = k
    · subst hjk; simpa only [upd_same] using this
    · simpa only [upd_other _ _ hjk] using this
  · show b < (w2.heap.modify _ _).size
    rw [Array.size_modify]
    rcases hb with hb | hb
    · exact Nat.lt_of_lt_of_le (h.lt b hb) hw.size
    · exact hb.2
  · rcases hb with hb | hb
    · exact h.low b hb
    · exact Nat.le_trans h.net.b.size hb.1
  · rcases h2 with h2 | h2
    · exact h.dis b h1 h2
    · have := h.net.net.lt b h1; omega
  · rw [World.frozen?_setCell]
    exact (World.frozen?_of_block (hbl RB h.dR hRk)).trans (h.fz i)
/-- What is read of a row. -/
theorem OrH.row (h : OrH w0 P RB N q D1 D2 H w) {k : Nat} (hk : k < 16) : ∃ A c, H k = .slice A (q k).length c ∧ w.cell? ⟨RB, k, none⟩ = some (.slice A (q k).length c) ∧ OwnAt w 0 9 1 (.slice A (q k).length c) (q k).length (strV (q k)) := by
  have ho := h.hd.own k hk
  rw [strV_length] at ho
  obtain ⟨A, c, he⟩ := ho.form
  have hc := h.hd.cell k hk
  rw [Nat.zero_add] at hc
  exact ⟨A, c, he, by rw [hc, he], by rw [← he]; exact ho⟩
theorem OrH.some (h : OrH w0 P RB N q D1 D2 H w) {k : Nat} (hk : k < 16) (hn : 0 < (q k).length) : ∃ g o c, H k = .slice (some ⟨g, o, none⟩) (q k).length c ∧ w.cell? ⟨RB, k, none⟩ = some (.slice (some ⟨g, o, none⟩) (q k).length c) ∧ (q k).length ≤ c ∧ OwnAt w 0 9 1 (.slice (some ⟨g, o, none⟩) (q k).length c) (q k).length (strV (q k)) ∧
    ∀ (j : Nat) (xs : List Int), (q k)[j]? = some xs → w.cell? ⟨g, o + j, none⟩ = some (.string (strOfNums xs)) := by
  obtain ⟨A, c, e1, e2, e3⟩ := h.row hk
  rcases e3.2 with ⟨_, hn'⟩ | ⟨g, off, cap, cur, hv, _, _, hnc, _⟩
  · omega
  · injection hv with hv1 hv2 hv3
    subst hv1 hv3
    refine ⟨g, off, c, e1, e2, hnc, e3, fun j xs hj => ?_⟩
    have := e3.cells j (.string (strOfNums xs)) (by simp [strV, hj])
    rwa [Addr.add_lit] at this
theorem slice_oneS {g o n c : Nat} (hn : 0 < n) (hc : n ≤ c) (W : World) : (Instr.slice 37 (.slice (some ⟨g, o, none⟩) n c) (some (.int .i64 1)) none none).run Try.prog W = .ok (.slice (some (cutA g o c)) (n - 1) (c - 1)) W := by
  have h1 : (1 : Int) ≤ n := by omega
  have h2 : (n : Int) ≤ c := by omega
  have u := Try.underlying37
  have z := Try.sizeOf9
  have ha : (⟨g, o, none⟩ : Addr).add 1 = ⟨g, o + 1, none⟩ := by unfold Addr.add; split <;> simp_all
  unfold cutA
  by_cases hc1 : c = 1
  · subst hc1
    obtain rfl : n = 1 := by omega
    go_simp
  · have h4 : ¬ (c - 1 = 0) := by omega
    go_simp
end Go.Proofs.Ytfgjmckdjkfgdaa
