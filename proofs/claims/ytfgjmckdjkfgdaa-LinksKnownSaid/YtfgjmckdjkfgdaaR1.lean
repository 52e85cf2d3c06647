/- The reference's net: mails, how it lies; is, Len, at, First. -/
import Derived.Test.YtfgjmckdjkfgdaaRows
import Derived.IntWalk
import Derived.Test.YtfgjmckdjkfgdaaWords
import Derived.Test.YtfgjmckdjkfgdaaByts
import Derived.Test.YtfgjmckdjkfgdaaStrs
import Derived.Test.YtfgjmckdjkfgdaaFrame
import Derived.Test.YtfgjmckdjkfgdaaElems
import Derived.Test.YtfgjmckdjkfgdaaOwnAt
import Derived.Test.YtfgjmckdjkfgdaaHeads
namespace Go.Proofs.Ytfgjmckdjkfgdaa
open Go Go.RowKit Go.Proofs.Tail
set_option linter.unusedSimpArgs false
set_option linter.unusedVariables false
structure Mail where
  f : Int
  t : Int
  b : List Int
deriving DecidableEq
/-- A mail that lies at a place. -/
def RMail (w : World) (b o : Nat) (m : Mail) : Prop := w.cell? ⟨b, o, none⟩ = some (.int .i64 m.f) ∧ w.cell? ⟨b, o + 1, none⟩ = some (.int .i64 m.t) ∧ w.cell? ⟨b, o + 2, none⟩ = some (.string (strOfNums m.b))
theorem RMail.stays : Stays RMail := fun _ _ _ _ _ hb h => ⟨below_cell hb h.1, below_cell hb h.2.1, below_cell hb h.2.2⟩
abbrev Mls (w : World) (A : Option Addr) (n c : Nat) (L : List Mail) : Prop := Rd 3 RMail w A n c L
def encM (m : Mail) : List Value := [.int .i64 m.f, .int .i64 m.t, .string (strOfNums m.b)]
def recM (L : List Mail) : List Value := L.flatMap encM
theorem recM_length (L : List Mail) : (recM L).length = L.length * 3 := by
  induction L with
  | nil => rfl
  | cons m L ih => simp only [recM, List.flatMap_cons, List.length_append, List.length_cons] at ih ⊢; rw [ih]; simp only [encM, List.length_cons, List.length_nil]; omega
theorem recM_append (xs ys : List Mail) : recM (xs ++ ys) = recM xs ++ recM ys := by simp [recM]
theorem recM_one (L : List Mail) : ∀ u ∈ recM L, u.oneCell' = true := by
  intro u hu
  simp only [recM, List.mem_flatMap, encM, List.mem_cons, List.not_mem_nil, or_false] at hu
  obtain ⟨m, _, rfl | rfl | rfl⟩ := hu <;> rfl
def VM (x : Mail) (vs : List Value) : Prop := vs = encM x
theorem recM_cells (xs : List Mail) : Cells 3 VM (recM xs) xs := by
  induction xs with
  | nil => exact Cells.nil _ _
  | cons x xs ih => exact (Cells.one (V := VM) (k := 3) (vs := encM x) rfl rfl).append ih
theorem own_mls {w : World} {base n : Nat} {e : TypeId} {v : Value} {xs : List Mail} (h : w.ownsRow base e 3 v n (recM xs)) (hb : n ≤ 9223372036854775807) : ∃ A c, v = .slice A n c ∧ Mls w A n c xs := by
  have hl : xs.length = n := by have := h.1; rw [recM_length] at this; omega
  exact own_rd h hl hb (recM_cells xs) fun b o x vs hv hc => by
    subst hv
    exact ⟨hc 0 _ rfl, hc 1 _ rfl, hc 2 _ rfl⟩
theorem mls_src {w : World} {A : Option Addr} {m c : Nat} {ys : List Mail} (h : Mls w A m c ys) : 0 < m → ∃ ad, A = some ad ∧ ∀ j u, (recM ys)[j]? = some u → w.cell? (ad.add j) = some u := by
  intro hm
  obtain ⟨b, off, rfl, hc⟩ := h.at_ hm
  refine ⟨_, rfl, fun j u hu => ?_⟩
  have hj : j < ys.length * 3 := by have := (List.getElem?_eq_some_iff.1 hu).1; rwa [recM_length] at this
  have hj2 : j / 3 < ys.length := by omega
  have hr := hc (j / 3) _ (List.getElem?_eq_getElem hj2)
  have hg := (recM_cells ys).2 (j / 3) _ (List.getElem?_eq_getElem hj2)
  generalize ys[j / 3] = t at hr hg
  have ha : (⟨b, off, Option.none⟩ : Addr).add j = ⟨b, off + j, Option.none⟩ := by unfold Addr.add; split <;> simp_all
  rw [ha]
  have hm3 : j % 3 < 3 := Nat.mod_lt _ (by omega)
  have e1 : (encM t)[j % 3]? = some u := by
    rw [← show _ = encM t from hg, List.getElem?_take_of_lt hm3, List.getElem?_drop, ← hu]
    congr 1
    omega
  have e : off + j = off + j / 3 * 3 + j % 3 := by omega
  rw [e]
  revert e1
  match j % 3, hm3 with
  | 0, _ => intro e1; cases e1; exact hr.1
  | 1, _ => intro e1; cases e1; exact hr.2.1
  | 2, _ => intro e1; cases e1; exact hr.2.2
theorem infoM : (Try.prog.info? 70).map (fun i => (i.zero, i.size, i.bytes)) = some (some (.agg #[.int .i64 0, .int .i64 0, .string { data := #[] }]), 3, 32) := by kernel_rfl
/-- The reference's net. -/
structure RefS where
  E : Nat
  L : List Mail
  s : Int
  t : Int
structure RefH (w : World) (D : Nat → Prop) (M : Nat) (R : RefS) (v : Value) : Prop where
  blk : Blk w M [.int .i64 R.E, v, .int .i64 R.s, .int .i64 R.t] 59
  own : w.ownsRow 0 70 3 v R.L.length (recM R.L)
  dM : D M
  dv : ∀ b, v.ownBlock = some b → D b ∧ b ≠ M
  lt : ∀ k, D k → k < w.heap.size
  lim : R.L.length ≤ 1000000
def Ref (w : World) (D : Nat → Prop) (M : Nat) (R : RefS) : Prop := ∃ v, RefH w D M R v
variable {w w' : World} {D : Nat → Prop} {M : Nat} {R : RefS} {v : Value}
theorem owns_block {w w' : World} {base n : Nat} {e : TypeId} {size : Nat} {v : Value} {xs : List Value} (h : w.ownsRow base e size v n xs) (hb : ∀ k, v.ownBlock = some k → w'.heap[k]? = w.heap[k]?) : w'.ownsRow base e size v n xs := by
  refine ⟨h.1, ?_⟩
  rcases h.2 with h2 | ⟨g, cap, cur, rfl, hg, hh, r⟩
  · exact .inl h2
  · exact .inr ⟨g, cap, cur, rfl, hg, (hb g rfl).trans hh, r⟩
theorem Ref.keep (h : Ref w D M R) (hb : ∀ k, D k → w'.heap[k]? = w.heap[k]?) (hs : w.heap.size ≤ w'.heap.size) : Ref w' D M R := by
  obtain ⟨v, h⟩ := h
  exact ⟨v, ⟨(hb M h.dM).trans h.blk.h⟩, owns_block h.own (fun k hk => hb k (h.dv k hk).1), h.dM, h.dv, fun k hk => Nat.lt_of_lt_of_le (h.lt k hk) hs, h.lim⟩
theorem Ref.lt (h : Ref w D M R) : ∀ k, D k → k < w.heap.size := by
  obtain ⟨v, h⟩ := h
  exact h.lt
theorem Ref.below (h : Ref w D M R) (hb : Below w.heap.size w w') : Ref w' D M R := h.keep (fun k hk => hb.block k (h.lt k hk)) hb.size
theorem Ref.fr {S : Nat → Prop} (h : Ref w D M R) (hf : Fr S w w') (hn : ∀ k, D k → ¬ S k) : Ref w' D M R := h.keep (fun k hk => hf.block k (h.lt k hk) (hn k hk)) hf.size
/-- What is read of it. -/
theorem RefH.reads (h : RefH w D M R v) : ∃ A c, v = .slice A R.L.length c ∧ Mls w A R.L.length c R.L ∧ w.cell? ⟨M, 0, none⟩ = some (.int .i64 R.E) ∧ w.cell? ⟨M, 1, none⟩ = some (.slice A R.L.length c) ∧ w.cell? ⟨M, 2, none⟩ = some (.int .i64 R.s) ∧ w.cell? ⟨M, 3, none⟩ = some (.int .i64 R.t) ∧ ∀ o, w.frozen? ⟨M, o, none⟩ = false := by
  obtain ⟨A, c, rfl, hm⟩ := own_mls h.own (by have := h.lim; omega)
  exact ⟨A, c, rfl, hm, h.blk.cell 0, h.blk.cell 1, h.blk.cell 2, h.blk.cell 3, h.blk.frozen⟩
end Go.Proofs.Ytfgjmckdjkfgdaa
