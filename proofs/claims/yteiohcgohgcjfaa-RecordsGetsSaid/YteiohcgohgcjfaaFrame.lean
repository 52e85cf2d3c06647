/- General: a frame: all blocks but those of S stay as they were. -/
import Derived.Test.YteiohcgohgcjfaaWords
namespace Go.Proofs.Tail
open Go.RowKit
/-- All that was stays, but for the blocks of S. -/
structure Fr (S : Nat → Prop) (w w' : World) : Prop where
  os : w'.os = w.os
  tape : w'.tape = w.tape
  output : w'.output = w.output
  size : w.heap.size ≤ w'.heap.size
  block : ∀ k, k < w.heap.size → ¬ S k → w'.heap[k]? = w.heap[k]?
theorem Fr.refl (S : Nat → Prop) (w : World) : Fr S w w := ⟨rfl, rfl, rfl, Nat.le_refl _, fun _ _ _ => rfl⟩
/-- S's blocks of the first world; new ones may turn. -/
theorem Fr.trans {S S' : Nat → Prop} {a b c : World} (h : Fr S a b) (k : Fr S' b c) (hs : ∀ i, i < a.heap.size → S' i → S i) : Fr S a c :=
  ⟨k.os.trans h.os, k.tape.trans h.tape, k.output.trans h.output, Nat.le_trans h.size k.size, fun i hi hn => (k.block i (Nat.lt_of_lt_of_le hi h.size) (fun q => hn (hs i hi q))).trans (h.block i hi hn)⟩
theorem Fr.of_below {S : Nat → Prop} {w w' : World} (h : Below w.heap.size w w') : Fr S w w' := ⟨h.os, h.tape, h.output, h.size, fun k hk _ => h.block k hk⟩
theorem Fr.below {S : Nat → Prop} {w w' : World} (h : Fr S w w') {B : Nat} (hB : B ≤ w.heap.size) (hs : ∀ k, k < B → ¬ S k) : Below B w w' := ⟨h.os, h.tape, h.output, h.size, fun k hk => h.block k (Nat.lt_of_lt_of_le hk hB) (hs k hk)⟩
theorem Fr.then {S : Nat → Prop} {a b c : World} (h : Fr S a b) (k : Below b.heap.size b c) : Fr S a c := h.trans (S' := fun _ => False) (Fr.of_below k) (fun _ _ f => f.elim)
theorem Fr.mono {S S' : Nat → Prop} {w w' : World} (h : Fr S w w') (hs : ∀ i, i < w.heap.size → S i → S' i) : Fr S' w w' := ⟨h.os, h.tape, h.output, h.size, fun k hk hn => h.block k hk fun q => hn (hs k hk q)⟩
theorem Fr.set {S : Nat → Prop} {a w : World} (h : Fr S a w) {p : Addr} (hp : p.block < a.heap.size → S p.block) (v : Value) : Fr S a (w.setCell p v) :=
  ⟨h.os, h.tape, h.output, by show a.heap.size ≤ (w.heap.modify _ _).size; simpa using h.size, fun k hk hn => (Below.heap_setCell w p v k (by rintro rfl; exact hn (hp hk))).trans (h.block k hk hn)⟩
theorem Fr.alloc {S : Nat → Prop} {a w : World} (h : Fr S a w) (o : Obj) : Fr S a (w.alloc o) := h.then (below_new w o)
theorem Fr.drew {S : Nat → Prop} {a w : World} (h : Fr S a w) : Fr S a w.drew := ⟨h.os, h.tape, h.output, h.size, h.block⟩
theorem Fr.grown {S : Nat → Prop} {a w w' : World} {row : Option Nat} (h : Fr S a w) (hg : w.grownBy w' row) (hr : ∀ k, row = some k → k < a.heap.size → S k) : Fr S a w' :=
  ⟨hg.os.trans h.os, hg.tape.trans h.tape, hg.output.trans h.output, Nat.le_trans h.size hg.size, fun k hk hn => (hg.block k (Nat.lt_of_lt_of_le hk h.size) (fun e => hn (hr k e.symm hk))).trans (h.block k hk hn)⟩
theorem Fr.cell {S : Nat → Prop} {w w' : World} (h : Fr S w w') {a : Addr} {v : Value} (hc : w.cell? a = some v) (hn : ¬ S a.block) : w'.cell? a = some v :=
  (World.cell?_of_block (w := w) (h.block a.block (World.block_lt_of_cell? w a hc) hn)).trans hc
theorem lt_block {w : World} {B : Nat} {o : Obj} (h : w.heap[B]? = some o) : B < w.heap.size := (Array.getElem?_eq_some_iff.1 h).1
/-- A block, known whole. -/
structure Blk (w : World) (B : Nat) (cs : List Value) (t : TypeId) : Prop where
  h : w.heap[B]? = some (.cells cs.toArray t)
theorem Blk.new (w : World) (cs : List Value) (t : TypeId) (B : Nat) (hB : w.heap.size = B) : Blk (w.alloc (.cells cs.toArray t)) B cs t := ⟨by subst hB; exact heap_alloc_new _ _⟩
theorem Blk.lt {w : World} {B : Nat} {cs : List Value} {t : TypeId} (h : Blk w B cs t) : B < w.heap.size := lt_block h.h
theorem Blk.below {w w' : World} {B C : Nat} {cs : List Value} {t : TypeId} (h : Blk w B cs t) (hb : Below C w w') (hC : B < C) : Blk w' B cs t := ⟨(hb.block B hC).trans h.h⟩
theorem Blk.then {w w' : World} {B : Nat} {cs : List Value} {t : TypeId} (h : Blk w B cs t) (hb : Below w.heap.size w w') : Blk w' B cs t := h.below hb h.lt
theorem Blk.fr {S : Nat → Prop} {w w' : World} {B : Nat} {cs : List Value} {t : TypeId} (h : Blk w B cs t) (hf : Fr S w w') (hn : ¬ S B) : Blk w' B cs t := ⟨(hf.block B h.lt hn).trans h.h⟩
theorem Blk.drew {w : World} {B : Nat} {cs : List Value} {t : TypeId} (h : Blk w B cs t) : Blk w.drew B cs t := ⟨h.h⟩
theorem Blk.cell {w : World} {B : Nat} {cs : List Value} {t : TypeId} (h : Blk w B cs t) (o : Nat) : w.cell? ⟨B, o, none⟩ = cs[o]? := by
  have h := h.h
  simp [World.cell?, h]
theorem Blk.frozen {w : World} {B : Nat} {cs : List Value} {t : TypeId} (h : Blk w B cs t) (o : Nat) : w.frozen? ⟨B, o, none⟩ = false := by
  have h := h.h
  simp [World.frozen?, h]
theorem Blk.set {w : World} {B : Nat} {cs : List Value} {t : TypeId} (h : Blk w B cs t) (o : Nat) (v : Value) : Blk (w.setCell ⟨B, o, none⟩ v) B (cs.set o v) t := by
  have hlt := h.lt
  obtain ⟨h⟩ := h
  rw [Array.getElem?_eq_getElem hlt] at h
  refine ⟨?_⟩
  show (w.heap.modify B _)[B]? = _
  rw [Array.getElem?_eq_getElem (by simpa using hlt), Array.getElem_modify_self, Option.some.inj h]
  simp
theorem Blk.other {w : World} {B : Nat} {cs : List Value} {t : TypeId} (h : Blk w B cs t) (p : Addr) (v : Value) (hp : p.block ≠ B) : Blk (w.setCell p v) B cs t := ⟨(Below.heap_setCell w p v B (Ne.symm hp)).trans h.h⟩
theorem Blk.grown {w w' : World} {B : Nat} {cs : List Value} {t : TypeId} {row : Option Nat} (h : Blk w B cs t) (hg : w.grownBy w' row) (hr : row ≠ some B) : Blk w' B cs t := ⟨(hg.block B h.lt (fun e => hr e.symm)).trans h.h⟩
/-- An owned row through a frame. -/
theorem own_fr {S : Nat → Prop} {w w' : World} {base : Nat} {e : TypeId} {size n : Nat} {v : Value} {xs : List Value} (h : w.ownsRow base e size v n xs) (hf : Fr S w w') (hn : ∀ k, v.ownBlock = some k → ¬ S k) : w'.ownsRow base e size v n xs := by
  refine ⟨h.1, ?_⟩
  rcases h.2 with h2 | ⟨g, cap, cur, rfl, hg, hh, r⟩
  · exact .inl h2
  · exact .inr ⟨g, cap, cur, rfl, hg, (hf.block g (lt_block hh) (hn g rfl)).trans hh, r⟩
/-- Elements that are read, through a frame: those of the block that the slice lies in. -/
theorem Rd.fr {α : Type} {k : Nat} {R : World → Nat → Nat → α → Prop} (hR : ∀ w w' b o x, w'.heap[b]? = w.heap[b]? → R w b o x → R w' b o x) {S : Nat → Prop} {w w' : World} {A : Option Addr} {n c : Nat} {xs : List α}
    (hlt : ∀ b o x, R w b o x → b < w.heap.size) (h : Rd k R w A n c xs) (hf : Fr S w w') (hn : ∀ a, A = some a → ¬ S a.block) : Rd k R w' A n c xs :=
  ⟨h.len, h.cap, h.big, fun hp => by
    obtain ⟨b, off, rfl, hc⟩ := h.at_ hp
    exact ⟨b, off, rfl, fun j x hj => hR w w' b _ x (hf.block b (hlt _ _ _ (hc j x hj)) (hn _ rfl)) (hc j x hj)⟩⟩
end Go.Proofs.Tail
