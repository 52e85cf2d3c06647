/- Contracts of stamp's alike, Join, Meet and Leq, for every two times. -/
import Derived.Test.YteiohcgohgcjfaaRows
import Derived.Test.YteiohcgohgcjfaaWords
import Derived.Test.YteiohcgohgcjfaaS1
import Derived.Laws.ResultCell
namespace Go.Proofs.Yteiohcgohgcjfaa
open Go.RowKit Go.Proofs.Tail
set_option linter.unusedSimpArgs false
set_option linter.unusedVariables false
def alikeB (s t : T) : Bool := decide (s.d = t.d ∧ s.right ∧ t.right)
theorem rightB_of {t : T} (h : t.right) : t.rightB = true := decide_eq_true h
theorem rightB_not {t : T} (h : ¬ t.right) : t.rightB = false := decide_eq_false h
/-- The block of one time. -/
structure Bx (w : World) (B : Nat) (t : T) : Prop where
  h : w.heap[B]? = some (.cells #[.int .i64 t.d, .int .i64 t.e, .int .i64 t.a, .int .i64 t.b, .int .i64 t.c] 24)
theorem Bx.new (w : World) (t : T) (B : Nat) (hB : w.heap.size = B) : Bx (w.alloc (.cells #[.int .i64 t.d, .int .i64 t.e, .int .i64 t.a, .int .i64 t.b, .int .i64 t.c] 24)) B t := ⟨by subst hB; exact heap_alloc_new _ _⟩
theorem Bx.below {w w' : World} {B : Nat} {t : T} (h : Bx w B t) (hb : Below w.heap.size w w') : Bx w' B t :=
  ⟨(hb.block B (lt_of_block h.h)).trans h.h⟩
theorem Bx.cells {w : World} {B : Nat} {t : T} (h : Bx w B t) : w.cell? ⟨B, 0, none⟩ = some (.int .i64 t.d) ∧ w.cell? ⟨B, 1, none⟩ = some (.int .i64 t.e) ∧ w.cell? ⟨B, 2, none⟩ = some (.int .i64 t.a) ∧ w.cell? ⟨B, 3, none⟩ = some (.int .i64 t.b) ∧ w.cell? ⟨B, 4, none⟩ = some (.int .i64 t.c) := by
  obtain ⟨h⟩ := h
  refine ⟨?_, ?_, ?_, ?_, ?_⟩ <;> simp [World.cell?, h]
theorem Bx.frozen {w : World} {B : Nat} {t : T} (h : Bx w B t) (o : Nat) : w.frozen? ⟨B, o, none⟩ = false := by
  obtain ⟨h⟩ := h
  simp [World.frozen?, h]
theorem Bx.lt {w : World} {B : Nat} {t : T} (h : Bx w B t) : B < w.heap.size := lt_of_block h.h
theorem Bx.set {w : World} {B : Nat} {t : T} (h : Bx w B t) (o : Nat) (v : Value) (t' : T) (h' : (#[.int .i64 t.d, .int .i64 t.e, .int .i64 t.a, .int .i64 t.b, .int .i64 t.c] : Array Value).setIfInBounds o v = #[.int .i64 t'.d, .int .i64 t'.e, .int .i64 t'.a, .int .i64 t'.b, .int .i64 t'.c]) : Bx (w.setCell ⟨B, o, none⟩ v) B t' := by
  obtain ⟨h⟩ := h
  have hlt := lt_of_block h
  rw [Array.getElem?_eq_getElem hlt] at h
  refine ⟨?_⟩
  show (w.heap.modify B _)[B]? = _
  rw [Array.getElem?_eq_getElem (by simpa using hlt), Array.getElem_modify_self, Option.some.inj h, ← h']
  rfl
theorem Bx.other {w : World} {B : Nat} {t : T} (h : Bx w B t) (p : Addr) (v : Value) (hp : p.block ≠ B) : Bx (w.setCell p v) B t := ⟨(Below.heap_setCell w p v B (Ne.symm hp)).trans h.h⟩
/-- Neither. -/
def T0 : T := ⟨0, 0, 0, 0, 0⟩
def joinT (s t : T) : T := if alikeB s t = true then ⟨s.d, max s.e t.e, max s.a t.a, max s.b t.b, max s.c t.c⟩ else T0
def meetT (s t : T) : T := if alikeB s t = true then ⟨s.d, min s.e t.e, min s.a t.a, min s.b t.b, min s.c t.c⟩ else T0
def partJ (s t : T) (k : Nat) : T := ⟨s.d, max s.e t.e, if 0 < k then max s.a t.a else s.a, if 1 < k then max s.b t.b else s.b, if 2 < k then max s.c t.c else s.c⟩
def partM (s t : T) (k : Nat) : T := ⟨s.d, min s.e t.e, if 0 < k then min s.a t.a else s.a, if 1 < k then min s.b t.b else s.b, if 2 < k then min s.c t.c else s.c⟩
/-- Three boxes: the first as it goes, the second, the result's. -/
structure Now (w wx : World) (u t : T) : Prop where
  x : Bx wx w.heap.size u
  y : Bx wx (w.heap.size + 1) t
  z : Bx wx (w.heap.size + 2) T0
  b : Below w.heap.size w wx
theorem Now.below {w wx wy : World} {u t : T} (h : Now w wx u t) (hb : Below wx.heap.size wx wy) : Now w wy u t := ⟨h.x.below hb, h.y.below hb, h.z.below hb, below_then h.b hb⟩
theorem Now.drew {w wx : World} {u t : T} (h : Now w wx u t) : Now w wx.drew u t := ⟨⟨h.x.h⟩, ⟨h.y.h⟩, ⟨h.z.h⟩, h.b.drew⟩
theorem Now.set {w wx : World} {u t : T} (h : Now w wx u t) (o : Nat) (v : Value) (u' : T) (h' : (#[.int .i64 u.d, .int .i64 u.e, .int .i64 u.a, .int .i64 u.b, .int .i64 u.c] : Array Value).setIfInBounds o v = #[.int .i64 u'.d, .int .i64 u'.e, .int .i64 u'.a, .int .i64 u'.b, .int .i64 u'.c]) : Now w (wx.setCell ⟨w.heap.size, o, none⟩ v) u' t :=
  ⟨h.x.set o v u' h', h.y.other _ _ (by simp), h.z.other _ _ (by simp), h.b.setCell (Nat.le_refl _) _⟩
theorem Now.facts {w wx : World} {u t : T} (h : Now w wx u t) :
    (wx.cell? ⟨w.heap.size, 0, none⟩ = some (.int .i64 u.d) ∧ wx.cell? ⟨w.heap.size, 1, none⟩ = some (.int .i64 u.e) ∧ wx.cell? ⟨w.heap.size, 2, none⟩ = some (.int .i64 u.a) ∧ wx.cell? ⟨w.heap.size, 3, none⟩ = some (.int .i64 u.b) ∧ wx.cell? ⟨w.heap.size, 4, none⟩ = some (.int .i64 u.c)) ∧
    (wx.cell? ⟨w.heap.size + 1, 0, none⟩ = some (.int .i64 t.d) ∧ wx.cell? ⟨w.heap.size + 1, 1, none⟩ = some (.int .i64 t.e) ∧ wx.cell? ⟨w.heap.size + 1, 2, none⟩ = some (.int .i64 t.a) ∧ wx.cell? ⟨w.heap.size + 1, 3, none⟩ = some (.int .i64 t.b) ∧ wx.cell? ⟨w.heap.size + 1, 4, none⟩ = some (.int .i64 t.c)) ∧
    (wx.cell? ⟨w.heap.size + 1 + 1, 0, none⟩ = some (.int .i64 0) ∧ wx.cell? ⟨w.heap.size + 1 + 1, 1, none⟩ = some (.int .i64 0) ∧ wx.cell? ⟨w.heap.size + 1 + 1, 2, none⟩ = some (.int .i64 0) ∧ wx.cell? ⟨w.heap.size + 1 + 1, 3, none⟩ = some (.int .i64 0) ∧ wx.cell? ⟨w.heap.size + 1 + 1, 4, none⟩ = some (.int .i64 0)) ∧
    (∀ o, wx.frozen? ⟨w.heap.size, o, none⟩ = false) ∧ (∀ o, wx.frozen? ⟨w.heap.size + 1 + 1, o, none⟩ = false) := ⟨h.x.cells, h.y.cells, h.z.cells, h.x.frozen, h.z.frozen⟩
theorem Now.out {w wx : World} {u t : T} (h : Now w wx u t) (v0 v1 v2 v3 v4 : Value) : Below w.heap.size w (((((wx.setCell ⟨w.heap.size + 1 + 1, 0, none⟩ v0).setCell ⟨w.heap.size + 1 + 1, 1, none⟩ v1).setCell ⟨w.heap.size + 1 + 1, 2, none⟩ v2).setCell ⟨w.heap.size + 1 + 1, 3, none⟩ v3).setCell ⟨w.heap.size + 1 + 1, 4, none⟩ v4) :=
  ((((h.b.setCell (by dsimp only; omega) _).setCell (by dsimp only; omega) _).setCell (by dsimp only; omega) _).setCell (by dsimp only; omega) _).setCell (by dsimp only; omega) _
def T.lp (t : T) (k : Nat) : Int := if k = 0 then t.a else if k = 1 then t.b else t.c
theorem right_iff {t : T} : t.rightB = true ↔ t.right := by unfold T.rightB; simp
end Go.Proofs.Yteiohcgohgcjfaa
