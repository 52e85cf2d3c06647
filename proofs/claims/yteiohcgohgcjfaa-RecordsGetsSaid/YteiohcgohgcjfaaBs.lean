/- Boxes of times: a row of blocks, each of which holds a time. -/
import Derived.Test.YteiohcgohgcjfaaRows
import Derived.Laws.Rows
import Derived.Test.YteiohcgohgcjfaaWords
import Derived.Test.YteiohcgohgcjfaaS1
import Derived.Test.YteiohcgohgcjfaaS2
import Derived.Test.YteiohcgohgcjfaaEqs
namespace Go.Proofs.Yteiohcgohgcjfaa
open Go.RowKit Go.Proofs.Tail
set_option linter.unusedSimpArgs false
set_option linter.unusedVariables false
theorem Bx.load {w : World} {B : Nat} {t : T} (h : Bx w B t) : (loadVar 24 ⟨B, 0, none⟩).run Try.prog w = .ok (.agg #[.int .i64 t.d, .int .i64 t.e, .int .i64 t.a, .int .i64 t.b, .int .i64 t.c]) w :=
  run_loadVar_row (P := Try.prog) w B 24 24 #[.int .i64 t.d, .int .i64 t.e, .int .i64 t.a, .int .i64 t.b, .int .i64 t.c] (0, 0) _ h.h Try.underlying24 rfl (by kernel_rfl)
/-- Blocks that hold times, one by one. -/
structure Bs (w wx : World) (l : List (Nat × T)) : Prop where
  x : ∀ p ∈ l, Bx wx p.1 p.2
  b : Below w.heap.size w wx
theorem Bs.below {w wx wy : World} {l : List (Nat × T)} (h : Bs w wx l) (hb : Below wx.heap.size wx wy) : Bs w wy l := ⟨fun p hp => (h.x p hp).below hb, below_then h.b hb⟩
theorem Bs.drew {w wx : World} {l : List (Nat × T)} (h : Bs w wx l) : Bs w wx.drew l := ⟨fun p hp => ⟨(h.x p hp).h⟩, h.b.drew⟩
theorem Bs.nil (w : World) : Bs w w [] := ⟨fun p hp => by simp at hp, Below.refl _ _⟩
theorem Bs.box {w wx : World} {l : List (Nat × T)} (h : Bs w wx l) (t : T) (B : Nat) (hB : wx.heap.size = B) : Bs w (wx.alloc (.cells #[.int .i64 t.d, .int .i64 t.e, .int .i64 t.a, .int .i64 t.b, .int .i64 t.c] 24)) ((B, t) :: l) :=
  ⟨fun p hp => by
    rcases List.mem_cons.1 hp with rfl | hp
    · exact Bx.new wx t B hB
    · exact (h.x p hp).below (below_new wx _), below_alloc h.b _⟩
theorem Bs.call {w wx wy : World} {l : List (Nat × T)} (h : Bs w wx l) (hb : Below wx.heap.size wx wy) (t : T) : Bs w (wy.alloc (.cells #[.int .i64 t.d, .int .i64 t.e, .int .i64 t.a, .int .i64 t.b, .int .i64 t.c] 24)) ((wy.heap.size, t) :: l) := (h.below hb).box t _ rfl
theorem Bs.at {w wx : World} {l : List (Nat × T)} (h : Bs w wx l) (i : Nat) {B : Nat} {t : T} (hi : l[i]? = some (B, t)) : ∀ o, wx.cell? ⟨B, o, none⟩ = (#[.int .i64 t.d, .int .i64 t.e, .int .i64 t.a, .int .i64 t.b, .int .i64 t.c] : Array Value)[o]? := by
  intro o
  have hx := (h.x (B, t) (List.mem_of_getElem? hi)).h
  simp [World.cell?, hx]
theorem Bs.three (w : World) (s t u : T) : Bs w (((w.alloc (.cells #[.int .i64 s.d, .int .i64 s.e, .int .i64 s.a, .int .i64 s.b, .int .i64 s.c] 24)).alloc (.cells #[.int .i64 t.d, .int .i64 t.e, .int .i64 t.a, .int .i64 t.b, .int .i64 t.c] 24)).alloc (.cells #[.int .i64 u.d, .int .i64 u.e, .int .i64 u.a, .int .i64 u.b, .int .i64 u.c] 24)) [(w.heap.size + 1 + 1, u), (w.heap.size + 1, t), (w.heap.size, s)] :=
  (((Bs.nil w).box s _ rfl).box t _ (by simp)).box u _ (by simp)
theorem Bs.two (w : World) (s t : T) : Bs w ((w.alloc (.cells #[.int .i64 s.d, .int .i64 s.e, .int .i64 s.a, .int .i64 s.b, .int .i64 s.c] 24)).alloc (.cells #[.int .i64 t.d, .int .i64 t.e, .int .i64 t.a, .int .i64 t.b, .int .i64 t.c] 24)) [(w.heap.size + 1, t), (w.heap.size, s)] :=
  ((Bs.nil w).box s _ rfl).box t _ (by simp)
theorem eq_self5 (j : T) : T.eqB ⟨j.d, j.e, j.a, j.b, j.c⟩ ⟨j.d, j.e, j.a, j.b, j.c⟩ = true := T.eqB_self j
@[simp high] theorem eq_stamp5 (d e a b c d' e' x y z : Int) (w : World) : (Op.equalIn 10000 24 (.agg #[.int .i64 d, .int .i64 e, .int .i64 a, .int .i64 b, .int .i64 c]) (.agg #[.int .i64 d', .int .i64 e', .int .i64 x, .int .i64 y, .int .i64 z])).run Try.prog w = .ok (T.eqB ⟨d, e, a, b, c⟩ ⟨d', e', x, y, z⟩) w := eq_stamp d e a b c d' e' x y z w
/-- Where it holds. -/
def Wn (b : Bool) (P : Prop) : Prop := b = true → P
end Go.Proofs.Yteiohcgohgcjfaa
