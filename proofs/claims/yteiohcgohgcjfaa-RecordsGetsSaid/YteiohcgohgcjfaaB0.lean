/- Boxes of messages; few. -/
import Derived.Test.YteiohcgohgcjfaaRows
import Derived.IntWalk
import Derived.Test.YteiohcgohgcjfaaWords
import Derived.Test.YteiohcgohgcjfaaByts
import Derived.Test.YteiohcgohgcjfaaStrs
import Derived.Test.YteiohcgohgcjfaaFrame
import Derived.Test.YteiohcgohgcjfaaElems
import Derived.Test.YteiohcgohgcjfaaS1
import Derived.Test.YteiohcgohgcjfaaS2
import Derived.Test.YteiohcgohgcjfaaEqs
import Derived.Test.YteiohcgohgcjfaaS11
import Derived.Test.YteiohcgohgcjfaaD1
import Derived.Test.YteiohcgohgcjfaaD5
import Derived.Test.YteiohcgohgcjfaaD6
import Derived.Test.YteiohcgohgcjfaaD7
import Derived.Test.YteiohcgohgcjfaaD8
import Derived.Test.YteiohcgohgcjfaaD9
import Derived.Test.YteiohcgohgcjfaaE9
import Derived.Test.YteiohcgohgcjfaaPA
namespace Go.Proofs.Yteiohcgohgcjfaa
open Go Go.RowKit Go.Proofs.Tail
set_option linter.unusedSimpArgs false
set_option linter.unusedVariables false
/-- A message in a box. -/
structure Mb where
  B : Nat
  m : Msg
  A : Option Addr
  c : Nat
  C : Option Addr
  d : Nat
abbrev Mb.cs (p : Mb) : Array Value := #[.int .u8 p.m.k, .int .i64 p.m.f, .int .i64 p.m.t, .int .i64 p.m.i, .int .i64 p.m.q, .int .i64 p.m.s.d, .int .i64 p.m.s.e, .int .i64 p.m.s.a, .int .i64 p.m.s.b, .int .i64 p.m.s.c, .slice p.A p.m.L.length p.c, .slice p.C p.m.U.length p.d]
theorem Msg.cs_eq (m : Msg) (A : Option Addr) (c : Nat) (C : Option Addr) (d : Nat) : (m.cs A c C d).toArray = #[.int .u8 m.k, .int .i64 m.f, .int .i64 m.t, .int .i64 m.i, .int .i64 m.q, .int .i64 m.s.d, .int .i64 m.s.e, .int .i64 m.s.a, .int .i64 m.s.b, .int .i64 m.s.c, .slice A m.L.length c, .slice C m.U.length d] := rfl
theorem mZero_eq : mZero.toArray = #[.int .u8 0, .int .i64 0, .int .i64 0, .int .i64 0, .int .i64 0, .int .i64 0, .int .i64 0, .int .i64 0, .int .i64 0, .int .i64 0, .slice none 0 0, .slice none 0 0] := rfl
/-- Boxes of messages, one by one. -/
structure Ms (w wx : World) (l : List Mb) : Prop where
  x : ∀ p ∈ l, Blk wx p.B (p.m.cs p.A p.c p.C p.d) 28 ∧ Mg wx p.m p.A p.c p.C p.d
  b : Below w.heap.size w wx
theorem Ms.nil (w : World) : Ms w w [] := ⟨fun p hp => by (cases hp), Below.refl _ _⟩
theorem Ms.below {w wx wy : World} {l : List Mb} (h : Ms w wx l) (hb : Below wx.heap.size wx wy) : Ms w wy l := ⟨fun p hp => ⟨(h.x p hp).1.then hb, (h.x p hp).2.below hb⟩, below_then h.b hb⟩
theorem Ms.drew {w wx : World} {l : List Mb} (h : Ms w wx l) : Ms w wx.drew l := h.below ((Below.refl _ _).drew)
theorem Ms.put {w wx : World} {l : List Mb} (h : Ms w wx l) (m : Msg) (A : Option Addr) (c : Nat) (C : Option Addr) (d : Nat) (hm : Mg wx m A c C d) (B : Nat) (hB : wx.heap.size = B) : Ms w (wx.alloc (.cells (m.cs A c C d).toArray 28)) (⟨B, m, A, c, C, d⟩ :: l) := by
  have hb := below_new wx (.cells (m.cs A c C d).toArray 28)
  refine ⟨fun p hp => ?_, below_then h.b hb⟩
  rcases List.mem_cons.1 hp with rfl | hp
  · exact ⟨Blk.new wx _ _ _ hB, hm.below hb⟩
  · exact ⟨(h.x p hp).1.then hb, (h.x p hp).2.below hb⟩
theorem Ms.at {w wx : World} {l : List Mb} (h : Ms w wx l) (i : Nat) {p : Mb} (hi : l[i]? = some p) : ∀ o, wx.cell? ⟨p.B, o, none⟩ = p.cs[o]? := by
  intro o
  have hx := (h.x p (List.mem_of_getElem? hi)).1.cell o
  rw [hx, Mb.cs, ← Msg.cs_eq]
  simp
theorem Ms.mg {w wx : World} {l : List Mb} (h : Ms w wx l) (i : Nat) {p : Mb} (hi : l[i]? = some p) : Mg wx p.m p.A p.c p.C p.d := (h.x p (List.mem_of_getElem? hi)).2
def fewB (m : Msg) : Bool := decide (m.L.length ≤ 300) && decide (m.U.length ≤ 300)
set_option maxHeartbeats 8000000 in
theorem few_any (m : Msg) (A : Option Addr) (c : Nat) (C : Option Addr) (d : Nat) (w : World) : Calls Try.prog 8 #[.agg (m.cs A c C d).toArray] w (Gives (.bool (fewB m)) w) := by
  rw [Msg.cs_eq]
  have HB := Lib.hid (below_new w (.cells (m.cs A c C d).toArray 28))
  have g2 : decide ((m.U.length : Int) ≤ 300) = decide (m.U.length ≤ 300) := decide_eq_decide.2 (by omega)
  by_cases h : m.L.length ≤ 300
  · have g1 : decide ((m.L.length : Int) ≤ 300) = true := decide_eq_true (by omega)
    have g3 : fewB m = decide (m.U.length ≤ 300) := by unfold fewB; rw [decide_eq_true h, Bool.true_and]
    rw [g3]
    clear g3
    go_enter Try.func8, Try.ntmps8
    go_wp2_with fail
    go_ret
    exact .bool (by simp) HB.out
  · have g1 : decide ((m.L.length : Int) ≤ 300) = false := decide_eq_false (by omega)
    have g3 : fewB m = false := by unfold fewB; rw [decide_eq_false h, Bool.false_and]
    rw [g3]
    clear g3
    go_enter Try.func8, Try.ntmps8
    go_wp2_with fail
    go_ret
    exact .bool rfl HB.out
theorem msgL_len (m : Msg) : (msgL m).length ≤ 40 + 16 * (m.L.length + m.U.length) := by
  have h1 := recs_len m.L
  have h2 := upds_len m.U
  have h3 := putL_len m.s
  unfold msgL
  split <;> (simp only [List.length_append, be_length]; omega)
theorem few_len {m : Msg} (h : fewB m = true) : (msgL m).length ≤ 10000 := by
  have := msgL_len m
  unfold fewB at h
  simp only [Bool.and_eq_true, decide_eq_true_eq] at h
  omega
end Go.Proofs.Yteiohcgohgcjfaa
