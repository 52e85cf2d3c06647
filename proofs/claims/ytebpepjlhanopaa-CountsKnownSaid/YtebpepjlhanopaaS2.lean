/- Contracts of stamp's alike, Join, Meet and Leq, for every two times. -/
import Derived.Test.YtebpepjlhanopaaRows
import Derived.Test.YtebpepjlhanopaaWords
import Derived.Test.YtebpepjlhanopaaS1
import Derived.Laws.ResultCell
namespace Go.Proofs.Ytebpepjlhanopaa
open Go.RowKit Go.Proofs.Tail
set_option linter.unusedSimpArgs false
set_option linter.unusedVariables false
def alikeB (s t : T) : Bool := decide (s.d = t.d ∧ s.right ∧ t.right)
theorem rightB_of {t : T} (h : t.right) : t.rightB = true := decide_eq_true h
theorem rightB_not {t : T} (h : ¬ t.right) : t.rightB = false := decide_eq_false h
/-- The block of one time. -/
structure Bx (w : World) (B : Nat) (t : T) : Prop where
  h : w.heap[B]? = some (.cells #[.int .i64 t.d, .int .i64 t.e, .int .i64 t.a, .int .i64 t.b, .int .i64 t.c] 28)
theorem Bx.new (w : World) (t : T) (B : Nat) (hB : w.heap.size = B) : Bx (w.alloc (.cells #[.int .i64 t.d, .int .i64 t.e, .int .i64 t.a, .int .i64 t.b, .int .i64 t.c] 28)) B t := ⟨by subst hB; exact heap_alloc_new _ _⟩
theorem Bx.below {w w' : World} {B : Nat} {t : T} (h : Bx w B t) (hb : Below w.heap.size w w') : Bx w' B t :=
  ⟨(hb.block B (lt_of_block h.h)).trans h.h⟩
theorem Bx.cells {w : World} {B : Nat} {t : T} (h : Bx w B t) : w.cell? ⟨B, 0, none⟩ = some (.int .i64 t.d) ∧ w.cell? ⟨B, 1, none⟩ = some (.int .i64 t.e) ∧ w.cell? ⟨B, 2, none⟩ = some (.int .i64 t.a) ∧ w.cell? ⟨B, 3, none⟩ = some (.int .i64 t.b) ∧ w.cell? ⟨B, 4, none⟩ = some (.int .i64 t.c) := by
  obtain ⟨h⟩ := h
  refine ⟨?_, ?_, ?_, ?_, ?_⟩ <;> simp [World.cell?, h]
theorem Bx.frozen {w : World} {B : Nat} {t : T} (h : Bx w B t) (o : Nat) : w.frozen? ⟨B, o, none⟩ = false := by
  obtain ⟨h⟩ := h
  simp [World.frozen?, h]
theorem Bx.lt {w : World} {B : Nat} {t : T} (h : Bx w B t) : B < w.heap.size := lt_of_block h.h
theorem Bx.set {w : World} {B : Nat} {t : T} (h : Bx w B t) (o : Nat) (v : Value) (t' : T) (h' : (#[.int .i64 t.d, .int .i64 t.e, .int .i64 t.a, .int .i64 t.b, .int .i64 t.c] : Array Value).setIfInBounds o v = #[.int .i64 t'.d, .int .i64 t'.e, .int .i64 t'.a, .int .i64 t'.b, .int .i64 t'.c]) : Bx (w.setCell ⟨B, o, none⟩ v) B t' := by
  obtain ⟨h⟩ := h
  have hlt := lt_of_block h
  rw [Array.getElem?_eq_getElem hlt] at h
  refine ⟨?_⟩
  show (w.heap.modify B _)[B]? = _
  rw [Array.getElem?_eq_getElem (by simpa using hlt), Array.getElem_modify_self, Option.some.inj h, ← h']
  rfl
theorem Bx.other {w : World} {B : Nat} {t : T} (h : Bx w B t) (p : Addr) (v : Value) (hp : p.block ≠ B) : Bx (w.setCell p v) B t := ⟨(Below.heap_setCell w p v B (Ne.symm hp)).trans h.h⟩
set_option maxHeartbeats 1000000 in
theorem alike_any (s t : T) (w : World) : Calls Try.prog 76 #[.agg #[.int .i64 s.d, .int .i64 s.e, .int .i64 s.a, .int .i64 s.b, .int .i64 s.c], .agg #[.int .i64 t.d, .int .i64 t.e, .int .i64 t.a, .int .i64 t.b, .int .i64 t.c]] w (Gives (.bool (alikeB s t)) w) := by
  have BX := Lib.hid ((Bx.new w s _ rfl).below (below_new _ (.cells #[.int .i64 t.d, .int .i64 t.e, .int .i64 t.a, .int .i64 t.b, .int .i64 t.c] 28)))
  have BY := Lib.hid (Bx.new (w.alloc (.cells #[.int .i64 s.d, .int .i64 s.e, .int .i64 s.a, .int .i64 s.b, .int .i64 s.c] 28)) t (w.heap.size + 1) (by simp))
  have HB := Lib.hid (below_alloc (below_new w (.cells #[.int .i64 s.d, .int .i64 s.e, .int .i64 s.a, .int .i64 s.b, .int .i64 s.c] 28)) (.cells #[.int .i64 t.d, .int .i64 t.e, .int .i64 t.a, .int .i64 t.b, .int .i64 t.c] 28))
  by_cases hd : s.d = t.d
  · have t0 : (s.d == t.d) = true := by simpa using hd
    have HD := Lib.hid hd
    clear hd
    go_enter Try.func76, Try.ntmps76
    go_wp2_with fail
    refine (right_any s _).mono ?_
    rintro e1 w1 ⟨rfl, hb1⟩
    have HB2 := Lib.hid (below_then HB.out hb1)
    obtain ⟨y0, y1, y2, y3, y4⟩ := (BY.out.below hb1).cells
    clear hb1
    by_cases r1 : s.right
    · rw [rightB_of r1]
      have R1 := Lib.hid r1
      clear r1
      go_wp2_with fail
      refine (right_any t _).mono ?_
      rintro e2 w2 ⟨rfl, hb1⟩
      have HB3 := Lib.hid (below_then HB2.out hb1)
      clear hb1
      have HQ := Lib.hid (show t.rightB = alikeB s t by unfold T.rightB alikeB; simp [HD.out, R1.out])
      go_wp2
      go_ret
      exact .bool HQ.out HB3.out
    · rw [rightB_not r1]
      have HQ := Lib.hid (show false = alikeB s t by unfold alikeB; simp [r1])
      clear r1
      go_wp2
      go_ret
      exact .bool HQ.out HB2.out
  · have t0 : (s.d == t.d) = false := by simpa using hd
    have HQ := Lib.hid (show false = alikeB s t by unfold alikeB; simp [hd])
    clear hd
    go_enter Try.func76, Try.ntmps76
    go_wp2
    go_ret
    exact .bool HQ.out HB.out
/-- Neither. -/
def T0 : T := ⟨0, 0, 0, 0, 0⟩
def joinT (s t : T) : T := if alikeB s t = true then ⟨s.d, max s.e t.e, max s.a t.a, max s.b t.b, max s.c t.c⟩ else T0
def meetT (s t : T) : T := if alikeB s t = true then ⟨s.d, min s.e t.e, min s.a t.a, min s.b t.b, min s.c t.c⟩ else T0
def partJ (s t : T) (k : Nat) : T := ⟨s.d, max s.e t.e, if 0 < k then max s.a t.a else s.a, if 1 < k then max s.b t.b else s.b, if 2 < k then max s.c t.c else s.c⟩
def partM (s t : T) (k : Nat) : T := ⟨s.d, min s.e t.e, if 0 < k then min s.a t.a else s.a, if 1 < k then min s.b t.b else s.b, if 2 < k then min s.c t.c else s.c⟩
/-- Three boxes: the first as it goes, the second, the result's. -/
structure Now (w wx : World) (u t : T) : Prop where
  x : Bx wx w.heap.size u
  y : Bx wx (w.heap.size + 1) t
  z : Bx wx (w.heap.size + 2) T0
  b : Below w.heap.size w wx
theorem Now.below {w wx wy : World} {u t : T} (h : Now w wx u t) (hb : Below wx.heap.size wx wy) : Now w wy u t := ⟨h.x.below hb, h.y.below hb, h.z.below hb, below_then h.b hb⟩
theorem Now.drew {w wx : World} {u t : T} (h : Now w wx u t) : Now w wx.drew u t := ⟨⟨h.x.h⟩, ⟨h.y.h⟩, ⟨h.z.h⟩, h.b.drew⟩
theorem Now.set {w wx : World} {u t : T} (h : Now w wx u t) (o : Nat) (v : Value) (u' : T) (h' : (#[.int .i64 u.d, .int .i64 u.e, .int .i64 u.a, .int .i64 u.b, .int .i64 u.c] : Array Value).setIfInBounds o v = #[.int .i64 u'.d, .int .i64 u'.e, .int .i64 u'.a, .int .i64 u'.b, .int .i64 u'.c]) : Now w (wx.setCell ⟨w.heap.size, o, none⟩ v) u' t :=
  ⟨h.x.set o v u' h', h.y.other _ _ (by simp), h.z.other _ _ (by simp), h.b.setCell (Nat.le_refl _) _⟩
theorem Now.facts {w wx : World} {u t : T} (h : Now w wx u t) :
    (wx.cell? ⟨w.heap.size, 0, none⟩ = some (.int .i64 u.d) ∧ wx.cell? ⟨w.heap.size, 1, none⟩ = some (.int .i64 u.e) ∧ wx.cell? ⟨w.heap.size, 2, none⟩ = some (.int .i64 u.a) ∧ wx.cell? ⟨w.heap.size, 3, none⟩ = some (.int .i64 u.b) ∧ wx.cell? ⟨w.heap.size, 4, none⟩ = some (.int .i64 u.c)) ∧
    (wx.cell? ⟨w.heap.size + 1, 0, none⟩ = some (.int .i64 t.d) ∧ wx.cell? ⟨w.heap.size + 1, 1, none⟩ = some (.int .i64 t.e) ∧ wx.cell? ⟨w.heap.size + 1, 2, none⟩ = some (.int .i64 t.a) ∧ wx.cell? ⟨w.heap.size + 1, 3, none⟩ = some (.int .i64 t.b) ∧ wx.cell? ⟨w.heap.size + 1, 4, none⟩ = some (.int .i64 t.c)) ∧
    (wx.cell? ⟨w.heap.size + 1 + 1, 0, none⟩ = some (.int .i64 0) ∧ wx.cell? ⟨w.heap.size + 1 + 1, 1, none⟩ = some (.int .i64 0) ∧ wx.cell? ⟨w.heap.size + 1 + 1, 2, none⟩ = some (.int .i64 0) ∧ wx.cell? ⟨w.heap.size + 1 + 1, 3, none⟩ = some (.int .i64 0) ∧ wx.cell? ⟨w.heap.size + 1 + 1, 4, none⟩ = some (.int .i64 0)) ∧
    (∀ o, wx.frozen? ⟨w.heap.size, o, none⟩ = false) ∧ (∀ o, wx.frozen? ⟨w.heap.size + 1 + 1, o, none⟩ = false) := ⟨h.x.cells, h.y.cells, h.z.cells, h.x.frozen, h.z.frozen⟩
theorem Now.out {w wx : World} {u t : T} (h : Now w wx u t) (v0 v1 v2 v3 v4 : Value) : Below w.heap.size w (((((wx.setCell ⟨w.heap.size + 1 + 1, 0, none⟩ v0).setCell ⟨w.heap.size + 1 + 1, 1, none⟩ v1).setCell ⟨w.heap.size + 1 + 1, 2, none⟩ v2).setCell ⟨w.heap.size + 1 + 1, 3, none⟩ v3).setCell ⟨w.heap.size + 1 + 1, 4, none⟩ v4) :=
  ((((h.b.setCell (by dsimp only; omega) _).setCell (by dsimp only; omega) _).setCell (by dsimp only; omega) _).setCell (by dsimp only; omega) _).setCell (by dsimp only; omega) _
set_option maxRecDepth 100000 in
set_option maxHeartbeats 2000000 in
theorem join_any (s t : T) (w : World) : Calls Try.prog 64 #[.agg #[.int .i64 s.d, .int .i64 s.e, .int .i64 s.a, .int .i64 s.b, .int .i64 s.c], .agg #[.int .i64 t.d, .int .i64 t.e, .int .i64 t.a, .int .i64 t.b, .int .i64 t.c]] w (Gives (.tuple #[.agg #[.int .i64 (joinT s t).d, .int .i64 (joinT s t).e, .int .i64 (joinT s t).a, .int .i64 (joinT s t).b, .int .i64 (joinT s t).c], .bool (alikeB s t)]) w) := by
  generalize hb : alikeB s t = b
  have N0 : Hid (Now w (((w.alloc (.cells #[.int .i64 s.d, .int .i64 s.e, .int .i64 s.a, .int .i64 s.b, .int .i64 s.c] 28)).alloc (.cells #[.int .i64 t.d, .int .i64 t.e, .int .i64 t.a, .int .i64 t.b, .int .i64 t.c] 28)).alloc (.cells #[.int .i64 T0.d, .int .i64 T0.e, .int .i64 T0.a, .int .i64 T0.b, .int .i64 T0.c] 28)) s t) := Lib.hid ⟨((Bx.new w s _ rfl).below (below_new _ (.cells #[.int .i64 t.d, .int .i64 t.e, .int .i64 t.a, .int .i64 t.b, .int .i64 t.c] 28))).below (below_new _ (.cells #[.int .i64 T0.d, .int .i64 T0.e, .int .i64 T0.a, .int .i64 T0.b, .int .i64 T0.c] 28)), (Bx.new (w.alloc (.cells #[.int .i64 s.d, .int .i64 s.e, .int .i64 s.a, .int .i64 s.b, .int .i64 s.c] 28)) t (w.heap.size + 1) (by simp)).below (below_new _ (.cells #[.int .i64 T0.d, .int .i64 T0.e, .int .i64 T0.a, .int .i64 T0.b, .int .i64 T0.c] 28)), Bx.new ((w.alloc (.cells #[.int .i64 s.d, .int .i64 s.e, .int .i64 s.a, .int .i64 s.b, .int .i64 s.c] 28)).alloc (.cells #[.int .i64 t.d, .int .i64 t.e, .int .i64 t.a, .int .i64 t.b, .int .i64 t.c] 28)) T0 (w.heap.size + 2) (by simp), below_alloc (below_alloc (below_new w (.cells #[.int .i64 s.d, .int .i64 s.e, .int .i64 s.a, .int .i64 s.b, .int .i64 s.c] 28)) (.cells #[.int .i64 t.d, .int .i64 t.e, .int .i64 t.a, .int .i64 t.b, .int .i64 t.c] 28)) (.cells #[.int .i64 T0.d, .int .i64 T0.e, .int .i64 T0.a, .int .i64 T0.b, .int .i64 T0.c] 28)⟩
  go_enter Try.func64, Try.ntmps64
  go_wp2_with fail
  refine (alike_any s t _).mono ?_
  rw [hb]
  rintro e1 w1 ⟨rfl, hb1⟩
  have N1 : Hid (Now w w1 s t) := Lib.hid (N0.out.below hb1)
  clear hb1
  obtain ⟨⟨x0, x1, x2, x3, x4⟩, ⟨y0, y1, y2, y3, y4⟩, ⟨z0, z1, z2, z3, z4⟩, fx, fz⟩ := N1.out.facts
  cases b
  · have HQ := Lib.hid (show joinT s t = T0 by unfold joinT; rw [hb]; rfl)
    clear hb
    go_wp2
    (try simp only [Exit.inBlock, Exit.then])
    rw [HQ.out]
    refine bodyPost_ret (v := .tuple #[.agg #[.int .i64 T0.d, .int .i64 T0.e, .int .i64 T0.a, .int .i64 T0.b, .int .i64 T0.c], .bool false]) ?_ rfl ⟨rfl, ?_⟩
    · rw [results_cell_tmp rfl]
      go_simp
      decide
    · exact N1.out.out _ _ _ _ _
  · have HQ := Lib.hid (show joinT s t = partJ s t 3 by unfold joinT; rw [hb]; rfl)
    clear hb
    clear x0 x1 x2 x3 x4 y0 y1 y2 y3 y4 z0 z1 z2 z3 z4 fx fz
    obtain ⟨⟨x0, x1, x2, x3, x4⟩, ⟨y0, y1, y2, y3, y4⟩, ⟨z0, z1, z2, z3, z4⟩, fx, fz⟩ := N1.out.facts
    go_wp2_with fail
    all_goals
      first
      | have N2 := Lib.hid (N1.out.set 1 (.int .i64 t.e) (partJ s t 0) (by simp [partJ]; omega))
      | have N2 := Lib.hid (N1.out.set 1 (.int .i64 s.e) (partJ s t 0) (by simp [partJ]; omega))
      clear x0 x1 x2 x3 x4 y0 y1 y2 y3 y4 z0 z1 z2 z3 z4 fx fz
      go_loopw [6, 18] (fun _ i wr => ∃ k : Nat, k ≤ 3 ∧ i = .int .i64 k ∧ Hid (Now w wr (partJ s t k) t)) (fun _ i _ => 3 - (intOf i).toNat)
      case atStart => exact ⟨0, by omega, rfl, N2⟩
      case round =>
        obtain ⟨k, hk, rfl, N3⟩ := hrel
        obtain ⟨⟨x0, x1, x2, x3, x4⟩, ⟨y0, y1, y2, y3, y4⟩, ⟨z0, z1, z2, z3, z4⟩, fx, fz⟩ := N3.out.facts
        obtain rfl | rfl | rfl | rfl : k = 0 ∨ k = 1 ∨ k = 2 ∨ k = 3 := by omega
        · go_wp2_with fail
          go_region
          go_wp2
          go_roundw
          case rel => exact ⟨1, by omega, rfl, Lib.hid (Now.drew (N3.out.set 2 _ (partJ s t 1) (by simp [partJ]; split <;> omega)))⟩
          case measure => simp [intOf]
        · go_wp2_with fail
          go_region
          go_wp2
          go_roundw
          case rel => exact ⟨2, by omega, rfl, Lib.hid (Now.drew (N3.out.set 3 _ (partJ s t 2) (by simp [partJ]; split <;> omega)))⟩
          case measure => simp [intOf]
        · go_wp2_with fail
          go_region
          go_wp2
          go_roundw
          case rel => exact ⟨3, by omega, rfl, Lib.hid (Now.drew (N3.out.set 4 _ (partJ s t 3) (by simp [partJ]; split <;> omega)))⟩
          case measure => simp [intOf]
        · go_wp2_with fail
          rw [HQ.out]
          refine bodyPost_ret (v := .tuple #[.agg #[.int .i64 (partJ s t 3).d, .int .i64 (partJ s t 3).e, .int .i64 (partJ s t 3).a, .int .i64 (partJ s t 3).b, .int .i64 (partJ s t 3).c], .bool true]) ?_ rfl ⟨rfl, ?_⟩
          · rw [results_cell_tmp rfl]
            go_simp
          · exact N3.out.out _ _ _ _ _
end Go.Proofs.Ytebpepjlhanopaa
