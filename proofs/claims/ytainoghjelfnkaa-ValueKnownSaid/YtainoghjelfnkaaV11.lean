/- Contract of the statements' own 'works'. -/
import Derived.Test.YtainoghjelfnkaaRows
import Derived.Deep.RegionHeld3
import Derived.Deep.DrawnRows
import Derived.Test.YtainoghjelfnkaaWords
import Derived.Test.YtainoghjelfnkaaByts
import Derived.Test.YtainoghjelfnkaaFrame
import Derived.Test.YtainoghjelfnkaaElems
import Derived.Test.YtainoghjelfnkaaV1
import Derived.Test.YtainoghjelfnkaaV2
import Derived.Test.YtainoghjelfnkaaV3
import Derived.Test.YtainoghjelfnkaaV4
import Derived.Test.YtainoghjelfnkaaV5
import Derived.Test.YtainoghjelfnkaaV6
import Derived.Test.YtainoghjelfnkaaV7
import Derived.Test.YtainoghjelfnkaaV8
import Derived.Test.YtainoghjelfnkaaV9
import Derived.Test.YtainoghjelfnkaaV10
import Derived.Test.YtainoghjelfnkaaP1
namespace Go.Proofs.Ytainoghjelfnkaa
open Go Go.RowKit Go.Proofs.Tail Go.Sort
set_option linter.unusedSimpArgs false
set_option linter.unusedVariables false
attribute [local go_sem ↓] Go.wp_at_zero Go.wp_at_succ
theorem recs_lit {W : World} {B n : Nat} (xs : List Rc) (hn : xs.length = n) (hb : n ≤ 1000) (h : W.heap[B]? = some (.cells (recV xs).toArray 32)) : Recs W (some ⟨B, 0, none⟩) n n xs := by
  refine ⟨hn, Nat.le_refl _, by omega, fun _ => ⟨B, 0, rfl, fun j x hj => ?_⟩⟩
  obtain ⟨g0, g1⟩ := recV_get xs j x hj
  constructor
  · simp [World.cell?, h, g0]
  · simp [World.cell?, h, g1]
theorem at_new (W : World) (o o' : Obj) (B : Nat) (h : W.heap.size = B) (ho : o = o') : (W.alloc o).heap[B]? = some o' := by subst h ho; exact heap_alloc_new _ _
theorem at_old {W : World} (o : Obj) {B : Nat} {x : Obj} (h : W.heap[B]? = some x) : (W.alloc o).heap[B]? = some x := (heap_alloc_old W o (lt_block h)).trans h
theorem at_drew {W : World} {B : Nat} {x : Obj} (h : W.heap[B]? = some x) : W.drew.heap[B]? = some x := h
theorem at_below {W W' : World} {B : Nat} {x : Obj} (hb : Below W.heap.size W W') (h : W.heap[B]? = some x) : W'.heap[B]? = some x := (hb.block B (lt_block h)).trans h
theorem up_new {W : World} {A : Option Addr} {n c : Nat} {xs : List Rc} (o : Obj) (h : Recs W A n c xs) : Recs (W.alloc o) A n c xs := h.below RRc.stays (below_new _ _)
theorem up_drew {W : World} {A : Option Addr} {n c : Nat} {xs : List Rc} (h : Recs W A n c xs) : Recs W.drew A n c xs := h.below RRc.stays ((Below.refl _ _).drew)
theorem up_below {W W' : World} {A : Option Addr} {n c : Nat} {xs : List Rc} (hb : Below W.heap.size W W') (h : Recs W A n c xs) : Recs W' A n c xs := h.below RRc.stays hb
theorem cmp_gives (x y : Rc) (w : World) : Calls Try.prog 19 #[.agg #[.int .i64 x.1, .int .i64 x.2], .agg #[.int .i64 y.1, .int .i64 y.2]] w (Gives (.int .i64 (cfR x y)) w) :=
  (cmp_any x y w).mono fun _ _ ⟨he, q, os, hw⟩ => ⟨he, by rw [hw]; exact grow_below _ _ _⟩
theorem lit1 : LS [(1, 5), (1, 5), (2, 0)] [(1, 5)] = some [(1, 5), (2, 0)] := by
  unfold LS
  rw [← sortR_of (xs := [(1, 5), (1, 5), (2, 0)]) (ys := [(1, 5), (1, 5), (2, 0)]) (List.Perm.refl _) (by simp only [leR_iff]; decide)]
  decide
theorem lit2 : LS [(1, 5)] [(2, 0)] = none := by
  unfold LS
  rw [← sortR_of (xs := [(1, 5)]) (ys := [(1, 5)]) (List.Perm.refl _) (by simp)]
  decide
theorem lit3 : sortR [(2, 1), (1, 5), (2, 0), (1, 5)] = [(1, 5), (1, 5), (2, 0), (2, 1)] := (sortR_of (by decide) (by simp only [leR_iff]; decide)).symm
theorem lit4 : sortR [(1, 5), (2, 0)] = sortR [(2, 0), (1, 5)] := sortR_congr.2 (by decide)
theorem lit5 : sortR [(1, 5)] ≠ sortR [(1, 5), (1, 5)] := fun h => by have := congrArg List.length h; rw [sortR_length, sortR_length] at this; simp at this
/-- Six cells. -/
structure Six (H0 H1 H2 : Nat) (W : World) : Prop where
  a0 : W.cell? ⟨H0, 0, none⟩ = some (.int .i64 1)
  a1 : W.cell? ⟨H0, 1, none⟩ = some (.int .i64 5)
  b0 : W.cell? ⟨H1, 0, none⟩ = some (.int .i64 2)
  b1 : W.cell? ⟨H1, 1, none⟩ = some (.int .i64 0)
  c0 : W.cell? ⟨H2, 0, none⟩ = some (.int .i64 2)
  c1 : W.cell? ⟨H2, 1, none⟩ = some (.int .i64 1)
theorem Six.below {H0 H1 H2 : Nat} {W W' : World} (h : Six H0 H1 H2 W) (hb : Below W.heap.size W W') : Six H0 H1 H2 W' :=
  ⟨below_cell hb h.a0, below_cell hb h.a1, below_cell hb h.b0, below_cell hb h.b1, below_cell hb h.c0, below_cell hb h.c1⟩
theorem region_start {P : Program} {ops : Array Oper} {Q : Exit → Act → World → Prop} {S : World → Prop} {id : Nat} {a : Act} {w : World} (n : Nat) (L : Array Bool) (hn : ops.size = n) (hL : Array.replicate ops.size false = L) (hm : P.follows .mixedOrders = true) (hS : S w.drew)
    (h : wpAnyH P .any ops Q S n L a w.drew) : (Code.region id ops true).wp P Q a w := wp_region_held_drew (S := S) hm hS (fun _ => by rw [hn, ← hn, hL, hn]; exact h)
theorem region_stage {P : Program} {md : Region.Mode} {ops : Array Oper} {Q : Exit → Act → World → Prop} {S : World → Prop} {f : Nat} {l : Array Bool} {a : Act} {w : World} (f' : Nat) (L : Array Bool) (Φ : Act → World → Prop)
    (tail : ∀ a w, Φ a w → S w → wpAnyH P md ops Q S f' L a w) (h : Hid (∀ a w, Φ a w → S w → wpAnyH P md ops Q S f' L a w) → wpAnyH P md ops Q S f l a w) : wpAnyH P md ops Q S f l a w := h (Lib.hid tail)
set_option maxRecDepth 100000 in
set_option maxHeartbeats 32000000 in
theorem works_any (w : World) : Calls Try.prog 9 #[] w (Gives (.bool true) w) := by
  go_enter Try.func9, Try.ntmps9
  have L1 := Lib.hid (fun W A A' c c' hX hY => less_any A A' 3 c 1 c' [(1, 5), (1, 5), (2, 0)] [(1, 5)] W hX hY (by omega) (by omega))
  rw [lit1] at L1
  have L2 := Lib.hid (fun W A A' c c' hX hY => less_any A A' 1 c 1 c' [(1, 5)] [(2, 0)] W hX hY (by omega) (by omega))
  rw [lit2] at L2
  have C34 := Lib.hid (fun W A c hX => sorted_any A 4 c [(2, 1), (1, 5), (2, 0), (1, 5)] W hX (by omega))
  rw [lit3] at C34
  have C48 := Lib.hid (fun W A A' c c' hX hY => same_any A A' 2 c 2 c' [(1, 5), (2, 0)] [(2, 0), (1, 5)] W hX hY (by omega) (by omega))
  rw [decide_eq_true lit4] at C48
  have C56 := Lib.hid (fun W A A' c c' hX hY => same_any A A' 1 c 2 c' [(1, 5)] [(1, 5), (1, 5)] W hX hY (by omega) (by omega))
  rw [decide_eq_false lit5] at C56
  have C40 := Lib.hid (fun W A A' c c' hX hY => alike_any A A' 4 c 4 c' [(1, 5), (1, 5), (2, 0), (2, 1)] [(1, 5), (1, 5), (2, 0), (2, 1)] W hX hY)
  rw [decide_eq_true rfl] at C40
  have C67 := Lib.hid (fun W A A' c c' hX hY => alike_any A A' 2 c 2 c' [(1, 5), (2, 0)] [(1, 5), (2, 0)] W hX hY)
  rw [decide_eq_true rfl] at C67
  have C82 := Lib.hid (fun W A c hX => put_any A 1 c [(1, 5)] W hX (by omega))
  have C76 := Lib.hid (cmp_gives (1, 5) (2, 0))
  rw [show cfR (1, 5) (2, 0) = -1 by decide] at C76
  go_wp2_with fail
  refine (L1.out _ _ _ _ _ (recs_lit [(1, 5), (1, 5), (2, 0)] rfl (by decide) (by repeat (first | ((with_reducible refine at_new _ _ _ _ ?_ ?_); (first | with_reducible rfl | (focus (simp; done))); rfl) | with_reducible refine at_old _ ?_ | with_reducible refine at_drew ?_ | with_reducible refine at_below (by assumption) ?_))) (recs_lit [(1, 5)] rfl (by decide) (by repeat (first | ((with_reducible refine at_new _ _ _ _ ?_ ?_); (first | with_reducible rfl | (focus (simp; done))); rfl) | with_reducible refine at_old _ ?_ | with_reducible refine at_drew ?_ | with_reducible refine at_below (by assumption) ?_)))).mono ?_
  rintro e w1 ⟨v1, rfl, ho1, hb1⟩
  have X1 : Hid (Blk w1 w.heap.size [.int .i64 1, .int .i64 5] 32) := Lib.hid ⟨(hb1.block w.heap.size (by simp <;> omega)).trans (by repeat (first | ((with_reducible refine at_new _ _ _ _ ?_ ?_); (first | with_reducible rfl | (focus (simp; done))); rfl) | with_reducible refine at_old _ ?_ | with_reducible refine at_drew ?_ | with_reducible refine at_below (by assumption) ?_))⟩
  have X2 : Hid (Blk w1 (w.heap.size + 1) [.int .i64 2, .int .i64 0] 32) := Lib.hid ⟨(hb1.block (w.heap.size + 1) (by simp <;> omega)).trans (by repeat (first | ((with_reducible refine at_new _ _ _ _ ?_ ?_); (first | with_reducible rfl | (focus (simp; done))); rfl) | with_reducible refine at_old _ ?_ | with_reducible refine at_drew ?_ | with_reducible refine at_below (by assumption) ?_))⟩
  have X3 : Hid (Blk w1 (w.heap.size + 1 + 1) [.int .i64 2, .int .i64 1] 32) := Lib.hid ⟨(hb1.block (w.heap.size + 1 + 1) (by simp <;> omega)).trans (by repeat (first | ((with_reducible refine at_new _ _ _ _ ?_ ?_); (first | with_reducible rfl | (focus (simp; done))); rfl) | with_reducible refine at_old _ ?_ | with_reducible refine at_drew ?_ | with_reducible refine at_below (by assumption) ?_))⟩
  have HB1 := Lib.hid (below_then (below_alloc (below_alloc (below_alloc (below_alloc (below_new w _) _) _) _) _) hb1)
  obtain ⟨A1, c1, ev, hr1⟩ := own_recs (n := 2) ho1 (by decide)
  subst ev
  have R1 := Lib.hid (show Recs w1 A1 2 c1 [(1, 5), (2, 0)] from hr1)
  clear ho1 hb1 hr1 L1
  generalize w.heap.size + 1 = H1 at *
  generalize H1 + 1 = H2 at *
  have l0 : w1.cell? ⟨w.heap.size, 0, none⟩ = some (.int .i64 1) := X1.out.cell 0
  have l1 : w1.cell? ⟨w.heap.size, 1, none⟩ = some (.int .i64 5) := X1.out.cell 1
  have l2 : w1.cell? ⟨H1, 0, none⟩ = some (.int .i64 2) := X2.out.cell 0
  have l3 : w1.cell? ⟨H1, 1, none⟩ = some (.int .i64 0) := X2.out.cell 1
  have l2' := fun o => below_cell (below_new w1 o) l2
  have l3' := fun o => below_cell (below_new w1 o) l3
  go_wp2_with fail
  refine (L2.out _ _ _ _ _ ?_ ?_).mono ?_
  · as_aux_lemma => exact recs_lit [(1, 5)] rfl (by decide) (by repeat (first | ((with_reducible refine at_new _ _ _ _ ?_ ?_); (first | with_reducible rfl | (focus (simp; done))); rfl) | with_reducible refine at_old _ ?_ | with_reducible refine at_drew ?_ | with_reducible refine at_below (by assumption) ?_))
  · as_aux_lemma => exact recs_lit [(2, 0)] rfl (by decide) (by repeat (first | ((with_reducible refine at_new _ _ _ _ ?_ ?_); (first | with_reducible rfl | (focus (simp; done))); rfl) | with_reducible refine at_old _ ?_ | with_reducible refine at_drew ?_ | with_reducible refine at_below (by assumption) ?_))
  rintro e w2 ⟨v2, rfl, ho2, hb2⟩
  have hb := below_then (below_alloc (below_new w1 _) _) hb2
  have Y1 := Lib.hid (X1.out.then hb)
  have Y2 := Lib.hid (X2.out.then hb)
  have Y3 := Lib.hid (X3.out.then hb)
  have R2 := Lib.hid (R1.out.below RRc.stays hb)
  have HB2 := Lib.hid (below_then HB1.out hb)
  clear ho2 hb2 hb L2 l0 l1 l2 l3 l2' l3' X1 X2 X3 R1 HB1
  have R2 := R2.out
  have p0 : w2.cell? ⟨w.heap.size, 0, none⟩ = some (.int .i64 1) := Y1.out.cell 0
  have p1 : w2.cell? ⟨w.heap.size, 1, none⟩ = some (.int .i64 5) := Y1.out.cell 1
  have q0 : w2.cell? ⟨H1, 0, none⟩ = some (.int .i64 2) := Y2.out.cell 0
  have q1 : w2.cell? ⟨H1, 1, none⟩ = some (.int .i64 0) := Y2.out.cell 1
  have r0 : w2.cell? ⟨H2, 0, none⟩ = some (.int .i64 2) := Y3.out.cell 0
  have r1 : w2.cell? ⟨H2, 1, none⟩ = some (.int .i64 1) := Y3.out.cell 1
  clear Y1 Y2 Y3
  go_wp2_with fail
  refine region_start (S := (Six w.heap.size H1 H2)) 58 #[false, false, false, false, false, false, false, false, false, false, false, false, false, false, false, false, false, false, false, false, false, false, false, false, false, false, false, false, false, false, false, false, false, false, false, false, false, false, false, false, false, false, false, false, false, false, false, false, false, false, false, false, false, false, false, false, false, false] (by kernel_rfl) (by kernel_rfl) (by kernel_rfl) (Six.below ⟨p0, p1, q0, q1, r0, r1⟩ ((Below.refl _ _).drew)) ?_
  have hH := Lib.hid (show Six w.heap.size H1 H2 w2.drew from Six.below ⟨p0, p1, q0, q1, r0, r1⟩ ((Below.refl _ _).drew))
  have HB3 := HB2.out
  clear p0 p1 q0 q1 r0 r1 HB2
  refine region_stage 47 #[true, true, true, true, true, true, true, true, true, true, true, false, false, false, false, false, false, false, false, false, false, false, false, false, false, false, false, false, false, false, false, false, false, false, false, false, false, false, false, false, false, false, false, false, false, false, false, false, false, false, false, false, false, false, false, false, false, false] (fun a W => ∃ (v33 : Value) (A3 : Option Addr) (c3 B39 : Nat), a = ({ tmps := #[Value.bool false, Value.pointer (some { block := w.heap.size, off := 0 }), Value.pointer (some { block := H1, off := 0 }), Value.pointer (some { block := H2, off := 0 }), Value.slice A1 2 c1, Value.bool true, v2, Value.bool false, Value.agg #[Value.int IntKind.i64 1, Value.int IntKind.i64 5], Value.agg #[Value.int IntKind.i64 2, Value.int IntKind.i64 0], Value.agg #[Value.int IntKind.i64 2, Value.int IntKind.i64 1], Value.tuple #[Value.slice A1 2 c1, Value.bool true], Value.agg #[Value.int IntKind.i64 1, Value.int IntKind.i64 5], Value.agg #[Value.int IntKind.i64 1, Value.int IntKind.i64 5], Value.agg #[Value.int IntKind.i64 2, Value.int IntKind.i64 0], Value.slice (some { block := H2 + 1, off := 0 }) 3 3, Value.agg #[Value.int IntKind.i64 1, Value.int IntKind.i64 5], Value.slice (some { block := H2 + 1 + 1, off := 0 }) 1 1, Value.tuple #[Value.slice A1 2 c1, Value.bool true], Value.slice A1 2 c1, Value.bool true, Value.tuple #[v2, Value.bool false], Value.agg #[Value.int IntKind.i64 1, Value.int IntKind.i64 5], Value.slice (some { block := w1.heap.size, off := 0 }) 1 1, Value.agg #[Value.int IntKind.i64 2, Value.int IntKind.i64 0], Value.slice (some { block := w1.heap.size + 1, off := 0 }) 1 1, Value.tuple #[v2, Value.bool false], v2, Value.bool false, Value.agg #[Value.int IntKind.i64 2, Value.int IntKind.i64 1], Value.agg #[Value.int IntKind.i64 1, Value.int IntKind.i64 5], Value.agg #[Value.int IntKind.i64 2, Value.int IntKind.i64 0], Value.agg #[Value.int IntKind.i64 1, Value.int IntKind.i64 5], v33, Value.slice A3 4 c3, Value.agg #[Value.int IntKind.i64 1, Value.int IntKind.i64 5], Value.agg #[Value.int IntKind.i64 1, Value.int IntKind.i64 5], Value.agg #[Value.int IntKind.i64 2, Value.int IntKind.i64 0], Value.agg #[Value.int IntKind.i64 2, Value.int IntKind.i64 1], Value.slice (some { block := B39, off := 0 }) 4 4, undef, undef, undef, undef, undef, undef, undef, undef, undef, undef, undef, undef, undef, undef, undef, undef, undef, undef, undef, undef, undef, undef, undef, undef, undef, undef, undef, undef, undef, undef, undef, undef, undef, undef, undef, undef, undef, undef, undef, undef, undef, undef, undef, undef, undef, undef], defers := [] } : Act) ∧ Recs W A3 4 c3 [(1, 5), (1, 5), (2, 0), (2, 1)] ∧ Recs W (some ⟨B39, 0, none⟩) 4 4 [(1, 5), (1, 5), (2, 0), (2, 1)] ∧ Recs W A1 2 c1 [(1, 5), (2, 0)] ∧ Below w.heap.size w W) ?_ (fun TAIL => ?_)
  · as_aux_lemma =>
    rintro a W ⟨v33, A3, c3, B39, rfl, R3, R39, R1, HBW⟩ hS
    clear R2 HB3 hH
    have hH := Lib.hid hS
    clear hS
    refine wpAnyH_ready (rs := [11]) (by kernel_rfl) (by simp) ?_
    refine AllReadyH.cons (o := ⟨_, _, _, _, _, _⟩) rfl (fun K hK => ?_) AllReadyH.nil
    go_simp
    refine (C40.out _ _ _ _ _ ?_ ?_).mono ?_
    · as_aux_lemma => exact R3
    · as_aux_lemma => exact R39
    rintro e w4 ⟨rfl, hbq⟩
    refine hK.out _ _ (hH.out.below hbq) (fun hS => ?_)
    clear hH
    have hH := Lib.hid hS
    clear hS hK K
    simp only [Act.put, List.setIfInBounds_toArray, List.set_cons_zero, List.set_cons_succ]
    have R1 := up_below hbq R1
    have HBW := below_then HBW hbq
    clear R3 R39 hbq
    refine region_stage 39 #[true, true, true, true, true, true, true, true, true, true, true, true, true, true, true, true, true, true, true, false, false, false, false, false, false, false, false, false, false, false, false, false, false, false, false, false, false, false, false, false, false, false, false, false, false, false, false, false, false, false, false, false, false, false, false, false, false, false] (fun a W => ∃ (B44 B47 : Nat), a = ({ tmps := #[Value.bool false, Value.pointer (some { block := w.heap.size, off := 0 }), Value.pointer (some { block := H1, off := 0 }), Value.pointer (some { block := H2, off := 0 }), Value.slice A1 2 c1, Value.bool true, v2, Value.bool false, Value.agg #[Value.int IntKind.i64 1, Value.int IntKind.i64 5], Value.agg #[Value.int IntKind.i64 2, Value.int IntKind.i64 0], Value.agg #[Value.int IntKind.i64 2, Value.int IntKind.i64 1], Value.tuple #[Value.slice A1 2 c1, Value.bool true], Value.agg #[Value.int IntKind.i64 1, Value.int IntKind.i64 5], Value.agg #[Value.int IntKind.i64 1, Value.int IntKind.i64 5], Value.agg #[Value.int IntKind.i64 2, Value.int IntKind.i64 0], Value.slice (some { block := H2 + 1, off := 0 }) 3 3, Value.agg #[Value.int IntKind.i64 1, Value.int IntKind.i64 5], Value.slice (some { block := H2 + 1 + 1, off := 0 }) 1 1, Value.tuple #[Value.slice A1 2 c1, Value.bool true], Value.slice A1 2 c1, Value.bool true, Value.tuple #[v2, Value.bool false], Value.agg #[Value.int IntKind.i64 1, Value.int IntKind.i64 5], Value.slice (some { block := w1.heap.size, off := 0 }) 1 1, Value.agg #[Value.int IntKind.i64 2, Value.int IntKind.i64 0], Value.slice (some { block := w1.heap.size + 1, off := 0 }) 1 1, Value.tuple #[v2, Value.bool false], v2, Value.bool false, Value.agg #[Value.int IntKind.i64 2, Value.int IntKind.i64 1], Value.agg #[Value.int IntKind.i64 1, Value.int IntKind.i64 5], Value.agg #[Value.int IntKind.i64 2, Value.int IntKind.i64 0], Value.agg #[Value.int IntKind.i64 1, Value.int IntKind.i64 5], v33, Value.slice A3 4 c3, Value.agg #[Value.int IntKind.i64 1, Value.int IntKind.i64 5], Value.agg #[Value.int IntKind.i64 1, Value.int IntKind.i64 5], Value.agg #[Value.int IntKind.i64 2, Value.int IntKind.i64 0], Value.agg #[Value.int IntKind.i64 2, Value.int IntKind.i64 1], Value.slice (some { block := B39, off := 0 }) 4 4, Value.bool true, Value.bool true, Value.agg #[Value.int IntKind.i64 1, Value.int IntKind.i64 5], Value.agg #[Value.int IntKind.i64 2, Value.int IntKind.i64 0], Value.slice (some { block := B44, off := 0 }) 2 2, Value.agg #[Value.int IntKind.i64 2, Value.int IntKind.i64 0], Value.agg #[Value.int IntKind.i64 1, Value.int IntKind.i64 5], Value.slice (some { block := B47, off := 0 }) 2 2, undef, undef, undef, undef, undef, undef, undef, undef, undef, undef, undef, undef, undef, undef, undef, undef, undef, undef, undef, undef, undef, undef, undef, undef, undef, undef, undef, undef, undef, undef, undef, undef, undef, undef, undef, undef, undef, undef], defers := [] } : Act) ∧ Recs W (some ⟨B44, 0, none⟩) 2 2 [(1, 5), (2, 0)] ∧ Recs W (some ⟨B47, 0, none⟩) 2 2 [(2, 0), (1, 5)] ∧ Recs W A1 2 c1 [(1, 5), (2, 0)] ∧ Below w.heap.size w W) ?_ (fun TAIL => ?_)
    · as_aux_lemma =>
      rintro a W ⟨B44, B47, rfl, R44, R47, R1', HBW'⟩ hS
      clear R1 HBW hH
      have hH := Lib.hid hS
      clear hS
      refine wpAnyH_ready (rs := [19]) (by kernel_rfl) (by simp) ?_
      refine AllReadyH.cons (o := ⟨_, _, _, _, _, _⟩) rfl (fun K hK => ?_) AllReadyH.nil
      go_simp
      refine (C48.out _ _ _ _ _ ?_ ?_).mono ?_
      · as_aux_lemma => exact R44
      · as_aux_lemma => exact R47
      rintro e w5 ⟨rfl, hbq⟩
      refine hK.out _ _ (hH.out.below hbq) (fun hS => ?_)
      clear hH
      have hH := Lib.hid hS
      clear hS hK K
      simp only [Act.put, List.setIfInBounds_toArray, List.set_cons_zero, List.set_cons_succ]
      have R1 := up_below hbq R1'
      have HBW := below_then HBW' hbq
      clear R44 R47 hbq R1' HBW'
      refine region_stage 31 #[true, true, true, true, true, true, true, true, true, true, true, true, true, true, true, true, true, true, true, true, true, true, true, true, true, true, true, false, false, false, false, false, false, false, false, false, false, false, false, false, false, false, false, false, false, false, false, false, false, false, false, false, false, false, false, false, false, false] (fun a W => ∃ (B52 B55 : Nat), a = ({ tmps := #[Value.bool false, Value.pointer (some { block := w.heap.size, off := 0 }), Value.pointer (some { block := H1, off := 0 }), Value.pointer (some { block := H2, off := 0 }), Value.slice A1 2 c1, Value.bool true, v2, Value.bool false, Value.agg #[Value.int IntKind.i64 1, Value.int IntKind.i64 5], Value.agg #[Value.int IntKind.i64 2, Value.int IntKind.i64 0], Value.agg #[Value.int IntKind.i64 2, Value.int IntKind.i64 1], Value.tuple #[Value.slice A1 2 c1, Value.bool true], Value.agg #[Value.int IntKind.i64 1, Value.int IntKind.i64 5], Value.agg #[Value.int IntKind.i64 1, Value.int IntKind.i64 5], Value.agg #[Value.int IntKind.i64 2, Value.int IntKind.i64 0], Value.slice (some { block := H2 + 1, off := 0 }) 3 3, Value.agg #[Value.int IntKind.i64 1, Value.int IntKind.i64 5], Value.slice (some { block := H2 + 1 + 1, off := 0 }) 1 1, Value.tuple #[Value.slice A1 2 c1, Value.bool true], Value.slice A1 2 c1, Value.bool true, Value.tuple #[v2, Value.bool false], Value.agg #[Value.int IntKind.i64 1, Value.int IntKind.i64 5], Value.slice (some { block := w1.heap.size, off := 0 }) 1 1, Value.agg #[Value.int IntKind.i64 2, Value.int IntKind.i64 0], Value.slice (some { block := w1.heap.size + 1, off := 0 }) 1 1, Value.tuple #[v2, Value.bool false], v2, Value.bool false, Value.agg #[Value.int IntKind.i64 2, Value.int IntKind.i64 1], Value.agg #[Value.int IntKind.i64 1, Value.int IntKind.i64 5], Value.agg #[Value.int IntKind.i64 2, Value.int IntKind.i64 0], Value.agg #[Value.int IntKind.i64 1, Value.int IntKind.i64 5], v33, Value.slice A3 4 c3, Value.agg #[Value.int IntKind.i64 1, Value.int IntKind.i64 5], Value.agg #[Value.int IntKind.i64 1, Value.int IntKind.i64 5], Value.agg #[Value.int IntKind.i64 2, Value.int IntKind.i64 0], Value.agg #[Value.int IntKind.i64 2, Value.int IntKind.i64 1], Value.slice (some { block := B39, off := 0 }) 4 4, Value.bool true, Value.bool true, Value.agg #[Value.int IntKind.i64 1, Value.int IntKind.i64 5], Value.agg #[Value.int IntKind.i64 2, Value.int IntKind.i64 0], Value.slice (some { block := B44, off := 0 }) 2 2, Value.agg #[Value.int IntKind.i64 2, Value.int IntKind.i64 0], Value.agg #[Value.int IntKind.i64 1, Value.int IntKind.i64 5], Value.slice (some { block := B47, off := 0 }) 2 2, Value.bool true, Value.bool true, Value.bool true, Value.agg #[Value.int IntKind.i64 1, Value.int IntKind.i64 5], Value.slice (some { block := B52, off := 0 }) 1 1, Value.agg #[Value.int IntKind.i64 1, Value.int IntKind.i64 5], Value.agg #[Value.int IntKind.i64 1, Value.int IntKind.i64 5], Value.slice (some { block := B55, off := 0 }) 2 2, undef, undef, undef, undef, undef, undef, undef, undef, undef, undef, undef, undef, undef, undef, undef, undef, undef, undef, undef, undef, undef, undef, undef, undef, undef, undef, undef, undef, undef, undef], defers := [] } : Act) ∧ Recs W (some ⟨B52, 0, none⟩) 1 1 [(1, 5)] ∧ Recs W (some ⟨B55, 0, none⟩) 2 2 [(1, 5), (1, 5)] ∧ Recs W A1 2 c1 [(1, 5), (2, 0)] ∧ Below w.heap.size w W) ?_ (fun TAIL => ?_)
      · as_aux_lemma =>
        rintro a W ⟨B52, B55, rfl, R52, R55, R1', HBW'⟩ hS
        clear R1 HBW hH
        have hH := Lib.hid hS
        clear hS
        refine wpAnyH_ready (rs := [27]) (by kernel_rfl) (by simp) ?_
        refine AllReadyH.cons (o := ⟨_, _, _, _, _, _⟩) rfl (fun K hK => ?_) AllReadyH.nil
        go_simp
        refine (C56.out _ _ _ _ _ ?_ ?_).mono ?_
        · as_aux_lemma => exact R52
        · as_aux_lemma => exact R55
        rintro e w6 ⟨rfl, hbq⟩
        refine hK.out _ _ (hH.out.below hbq) (fun hS => ?_)
        clear hH
        have hH := Lib.hid hS
        clear hS hK K
        simp only [Act.put, List.setIfInBounds_toArray, List.set_cons_zero, List.set_cons_succ]
        have R1 := up_below hbq R1'
        have HBW := below_then HBW' hbq
        clear R52 R55 hbq R1' HBW'
        refine wpAnyH_take (i := 28) (oi := ⟨_, _, _, _, _, _⟩) (v := ?_) rfl (by kernel_rfl) (by kernel_rfl) (by kernel_rfl) (fun _ _ _ h => h) (Or.inl ⟨by rfl, ?_⟩) hH.out ?_
        rotate_left
        · rintro W ⟨s0, s1, s2, s3, s4, s5⟩
          go_simp
          try with_reducible rfl
        simp only [Act.put, List.setIfInBounds_toArray, List.set_cons_zero, List.set_cons_succ]
        refine wpAnyH_take (i := 29) (oi := ⟨_, _, _, _, _, _⟩) (v := ?_) rfl (by kernel_rfl) (by kernel_rfl) (by kernel_rfl) (fun _ _ _ h => h) (Or.inl ⟨by rfl, ?_⟩) hH.out ?_
        rotate_left
        · rintro W ⟨s0, s1, s2, s3, s4, s5⟩
          go_simp
          try with_reducible rfl
        simp only [Act.put, List.setIfInBounds_toArray, List.set_cons_zero, List.set_cons_succ]
        refine wpAnyH_take (i := 30) (oi := ⟨_, _, _, _, _, _⟩) (v := ?_) rfl (by kernel_rfl) (by kernel_rfl) (by kernel_rfl) (fun _ _ _ h => h) (Or.inl ⟨by rfl, ?_⟩) hH.out ?_
        rotate_left
        · rintro W ⟨s0, s1, s2, s3, s4, s5⟩
          go_simp
          try with_reducible rfl
        simp only [Act.put, List.setIfInBounds_toArray, List.set_cons_zero, List.set_cons_succ]
        refine wpAnyH_take (i := 31) (oi := ⟨_, _, _, _, _, _⟩) (v := ?_) rfl (by kernel_rfl) (by kernel_rfl) (by kernel_rfl) (fun _ _ _ h => h) (Or.inl ⟨by rfl, ?_⟩) hH.out ?_
        rotate_left
        · rintro W ⟨s0, s1, s2, s3, s4, s5⟩
          go_simp
          try with_reducible rfl
        simp only [Act.put, List.setIfInBounds_toArray, List.set_cons_zero, List.set_cons_succ]
        refine wpAnyH_take (i := 32) (oi := ⟨_, _, _, _, _, _⟩) (v := ?_) rfl (by kernel_rfl) (by kernel_rfl) (by kernel_rfl) (fun _ _ _ h => h) (Or.inl ⟨by rfl, ?_⟩) hH.out ?_
        rotate_left
        · rintro W ⟨s0, s1, s2, s3, s4, s5⟩
          go_simp
          try with_reducible rfl
        simp only [Act.put, List.setIfInBounds_toArray, List.set_cons_zero, List.set_cons_succ]
        refine wpAnyH_take (i := 33) (oi := ⟨_, _, _, _, _, _⟩) (v := ?_) rfl (by kernel_rfl) (by kernel_rfl) (by kernel_rfl) (fun _ _ _ h => h) (Or.inl ⟨by rfl, ?_⟩) hH.out ?_
        rotate_left
        · rintro W ⟨s0, s1, s2, s3, s4, s5⟩
          go_simp
          try with_reducible rfl
        simp only [Act.put, List.setIfInBounds_toArray, List.set_cons_zero, List.set_cons_succ]
        refine wpAnyH_take (i := 34) (oi := ⟨_, _, _, _, _, _⟩) (v := ?_) rfl (by kernel_rfl) (by kernel_rfl) (by kernel_rfl) (fun _ _ _ h => h) (Or.inl ⟨by rfl, ?_⟩) hH.out ?_
        rotate_left
        · rintro W ⟨s0, s1, s2, s3, s4, s5⟩
          go_simp
          try with_reducible rfl
        simp only [Act.put, List.setIfInBounds_toArray, List.set_cons_zero, List.set_cons_succ]
        refine wpAnyH_take (i := 35) (oi := ⟨_, _, _, _, _, _⟩) (v := ?_) rfl (by kernel_rfl) (by kernel_rfl) (by kernel_rfl) (fun _ _ _ h => h) (Or.inl ⟨by rfl, ?_⟩) hH.out ?_
        rotate_left
        · rintro W ⟨s0, s1, s2, s3, s4, s5⟩
          go_simp
          try with_reducible rfl
        simp only [Act.put, List.setIfInBounds_toArray, List.set_cons_zero, List.set_cons_succ]
        refine wpAnyH_take (i := 36) (oi := ⟨_, _, _, _, _, _⟩) (v := ?_) rfl (by kernel_rfl) (by kernel_rfl) (by kernel_rfl) (fun _ _ _ h => h) (Or.inl ⟨by rfl, ?_⟩) hH.out ?_
        rotate_left
        · rintro W ⟨s0, s1, s2, s3, s4, s5⟩
          go_simp
          try with_reducible rfl
        simp only [Act.put, List.setIfInBounds_toArray, List.set_cons_zero, List.set_cons_succ]
        refine wpAnyH_ready (rs := [37]) (by kernel_rfl) (by simp) ?_
        refine AllReadyH.cons (o := ⟨_, _, _, _, _, _⟩) rfl (fun K hK => ?_) AllReadyH.nil
        go_simp
        refine hK.out _ _ (hH.out.below (below_new _ _)) (fun hS => ?_)
        clear hH
        have hH := Lib.hid hS
        clear hS hK K
        simp only [Act.put, List.setIfInBounds_toArray, List.set_cons_zero, List.set_cons_succ]
        refine wpAnyH_ready (rs := [38]) (by kernel_rfl) (by simp) ?_
        refine AllReadyH.cons (o := ⟨_, _, _, _, _, _⟩) rfl (fun K hK => ?_) AllReadyH.nil
        go_simp
        refine (C67.out _ _ _ _ _ ?_ ?_).mono ?_
        · as_aux_lemma => exact (by repeat (first | with_reducible assumption | with_reducible refine up_new _ ?_ | with_reducible refine up_drew ?_ | with_reducible refine up_below (by assumption) ?_))
        · as_aux_lemma => exact recs_lit [(1, 5), (2, 0)] rfl (by decide) (by repeat (first | ((with_reducible refine at_new _ _ _ _ ?_ ?_); (first | with_reducible rfl | (focus (simp; done))); rfl) | with_reducible refine at_old _ ?_ | with_reducible refine at_drew ?_ | with_reducible refine at_below (by assumption) ?_))
        rintro e w7 ⟨rfl, hbq⟩
        refine hK.out _ _ (hH.out.below hbq) (fun hS => ?_)
        clear hH
        have hH := Lib.hid hS
        clear hS hK K
        simp only [Act.put, List.setIfInBounds_toArray, List.set_cons_zero, List.set_cons_succ]
        have HBW := below_then (below_alloc HBW _) hbq
        clear R1 hbq
        refine wpAnyH_take (i := 39) (oi := ⟨_, _, _, _, _, _⟩) (v := ?_) rfl (by kernel_rfl) (by kernel_rfl) (by kernel_rfl) (fun _ _ _ h => h) (Or.inl ⟨by rfl, ?_⟩) hH.out ?_
        rotate_left
        · rintro W ⟨s0, s1, s2, s3, s4, s5⟩
          go_simp
          try with_reducible rfl
        simp only [Act.put, List.setIfInBounds_toArray, List.set_cons_zero, List.set_cons_succ]
        refine wpAnyH_take (i := 40) (oi := ⟨_, _, _, _, _, _⟩) (v := ?_) rfl (by kernel_rfl) (by kernel_rfl) (by kernel_rfl) (fun _ _ _ h => h) (Or.inl ⟨by rfl, ?_⟩) hH.out ?_
        rotate_left
        · rintro W ⟨s0, s1, s2, s3, s4, s5⟩
          go_simp
          try with_reducible rfl
        simp only [Act.put, List.setIfInBounds_toArray, List.set_cons_zero, List.set_cons_succ]
        refine wpAnyH_take (i := 41) (oi := ⟨_, _, _, _, _, _⟩) (v := ?_) rfl (by kernel_rfl) (by kernel_rfl) (by kernel_rfl) (fun _ _ _ h => h) (Or.inl ⟨by rfl, ?_⟩) hH.out ?_
        rotate_left
        · rintro W ⟨s0, s1, s2, s3, s4, s5⟩
          go_simp
          try with_reducible rfl
        simp only [Act.put, List.setIfInBounds_toArray, List.set_cons_zero, List.set_cons_succ]
        refine wpAnyH_take (i := 42) (oi := ⟨_, _, _, _, _, _⟩) (v := ?_) rfl (by kernel_rfl) (by kernel_rfl) (by kernel_rfl) (fun _ _ _ h => h) (Or.inl ⟨by rfl, ?_⟩) hH.out ?_
        rotate_left
        · rintro W ⟨s0, s1, s2, s3, s4, s5⟩
          go_simp
          try with_reducible rfl
        simp only [Act.put, List.setIfInBounds_toArray, List.set_cons_zero, List.set_cons_succ]
        refine wpAnyH_take (i := 43) (oi := ⟨_, _, _, _, _, _⟩) (v := ?_) rfl (by kernel_rfl) (by kernel_rfl) (by kernel_rfl) (fun _ _ _ h => h) (Or.inl ⟨by rfl, ?_⟩) hH.out ?_
        rotate_left
        · rintro W ⟨s0, s1, s2, s3, s4, s5⟩
          go_simp
          try with_reducible rfl
        simp only [Act.put, List.setIfInBounds_toArray, List.set_cons_zero, List.set_cons_succ]
        refine wpAnyH_take (i := 44) (oi := ⟨_, _, _, _, _, _⟩) (v := ?_) rfl (by kernel_rfl) (by kernel_rfl) (by kernel_rfl) (fun _ _ _ h => h) (Or.inl ⟨by rfl, ?_⟩) hH.out ?_
        rotate_left
        · rintro W ⟨s0, s1, s2, s3, s4, s5⟩
          go_simp
          try with_reducible rfl
        simp only [Act.put, List.setIfInBounds_toArray, List.set_cons_zero, List.set_cons_succ]
        refine wpAnyH_take (i := 45) (oi := ⟨_, _, _, _, _, _⟩) (v := ?_) rfl (by kernel_rfl) (by kernel_rfl) (by kernel_rfl) (fun _ _ _ h => h) (Or.inl ⟨by rfl, ?_⟩) hH.out ?_
        rotate_left
        · rintro W ⟨s0, s1, s2, s3, s4, s5⟩
          go_simp
          try with_reducible rfl
        simp only [Act.put, List.setIfInBounds_toArray, List.set_cons_zero, List.set_cons_succ]
        refine wpAnyH_take (i := 46) (oi := ⟨_, _, _, _, _, _⟩) (v := ?_) rfl (by kernel_rfl) (by kernel_rfl) (by kernel_rfl) (fun _ _ _ h => h) (Or.inl ⟨by rfl, ?_⟩) hH.out ?_
        rotate_left
        · rintro W ⟨s0, s1, s2, s3, s4, s5⟩
          go_simp
          try with_reducible rfl
        simp only [Act.put, List.setIfInBounds_toArray, List.set_cons_zero, List.set_cons_succ]
        refine wpAnyH_ready (rs := [47]) (by kernel_rfl) (by simp) ?_
        refine AllReadyH.cons (o := ⟨_, _, _, _, _, _⟩) rfl (fun K hK => ?_) AllReadyH.nil
        go_simp
        refine (C76.out _).mono ?_
        rintro e w8 ⟨rfl, hbq⟩
        refine hK.out _ _ (hH.out.below hbq) (fun hS => ?_)
        clear hH
        have hH := Lib.hid hS
        clear hS hK K
        simp only [Act.put, List.setIfInBounds_toArray, List.set_cons_zero, List.set_cons_succ]
        have HBW := below_then HBW hbq
        clear hbq
        refine wpAnyH_take (i := 48) (oi := ⟨_, _, _, _, _, _⟩) (v := ?_) rfl (by kernel_rfl) (by kernel_rfl) (by kernel_rfl) (fun _ _ _ h => h) (Or.inl ⟨by rfl, ?_⟩) hH.out ?_
        rotate_left
        · rintro W ⟨s0, s1, s2, s3, s4, s5⟩
          go_simp
          try with_reducible rfl
        simp only [Act.put, List.setIfInBounds_toArray, List.set_cons_zero, List.set_cons_succ]
        refine wpAnyH_take (i := 49) (oi := ⟨_, _, _, _, _, _⟩) (v := ?_) rfl (by kernel_rfl) (by kernel_rfl) (by kernel_rfl) (fun _ _ _ h => h) (Or.inl ⟨by rfl, ?_⟩) hH.out ?_
        rotate_left
        · rintro W ⟨s0, s1, s2, s3, s4, s5⟩
          go_simp
          try with_reducible rfl
        simp only [Act.put, List.setIfInBounds_toArray, List.set_cons_zero, List.set_cons_succ]
        refine wpAnyH_take (i := 50) (oi := ⟨_, _, _, _, _, _⟩) (v := ?_) rfl (by kernel_rfl) (by kernel_rfl) (by kernel_rfl) (fun _ _ _ h => h) (Or.inl ⟨by rfl, ?_⟩) hH.out ?_
        rotate_left
        · rintro W ⟨s0, s1, s2, s3, s4, s5⟩
          go_simp
          try with_reducible rfl
        simp only [Act.put, List.setIfInBounds_toArray, List.set_cons_zero, List.set_cons_succ]
        refine wpAnyH_take (i := 51) (oi := ⟨_, _, _, _, _, _⟩) (v := ?_) rfl (by kernel_rfl) (by kernel_rfl) (by kernel_rfl) (fun _ _ _ h => h) (Or.inl ⟨by rfl, ?_⟩) hH.out ?_
        rotate_left
        · rintro W ⟨s0, s1, s2, s3, s4, s5⟩
          go_simp
          try with_reducible rfl
        simp only [Act.put, List.setIfInBounds_toArray, List.set_cons_zero, List.set_cons_succ]
        refine wpAnyH_ready (rs := [52]) (by kernel_rfl) (by simp) ?_
        refine AllReadyH.cons (o := ⟨_, _, _, _, _, _⟩) rfl (fun K hK => ?_) AllReadyH.nil
        go_simp
        refine hK.out _ _ (hH.out.below (below_new _ _)) (fun hS => ?_)
        clear hH
        have hH := Lib.hid hS
        clear hS hK K
        simp only [Act.put, List.setIfInBounds_toArray, List.set_cons_zero, List.set_cons_succ]
        refine wpAnyH_ready (rs := [53]) (by kernel_rfl) (by simp) ?_
        refine AllReadyH.cons (o := ⟨_, _, _, _, _, _⟩) rfl (fun K hK => ?_) AllReadyH.nil
        go_simp
        refine (C82.out _ _ _ ?_).mono ?_
        · as_aux_lemma => exact recs_lit [(1, 5)] rfl (by decide) (by repeat (first | ((with_reducible refine at_new _ _ _ _ ?_ ?_); (first | with_reducible rfl | (focus (simp; done))); rfl) | with_reducible refine at_old _ ?_ | with_reducible refine at_drew ?_ | with_reducible refine at_below (by assumption) ?_))
        rintro e w9 ⟨v9, rfl, ho, hbq⟩
        obtain ⟨A9, c9, ev, _⟩ := own_bytes (n := 16) ho (by decide)
        subst ev
        refine hK.out _ _ (hH.out.below hbq) (fun hS => ?_)
        clear hH
        have hH := Lib.hid hS
        clear hS hK K
        simp only [Act.put, List.setIfInBounds_toArray, List.set_cons_zero, List.set_cons_succ]
        have HBW := below_then (below_alloc HBW _) hbq
        clear hbq
        refine wpAnyH_ready (rs := [54]) (by kernel_rfl) (by simp) ?_
        refine AllReadyH.cons (o := ⟨_, _, _, _, _, _⟩) rfl (fun K hK => ?_) AllReadyH.nil
        go_simp
        refine hK.out _ _ (hH.out.below (Below.refl _ _)) (fun hS => ?_)
        clear hH
        have hH := Lib.hid hS
        clear hS hK K
        simp only [Act.put, List.setIfInBounds_toArray, List.set_cons_zero, List.set_cons_succ]
        refine wpAnyH_take (i := 55) (oi := ⟨_, _, _, _, _, _⟩) (v := ?_) rfl (by kernel_rfl) (by kernel_rfl) (by kernel_rfl) (fun _ _ _ h => h) (Or.inl ⟨by rfl, ?_⟩) hH.out ?_
        rotate_left
        · rintro W ⟨s0, s1, s2, s3, s4, s5⟩
          go_simp
          try with_reducible rfl
        simp only [Act.put, List.setIfInBounds_toArray, List.set_cons_zero, List.set_cons_succ]
        refine wpAnyH_take (i := 56) (oi := ⟨_, _, _, _, _, _⟩) (v := ?_) rfl (by kernel_rfl) (by kernel_rfl) (by kernel_rfl) (fun _ _ _ h => h) (Or.inl ⟨by rfl, ?_⟩) hH.out ?_
        rotate_left
        · rintro W ⟨s0, s1, s2, s3, s4, s5⟩
          go_simp
          try with_reducible rfl
        simp only [Act.put, List.setIfInBounds_toArray, List.set_cons_zero, List.set_cons_succ]
        refine wpAnyH_take (i := 57) (oi := ⟨_, _, _, _, _, _⟩) (v := ?_) rfl (by kernel_rfl) (by kernel_rfl) (by kernel_rfl) (fun _ _ _ h => h) (Or.inl ⟨by rfl, ?_⟩) hH.out ?_
        rotate_left
        · rintro W ⟨s0, s1, s2, s3, s4, s5⟩
          go_simp
          try with_reducible rfl
        simp only [Act.put, List.setIfInBounds_toArray, List.set_cons_zero, List.set_cons_succ]
        refine wpAnyH_done (by kernel_rfl) ?_ _
        go_wp2_with fail
        go_ret
        exact .bool rfl HBW
      refine wpAnyH_take (i := 20) (oi := ⟨_, _, _, _, _, _⟩) (v := ?_) rfl (by kernel_rfl) (by kernel_rfl) (by kernel_rfl) (fun _ _ _ h => h) (Or.inl ⟨by rfl, ?_⟩) hH.out ?_
      rotate_left
      · rintro W ⟨s0, s1, s2, s3, s4, s5⟩
        go_simp
        try with_reducible rfl
      simp only [Act.put, List.setIfInBounds_toArray, List.set_cons_zero, List.set_cons_succ]
      refine wpAnyH_take (i := 21) (oi := ⟨_, _, _, _, _, _⟩) (v := ?_) rfl (by kernel_rfl) (by kernel_rfl) (by kernel_rfl) (fun _ _ _ h => h) (Or.inl ⟨by rfl, ?_⟩) hH.out ?_
      rotate_left
      · rintro W ⟨s0, s1, s2, s3, s4, s5⟩
        go_simp
        try with_reducible rfl
      simp only [Act.put, List.setIfInBounds_toArray, List.set_cons_zero, List.set_cons_succ]
      refine wpAnyH_take (i := 22) (oi := ⟨_, _, _, _, _, _⟩) (v := ?_) rfl (by kernel_rfl) (by kernel_rfl) (by kernel_rfl) (fun _ _ _ h => h) (Or.inl ⟨by rfl, ?_⟩) hH.out ?_
      rotate_left
      · rintro W ⟨s0, s1, s2, s3, s4, s5⟩
        go_simp
        try with_reducible rfl
      simp only [Act.put, List.setIfInBounds_toArray, List.set_cons_zero, List.set_cons_succ]
      refine wpAnyH_take (i := 24) (oi := ⟨_, _, _, _, _, _⟩) (v := ?_) rfl (by kernel_rfl) (by kernel_rfl) (by kernel_rfl) (fun _ _ _ h => h) (Or.inl ⟨by rfl, ?_⟩) hH.out ?_
      rotate_left
      · rintro W ⟨s0, s1, s2, s3, s4, s5⟩
        go_simp
        try with_reducible rfl
      simp only [Act.put, List.setIfInBounds_toArray, List.set_cons_zero, List.set_cons_succ]
      refine wpAnyH_take (i := 25) (oi := ⟨_, _, _, _, _, _⟩) (v := ?_) rfl (by kernel_rfl) (by kernel_rfl) (by kernel_rfl) (fun _ _ _ h => h) (Or.inl ⟨by rfl, ?_⟩) hH.out ?_
      rotate_left
      · rintro W ⟨s0, s1, s2, s3, s4, s5⟩
        go_simp
        try with_reducible rfl
      simp only [Act.put, List.setIfInBounds_toArray, List.set_cons_zero, List.set_cons_succ]
      refine wpAnyH_ready (rs := [23, 26]) (by kernel_rfl) (by simp) ?_
      refine AllReadyH.cons (o := ⟨_, _, _, _, _, _⟩) rfl (fun K hK => ?_) ?_
      · skip
        go_simp
        refine hK.out _ _ (hH.out.below (below_new _ _)) (fun hS => ?_)
        clear hH
        have hH := Lib.hid hS
        clear hS hK K
        simp only [Act.put, List.setIfInBounds_toArray, List.set_cons_zero, List.set_cons_succ]
        refine wpAnyH_ready (rs := [26]) (by kernel_rfl) (by simp) ?_
        refine AllReadyH.cons (o := ⟨_, _, _, _, _, _⟩) rfl (fun K hK => ?_) AllReadyH.nil
        go_simp
        refine hK.out _ _ (hH.out.below (below_new _ _)) (fun hS => ?_)
        clear hH
        have hH := Lib.hid hS
        clear hS hK K
        simp only [Act.put, List.setIfInBounds_toArray, List.set_cons_zero, List.set_cons_succ]
        exact TAIL.out _ _ ⟨_, _, rfl, recs_lit [(1, 5)] rfl (by decide) (by repeat (first | ((with_reducible refine at_new _ _ _ _ ?_ ?_); (first | with_reducible rfl | (focus (simp; done))); rfl) | with_reducible refine at_old _ ?_ | with_reducible refine at_drew ?_ | with_reducible refine at_below (by assumption) ?_)), recs_lit [(1, 5), (1, 5)] rfl (by decide) (by repeat (first | ((with_reducible refine at_new _ _ _ _ ?_ ?_); (first | with_reducible rfl | (focus (simp; done))); rfl) | with_reducible refine at_old _ ?_ | with_reducible refine at_drew ?_ | with_reducible refine at_below (by assumption) ?_)), (by repeat (first | with_reducible assumption | with_reducible refine up_new _ ?_ | with_reducible refine up_drew ?_ | with_reducible refine up_below (by assumption) ?_)), (by repeat (first | with_reducible assumption | with_reducible refine below_alloc ?_ _ | with_reducible refine below_drew ?_ | with_reducible refine below_then ?_ (by assumption)))⟩ hH.out
      refine AllReadyH.cons (o := ⟨_, _, _, _, _, _⟩) rfl (fun K hK => ?_) AllReadyH.nil
      go_simp
      refine hK.out _ _ (hH.out.below (below_new _ _)) (fun hS => ?_)
      clear hH
      have hH := Lib.hid hS
      clear hS hK K
      simp only [Act.put, List.setIfInBounds_toArray, List.set_cons_zero, List.set_cons_succ]
      refine wpAnyH_ready (rs := [23]) (by kernel_rfl) (by simp) ?_
      refine AllReadyH.cons (o := ⟨_, _, _, _, _, _⟩) rfl (fun K hK => ?_) AllReadyH.nil
      go_simp
      refine hK.out _ _ (hH.out.below (below_new _ _)) (fun hS => ?_)
      clear hH
      have hH := Lib.hid hS
      clear hS hK K
      simp only [Act.put, List.setIfInBounds_toArray, List.set_cons_zero, List.set_cons_succ]
      exact TAIL.out _ _ ⟨_, _, rfl, recs_lit [(1, 5)] rfl (by decide) (by repeat (first | ((with_reducible refine at_new _ _ _ _ ?_ ?_); (first | with_reducible rfl | (focus (simp; done))); rfl) | with_reducible refine at_old _ ?_ | with_reducible refine at_drew ?_ | with_reducible refine at_below (by assumption) ?_)), recs_lit [(1, 5), (1, 5)] rfl (by decide) (by repeat (first | ((with_reducible refine at_new _ _ _ _ ?_ ?_); (first | with_reducible rfl | (focus (simp; done))); rfl) | with_reducible refine at_old _ ?_ | with_reducible refine at_drew ?_ | with_reducible refine at_below (by assumption) ?_)), (by repeat (first | with_reducible assumption | with_reducible refine up_new _ ?_ | with_reducible refine up_drew ?_ | with_reducible refine up_below (by assumption) ?_)), (by repeat (first | with_reducible assumption | with_reducible refine below_alloc ?_ _ | with_reducible refine below_drew ?_ | with_reducible refine below_then ?_ (by assumption)))⟩ hH.out
    refine wpAnyH_take (i := 12) (oi := ⟨_, _, _, _, _, _⟩) (v := ?_) rfl (by kernel_rfl) (by kernel_rfl) (by kernel_rfl) (fun _ _ _ h => h) (Or.inl ⟨by rfl, ?_⟩) hH.out ?_
    rotate_left
    · rintro W ⟨s0, s1, s2, s3, s4, s5⟩
      go_simp
      try with_reducible rfl
    simp only [Act.put, List.setIfInBounds_toArray, List.set_cons_zero, List.set_cons_succ]
    refine wpAnyH_take (i := 13) (oi := ⟨_, _, _, _, _, _⟩) (v := ?_) rfl (by kernel_rfl) (by kernel_rfl) (by kernel_rfl) (fun _ _ _ h => h) (Or.inl ⟨by rfl, ?_⟩) hH.out ?_
    rotate_left
    · rintro W ⟨s0, s1, s2, s3, s4, s5⟩
      go_simp
      try with_reducible rfl
    simp only [Act.put, List.setIfInBounds_toArray, List.set_cons_zero, List.set_cons_succ]
    refine wpAnyH_take (i := 14) (oi := ⟨_, _, _, _, _, _⟩) (v := ?_) rfl (by kernel_rfl) (by kernel_rfl) (by kernel_rfl) (fun _ _ _ h => h) (Or.inl ⟨by rfl, ?_⟩) hH.out ?_
    rotate_left
    · rintro W ⟨s0, s1, s2, s3, s4, s5⟩
      go_simp
      try with_reducible rfl
    simp only [Act.put, List.setIfInBounds_toArray, List.set_cons_zero, List.set_cons_succ]
    refine wpAnyH_take (i := 16) (oi := ⟨_, _, _, _, _, _⟩) (v := ?_) rfl (by kernel_rfl) (by kernel_rfl) (by kernel_rfl) (fun _ _ _ h => h) (Or.inl ⟨by rfl, ?_⟩) hH.out ?_
    rotate_left
    · rintro W ⟨s0, s1, s2, s3, s4, s5⟩
      go_simp
      try with_reducible rfl
    simp only [Act.put, List.setIfInBounds_toArray, List.set_cons_zero, List.set_cons_succ]
    refine wpAnyH_take (i := 17) (oi := ⟨_, _, _, _, _, _⟩) (v := ?_) rfl (by kernel_rfl) (by kernel_rfl) (by kernel_rfl) (fun _ _ _ h => h) (Or.inl ⟨by rfl, ?_⟩) hH.out ?_
    rotate_left
    · rintro W ⟨s0, s1, s2, s3, s4, s5⟩
      go_simp
      try with_reducible rfl
    simp only [Act.put, List.setIfInBounds_toArray, List.set_cons_zero, List.set_cons_succ]
    refine wpAnyH_ready (rs := [15, 18]) (by kernel_rfl) (by simp) ?_
    refine AllReadyH.cons (o := ⟨_, _, _, _, _, _⟩) rfl (fun K hK => ?_) ?_
    · skip
      go_simp
      refine hK.out _ _ (hH.out.below (below_new _ _)) (fun hS => ?_)
      clear hH
      have hH := Lib.hid hS
      clear hS hK K
      simp only [Act.put, List.setIfInBounds_toArray, List.set_cons_zero, List.set_cons_succ]
      refine wpAnyH_ready (rs := [18]) (by kernel_rfl) (by simp) ?_
      refine AllReadyH.cons (o := ⟨_, _, _, _, _, _⟩) rfl (fun K hK => ?_) AllReadyH.nil
      go_simp
      refine hK.out _ _ (hH.out.below (below_new _ _)) (fun hS => ?_)
      clear hH
      have hH := Lib.hid hS
      clear hS hK K
      simp only [Act.put, List.setIfInBounds_toArray, List.set_cons_zero, List.set_cons_succ]
      exact TAIL.out _ _ ⟨_, _, rfl, recs_lit [(1, 5), (2, 0)] rfl (by decide) (by repeat (first | ((with_reducible refine at_new _ _ _ _ ?_ ?_); (first | with_reducible rfl | (focus (simp; done))); rfl) | with_reducible refine at_old _ ?_ | with_reducible refine at_drew ?_ | with_reducible refine at_below (by assumption) ?_)), recs_lit [(2, 0), (1, 5)] rfl (by decide) (by repeat (first | ((with_reducible refine at_new _ _ _ _ ?_ ?_); (first | with_reducible rfl | (focus (simp; done))); rfl) | with_reducible refine at_old _ ?_ | with_reducible refine at_drew ?_ | with_reducible refine at_below (by assumption) ?_)), (by repeat (first | with_reducible assumption | with_reducible refine up_new _ ?_ | with_reducible refine up_drew ?_ | with_reducible refine up_below (by assumption) ?_)), (by repeat (first | with_reducible assumption | with_reducible refine below_alloc ?_ _ | with_reducible refine below_drew ?_ | with_reducible refine below_then ?_ (by assumption)))⟩ hH.out
    refine AllReadyH.cons (o := ⟨_, _, _, _, _, _⟩) rfl (fun K hK => ?_) AllReadyH.nil
    go_simp
    refine hK.out _ _ (hH.out.below (below_new _ _)) (fun hS => ?_)
    clear hH
    have hH := Lib.hid hS
    clear hS hK K
    simp only [Act.put, List.setIfInBounds_toArray, List.set_cons_zero, List.set_cons_succ]
    refine wpAnyH_ready (rs := [15]) (by kernel_rfl) (by simp) ?_
    refine AllReadyH.cons (o := ⟨_, _, _, _, _, _⟩) rfl (fun K hK => ?_) AllReadyH.nil
    go_simp
    refine hK.out _ _ (hH.out.below (below_new _ _)) (fun hS => ?_)
    clear hH
    have hH := Lib.hid hS
    clear hS hK K
    simp only [Act.put, List.setIfInBounds_toArray, List.set_cons_zero, List.set_cons_succ]
    exact TAIL.out _ _ ⟨_, _, rfl, recs_lit [(1, 5), (2, 0)] rfl (by decide) (by repeat (first | ((with_reducible refine at_new _ _ _ _ ?_ ?_); (first | with_reducible rfl | (focus (simp; done))); rfl) | with_reducible refine at_old _ ?_ | with_reducible refine at_drew ?_ | with_reducible refine at_below (by assumption) ?_)), recs_lit [(2, 0), (1, 5)] rfl (by decide) (by repeat (first | ((with_reducible refine at_new _ _ _ _ ?_ ?_); (first | with_reducible rfl | (focus (simp; done))); rfl) | with_reducible refine at_old _ ?_ | with_reducible refine at_drew ?_ | with_reducible refine at_below (by assumption) ?_)), (by repeat (first | with_reducible assumption | with_reducible refine up_new _ ?_ | with_reducible refine up_drew ?_ | with_reducible refine up_below (by assumption) ?_)), (by repeat (first | with_reducible assumption | with_reducible refine below_alloc ?_ _ | with_reducible refine below_drew ?_ | with_reducible refine below_then ?_ (by assumption)))⟩ hH.out
  refine wpAnyH_take (i := 0) (oi := ⟨_, _, _, _, _, _⟩) (v := ?_) rfl (by kernel_rfl) (by kernel_rfl) (by kernel_rfl) (fun _ _ _ h => h) (Or.inl ⟨by rfl, ?_⟩) hH.out ?_
  rotate_left
  · rintro W ⟨s0, s1, s2, s3, s4, s5⟩
    go_simp
    try with_reducible rfl
  simp only [Act.put, List.setIfInBounds_toArray, List.set_cons_zero, List.set_cons_succ]
  refine wpAnyH_take (i := 1) (oi := ⟨_, _, _, _, _, _⟩) (v := ?_) rfl (by kernel_rfl) (by kernel_rfl) (by kernel_rfl) (fun _ _ _ h => h) (Or.inl ⟨by rfl, ?_⟩) hH.out ?_
  rotate_left
  · rintro W ⟨s0, s1, s2, s3, s4, s5⟩
    go_simp
    try with_reducible rfl
  simp only [Act.put, List.setIfInBounds_toArray, List.set_cons_zero, List.set_cons_succ]
  refine wpAnyH_take (i := 2) (oi := ⟨_, _, _, _, _, _⟩) (v := ?_) rfl (by kernel_rfl) (by kernel_rfl) (by kernel_rfl) (fun _ _ _ h => h) (Or.inl ⟨by rfl, ?_⟩) hH.out ?_
  rotate_left
  · rintro W ⟨s0, s1, s2, s3, s4, s5⟩
    go_simp
    try with_reducible rfl
  simp only [Act.put, List.setIfInBounds_toArray, List.set_cons_zero, List.set_cons_succ]
  refine wpAnyH_take (i := 3) (oi := ⟨_, _, _, _, _, _⟩) (v := ?_) rfl (by kernel_rfl) (by kernel_rfl) (by kernel_rfl) (fun _ _ _ h => h) (Or.inl ⟨by rfl, ?_⟩) hH.out ?_
  rotate_left
  · rintro W ⟨s0, s1, s2, s3, s4, s5⟩
    go_simp
    try with_reducible rfl
  simp only [Act.put, List.setIfInBounds_toArray, List.set_cons_zero, List.set_cons_succ]
  refine wpAnyH_take (i := 6) (oi := ⟨_, _, _, _, _, _⟩) (v := ?_) rfl (by kernel_rfl) (by kernel_rfl) (by kernel_rfl) (fun _ _ _ h => h) (Or.inl ⟨by rfl, ?_⟩) hH.out ?_
  rotate_left
  · rintro W ⟨s0, s1, s2, s3, s4, s5⟩
    go_simp
    try with_reducible rfl
  simp only [Act.put, List.setIfInBounds_toArray, List.set_cons_zero, List.set_cons_succ]
  refine wpAnyH_take (i := 7) (oi := ⟨_, _, _, _, _, _⟩) (v := ?_) rfl (by kernel_rfl) (by kernel_rfl) (by kernel_rfl) (fun _ _ _ h => h) (Or.inl ⟨by rfl, ?_⟩) hH.out ?_
  rotate_left
  · rintro W ⟨s0, s1, s2, s3, s4, s5⟩
    go_simp
    try with_reducible rfl
  simp only [Act.put, List.setIfInBounds_toArray, List.set_cons_zero, List.set_cons_succ]
  refine wpAnyH_take (i := 8) (oi := ⟨_, _, _, _, _, _⟩) (v := ?_) rfl (by kernel_rfl) (by kernel_rfl) (by kernel_rfl) (fun _ _ _ h => h) (Or.inl ⟨by rfl, ?_⟩) hH.out ?_
  rotate_left
  · rintro W ⟨s0, s1, s2, s3, s4, s5⟩
    go_simp
    try with_reducible rfl
  simp only [Act.put, List.setIfInBounds_toArray, List.set_cons_zero, List.set_cons_succ]
  refine wpAnyH_take (i := 9) (oi := ⟨_, _, _, _, _, _⟩) (v := ?_) rfl (by kernel_rfl) (by kernel_rfl) (by kernel_rfl) (fun _ _ _ h => h) (Or.inl ⟨by rfl, ?_⟩) hH.out ?_
  rotate_left
  · rintro W ⟨s0, s1, s2, s3, s4, s5⟩
    go_simp
    try with_reducible rfl
  simp only [Act.put, List.setIfInBounds_toArray, List.set_cons_zero, List.set_cons_succ]
  refine wpAnyH_ready (rs := [4, 10]) (by kernel_rfl) (by simp) ?_
  refine AllReadyH.cons (o := ⟨_, _, _, _, _, _⟩) rfl (fun K hK => ?_) ?_
  · skip
    go_simp
    refine hK.out _ _ (hH.out.below (below_new _ _)) (fun hS => ?_)
    clear hH
    have hH := Lib.hid hS
    clear hS hK K
    simp only [Act.put, List.setIfInBounds_toArray, List.set_cons_zero, List.set_cons_succ]
    refine wpAnyH_ready (rs := [5, 10]) (by kernel_rfl) (by simp) ?_
    refine AllReadyH.cons (o := ⟨_, _, _, _, _, _⟩) rfl (fun K hK => ?_) ?_
    · skip
      go_simp
      refine (C34.out _ _ _ ?_).mono ?_
      · as_aux_lemma => exact recs_lit [(2, 1), (1, 5), (2, 0), (1, 5)] rfl (by decide) (by repeat (first | ((with_reducible refine at_new _ _ _ _ ?_ ?_); (first | with_reducible rfl | (focus (simp; done))); rfl) | with_reducible refine at_old _ ?_ | with_reducible refine at_drew ?_ | with_reducible refine at_below (by assumption) ?_))
      rintro e w3 ⟨v3, rfl, ho, hbq⟩
      obtain ⟨A3, c3, ev, R3⟩ := own_recs (n := 4) ho (by decide)
      subst ev
      refine hK.out _ _ (hH.out.below hbq) (fun hS => ?_)
      clear hH
      have hH := Lib.hid hS
      clear hS hK K
      simp only [Act.put, List.setIfInBounds_toArray, List.set_cons_zero, List.set_cons_succ]
      refine wpAnyH_ready (rs := [10]) (by kernel_rfl) (by simp) ?_
      refine AllReadyH.cons (o := ⟨_, _, _, _, _, _⟩) rfl (fun K hK => ?_) AllReadyH.nil
      go_simp
      refine hK.out _ _ (hH.out.below (below_new _ _)) (fun hS => ?_)
      clear hH
      have hH := Lib.hid hS
      clear hS hK K
      simp only [Act.put, List.setIfInBounds_toArray, List.set_cons_zero, List.set_cons_succ]
      exact TAIL.out _ _ ⟨_, _, _, _, rfl, (by repeat (first | with_reducible assumption | with_reducible refine up_new _ ?_ | with_reducible refine up_drew ?_ | with_reducible refine up_below (by assumption) ?_)), recs_lit [(1, 5), (1, 5), (2, 0), (2, 1)] rfl (by decide) (by repeat (first | ((with_reducible refine at_new _ _ _ _ ?_ ?_); (first | with_reducible rfl | (focus (simp; done))); rfl) | with_reducible refine at_old _ ?_ | with_reducible refine at_drew ?_ | with_reducible refine at_below (by assumption) ?_)), (by repeat (first | with_reducible assumption | with_reducible refine up_new _ ?_ | with_reducible refine up_drew ?_ | with_reducible refine up_below (by assumption) ?_)), (by repeat (first | with_reducible assumption | with_reducible refine below_alloc ?_ _ | with_reducible refine below_drew ?_ | with_reducible refine below_then ?_ (by assumption)))⟩ hH.out
    refine AllReadyH.cons (o := ⟨_, _, _, _, _, _⟩) rfl (fun K hK => ?_) AllReadyH.nil
    go_simp
    refine hK.out _ _ (hH.out.below (below_new _ _)) (fun hS => ?_)
    clear hH
    have hH := Lib.hid hS
    clear hS hK K
    simp only [Act.put, List.setIfInBounds_toArray, List.set_cons_zero, List.set_cons_succ]
    refine wpAnyH_ready (rs := [5]) (by kernel_rfl) (by simp) ?_
    refine AllReadyH.cons (o := ⟨_, _, _, _, _, _⟩) rfl (fun K hK => ?_) AllReadyH.nil
    go_simp
    refine (C34.out _ _ _ ?_).mono ?_
    · as_aux_lemma => exact recs_lit [(2, 1), (1, 5), (2, 0), (1, 5)] rfl (by decide) (by repeat (first | ((with_reducible refine at_new _ _ _ _ ?_ ?_); (first | with_reducible rfl | (focus (simp; done))); rfl) | with_reducible refine at_old _ ?_ | with_reducible refine at_drew ?_ | with_reducible refine at_below (by assumption) ?_))
    rintro e w3 ⟨v3, rfl, ho, hbq⟩
    obtain ⟨A3, c3, ev, R3⟩ := own_recs (n := 4) ho (by decide)
    subst ev
    refine hK.out _ _ (hH.out.below hbq) (fun hS => ?_)
    clear hH
    have hH := Lib.hid hS
    clear hS hK K
    simp only [Act.put, List.setIfInBounds_toArray, List.set_cons_zero, List.set_cons_succ]
    exact TAIL.out _ _ ⟨_, _, _, _, rfl, (by repeat (first | with_reducible assumption | with_reducible refine up_new _ ?_ | with_reducible refine up_drew ?_ | with_reducible refine up_below (by assumption) ?_)), recs_lit [(1, 5), (1, 5), (2, 0), (2, 1)] rfl (by decide) (by repeat (first | ((with_reducible refine at_new _ _ _ _ ?_ ?_); (first | with_reducible rfl | (focus (simp; done))); rfl) | with_reducible refine at_old _ ?_ | with_reducible refine at_drew ?_ | with_reducible refine at_below (by assumption) ?_)), (by repeat (first | with_reducible assumption | with_reducible refine up_new _ ?_ | with_reducible refine up_drew ?_ | with_reducible refine up_below (by assumption) ?_)), (by repeat (first | with_reducible assumption | with_reducible refine below_alloc ?_ _ | with_reducible refine below_drew ?_ | with_reducible refine below_then ?_ (by assumption)))⟩ hH.out
  refine AllReadyH.cons (o := ⟨_, _, _, _, _, _⟩) rfl (fun K hK => ?_) AllReadyH.nil
  go_simp
  refine hK.out _ _ (hH.out.below (below_new _ _)) (fun hS => ?_)
  clear hH
  have hH := Lib.hid hS
  clear hS hK K
  simp only [Act.put, List.setIfInBounds_toArray, List.set_cons_zero, List.set_cons_succ]
  refine wpAnyH_ready (rs := [4]) (by kernel_rfl) (by simp) ?_
  refine AllReadyH.cons (o := ⟨_, _, _, _, _, _⟩) rfl (fun K hK => ?_) AllReadyH.nil
  go_simp
  refine hK.out _ _ (hH.out.below (below_new _ _)) (fun hS => ?_)
  clear hH
  have hH := Lib.hid hS
  clear hS hK K
  simp only [Act.put, List.setIfInBounds_toArray, List.set_cons_zero, List.set_cons_succ]
  refine wpAnyH_ready (rs := [5]) (by kernel_rfl) (by simp) ?_
  refine AllReadyH.cons (o := ⟨_, _, _, _, _, _⟩) rfl (fun K hK => ?_) AllReadyH.nil
  go_simp
  refine (C34.out _ _ _ ?_).mono ?_
  · as_aux_lemma => exact recs_lit [(2, 1), (1, 5), (2, 0), (1, 5)] rfl (by decide) (by repeat (first | ((with_reducible refine at_new _ _ _ _ ?_ ?_); (first | with_reducible rfl | (focus (simp; done))); rfl) | with_reducible refine at_old _ ?_ | with_reducible refine at_drew ?_ | with_reducible refine at_below (by assumption) ?_))
  rintro e w3 ⟨v3, rfl, ho, hbq⟩
  obtain ⟨A3, c3, ev, R3⟩ := own_recs (n := 4) ho (by decide)
  subst ev
  refine hK.out _ _ (hH.out.below hbq) (fun hS => ?_)
  clear hH
  have hH := Lib.hid hS
  clear hS hK K
  simp only [Act.put, List.setIfInBounds_toArray, List.set_cons_zero, List.set_cons_succ]
  exact TAIL.out _ _ ⟨_, _, _, _, rfl, (by repeat (first | with_reducible assumption | with_reducible refine up_new _ ?_ | with_reducible refine up_drew ?_ | with_reducible refine up_below (by assumption) ?_)), recs_lit [(1, 5), (1, 5), (2, 0), (2, 1)] rfl (by decide) (by repeat (first | ((with_reducible refine at_new _ _ _ _ ?_ ?_); (first | with_reducible rfl | (focus (simp; done))); rfl) | with_reducible refine at_old _ ?_ | with_reducible refine at_drew ?_ | with_reducible refine at_below (by assumption) ?_)), (by repeat (first | with_reducible assumption | with_reducible refine up_new _ ?_ | with_reducible refine up_drew ?_ | with_reducible refine up_below (by assumption) ?_)), (by repeat (first | with_reducible assumption | with_reducible refine below_alloc ?_ _ | with_reducible refine below_drew ?_ | with_reducible refine below_then ?_ (by assumption)))⟩ hH.out
end Go.Proofs.Ytainoghjelfnkaa
