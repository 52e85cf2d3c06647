/- slices.AppendSeq, Collect of a net's links; Links. -/
import Derived.RangeFuncNested
import Derived.RangeFuncBound
import Derived.RangeFuncCalls
import Derived.RangeFuncLeaves
import Derived.RangeFuncBox
import Derived.RangeFuncStops
import Derived.Shelf.Abstract
import Derived.Shelf.RegionOpen
import Derived.WalkKit
import Derived.OwnWalkIn
import Derived.TacticsInMore
import Derived.LoopNIn
import Derived.LoopIn
import Derived.Sort.MapsRangeIn
import Derived.Test.YtfgjmckdjkfgdaaRows
import Derived.IntWalk
import Derived.Test.YtfgjmckdjkfgdaaWords
import Derived.Test.YtfgjmckdjkfgdaaFrame
import Derived.Test.YtfgjmckdjkfgdaaElems
import Derived.Test.YtfgjmckdjkfgdaaHeads
import Derived.Test.YtfgjmckdjkfgdaaRangeFirst
import Derived.Test.YtfgjmckdjkfgdaaN1
import Derived.Test.YtfgjmckdjkfgdaaN2
import Derived.Test.YtfgjmckdjkfgdaaN10
import Derived.Test.YtfgjmckdjkfgdaaN11
import Derived.Test.YtfgjmckdjkfgdaaN12
import Derived.Test.YtfgjmckdjkfgdaaN13
namespace Go.Proofs.Ytfgjmckdjkfgdaa
open Go Go.RowKit Go.Proofs.Tail Go.Shelf
attribute [local go_sem] Oper.semAt_some
set_option linter.unusedSimpArgs false
set_option linter.unusedVariables false
theorem infoP : (Try.prog.info? 46).map (fun i => (i.zero, i.size, i.bytes)) = some (some (.agg #[.int .i64 0, .int .i64 0]), 2, 16) := by kernel_rfl
def encP (p : Nat × Nat) : List Value := [.int .i64 p.1, .int .i64 p.2]
def recP (xs : List (Nat × Nat)) : List Value := xs.flatMap encP
theorem recP_append (xs ys : List (Nat × Nat)) : recP (xs ++ ys) = recP xs ++ recP ys := by simp [recP]
/-- A row of links of one's own. -/
def GivesP (xs : List (Nat × Nat)) (w : World) (e : Ending) (w' : World) : Prop := ∃ v, e = .returned v ∧ w'.ownsRow w.heap.size 46 2 v xs.length (recP xs) ∧ Below w.heap.size w w'
/-- A link's box. -/
def BxP (W : World) (B : Nat) (x : Nat × Nat) : Prop := W.heap[B]? = some (.cells #[.int .i64 x.1, .int .i64 x.2] 46)
theorem bxP_cells {w : World} {B : Nat} {x : Nat × Nat} (h : BxP w B x) : w.cell? ⟨B, 0, none⟩ = some (.int .i64 x.1) ∧ w.cell? ⟨B, 1, none⟩ = some (.int .i64 x.2) := by
  unfold BxP at h
  constructor <;> simp [World.cell?, h]
theorem bxP_own {X Y : World} {row : Option Nat} {B : Nat} {x : Nat × Nat} (hg : X.grownBy Y row) (hr : ∀ r, row = some r → ∃ o : Obj, X.heap[r]? = some o ∧ o.isCells = false) (h : BxP X B x) : BxP Y B x := by
  unfold BxP at *
  refine (hg.block B (Array.getElem?_eq_some_iff.1 h).1 fun e => ?_).trans h
  obtain ⟨o, h1, h2⟩ := hr B e.symm
  rw [h] at h1
  cases h1
  cases h2
/-- 'all' gives a net's links. -/
theorem all_first (n : Nat) (hn : 1 ≤ n) (P n0 : Nat) (D : Nat → Prop) (N : NetS) (w : World) (hN : Net w D P N) (hD : ∀ k, D k → k < n0) :
    SeqFirst Fence.wide n Try.prog 30 #[.pointer (some ⟨P, 0, none⟩)] (fun x : Nat × Nat => #[.agg #[.int .i64 x.1, .int .i64 x.2]]) n0 (fun xs => xs = linksN N) 4096 w := fun l J W hW hJ hY h0 =>
  all_in n hn l P n0 D N J W (hN.below hW) hD hY h0
theorem linksN_len (N : NetS) (hE : N.E ≤ 64) : (linksN N).length ≤ 4096 := by
  have := rowsL_len N hE N.E
  unfold linksN
  omega
set_option maxRecDepth 100000 in
set_option maxHeartbeats 8000000 in
theorem appendseq_in (n : Nat) (hn : 4 ≤ n) (P : Nat) (D : Nat → Prop) (N : NetS) (w : World) (hN : Net w D P N) :
    CallsIn Fence.wide n Try.prog 35 #[.slice none 0 0, .func (.func 30) #[.pointer (some ⟨P, 0, none⟩)] #[]] w (GivesP (linksN N) w) := by
  have h1 : 1 ≤ n := by omega
  obtain ⟨i0, hi0, hzz⟩ := Option.map_eq_some_iff.1 infoP
  simp only [Prod.mk.injEq] at hzz
  obtain ⟨hz0, hz1, hz2⟩ := hzz
  have hD := hN.lt
  have hE := hN.reads.1
  refine callsIn_of_wp_marks Try.func35 rfl trivial ?_ rfl
  simp only [Try.ntmps35, List.size_toArray, List.length_cons, List.length_nil, Nat.reduceAdd, Nat.reduceSub, Array.replicate_succ, Array.replicate_zero, List.push_toArray, List.append_toArray, List.nil_append, List.cons_append]
  gi_wp2
  have bO := Boxed.new w 41 (.slice none 0 0)
  have hB0 : Below w.heap.size w (w.alloc (.cells #[.slice none 0 0] 41)) := (Below.refl _ w).alloc (Nat.le_refl _) _
  refine wpIn_range_first rfl h1 (gf := 30) (fs := #[.pointer (some ⟨P, 0, none⟩)]) rfl trivial (enters_of Try.func30 (by kernel_rfl) rfl)
    (all_first (n - 1) (by omega) P w.heap.size D N _ (hN.below hB0) hD) (by simp) (Below.refl _ _) (fun _ => rfl)
    (fun pre W => (∃ v, Boxed W w.heap.size 41 v ∧ W.ownsRow w.heap.size 46 2 v pre.length (recP pre) ∧ True) ∧ (Below w.heap.size w W ∧ w.heap.size + 1 ≤ W.heap.size))
    (OwnFrom.and (Own.from (holdsRow_own w.heap.size w.heap.size 41 46 2 (fun pre => pre.length) (fun pre => recP pre) (fun _ _ => True)) _) (OwnFrom.and (ownFrom_below (Nat.le_refl _) (by simp)) (fun _ _ _ _ hs hg _ => Nat.le_trans hs hg.size)))
    ⟨⟨_, bO, World.ownsRow_nil _ _ _ _, trivial⟩, hB0, by simp⟩
    (fun x a' W => ∃ Bx, w.heap.size < Bx ∧ Bx < W.heap.size ∧ BxP W Bx x ∧ a' = { tmps := #[.slice none 0 0, .func (.func 30) #[.pointer (some ⟨P, 0, none⟩)] #[], .pointer (some ⟨w.heap.size, 0, none⟩), undef, .slice none 0 0, .pointer (some ⟨Bx, 0, none⟩), .func (.func 30) #[.pointer (some ⟨P, 0, none⟩)] #[], .agg #[.int .i64 x.1, .int .i64 x.2], undef, undef, undef, undef, undef], defers := [] })
    (fun x a' _ X Y row hs hg hr => by
      obtain ⟨Bx, h1, h2, h3, h4⟩ := hs
      exact ⟨Bx, h1, Nat.lt_of_lt_of_le h2 hg.size, bxP_own hg (fun r e => (hr r e).2) h3, h4⟩)
    ?assign ?body ?done
  case assign =>
    rintro l pre x W K ⟨⟨v, hv, hrow, _⟩, hB, hsz⟩ hK
    gi_wp2
    exact hK _ _ ((KeepsOthers.alloc _ _).from _) ((below_alloc (Below.refl _ W) _).mono hB.size) ⟨⟨v, hv.alloc _, hrow.alloc _, trivial⟩, hB.alloc hB.size _, by simp; omega⟩ ⟨W.heap.size, by omega, by simp, heap_alloc_new _ _, rfl⟩
  case body =>
    rintro l pre x a' W hl ⟨⟨v, hv, hrow, _⟩, hB, hsz⟩ ⟨Bx, hBx, hBl, bX, rfl⟩ hlt
    have hc := hv.cell
    obtain ⟨c0, c1⟩ := bxP_cells bX
    have hp5 : 0 < 2 := by decide
    have HONE := Lib.hid (show ∀ u ∈ [Value.int .i64 x.1, Value.int .i64 x.2], Value.oneCell' u = true by simp [Value.oneCell'])
    have HM := Lib.hid (show pre.length + 1 ≤ maxLen by unfold maxLen; omega)
    have HM2 := Lib.hid (show (pre.length + 1) * 16 ≤ 140737488355328 by omega)
    have HV := Lib.hid hv
    have HO := Lib.hid hrow
    have HB := Lib.hid hB
    clear hv hrow hB hN
    gi_wp2_with (gi_at_builtin; refine wpListIn_append_own _ rfl _ _ 41 rfl w.heap.size 46 i0 _ 2 16 Try.underlying41 hi0 hz0 hz1 hz2 rfl hp5 v pre.length _ rfl (HO.out.alloc _) ⟨W.heap.size, 0, none⟩ 1 1 [.int .i64 x.1, .int .i64 x.2] rfl rfl (World.news_of_block (World.alloc_heap_new _ _)) HONE.out HM.out HM2.out (Nat.le_trans HB.out.size (by simp)) ?_
                 intro v' w1 hown' hgr _
                 obtain ⟨g', cap', rfl⟩ := ownsRow_succ hown'
                 have HE := Lib.hid (HV.out.appended (by decide) HO.out HB.out.size (Nat.le_refl _) hown' hgr)
                 have hc1 := HE.out.1.cell
                 have hf1 := HE.out.1.frozen
                 clear hown' hgr)
    obtain ⟨_, e2, e3, e4, e5⟩ := HE.out
    exact ⟨e4.from _, e5, ⟨⟨_, e2, by rw [recP_append, List.length_append]; exact e3, trivial⟩, HB.out.trans e5, Nat.le_trans hsz e5.size⟩⟩
  case done =>
    rintro Dd ys W hDd hS ⟨⟨v, hv, hrow, _⟩, hB, hsz⟩ hK
    have hc := hv.cell
    gi_wp2
    refine ⟨by simp, .inl ⟨_, _, rfl, run_takeDeferred hK, ?_⟩⟩
    subst hS
    exact ⟨_, results_tmp rfl _ _ _, _, rfl, ownsRow_putObj hrow _ hK rfl, hB.trans (belowK_b (w := w) (Nat.le_refl _) W Dd _ _ (by simp at hDd; omega) hK rfl rfl)⟩
set_option maxHeartbeats 2000000 in
theorem links_any {P : Nat} {D : Nat → Prop} {N : NetS} {w : World} (hN : Net w D P N) : Calls Try.prog 15 #[.pointer (some ⟨P, 0, none⟩)] w (GivesP (linksN N) w) := by
  have HA := Lib.hid (appendseq_in 6 (by omega) P D N w hN)
  clear hN
  refine (callsIn_wide (n := 8)).1 ?_
  refine callsIn_of_wp Try.func15 rfl trivial ?_ rfl
  simp only [Try.ntmps15, List.size_toArray, List.length_cons, List.length_nil, Nat.reduceAdd, Nat.reduceSub, Array.replicate_succ, Array.replicate_zero, List.push_toArray, List.append_toArray, List.nil_append, List.cons_append]
  have HC : Hid (CallsIn Fence.wide 7 Try.prog 29 #[.func (.func 30) #[.pointer (some ⟨P, 0, none⟩)] #[]] w (GivesP (linksN N) w)) := by
    refine Lib.hid ?_
    refine callsIn_of_wp Try.func29 rfl trivial ?_ rfl
    simp only [Try.ntmps29, List.size_toArray, List.length_cons, List.length_nil, Nat.reduceAdd, Nat.reduceSub, Array.replicate_succ, Array.replicate_zero, List.push_toArray, List.append_toArray, List.nil_append, List.cons_append]
    gi_wp2_with (refine ⟨trivial, ?_⟩; gi_at_call 35; refine HA.out.mono ?_; rintro e w1 ⟨v, rfl, hrow, hB⟩)
    go_ret
    exact ⟨v, rfl, hrow, hB⟩
  gi_wp2_with (refine ⟨trivial, ?_⟩; gi_at_call 29; refine HC.out.mono ?_; rintro e w1 ⟨v, rfl, hrow, hB⟩)
  go_ret
  exact ⟨v, rfl, hrow, hB⟩
end Go.Proofs.Ytfgjmckdjkfgdaa
