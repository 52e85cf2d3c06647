/- Links of a nil net. -/
import Derived.RangeFuncNested
import Derived.RangeFuncBound
import Derived.RangeFuncCalls
import Derived.RangeFuncLeaves
import Derived.RangeFuncBox
import Derived.RangeFuncStops
import Derived.Shelf.Abstract
import Derived.Shelf.RegionOpen
import Derived.WalkKit
import Derived.OwnWalkIn
import Derived.TacticsInMore
import Derived.LoopNIn
import Derived.LoopIn
import Derived.Sort.MapsRangeIn
import Derived.Test.YtfgjmckdjkfgdaaRows
import Derived.IntWalk
import Derived.Test.YtfgjmckdjkfgdaaWords
import Derived.Test.YtfgjmckdjkfgdaaFrame
import Derived.Test.YtfgjmckdjkfgdaaElems
import Derived.Test.YtfgjmckdjkfgdaaHeads
import Derived.Test.YtfgjmckdjkfgdaaRangeFirst
import Derived.Test.YtfgjmckdjkfgdaaN1
import Derived.Test.YtfgjmckdjkfgdaaN2
import Derived.Test.YtfgjmckdjkfgdaaN10
import Derived.Test.YtfgjmckdjkfgdaaN11
import Derived.Test.YtfgjmckdjkfgdaaN12
import Derived.Test.YtfgjmckdjkfgdaaN13
import Derived.Test.YtfgjmckdjkfgdaaN14
namespace Go.Proofs.Ytfgjmckdjkfgdaa
open Go Go.RowKit Go.Proofs.Tail Go.Shelf
attribute [local go_sem] Oper.semAt_some
set_option linter.unusedSimpArgs false
set_option linter.unusedVariables false
set_option maxRecDepth 100000 in
set_option maxHeartbeats 4000000 in
theorem all_nil_in (n : Nat) (hn : 1 ≤ n) (l : Nat) (J : List (Nat × Nat) → World → Prop) (W : World) (h0 : J [] W) :
    CallsIn Fence.wide n Try.prog 30 #[.pointer none, .func (.yield l) #[] #[]] W fun e W' => (∃ v, e = .returned v) ∧ ∃ xs, xs = ([] : List (Nat × Nat)) ∧ J xs W' := by
  have HE := Lib.hid (ends_nil W)
  have H0 := Lib.hid h0
  clear h0
  refine callsIn_of_wp Try.func30 rfl trivial ?_ rfl
  simp only [Try.ntmps30, List.size_toArray, List.length_cons, List.length_nil, Nat.reduceAdd, Nat.reduceSub, Array.replicate_succ, Array.replicate_zero, List.push_toArray, List.append_toArray, List.nil_append, List.cons_append]
  gi_wp2_with (refine ⟨trivial, ?_⟩; gi_at_call 19; (with_reducible refine (callsIn_wide.2 HE.out).mono ?_); rintro e w1 ⟨rfl, rfl⟩)
  gi_loopw [8] (fun i wr => i = .int .i64 0 ∧ Hid (J [] wr)) (fun i _ => 0)
  case atStart => exact ⟨rfl, H0⟩
  case round =>
    obtain ⟨rfl, HJ⟩ := hrel
    gi_wp2
    go_end0
    exact ⟨⟨_, rfl⟩, [], rfl, HJ.out⟩
theorem all_first_nil (n : Nat) (hn : 1 ≤ n) (n0 : Nat) (w : World) :
    SeqFirst Fence.wide n Try.prog 30 #[.pointer none] (fun x : Nat × Nat => #[.agg #[.int .i64 x.1, .int .i64 x.2]]) n0 (fun xs => xs = []) 4096 w := fun l J W hW hJ hY h0 =>
  all_nil_in n hn l J W h0
set_option maxRecDepth 100000 in
set_option maxHeartbeats 8000000 in
theorem appendseq_nil (n : Nat) (hn : 4 ≤ n) (w : World) :
    CallsIn Fence.wide n Try.prog 35 #[.slice none 0 0, .func (.func 30) #[.pointer none] #[]] w (GivesP (([] : List (Nat × Nat))) w) := by
  have h1 : 1 ≤ n := by omega
  obtain ⟨i0, hi0, hzz⟩ := Option.map_eq_some_iff.1 infoP
  simp only [Prod.mk.injEq] at hzz
  obtain ⟨hz0, hz1, hz2⟩ := hzz
  refine callsIn_of_wp_marks Try.func35 rfl trivial ?_ rfl
  simp only [Try.ntmps35, List.size_toArray, List.length_cons, List.length_nil, Nat.reduceAdd, Nat.reduceSub, Array.replicate_succ, Array.replicate_zero, List.push_toArray, List.append_toArray, List.nil_append, List.cons_append]
  gi_wp2
  have bO := Boxed.new w 41 (.slice none 0 0)
  have hB0 : Below w.heap.size w (w.alloc (.cells #[.slice none 0 0] 41)) := (Below.refl _ w).alloc (Nat.le_refl _) _
  refine wpIn_range_first rfl h1 (gf := 30) (fs := #[.pointer none]) rfl trivial (enters_of Try.func30 (by kernel_rfl) rfl)
    (all_first_nil (n - 1) (by omega) w.heap.size _) (by simp) (Below.refl _ _) (fun _ => rfl)
    (fun pre W => (∃ v, Boxed W w.heap.size 41 v ∧ W.ownsRow w.heap.size 46 2 v pre.length (recP pre) ∧ True) ∧ (Below w.heap.size w W ∧ w.heap.size + 1 ≤ W.heap.size))
    (OwnFrom.and (Own.from (holdsRow_own w.heap.size w.heap.size 41 46 2 (fun pre => pre.length) (fun pre => recP pre) (fun _ _ => True)) _) (OwnFrom.and (ownFrom_below (Nat.le_refl _) (by simp)) (fun _ _ _ _ hs hg _ => Nat.le_trans hs hg.size)))
    ⟨⟨_, bO, World.ownsRow_nil _ _ _ _, trivial⟩, hB0, by simp⟩
    (fun x a' W => ∃ Bx, w.heap.size < Bx ∧ Bx < W.heap.size ∧ BxP W Bx x ∧ a' = { tmps := #[.slice none 0 0, .func (.func 30) #[.pointer none] #[], .pointer (some ⟨w.heap.size, 0, none⟩), undef, .slice none 0 0, .pointer (some ⟨Bx, 0, none⟩), .func (.func 30) #[.pointer none] #[], .agg #[.int .i64 x.1, .int .i64 x.2], undef, undef, undef, undef, undef], defers := [] })
    (fun x a' _ X Y row hs hg hr => by
      obtain ⟨Bx, h1, h2, h3, h4⟩ := hs
      exact ⟨Bx, h1, Nat.lt_of_lt_of_le h2 hg.size, bxP_own hg (fun r e => (hr r e).2) h3, h4⟩)
    ?assign ?body ?done
  case assign =>
    rintro l pre x W K ⟨⟨v, hv, hrow, _⟩, hB, hsz⟩ hK
    gi_wp2
    exact hK _ _ ((KeepsOthers.alloc _ _).from _) ((below_alloc (Below.refl _ W) _).mono hB.size) ⟨⟨v, hv.alloc _, hrow.alloc _, trivial⟩, hB.alloc hB.size _, by simp; omega⟩ ⟨W.heap.size, by omega, by simp, heap_alloc_new _ _, rfl⟩
  case body =>
    rintro l pre x a' W hl ⟨⟨v, hv, hrow, _⟩, hB, hsz⟩ ⟨Bx, hBx, hBl, bX, rfl⟩ hlt
    have hc := hv.cell
    obtain ⟨c0, c1⟩ := bxP_cells bX
    have hp5 : 0 < 2 := by decide
    have HONE := Lib.hid (show ∀ u ∈ [Value.int .i64 x.1, Value.int .i64 x.2], Value.oneCell' u = true by simp [Value.oneCell'])
    have HM := Lib.hid (show pre.length + 1 ≤ maxLen by unfold maxLen; omega)
    have HM2 := Lib.hid (show (pre.length + 1) * 16 ≤ 140737488355328 by omega)
    have HV := Lib.hid hv
    have HO := Lib.hid hrow
    have HB := Lib.hid hB
    clear hv hrow hB
    gi_wp2_with (gi_at_builtin; refine wpListIn_append_own _ rfl _ _ 41 rfl w.heap.size 46 i0 _ 2 16 Try.underlying41 hi0 hz0 hz1 hz2 rfl hp5 v pre.length _ rfl (HO.out.alloc _) ⟨W.heap.size, 0, none⟩ 1 1 [.int .i64 x.1, .int .i64 x.2] rfl rfl (World.news_of_block (World.alloc_heap_new _ _)) HONE.out HM.out HM2.out (Nat.le_trans HB.out.size (by simp)) ?_
                 intro v' w1 hown' hgr _
                 obtain ⟨g', cap', rfl⟩ := ownsRow_succ hown'
                 have HE := Lib.hid (HV.out.appended (by decide) HO.out HB.out.size (Nat.le_refl _) hown' hgr)
                 have hc1 := HE.out.1.cell
                 have hf1 := HE.out.1.frozen
                 clear hown' hgr)
    obtain ⟨_, e2, e3, e4, e5⟩ := HE.out
    exact ⟨e4.from _, e5, ⟨⟨_, e2, by rw [recP_append, List.length_append]; exact e3, trivial⟩, HB.out.trans e5, Nat.le_trans hsz e5.size⟩⟩
  case done =>
    rintro Dd ys W hDd hS ⟨⟨v, hv, hrow, _⟩, hB, hsz⟩ hK
    have hc := hv.cell
    gi_wp2
    refine ⟨by simp, .inl ⟨_, _, rfl, run_takeDeferred hK, ?_⟩⟩
    subst hS
    exact ⟨_, results_tmp rfl _ _ _, _, rfl, ownsRow_putObj hrow _ hK rfl, hB.trans (belowK_b (w := w) (Nat.le_refl _) W Dd _ _ (by simp at hDd; omega) hK rfl rfl)⟩
set_option maxHeartbeats 2000000 in
theorem links_nil (w : World) : Calls Try.prog 15 #[.pointer none] w (GivesP (([] : List (Nat × Nat))) w) := by
  have HA := Lib.hid (appendseq_nil 6 (by omega) w)
  refine (callsIn_wide (n := 8)).1 ?_
  refine callsIn_of_wp Try.func15 rfl trivial ?_ rfl
  simp only [Try.ntmps15, List.size_toArray, List.length_cons, List.length_nil, Nat.reduceAdd, Nat.reduceSub, Array.replicate_succ, Array.replicate_zero, List.push_toArray, List.append_toArray, List.nil_append, List.cons_append]
  have HC : Hid (CallsIn Fence.wide 7 Try.prog 29 #[.func (.func 30) #[.pointer none] #[]] w (GivesP (([] : List (Nat × Nat))) w)) := by
    refine Lib.hid ?_
    refine callsIn_of_wp Try.func29 rfl trivial ?_ rfl
    simp only [Try.ntmps29, List.size_toArray, List.length_cons, List.length_nil, Nat.reduceAdd, Nat.reduceSub, Array.replicate_succ, Array.replicate_zero, List.push_toArray, List.append_toArray, List.nil_append, List.cons_append]
    gi_wp2_with (refine ⟨trivial, ?_⟩; gi_at_call 35; refine HA.out.mono ?_; rintro e w1 ⟨v, rfl, hrow, hB⟩)
    go_ret
    exact ⟨v, rfl, hrow, hB⟩
  gi_wp2_with (refine ⟨trivial, ?_⟩; gi_at_call 29; refine HC.out.mono ?_; rintro e w1 ⟨v, rfl, hrow, hB⟩)
  go_ret
  exact ⟨v, rfl, hrow, hB⟩
end Go.Proofs.Ytfgjmckdjkfgdaa
