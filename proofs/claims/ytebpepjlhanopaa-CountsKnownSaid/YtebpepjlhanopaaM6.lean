/- slices.AppendSeq, Collect, SortedFunc of a map's keys; Times. -/
import Derived.RangeFuncNested
import Derived.RangeFuncBound
import Derived.RangeFuncCalls
import Derived.RangeFuncLeaves
import Derived.RangeFuncBox
import Derived.RangeFuncStops
import Derived.Shelf.Abstract
import Derived.Shelf.RegionOpen
import Derived.WalkKit
import Derived.OwnWalkIn
import Derived.TacticsInMore
import Derived.LoopNIn
import Derived.LoopIn
import Derived.Sort.MapsRangeIn
import Derived.Test.YtebpepjlhanopaaRows
import Derived.IntWalk
import Derived.Test.YtebpepjlhanopaaWords
import Derived.Test.YtebpepjlhanopaaFrame
import Derived.Test.YtebpepjlhanopaaElems
import Derived.Test.YtebpepjlhanopaaMapOwn
import Derived.Test.YtebpepjlhanopaaS1
import Derived.Test.YtebpepjlhanopaaS2
import Derived.Test.YtebpepjlhanopaaEqs
import Derived.Test.YtebpepjlhanopaaU1
import Derived.Test.YtebpepjlhanopaaM1
import Derived.Test.YtebpepjlhanopaaM5
import Derived.Test.YtebpepjlhanopaaP1
namespace Go.Proofs.Ytebpepjlhanopaa
open Go Go.RowKit Go.Proofs.Tail Go.Shelf Go.Sort
attribute [local go_sem] Oper.semAt_some
set_option linter.unusedSimpArgs false
set_option linter.unusedVariables false
theorem sortT_of_perm {xs ys : List T} (h : xs.Perm ys) : sortT xs = sortT ys := by
  have h1 : (sortT xs).Perm (sortT ys) := ((sortT_perm xs).trans h).trans (sortT_perm ys).symm
  refine List.Perm.eq_of_pairwise (fun a b _ _ h1 h2 => ?_) (sortT_sorted xs) (sortT_sorted ys) h1
  have h3 := leT_iff.1 h1
  have h4 := leT_iff.1 h2
  have h := cmp_anti a b 3
  unfold cfT at h3 h4
  exact cmp_zero.1 (by omega)
/-- A time's box, whatever turns that is no cells. -/
def Bx0 (W : World) (B : Nat) (x : T) : Prop := W.heap[B]? = some (.cells #[.int .i64 x.d, .int .i64 x.e, .int .i64 x.a, .int .i64 x.b, .int .i64 x.c] 28)
theorem bx0_cells {w : World} {B : Nat} {t : T} (h : Bx0 w B t) : w.cell? ⟨B, 0, none⟩ = some (.int .i64 t.d) ∧ w.cell? ⟨B, 1, none⟩ = some (.int .i64 t.e) ∧ w.cell? ⟨B, 2, none⟩ = some (.int .i64 t.a) ∧ w.cell? ⟨B, 3, none⟩ = some (.int .i64 t.b) ∧ w.cell? ⟨B, 4, none⟩ = some (.int .i64 t.c) := (⟨h⟩ : Bx w B t).cells
theorem bx0_own {X Y : World} {row : Option Nat} {B : Nat} {x : T} (hg : X.grownBy Y row) (hr : ∀ r, row = some r → ∃ o : Obj, X.heap[r]? = some o ∧ o.isCells = false) (h : Bx0 X B x) : Bx0 Y B x := by
  unfold Bx0 at *
  refine (hg.block B (Array.getElem?_eq_some_iff.1 h).1 fun e => ?_).trans h
  obtain ⟨o, h1, h2⟩ := hr B e.symm
  rw [h] at h1
  cases h1
  cases h2
set_option maxRecDepth 100000 in
set_option maxHeartbeats 8000000 in
theorem appendseq_in (n : Nat) (hn : 4 ≤ n) (Bm b : Nat) (L : List (T × Value)) (w : World) (hBm : Bm < w.heap.size) (hm : w.cell? ⟨Bm, 0, none⟩ = some (.map (some b))) (hown : Mp eT w b L) (hlim : L.length ≤ 1000000) :
    CallsIn Fence.wide n Try.prog 60 #[.slice none 0 0, .func (.func 46) #[] #[.pointer (some ⟨Bm, 0, none⟩)]] w fun e w' => ∃ ss : List T, ss.Perm (L.map Prod.fst) ∧ GivesTms ss w e w' := by
  have h1 : 1 ≤ n := by omega
  obtain ⟨i0, hi0, hz0, hz1, hz2⟩ := info_parts infoT
  refine callsIn_of_wp_marks Try.func60 rfl trivial ?_ rfl
  simp only [Try.ntmps60, List.size_toArray, List.length_cons, List.length_nil, Nat.reduceAdd, Nat.reduceSub, Array.replicate_succ, Array.replicate_zero, List.push_toArray, List.append_toArray, List.nil_append, List.cons_append]
  gi_wp2
  have bO := Boxed.new w 33 (.slice none 0 0)
  have hB0 : Below w.heap.size w (w.alloc (.cells #[.slice none 0 0] 33)) := (Below.refl _ w).alloc (Nat.le_refl _) _
  have hm0 : (w.alloc (.cells #[.slice none 0 0] 33)).cell? ⟨Bm, 0, none⟩ = some (.map (some b)) := below_cell hB0 hm
  refine wpIn_rangeFunc_ownH rfl h1 (gf := 46) (lb := #[.pointer (some ⟨Bm, 0, none⟩)]) rfl trivial (enters_of Try.func46 (by kernel_rfl) rfl)
    (keys_stops (n - 1) (by omega) Bm b L _ (by simp; omega) hm0 (hown.below hB0)) walksK_t walksK_b (Below.refl _ _) (fun _ => rfl)
    (fun pre W => (∃ v, Boxed W w.heap.size 33 v ∧ W.ownsRow w.heap.size 28 5 v pre.length (recT pre) ∧ True) ∧ (Below w.heap.size w W ∧ w.heap.size + 1 ≤ W.heap.size))
    (fun _ _ _ => False)
    (OwnFrom.and (Own.from (holdsRow_own w.heap.size w.heap.size 33 28 5 (fun pre => pre.length) (fun pre => recT pre) (fun _ _ => True)) _) (OwnFrom.and (ownFrom_below (Nat.le_refl _) (by simp)) (fun _ _ _ _ hs hg _ => Nat.le_trans hs hg.size)))
    (fun _ _ _ _ _ hs _ _ => hs)
    ⟨⟨_, bO, World.ownsRow_nil _ _ _ _, trivial⟩, hB0, by simp⟩
    (fun x a' W => ∃ Bx, w.heap.size < Bx ∧ Bx < W.heap.size ∧ Bx0 W Bx x ∧ a' = { tmps := #[.slice none 0 0, .func (.func 46) #[] #[.pointer (some ⟨Bm, 0, none⟩)], .pointer (some ⟨w.heap.size, 0, none⟩), undef, .slice none 0 0, .pointer (some ⟨Bx, 0, none⟩), .func (.func 46) #[] #[.pointer (some ⟨Bm, 0, none⟩)], .agg #[.int .i64 x.d, .int .i64 x.e, .int .i64 x.a, .int .i64 x.b, .int .i64 x.c], undef, undef, undef, undef, undef], defers := [] })
    (fun x a' _ X Y row hs hg hr => by
      obtain ⟨Bx, h1, h2, h3, h4⟩ := hs
      exact ⟨Bx, h1, Nat.lt_of_lt_of_le h2 hg.size, bx0_own hg (fun r e => (hr r e).2) h3, h4⟩)
    ?assign ?body ?done ?stop
  case assign =>
    rintro l pre x W K ⟨⟨v, hv, hrow, _⟩, hB, hsz⟩ hK
    gi_wp2
    exact hK _ _ ((KeepsOthers.alloc _ _).from _) (KeepsWalks.alloc _ _) ⟨⟨v, hv.alloc _, hrow.alloc _, trivial⟩, hB.alloc hB.size _, by simp; omega⟩ ⟨W.heap.size, by omega, by simp, heap_alloc_new _ _, rfl⟩
  case body =>
    rintro l pre x a' W hl ⟨r, hr⟩ ⟨⟨v, hv, hrow, _⟩, hB, hsz⟩ ⟨Bx, hBx, hBl, bX, rfl⟩ hlt
    have hc := hv.cell
    obtain ⟨c0, c1, c2, c3, c4⟩ := bx0_cells bX
    have hp5 : 0 < 5 := by decide
    have HONE := Lib.hid (show ∀ u ∈ [.int .i64 x.d, .int .i64 x.e, .int .i64 x.a, .int .i64 x.b, .int .i64 x.c], Value.oneCell' u = true by simp [Value.oneCell'])
    have HM := Lib.hid (show pre.length + 1 ≤ maxLen by unfold maxLen; omega)
    have HM2 := Lib.hid (show (pre.length + 1) * 40 ≤ 140737488355328 by omega)
    have HV := Lib.hid hv
    have HO := Lib.hid hrow
    have HB := Lib.hid hB
    clear hv hrow hB hm hm0 hown hBm hlim
    gi_wp2_with (gi_at_builtin; refine wpListIn_append_own _ rfl _ _ 33 rfl w.heap.size 28 i0 _ 5 40 Try.underlying33 hi0 hz0 hz1 hz2 rfl hp5 v pre.length _ rfl (HO.out.alloc _) ⟨W.heap.size, 0, none⟩ 1 1 [.int .i64 x.d, .int .i64 x.e, .int .i64 x.a, .int .i64 x.b, .int .i64 x.c] rfl rfl (World.news_of_block (World.alloc_heap_new _ _)) HONE.out HM.out HM2.out (Nat.le_trans HB.out.size (by simp)) ?_
                 intro v' w1 hown' hgr _
                 obtain ⟨g', cap', rfl⟩ := ownsRow_succ hown'
                 have HE := Lib.hid (HV.out.appended (by decide) HO.out HB.out.size (Nat.le_refl _) hown' hgr)
                 have hc1 := HE.out.1.cell
                 have hf1 := HE.out.1.frozen
                 clear hown' hgr)
    obtain ⟨_, e2, e3, e4, e5⟩ := HE.out
    exact ⟨e4.from _, e4.walks, ⟨⟨_, e2, by rw [recT_append, List.length_append]; exact e3, trivial⟩, HB.out.trans e5, Nat.le_trans hsz e5.size⟩⟩
  case done =>
    rintro D ys W hD hS ⟨⟨v, hv, hrow, _⟩, hB, hsz⟩ hK
    have hc := hv.cell
    gi_wp2
    refine ⟨by simp, .inl ⟨_, _, rfl, run_takeDeferred hK, ?_⟩⟩
    exact ⟨_, results_tmp rfl _ _ _, ys, hS, _, rfl, ownsRow_putObj hrow _ hK rfl, hB.trans (belowK_b (w := w) (Nat.le_refl _) W D _ _ (by simp at hD; omega) hK rfl rfl)⟩
  case stop =>
    rintro D c pre W _ _ h _
    exact h.elim
theorem enters_seq : ∀ args w, (callFunc 60 args).run Try.prog w = .ok (.enter 60 args) w := enters_of Try.func60 (by kernel_rfl) rfl
set_option maxHeartbeats 2000000 in
theorem collect_in (Bm b : Nat) (L : List (T × Value)) (w : World) (hBm : Bm < w.heap.size) (hm : w.cell? ⟨Bm, 0, none⟩ = some (.map (some b))) (hown : Mp eT w b L) (hlim : L.length ≤ 1000000) :
    CallsIn Fence.wide 7 Try.prog 44 #[.func (.func 46) #[] #[.pointer (some ⟨Bm, 0, none⟩)]] w fun e w' => ∃ ss : List T, ss.Perm (L.map Prod.fst) ∧ GivesTms ss w e w' := by
  have HA := Lib.hid (appendseq_in 6 (by omega) Bm b L w hBm hm hown hlim)
  clear hBm hm hown hlim
  refine callsIn_of_wp Try.func44 rfl trivial ?_ rfl
  simp only [Try.ntmps44, List.size_toArray, List.length_cons, List.length_nil, Nat.reduceAdd, Nat.reduceSub, Array.replicate_succ, Array.replicate_zero, List.push_toArray, List.append_toArray, List.nil_append, List.cons_append]
  gi_wp2_with (refine ⟨trivial, ?_⟩; gi_at_call 60; refine HA.out.mono ?_; rintro e w1 ⟨ss, hp, v, rfl, hrow, hB⟩)
  go_ret
  exact ⟨ss, hp, v, rfl, hrow, hB⟩
set_option maxHeartbeats 2000000 in
theorem sortedfunc_in (Bm b : Nat) (L : List (T × Value)) (w : World) (hBm : Bm < w.heap.size) (hm : w.cell? ⟨Bm, 0, none⟩ = some (.map (some b))) (hown : Mp eT w b L) (hlim : L.length ≤ 1000000) :
    CallsIn Fence.wide 8 Try.prog 27 #[.func (.func 46) #[] #[.pointer (some ⟨Bm, 0, none⟩)], .func (.func 29) #[] #[]] w (GivesTms (sortT (L.map Prod.fst)) w) := by
  have HA := Lib.hid (collect_in Bm b L w hBm hm hown hlim)
  have HL := Lib.hid hlim
  clear hBm hm hown hlim
  refine callsIn_of_wp Try.func27 rfl trivial ?_ rfl
  simp only [Try.ntmps27, List.size_toArray, List.length_cons, List.length_nil, Nat.reduceAdd, Nat.reduceSub, Array.replicate_succ, Array.replicate_zero, List.push_toArray, List.append_toArray, List.nil_append, List.cons_append]
  gi_wp2_with (refine ⟨trivial, ?_⟩; gi_at_call 44; refine HA.out.mono ?_; rintro e w1 ⟨ss, hp, v, rfl, hrow, hB⟩)
  have hl : ss.length ≤ 1000000 := by rw [hp.length_eq, List.length_map]; exact HL.out
  have HS := Lib.hid (sort_any w.heap.size v ss w1 hrow (by omega))
  have hs : sortT (L.map Prod.fst) = sortT ss := sortT_of_perm hp.symm
  have HO := Lib.hid hrow
  have HB := Lib.hid hB
  have HSO := Lib.hid hs
  clear hrow hB hp hl hs
  gi_wp2_with (refine ⟨trivial, ?_⟩; gi_at_call 45; refine (callsIn_wide.2 HS.out).mono ?_; rintro e w2 ⟨rfl, hrow2, hf2⟩)
  go_ret
  refine ⟨v, rfl, by rw [HSO.out]; exact hrow2, ?_⟩
  exact ⟨hf2.os.trans HB.out.os, hf2.tape.trans HB.out.tape, hf2.output.trans HB.out.output, Nat.le_trans HB.out.size hf2.size, fun k hk => by
    refine (hf2.block k (Nat.lt_of_lt_of_le hk HB.out.size) fun hc => ?_).trans (HB.out.block k hk)
    have := own_lt HO.out k hc
    omega⟩
set_option maxHeartbeats 2000000 in
theorem times_map (P b : Nat) (d : Int) (L : List (T × Value)) (w : World) (hb : Blk w P [.int .i64 d, .map (some b)] 54) (hown : Mp eT w b L) (hlim : L.length ≤ 1000000) :
    Calls Try.prog 12 #[.pointer (some ⟨P, 0, none⟩)] w (GivesTms (sortT (L.map Prod.fst)) w) := by
  have p1 := hb.cell 1
  have HB := Lib.hid (below_new w (.cells #[.map (some b)] 52))
  have HA := Lib.hid (sortedfunc_in w.heap.size b L (w.alloc (.cells #[.map (some b)] 52)) (by simp) (by simp) (hown.below HB.out) hlim)
  clear hb hown hlim
  refine (callsIn_wide (n := 9)).1 ?_
  refine callsIn_of_wp Try.func12 rfl trivial ?_ rfl
  simp only [Try.ntmps12, List.size_toArray, List.length_cons, List.length_nil, Nat.reduceAdd, Nat.reduceSub, Array.replicate_succ, Array.replicate_zero, List.push_toArray, List.append_toArray, List.nil_append, List.cons_append]
  gi_wp2_with (first
    | (refine ⟨trivial, ?_⟩; gi_at_call 28; refine (keys_in Fence.wide _ trivial rfl _ _).mono ?_; rintro e w1 ⟨rfl, rfl⟩)
    | (refine ⟨trivial, ?_⟩; gi_at_call 27; refine HA.out.mono ?_; rintro e w2 ⟨v, rfl, hrow, hB2⟩))
  go_ret
  exact ⟨v, rfl, own_base hrow HB.out.size, below_then HB.out hB2⟩
theorem times_nil (w : World) : Calls Try.prog 12 #[.pointer none] w (GivesTms [] w) := by
  go_enter Try.func12, Try.ntmps12
  go_wp2
  go_ret
  exact ⟨_, rfl, World.ownsRow_nil _ _ _ _, Below.refl _ _⟩
end Go.Proofs.Ytebpepjlhanopaa
