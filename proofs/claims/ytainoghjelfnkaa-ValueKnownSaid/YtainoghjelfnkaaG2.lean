/- Contract of value.Get. -/
import Derived.RangeFuncNested
import Derived.RangeFuncBound
import Derived.RangeFuncCalls
import Derived.RangeFuncLeaves
import Derived.RangeFuncBox
import Derived.Shelf.Abstract
import Derived.Shelf.RegionOpen
import Derived.WalkKit
import Derived.OwnWalkIn
import Derived.TacticsInMore
import Derived.LoopNIn
import Derived.LoopIn
import Derived.Sort.QuietIn
import Derived.Deep.AppendLies
import Derived.Test.YtainoghjelfnkaaRows
import Derived.IntWalk
import Derived.Test.YtainoghjelfnkaaWords
import Derived.Test.YtainoghjelfnkaaByts
import Derived.Test.YtainoghjelfnkaaElems
import Derived.Test.YtainoghjelfnkaaV1
import Derived.Test.YtainoghjelfnkaaV2
import Derived.Test.YtainoghjelfnkaaV10
import Derived.Test.YtainoghjelfnkaaN1
import Derived.Test.YtainoghjelfnkaaN2
import Derived.Test.YtainoghjelfnkaaN3
import Derived.Test.YtainoghjelfnkaaG1
namespace Go.Proofs.Ytainoghjelfnkaa
open Go Go.RowKit Go.Proofs.Tail Go.Shelf
attribute [local go_sem] Oper.semAt_some
set_option linter.unusedSimpArgs false
set_option linter.unusedVariables false
theorem step_append_in {F : Fence} {fu : Nat} {P : Program} {w : World} {ops : Array Oper} {o : Oper} {a : Act} {K : Act → World → Prop} {Q : Exit → Act → World → Prop} {E : Prop} (hgd : o.guard = none) (s x : Operand) (t : TypeId)
    (ho : o.op = .call { callee := .builtin .append, args := #[s, x], argTypes := #[t, t] })
    (base : Nat) (e : TypeId) (i : TypeInfo) (z : Value) (size bytes : Nat) (ht : P.underlying t = some (.slice e)) (hi : P.info? e = some i) (hz : i.zero = some z)
    (hsize : i.size = size) (hby : i.bytes = bytes) (hzs : z.cells.size = size) (hsz : 0 < size)
    (v : Value) (n : Nat) (xs : List Value) (hs : a.eval s = v) (hown : w.ownsRow base e size v n xs)
    (ad : Addr) (m c : Nat) (news : List Value) (hx : a.eval x = .slice (some ad) m c) (hl : news.length = m * size) (hnews : ∀ j u, news[j]? = some u → w.cell? (ad.add j) = some u) (h1 : ∀ u ∈ news, u.oneCell' = true)
    (hm : 0 < m) (h63 : n + m ≤ maxLen) (hbytes : (n + m) * bytes ≤ 140737488355328) (hbase : base ≤ w.heap.size)
    (h : ∀ g cap w', w'.ownsRow base e size (.slice (some ⟨g, 0, none⟩) (n + m) cap) (n + m) (xs ++ news) → w.grownBy w' v.ownBlock → g < w'.heap.size → K (a.put o.dst (.slice (some ⟨g, 0, none⟩) (n + m) cap)) w') :
    if Region.wanted o (yielded ops a.tmps) = true then Oper.wpIn F fu P o a w K Q else E := by
  have hw : Region.wanted o (yielded ops a.tmps) = true := by simp [Region.wanted, hgd]
  rw [if_pos hw]
  obtain ⟨g, cap, w', hr, h2, h3, h4, h5⟩ := run_append_lies (P := P) w t o.type base e i z size bytes ht hi hz hsize hby hzs hsz v n xs hown ad m c news hl hnews h1 hm h63 hbytes hbase _ rfl
  unfold Oper.wpIn
  refine ⟨?_, ?_⟩
  · simp [Oper.about, ho, resolve, Target.leads, Sem.run_pure]
  · rw [Oper.semAt_plain F _ _ (by rw [ho]; intro c hc'; cases hc')]
    simp [execOp, ho, resolve, invoke, builtin, hs, hx, hr, Result.andThen]
    exact h g cap w' h2 h3 h5
theorem stage_in {F : Fence} {n : Nat} {P : Program} {md : Region.Mode} {ops : Array Oper} {Q : Exit → Act → World → Prop} {f : Nat} {l : Array Bool} {a : Act} {w : World} (f' : Nat) (L : Array Bool) (Φ : Act → World → Prop)
    (tail : ∀ a w, Φ a w → wpAnyIn F n P md ops Q f' L a w) (h : Hid (∀ a w, Φ a w → wpAnyIn F n P md ops Q f' L a w) → wpAnyIn F n P md ops Q f l a w) : wpAnyIn F n P md ops Q f l a w := h (Lib.hid tail)
theorem byts_sub {w : World} {b off n c : Nat} {xs : List Int} (h : Byts w (some ⟨b, off, none⟩) n c xs) {p : Nat} (hp : p + 8 ≤ n) {c' : Nat} (hc : 8 ≤ c') : Byts w (some ⟨b, off + p, none⟩) 8 c' ((xs.drop p).take 8) :=
  ⟨by rw [List.length_take, List.length_drop, h.len]; omega, hc, by omega, fun _ => by
    obtain ⟨b', off', e, hc⟩ := h.at_ (by omega)
    injection e with e
    injection e with e1 e2
    subst e1 e2
    refine ⟨b, off + p, rfl, fun j x hj => ?_⟩
    rw [List.getElem?_take] at hj
    split at hj
    · rw [List.getElem?_drop] at hj
      have := hc (p + j) x hj
      rw [Nat.add_mul, ← Nat.add_assoc] at this
      simpa using this
    · cases hj⟩
def recP {m : Nat} (xs : List Int) (pre : List (Fin m)) : List Rc := pre.map fun j => recAt xs (16 * j.1)
theorem recP_snoc {m : Nat} (xs : List Int) (pre : List (Fin m)) (x : Fin m) : recP xs (pre ++ [x]) = recP xs pre ++ [recAt xs (16 * x.1)] := by simp [recP]
theorem keeps_below {A B : World} (h : Below A.heap.size A B) : KeepsOthers A B := ⟨h.size, fun k o hk _ => (h.block k (Array.getElem?_eq_some_iff.1 hk).1).trans hk⟩
theorem recP_all (m : Nat) (xs : List Int) : recP xs (List.finRange m) = recsK xs m := by
  unfold recP recsK
  apply List.ext_getElem
  · simp
  · intro i h1 h2; simp
theorem body_end {n k : Nat} {ys zs : List Value} {w W Wx w3 : World} {v v' : Value} (hv : Boxed W w.heap.size 22 v) (hrow : W.ownsRow (w.heap.size + 3) 32 2 v n ys) (hB : Below w.heap.size w W) (hsz : w.heap.size + 3 ≤ W.heap.size)
    (hch : Below W.heap.size W Wx) (hgr : Wx.grownBy w3 v.ownBlock) (hown' : w3.ownsRow (w.heap.size + 3) 32 2 v' k zs) :
    Boxed w3 w.heap.size 22 v ∧ KeepsOthers W (w3.setCell ⟨w.heap.size, 0, none⟩ v') ∧ Kb (w.heap.size + 1) (w.heap.size + 1 + 1) W (w3.setCell ⟨w.heap.size, 0, none⟩ v') ∧
    Boxed (w3.setCell ⟨w.heap.size, 0, none⟩ v') w.heap.size 22 v' ∧ (w3.setCell ⟨w.heap.size, 0, none⟩ v').ownsRow (w.heap.size + 3) 32 2 v' k zs ∧ Below w.heap.size w (w3.setCell ⟨w.heap.size, 0, none⟩ v') ∧ w.heap.size + 3 ≤ (w3.setCell ⟨w.heap.size, 0, none⟩ v').heap.size := by
  have hlt := hrow.lt
  have hx := hch.size
  have hv1 : Boxed Wx w.heap.size 22 v := (hch.block _ hv.lt).trans hv
  have hne : ∀ j, j < w.heap.size + 3 → some j ≠ v.ownBlock := fun j hj e => by have := (hlt j e.symm).1; omega
  have hv3 : Boxed w3 w.heap.size 22 v := hv1.kept hgr (hne _ (by omega))
  have hl3 := hown'.lt
  refine ⟨hv3, ((keeps_below hch).trans (KeepsOthers.of_grownBy hgr fun j o ej hj => ?_)).trans (KeepsOthers.setCell _ _ _), ((Kb.below hch (by omega) (by omega)).trans (Kb.grown hgr (by omega) (by omega) (hne _ (by omega)) (hne _ (by omega)))).trans ⟨Below.heap_setCell _ _ _ _ (by simp), Below.heap_setCell _ _ _ _ (by simp; omega)⟩, hv3.set v', hown'.kept (grownBy_setCell' w3 _ v') (.inr fun e => by have := (hl3 _ e).1; omega), ?_, ?_⟩
  · have hx1 := (hch.block j (hlt j ej).2).symm.trans hj
    rcases hrow.2 with ⟨rfl, _⟩ | ⟨g, cap, cur, rfl, _, hgb, _⟩
    · simp [Value.ownBlock] at ej
    · obtain rfl : g = j := by simpa [Value.ownBlock] using ej
      rw [hgb] at hx1; cases hx1; rfl
  · exact ((hB.trans (hch.mono hB.size)).grown hgr (by omega) fun j ej => by have := (hlt j ej).1; omega).setCell (p := ⟨w.heap.size, 0, none⟩) (Nat.le_refl _) v'
  · have h1 := hgr.size
    have : (w3.setCell ⟨w.heap.size, 0, none⟩ v').heap.size = w3.heap.size := by simp [World.setCell]
    omega
set_option maxRecDepth 100000 in
set_option maxHeartbeats 8000000 in
theorem get_yes (b off m c : Nat) (A : Option Addr) (xs : List Int) (w : World) (hA : A = some ⟨b, off, none⟩ ∨ m = 0) (hX : Byts w A (16 * m) c xs) (hi : InB xs) (hlim : m ≤ 6250) :
    CallsIn Fence.wide 4 Try.prog 23 #[.slice A (16 * m) c] w (GivesGet (some (recsK xs m)) w) := by
  have h1 : 1 ≤ 4 := by omega
  obtain ⟨i0, hi0, hz0, hz1, hz2⟩ := info_parts infoR
  have z1 : (((16 * m : Nat) : Int).tmod 16) = 0 := by rw [Int.tmod_eq_emod_of_nonneg (by omega)]; omega
  have z1' : ((16 * m : Nat) : Int) % 16 = 0 := by omega
  refine callsIn_of_wp_marks Try.func23 rfl trivial ?_ rfl
  simp only [Try.ntmps23, List.size_toArray, List.length_cons, List.length_nil, Nat.reduceAdd, Nat.reduceSub, Array.replicate_succ, Array.replicate_zero, List.push_toArray, List.append_toArray, List.nil_append, List.cons_append]
  gi_wp2_with (refine ⟨trivial, ?_⟩; gi_at_call 34; refine (chunk_in Fence.wide _ trivial rfl _ _ _ _).mono ?_; rintro e w' ⟨rfl, rfl⟩)
  have bO := Boxed.new w 22 (.slice none 0 0)
  have bS := Boxed.new (w.alloc (.cells #[.slice none 0 0] 22)) 37 (.slice A (16 * m) c)
  have bN := Boxed.new ((w.alloc (.cells #[.slice none 0 0] 22)).alloc (.cells #[.slice A (16 * m) c] 37)) 3 (.int .i64 16)
  rw [World.size_alloc] at bS
  rw [World.size_alloc, World.size_alloc] at bN
  have hB0 : Below w.heap.size w (((w.alloc (.cells #[.slice none 0 0] 22)).alloc (.cells #[.slice A (16 * m) c] 37)).alloc (.cells #[.int .i64 16] 3)) := (((Below.refl _ w).alloc (Nat.le_refl _) _).alloc (by simp) _).alloc (by simp; omega) _
  refine wpIn_rangeFunc_ownG rfl h1 (gf := 42) (lb := #[.pointer (some ⟨w.heap.size + 1, 0, none⟩), .pointer (some ⟨w.heap.size + 1 + 1, 0, none⟩)]) rfl trivial (enters_of Try.func42 (by kernel_rfl) rfl)
    (chunk_stops 3 (by omega) (w.heap.size + 1) (w.heap.size + 1 + 1) b off m c A hA hX.cap (by omega) _ (by simp) (by simp) (bS.alloc _).cell bN.cell) Kb.trans (fun W l o o' hl _ _ _ => by
      have hl' : w.heap.size + 3 ≤ l := by simpa using hl
      exact ⟨World.putObj_heap_other (by omega), World.putObj_heap_other (by omega)⟩) (Below.refl _ _) (fun _ => rfl)
    (fun pre W => (∃ v, Boxed W w.heap.size 22 v ∧ W.ownsRow (w.heap.size + 3) 32 2 v (recP xs pre).length (recV (recP xs pre)) ∧ True) ∧ (Below w.heap.size w W ∧ w.heap.size + 3 ≤ W.heap.size))
    (fun _ _ _ => False)
    (OwnFrom.and (Own.from (holdsRow_own (w.heap.size + 3) w.heap.size 22 32 2 (fun pre => (recP xs pre).length) (fun pre => recV (recP xs pre)) (fun _ _ => True)) _) (OwnFrom.and (ownFrom_below (Nat.le_refl _) (by simp; omega)) (fun _ _ _ _ hs hg _ => Nat.le_trans hs hg.size)))
    (fun _ _ _ _ _ hs _ _ => hs)
    ⟨⟨_, (bO.alloc _).alloc _, World.ownsRow_nil _ _ _ _, trivial⟩, hB0, by simp⟩
    (fun x => { tmps := #[.slice A (16 * m) c, undef, .slice none 0 0, .int .i64 0, .pointer (some ⟨w.heap.size, 0, none⟩), six b off x.1, .slice A (16 * m) c, .int .i64 ((16 * m : Nat) : Int), .int .i64 0, .bool false, .slice A (16 * m) c, .func (.func 42) #[] #[.pointer (some ⟨w.heap.size + 1, 0, none⟩), .pointer (some ⟨w.heap.size + 1 + 1, 0, none⟩)], six b off x.1, undef, undef, undef, undef, undef, undef, undef, undef, undef, undef, undef], defers := [] }) ?assign ?body ?done ?stop
  case assign =>
    intro l x W K hK
    gi_wp2
    exact hK
  case body =>
    rintro l pre x W ⟨⟨v, hv, hrow, _⟩, hB, hsz⟩ hlt
    have hc := hv.cell
    have hxm := x.2
    have hA1 : A = some ⟨b, off, none⟩ := by
      rcases hA with h | h
      · exact h
      · omega
    subst hA1
    have hX1 := hX.below RByte.stays hB
    have hpl : (recP xs pre).length ≤ 6250 := by unfold recP; rw [List.length_map]; omega
    have s1 := byts_sub hX1 (p := 16 * x.1) (by omega) (c' := 16) (by omega)
    have s2 := byts_sub hX1 (p := 16 * x.1 + 8) (by omega) (c' := 8) (by omega)
    have C1 := Lib.hid (fun (V : World) (h : Below W.heap.size W V) => number_any (some ⟨b, off + 16 * x.1, none⟩) 8 16 ((xs.drop (16 * x.1)).take 8) V (s1.below RByte.stays h) (fun y hy => hi y (List.mem_of_mem_drop (List.mem_of_mem_take hy))) (by omega))
    have C2 := Lib.hid (fun (V : World) (h : Below W.heap.size W V) => number_any (some ⟨b, off + 16 * x.1 + 8, none⟩) 8 8 ((xs.drop (16 * x.1 + 8)).take 8) V (s2.below RByte.stays h) (fun y hy => hi y (List.mem_of_mem_drop (List.mem_of_mem_take hy))) (by omega))
    have hre : recAt xs (16 * x.1) = (num ((xs.drop (16 * x.1)).take 8), num ((xs.drop (16 * x.1 + 8)).take 8)) := rfl
    have HRE := Lib.hid hre
    have HRP := Lib.hid (recP_snoc xs pre x)
    have HV := Lib.hid hv
    have HO := Lib.hid hrow
    have HB := Lib.hid hB
    clear hre s1 s2 hX1 hv hrow hB
    generalize num ((xs.drop (16 * x.1)).take 8) = a1 at *
    generalize num ((xs.drop (16 * x.1 + 8)).take 8) = a2 at *
    have u37 := Try.underlying37
    have z5 := Try.sizeOf5
    unfold six
    gi_wp2
    have hp2 : 0 < 2 := by decide
    have hp1 : 0 < 1 := by decide
    have HONE := Lib.hid (show ∀ u ∈ [Value.int .i64 a1, Value.int .i64 a2], u.oneCell' = true by simp [Value.oneCell'])
    have HM := Lib.hid (show (recP xs pre).length + 1 ≤ maxLen by unfold maxLen; omega)
    have HM2 := Lib.hid (show ((recP xs pre).length + 1) * 16 ≤ 140737488355328 by omega)
    refine wpIn_region_any (by kernel_rfl) ?_
    try (change wpAnyIn _ _ _ _ _ _ _ _ _ (World.drew _))
    refine stage_in 2 #[true, true, true, true, true, true, true, true, true, false, false] (fun a V => ∃ w2 : World, a = ({ tmps := #[Value.slice (some ⟨b, off, none⟩) (16 * m) c, undef, Value.slice none 0 0, Value.int .i64 0, Value.pointer (some ⟨w.heap.size, 0, none⟩), Value.slice (some ⟨b, off + 16 * x.1, none⟩) 16 16, Value.slice (some ⟨b, off, none⟩) (16 * m) c, Value.int .i64 (16 * (m : Int)), Value.int .i64 0, Value.bool false, Value.slice (some ⟨b, off, none⟩) (16 * m) c, Value.func (.func 42) #[] #[.pointer (some ⟨w.heap.size + 1, 0, none⟩), .pointer (some ⟨w.heap.size + 1 + 1, 0, none⟩)], Value.slice (some ⟨b, off + 16 * x.1, none⟩) 16 16, v, Value.slice (some ⟨b, off + 16 * x.1, none⟩) 16 16, Value.slice (some ⟨b, off + 16 * x.1, none⟩) 8 16, Value.int .i64 a1, Value.slice (some ⟨b, off + 16 * x.1, none⟩) 16 16, Value.slice (some ⟨b, off + 16 * x.1 + 8, none⟩) 8 8, Value.int .i64 a2, Value.agg #[.int .i64 a1, .int .i64 a2], Value.slice (some ⟨w2.heap.size, 0, none⟩) 1 1, undef, undef], defers := [] } : Act) ∧ Hid (Below W.heap.size W w2) ∧ V = w2.alloc (.cells #[.int .i64 a1, .int .i64 a2] 32)) ?_ (fun TAIL => ?_)
    · as_aux_lemma =>
        rintro a V ⟨w2, rfl, HW2, rfl⟩
        have q3 := below_cell (below_alloc HW2.out (.cells #[.int .i64 a1, .int .i64 a2] 32)) hc
        refine wpAnyIn_ready (rs := [9]) (by kernel_rfl) (by simp) ?_
        refine AllReadyIn.cons rfl (fun K hK => ?_) ?_
        · skip
          refine step_append_in rfl (.tmp 13) (.tmp 21) 22 rfl (w.heap.size + 3) 32 i0 _ 2 16 Try.underlying22 hi0 hz0 hz1 hz2 rfl hp2 v _ _ rfl (own_below HO.out (below_alloc HW2.out _)) ⟨w2.heap.size, 0, none⟩ 1 1 [.int .i64 a1, .int .i64 a2] rfl rfl (World.news_of_block (World.alloc_heap_new _ _)) HONE.out hp1 HM.out HM2.out (Nat.le_trans hsz (below_alloc HW2.out _).size) ?_
          intro g cap w3 hown' hgr hlt3
          have HE := Lib.hid (body_end HV.out HO.out HB.out hsz (below_alloc HW2.out _) hgr hown')
          have hc3 := HE.out.1.cell
          have hf3 := HE.out.1.frozen
          clear hown' hgr
          refine hK _ _ ?_
          clear hK K
          refine wpAnyIn_ready (rs := [10]) (by kernel_rfl) (by simp) ?_
          refine AllReadyIn.cons rfl (fun K hK => ?_) ?_
          · skip
            go_simp
            refine hK _ _ ?_
            clear hK K
            refine wpAnyIn_done (by kernel_rfl) ?_ _
            gi_wp2
            exact ⟨HE.out.2.1.from _, HE.out.2.2.1, ⟨_, HE.out.2.2.2.1, by rw [HRP.out, recV_append, HRE.out, List.length_append]; exact HE.out.2.2.2.2.1, trivial⟩, HE.out.2.2.2.2.2⟩
          exact AllReadyIn.nil
        exact AllReadyIn.nil
    refine wpAnyIn_ready (rs := [0, 1, 4]) (by kernel_rfl) (by simp) ?_
    refine AllReadyIn.cons rfl (fun K hK => ?_) ?_
    · skip
      go_simp
      refine hK _ _ ?_
      clear hK K
      refine wpAnyIn_ready (rs := [1, 4]) (by kernel_rfl) (by simp) ?_
      refine AllReadyIn.cons rfl (fun K hK => ?_) ?_
      · skip
        go_simp
        refine hK _ _ ?_
        clear hK K
        refine wpAnyIn_ready (rs := [2, 4]) (by kernel_rfl) (by simp) ?_
        refine AllReadyIn.cons rfl (fun K hK => ?_) ?_
        · skip
          go_simp
          refine hK _ _ ?_
          clear hK K
          refine wpAnyIn_ready (rs := [3, 4]) (by kernel_rfl) (by simp) ?_
          refine AllReadyIn.cons rfl (fun K hK => ?_) ?_
          · skip
            go_simp
            gi_wp2_with (refine ⟨trivial, ?_⟩; gi_at_call 35; (with_reducible refine (CallsIn.inRound l (callsIn_wide.2 (C1.out _ (below_drew (Below.refl _ _))))).mono ?_); rintro e w1 ⟨rfl, hb1⟩; have HW1 := Lib.hid (below_then (below_drew (Below.refl W.heap.size W)) hb1); have q1 := below_cell HW1.out hc)
            refine wpAnyIn_ready (rs := [4]) (by kernel_rfl) (by simp) ?_
            refine AllReadyIn.cons rfl (fun K hK => ?_) ?_
            · skip
              go_simp
              refine hK _ _ ?_
              clear hK K
              refine wpAnyIn_ready (rs := [5]) (by kernel_rfl) (by simp) ?_
              refine AllReadyIn.cons rfl (fun K hK => ?_) ?_
              · skip
                go_simp
                refine hK _ _ ?_
                clear hK K
                refine wpAnyIn_ready (rs := [6]) (by kernel_rfl) (by simp) ?_
                refine AllReadyIn.cons rfl (fun K hK => ?_) ?_
                · skip
                  go_simp
                  gi_wp2_with (refine ⟨trivial, ?_⟩; gi_at_call 35; (with_reducible refine (CallsIn.inRound l (callsIn_wide.2 (C2.out _ HW1.out))).mono ?_); rintro e w2 ⟨rfl, hb2⟩; have HW2 := Lib.hid (below_then HW1.out hb2); have q2 := below_cell HW2.out hc; have q3 := below_cell (below_alloc HW2.out (.cells #[.int .i64 a1, .int .i64 a2] 32)) hc)
                  refine wpAnyIn_ready (rs := [7]) (by kernel_rfl) (by simp) ?_
                  refine AllReadyIn.cons rfl (fun K hK => ?_) ?_
                  · skip
                    go_simp
                    refine hK _ _ ?_
                    clear hK K
                    refine wpAnyIn_ready (rs := [8]) (by kernel_rfl) (by simp) ?_
                    refine AllReadyIn.cons rfl (fun K hK => ?_) ?_
                    · skip
                      go_simp
                      refine hK _ _ ?_
                      clear hK K
                      exact TAIL.out _ _ ⟨w2, rfl, HW2, rfl⟩
                    exact AllReadyIn.nil
                  exact AllReadyIn.nil
                exact AllReadyIn.nil
              exact AllReadyIn.nil
            exact AllReadyIn.nil
          refine AllReadyIn.cons rfl (fun K hK => ?_) ?_
          · skip
            go_simp
            refine hK _ _ ?_
            clear hK K
            refine wpAnyIn_ready (rs := [3, 5]) (by kernel_rfl) (by simp) ?_
            refine AllReadyIn.cons rfl (fun K hK => ?_) ?_
            · skip
              go_simp
              gi_wp2_with (refine ⟨trivial, ?_⟩; gi_at_call 35; (with_reducible refine (CallsIn.inRound l (callsIn_wide.2 (C1.out _ (below_drew (Below.refl _ _))))).mono ?_); rintro e w1 ⟨rfl, hb1⟩; have HW1 := Lib.hid (below_then (below_drew (Below.refl W.heap.size W)) hb1); have q1 := below_cell HW1.out hc)
              refine wpAnyIn_ready (rs := [5]) (by kernel_rfl) (by simp) ?_
              refine AllReadyIn.cons rfl (fun K hK => ?_) ?_
              · skip
                go_simp
                refine hK _ _ ?_
                clear hK K
                refine wpAnyIn_ready (rs := [6]) (by kernel_rfl) (by simp) ?_
                refine AllReadyIn.cons rfl (fun K hK => ?_) ?_
                · skip
                  go_simp
                  gi_wp2_with (refine ⟨trivial, ?_⟩; gi_at_call 35; (with_reducible refine (CallsIn.inRound l (callsIn_wide.2 (C2.out _ HW1.out))).mono ?_); rintro e w2 ⟨rfl, hb2⟩; have HW2 := Lib.hid (below_then HW1.out hb2); have q2 := below_cell HW2.out hc; have q3 := below_cell (below_alloc HW2.out (.cells #[.int .i64 a1, .int .i64 a2] 32)) hc)
                  refine wpAnyIn_ready (rs := [7]) (by kernel_rfl) (by simp) ?_
                  refine AllReadyIn.cons rfl (fun K hK => ?_) ?_
                  · skip
                    go_simp
                    refine hK _ _ ?_
                    clear hK K
                    refine wpAnyIn_ready (rs := [8]) (by kernel_rfl) (by simp) ?_
                    refine AllReadyIn.cons rfl (fun K hK => ?_) ?_
                    · skip
                      go_simp
                      refine hK _ _ ?_
                      clear hK K
                      exact TAIL.out _ _ ⟨w2, rfl, HW2, rfl⟩
                    exact AllReadyIn.nil
                  exact AllReadyIn.nil
                exact AllReadyIn.nil
              exact AllReadyIn.nil
            refine AllReadyIn.cons rfl (fun K hK => ?_) ?_
            · skip
              go_simp
              refine hK _ _ ?_
              clear hK K
              refine wpAnyIn_ready (rs := [3]) (by kernel_rfl) (by simp) ?_
              refine AllReadyIn.cons rfl (fun K hK => ?_) ?_
              · skip
                go_simp
                gi_wp2_with (refine ⟨trivial, ?_⟩; gi_at_call 35; (with_reducible refine (CallsIn.inRound l (callsIn_wide.2 (C1.out _ (below_drew (Below.refl _ _))))).mono ?_); rintro e w1 ⟨rfl, hb1⟩; have HW1 := Lib.hid (below_then (below_drew (Below.refl W.heap.size W)) hb1); have q1 := below_cell HW1.out hc)
                refine wpAnyIn_ready (rs := [6]) (by kernel_rfl) (by simp) ?_
                refine AllReadyIn.cons rfl (fun K hK => ?_) ?_
                · skip
                  go_simp
                  gi_wp2_with (refine ⟨trivial, ?_⟩; gi_at_call 35; (with_reducible refine (CallsIn.inRound l (callsIn_wide.2 (C2.out _ HW1.out))).mono ?_); rintro e w2 ⟨rfl, hb2⟩; have HW2 := Lib.hid (below_then HW1.out hb2); have q2 := below_cell HW2.out hc; have q3 := below_cell (below_alloc HW2.out (.cells #[.int .i64 a1, .int .i64 a2] 32)) hc)
                  refine wpAnyIn_ready (rs := [7]) (by kernel_rfl) (by simp) ?_
                  refine AllReadyIn.cons rfl (fun K hK => ?_) ?_
                  · skip
                    go_simp
                    refine hK _ _ ?_
                    clear hK K
                    refine wpAnyIn_ready (rs := [8]) (by kernel_rfl) (by simp) ?_
                    refine AllReadyIn.cons rfl (fun K hK => ?_) ?_
                    · skip
                      go_simp
                      refine hK _ _ ?_
                      clear hK K
                      exact TAIL.out _ _ ⟨w2, rfl, HW2, rfl⟩
                    exact AllReadyIn.nil
                  exact AllReadyIn.nil
                exact AllReadyIn.nil
              exact AllReadyIn.nil
            exact AllReadyIn.nil
          exact AllReadyIn.nil
        refine AllReadyIn.cons rfl (fun K hK => ?_) ?_
        · skip
          go_simp
          refine hK _ _ ?_
          clear hK K
          refine wpAnyIn_ready (rs := [2, 5]) (by kernel_rfl) (by simp) ?_
          refine AllReadyIn.cons rfl (fun K hK => ?_) ?_
          · skip
            go_simp
            refine hK _ _ ?_
            clear hK K
            refine wpAnyIn_ready (rs := [3, 5]) (by kernel_rfl) (by simp) ?_
            refine AllReadyIn.cons rfl (fun K hK => ?_) ?_
            · skip
              go_simp
              gi_wp2_with (refine ⟨trivial, ?_⟩; gi_at_call 35; (with_reducible refine (CallsIn.inRound l (callsIn_wide.2 (C1.out _ (below_drew (Below.refl _ _))))).mono ?_); rintro e w1 ⟨rfl, hb1⟩; have HW1 := Lib.hid (below_then (below_drew (Below.refl W.heap.size W)) hb1); have q1 := below_cell HW1.out hc)
              refine wpAnyIn_ready (rs := [5]) (by kernel_rfl) (by simp) ?_
              refine AllReadyIn.cons rfl (fun K hK => ?_) ?_
              · skip
                go_simp
                refine hK _ _ ?_
                clear hK K
                refine wpAnyIn_ready (rs := [6]) (by kernel_rfl) (by simp) ?_
                refine AllReadyIn.cons rfl (fun K hK => ?_) ?_
                · skip
                  go_simp
                  gi_wp2_with (refine ⟨trivial, ?_⟩; gi_at_call 35; (with_reducible refine (CallsIn.inRound l (callsIn_wide.2 (C2.out _ HW1.out))).mono ?_); rintro e w2 ⟨rfl, hb2⟩; have HW2 := Lib.hid (below_then HW1.out hb2); have q2 := below_cell HW2.out hc; have q3 := below_cell (below_alloc HW2.out (.cells #[.int .i64 a1, .int .i64 a2] 32)) hc)
                  refine wpAnyIn_ready (rs := [7]) (by kernel_rfl) (by simp) ?_
                  refine AllReadyIn.cons rfl (fun K hK => ?_) ?_
                  · skip
                    go_simp
                    refine hK _ _ ?_
                    clear hK K
                    refine wpAnyIn_ready (rs := [8]) (by kernel_rfl) (by simp) ?_
                    refine AllReadyIn.cons rfl (fun K hK => ?_) ?_
                    · skip
                      go_simp
                      refine hK _ _ ?_
                      clear hK K
                      exact TAIL.out _ _ ⟨w2, rfl, HW2, rfl⟩
                    exact AllReadyIn.nil
                  exact AllReadyIn.nil
                exact AllReadyIn.nil
              exact AllReadyIn.nil
            refine AllReadyIn.cons rfl (fun K hK => ?_) ?_
            · skip
              go_simp
              refine hK _ _ ?_
              clear hK K
              refine wpAnyIn_ready (rs := [3]) (by kernel_rfl) (by simp) ?_
              refine AllReadyIn.cons rfl (fun K hK => ?_) ?_
              · skip
                go_simp
                gi_wp2_with (refine ⟨trivial, ?_⟩; gi_at_call 35; (with_reducible refine (CallsIn.inRound l (callsIn_wide.2 (C1.out _ (below_drew (Below.refl _ _))))).mono ?_); rintro e w1 ⟨rfl, hb1⟩; have HW1 := Lib.hid (below_then (below_drew (Below.refl W.heap.size W)) hb1); have q1 := below_cell HW1.out hc)
                refine wpAnyIn_ready (rs := [6]) (by kernel_rfl) (by simp) ?_
                refine AllReadyIn.cons rfl (fun K hK => ?_) ?_
                · skip
                  go_simp
                  gi_wp2_with (refine ⟨trivial, ?_⟩; gi_at_call 35; (with_reducible refine (CallsIn.inRound l (callsIn_wide.2 (C2.out _ HW1.out))).mono ?_); rintro e w2 ⟨rfl, hb2⟩; have HW2 := Lib.hid (below_then HW1.out hb2); have q2 := below_cell HW2.out hc; have q3 := below_cell (below_alloc HW2.out (.cells #[.int .i64 a1, .int .i64 a2] 32)) hc)
                  refine wpAnyIn_ready (rs := [7]) (by kernel_rfl) (by simp) ?_
                  refine AllReadyIn.cons rfl (fun K hK => ?_) ?_
                  · skip
                    go_simp
                    refine hK _ _ ?_
                    clear hK K
                    refine wpAnyIn_ready (rs := [8]) (by kernel_rfl) (by simp) ?_
                    refine AllReadyIn.cons rfl (fun K hK => ?_) ?_
                    · skip
                      go_simp
                      refine hK _ _ ?_
                      clear hK K
                      exact TAIL.out _ _ ⟨w2, rfl, HW2, rfl⟩
                    exact AllReadyIn.nil
                  exact AllReadyIn.nil
                exact AllReadyIn.nil
              exact AllReadyIn.nil
            exact AllReadyIn.nil
          refine AllReadyIn.cons rfl (fun K hK => ?_) ?_
          · skip
            go_simp
            refine hK _ _ ?_
            clear hK K
            refine wpAnyIn_ready (rs := [2]) (by kernel_rfl) (by simp) ?_
            refine AllReadyIn.cons rfl (fun K hK => ?_) ?_
            · skip
              go_simp
              refine hK _ _ ?_
              clear hK K
              refine wpAnyIn_ready (rs := [3]) (by kernel_rfl) (by simp) ?_
              refine AllReadyIn.cons rfl (fun K hK => ?_) ?_
              · skip
                go_simp
                gi_wp2_with (refine ⟨trivial, ?_⟩; gi_at_call 35; (with_reducible refine (CallsIn.inRound l (callsIn_wide.2 (C1.out _ (below_drew (Below.refl _ _))))).mono ?_); rintro e w1 ⟨rfl, hb1⟩; have HW1 := Lib.hid (below_then (below_drew (Below.refl W.heap.size W)) hb1); have q1 := below_cell HW1.out hc)
                refine wpAnyIn_ready (rs := [6]) (by kernel_rfl) (by simp) ?_
                refine AllReadyIn.cons rfl (fun K hK => ?_) ?_
                · skip
                  go_simp
                  gi_wp2_with (refine ⟨trivial, ?_⟩; gi_at_call 35; (with_reducible refine (CallsIn.inRound l (callsIn_wide.2 (C2.out _ HW1.out))).mono ?_); rintro e w2 ⟨rfl, hb2⟩; have HW2 := Lib.hid (below_then HW1.out hb2); have q2 := below_cell HW2.out hc; have q3 := below_cell (below_alloc HW2.out (.cells #[.int .i64 a1, .int .i64 a2] 32)) hc)
                  refine wpAnyIn_ready (rs := [7]) (by kernel_rfl) (by simp) ?_
                  refine AllReadyIn.cons rfl (fun K hK => ?_) ?_
                  · skip
                    go_simp
                    refine hK _ _ ?_
                    clear hK K
                    refine wpAnyIn_ready (rs := [8]) (by kernel_rfl) (by simp) ?_
                    refine AllReadyIn.cons rfl (fun K hK => ?_) ?_
                    · skip
                      go_simp
                      refine hK _ _ ?_
                      clear hK K
                      exact TAIL.out _ _ ⟨w2, rfl, HW2, rfl⟩
                    exact AllReadyIn.nil
                  exact AllReadyIn.nil
                exact AllReadyIn.nil
              exact AllReadyIn.nil
            exact AllReadyIn.nil
          exact AllReadyIn.nil
        exact AllReadyIn.nil
      refine AllReadyIn.cons rfl (fun K hK => ?_) ?_
      · skip
        go_simp
        refine hK _ _ ?_
        clear hK K
        refine wpAnyIn_ready (rs := [1, 5]) (by kernel_rfl) (by simp) ?_
        refine AllReadyIn.cons rfl (fun K hK => ?_) ?_
        · skip
          go_simp
          refine hK _ _ ?_
          clear hK K
          refine wpAnyIn_ready (rs := [2, 5]) (by kernel_rfl) (by simp) ?_
          refine AllReadyIn.cons rfl (fun K hK => ?_) ?_
          · skip
            go_simp
            refine hK _ _ ?_
            clear hK K
            refine wpAnyIn_ready (rs := [3, 5]) (by kernel_rfl) (by simp) ?_
            refine AllReadyIn.cons rfl (fun K hK => ?_) ?_
            · skip
              go_simp
              gi_wp2_with (refine ⟨trivial, ?_⟩; gi_at_call 35; (with_reducible refine (CallsIn.inRound l (callsIn_wide.2 (C1.out _ (below_drew (Below.refl _ _))))).mono ?_); rintro e w1 ⟨rfl, hb1⟩; have HW1 := Lib.hid (below_then (below_drew (Below.refl W.heap.size W)) hb1); have q1 := below_cell HW1.out hc)
              refine wpAnyIn_ready (rs := [5]) (by kernel_rfl) (by simp) ?_
              refine AllReadyIn.cons rfl (fun K hK => ?_) ?_
              · skip
                go_simp
                refine hK _ _ ?_
                clear hK K
                refine wpAnyIn_ready (rs := [6]) (by kernel_rfl) (by simp) ?_
                refine AllReadyIn.cons rfl (fun K hK => ?_) ?_
                · skip
                  go_simp
                  gi_wp2_with (refine ⟨trivial, ?_⟩; gi_at_call 35; (with_reducible refine (CallsIn.inRound l (callsIn_wide.2 (C2.out _ HW1.out))).mono ?_); rintro e w2 ⟨rfl, hb2⟩; have HW2 := Lib.hid (below_then HW1.out hb2); have q2 := below_cell HW2.out hc; have q3 := below_cell (below_alloc HW2.out (.cells #[.int .i64 a1, .int .i64 a2] 32)) hc)
                  refine wpAnyIn_ready (rs := [7]) (by kernel_rfl) (by simp) ?_
                  refine AllReadyIn.cons rfl (fun K hK => ?_) ?_
                  · skip
                    go_simp
                    refine hK _ _ ?_
                    clear hK K
                    refine wpAnyIn_ready (rs := [8]) (by kernel_rfl) (by simp) ?_
                    refine AllReadyIn.cons rfl (fun K hK => ?_) ?_
                    · skip
                      go_simp
                      refine hK _ _ ?_
                      clear hK K
                      exact TAIL.out _ _ ⟨w2, rfl, HW2, rfl⟩
                    exact AllReadyIn.nil
                  exact AllReadyIn.nil
                exact AllReadyIn.nil
              exact AllReadyIn.nil
            refine AllReadyIn.cons rfl (fun K hK => ?_) ?_
            · skip
              go_simp
              refine hK _ _ ?_
              clear hK K
              refine wpAnyIn_ready (rs := [3]) (by kernel_rfl) (by simp) ?_
              refine AllReadyIn.cons rfl (fun K hK => ?_) ?_
              · skip
                go_simp
                gi_wp2_with (refine ⟨trivial, ?_⟩; gi_at_call 35; (with_reducible refine (CallsIn.inRound l (callsIn_wide.2 (C1.out _ (below_drew (Below.refl _ _))))).mono ?_); rintro e w1 ⟨rfl, hb1⟩; have HW1 := Lib.hid (below_then (below_drew (Below.refl W.heap.size W)) hb1); have q1 := below_cell HW1.out hc)
                refine wpAnyIn_ready (rs := [6]) (by kernel_rfl) (by simp) ?_
                refine AllReadyIn.cons rfl (fun K hK => ?_) ?_
                · skip
                  go_simp
                  gi_wp2_with (refine ⟨trivial, ?_⟩; gi_at_call 35; (with_reducible refine (CallsIn.inRound l (callsIn_wide.2 (C2.out _ HW1.out))).mono ?_); rintro e w2 ⟨rfl, hb2⟩; have HW2 := Lib.hid (below_then HW1.out hb2); have q2 := below_cell HW2.out hc; have q3 := below_cell (below_alloc HW2.out (.cells #[.int .i64 a1, .int .i64 a2] 32)) hc)
                  refine wpAnyIn_ready (rs := [7]) (by kernel_rfl) (by simp) ?_
                  refine AllReadyIn.cons rfl (fun K hK => ?_) ?_
                  · skip
                    go_simp
                    refine hK _ _ ?_
                    clear hK K
                    refine wpAnyIn_ready (rs := [8]) (by kernel_rfl) (by simp) ?_
                    refine AllReadyIn.cons rfl (fun K hK => ?_) ?_
                    · skip
                      go_simp
                      refine hK _ _ ?_
                      clear hK K
                      exact TAIL.out _ _ ⟨w2, rfl, HW2, rfl⟩
                    exact AllReadyIn.nil
                  exact AllReadyIn.nil
                exact AllReadyIn.nil
              exact AllReadyIn.nil
            exact AllReadyIn.nil
          refine AllReadyIn.cons rfl (fun K hK => ?_) ?_
          · skip
            go_simp
            refine hK _ _ ?_
            clear hK K
            refine wpAnyIn_ready (rs := [2]) (by kernel_rfl) (by simp) ?_
            refine AllReadyIn.cons rfl (fun K hK => ?_) ?_
            · skip
              go_simp
              refine hK _ _ ?_
              clear hK K
              refine wpAnyIn_ready (rs := [3]) (by kernel_rfl) (by simp) ?_
              refine AllReadyIn.cons rfl (fun K hK => ?_) ?_
              · skip
                go_simp
                gi_wp2_with (refine ⟨trivial, ?_⟩; gi_at_call 35; (with_reducible refine (CallsIn.inRound l (callsIn_wide.2 (C1.out _ (below_drew (Below.refl _ _))))).mono ?_); rintro e w1 ⟨rfl, hb1⟩; have HW1 := Lib.hid (below_then (below_drew (Below.refl W.heap.size W)) hb1); have q1 := below_cell HW1.out hc)
                refine wpAnyIn_ready (rs := [6]) (by kernel_rfl) (by simp) ?_
                refine AllReadyIn.cons rfl (fun K hK => ?_) ?_
                · skip
                  go_simp
                  gi_wp2_with (refine ⟨trivial, ?_⟩; gi_at_call 35; (with_reducible refine (CallsIn.inRound l (callsIn_wide.2 (C2.out _ HW1.out))).mono ?_); rintro e w2 ⟨rfl, hb2⟩; have HW2 := Lib.hid (below_then HW1.out hb2); have q2 := below_cell HW2.out hc; have q3 := below_cell (below_alloc HW2.out (.cells #[.int .i64 a1, .int .i64 a2] 32)) hc)
                  refine wpAnyIn_ready (rs := [7]) (by kernel_rfl) (by simp) ?_
                  refine AllReadyIn.cons rfl (fun K hK => ?_) ?_
                  · skip
                    go_simp
                    refine hK _ _ ?_
                    clear hK K
                    refine wpAnyIn_ready (rs := [8]) (by kernel_rfl) (by simp) ?_
                    refine AllReadyIn.cons rfl (fun K hK => ?_) ?_
                    · skip
                      go_simp
                      refine hK _ _ ?_
                      clear hK K
                      exact TAIL.out _ _ ⟨w2, rfl, HW2, rfl⟩
                    exact AllReadyIn.nil
                  exact AllReadyIn.nil
                exact AllReadyIn.nil
              exact AllReadyIn.nil
            exact AllReadyIn.nil
          exact AllReadyIn.nil
        refine AllReadyIn.cons rfl (fun K hK => ?_) ?_
        · skip
          go_simp
          refine hK _ _ ?_
          clear hK K
          refine wpAnyIn_ready (rs := [1]) (by kernel_rfl) (by simp) ?_
          refine AllReadyIn.cons rfl (fun K hK => ?_) ?_
          · skip
            go_simp
            refine hK _ _ ?_
            clear hK K
            refine wpAnyIn_ready (rs := [2]) (by kernel_rfl) (by simp) ?_
            refine AllReadyIn.cons rfl (fun K hK => ?_) ?_
            · skip
              go_simp
              refine hK _ _ ?_
              clear hK K
              refine wpAnyIn_ready (rs := [3]) (by kernel_rfl) (by simp) ?_
              refine AllReadyIn.cons rfl (fun K hK => ?_) ?_
              · skip
                go_simp
                gi_wp2_with (refine ⟨trivial, ?_⟩; gi_at_call 35; (with_reducible refine (CallsIn.inRound l (callsIn_wide.2 (C1.out _ (below_drew (Below.refl _ _))))).mono ?_); rintro e w1 ⟨rfl, hb1⟩; have HW1 := Lib.hid (below_then (below_drew (Below.refl W.heap.size W)) hb1); have q1 := below_cell HW1.out hc)
                refine wpAnyIn_ready (rs := [6]) (by kernel_rfl) (by simp) ?_
                refine AllReadyIn.cons rfl (fun K hK => ?_) ?_
                · skip
                  go_simp
                  gi_wp2_with (refine ⟨trivial, ?_⟩; gi_at_call 35; (with_reducible refine (CallsIn.inRound l (callsIn_wide.2 (C2.out _ HW1.out))).mono ?_); rintro e w2 ⟨rfl, hb2⟩; have HW2 := Lib.hid (below_then HW1.out hb2); have q2 := below_cell HW2.out hc; have q3 := below_cell (below_alloc HW2.out (.cells #[.int .i64 a1, .int .i64 a2] 32)) hc)
                  refine wpAnyIn_ready (rs := [7]) (by kernel_rfl) (by simp) ?_
                  refine AllReadyIn.cons rfl (fun K hK => ?_) ?_
                  · skip
                    go_simp
                    refine hK _ _ ?_
                    clear hK K
                    refine wpAnyIn_ready (rs := [8]) (by kernel_rfl) (by simp) ?_
                    refine AllReadyIn.cons rfl (fun K hK => ?_) ?_
                    · skip
                      go_simp
                      refine hK _ _ ?_
                      clear hK K
                      exact TAIL.out _ _ ⟨w2, rfl, HW2, rfl⟩
                    exact AllReadyIn.nil
                  exact AllReadyIn.nil
                exact AllReadyIn.nil
              exact AllReadyIn.nil
            exact AllReadyIn.nil
          exact AllReadyIn.nil
        exact AllReadyIn.nil
      exact AllReadyIn.nil
    refine AllReadyIn.cons rfl (fun K hK => ?_) ?_
    · skip
      go_simp
      refine hK _ _ ?_
      clear hK K
      refine wpAnyIn_ready (rs := [0, 2, 4]) (by kernel_rfl) (by simp) ?_
      refine AllReadyIn.cons rfl (fun K hK => ?_) ?_
      · skip
        go_simp
        refine hK _ _ ?_
        clear hK K
        refine wpAnyIn_ready (rs := [2, 4]) (by kernel_rfl) (by simp) ?_
        refine AllReadyIn.cons rfl (fun K hK => ?_) ?_
        · skip
          go_simp
          refine hK _ _ ?_
          clear hK K
          refine wpAnyIn_ready (rs := [3, 4]) (by kernel_rfl) (by simp) ?_
          refine AllReadyIn.cons rfl (fun K hK => ?_) ?_
          · skip
            go_simp
            gi_wp2_with (refine ⟨trivial, ?_⟩; gi_at_call 35; (with_reducible refine (CallsIn.inRound l (callsIn_wide.2 (C1.out _ (below_drew (Below.refl _ _))))).mono ?_); rintro e w1 ⟨rfl, hb1⟩; have HW1 := Lib.hid (below_then (below_drew (Below.refl W.heap.size W)) hb1); have q1 := below_cell HW1.out hc)
            refine wpAnyIn_ready (rs := [4]) (by kernel_rfl) (by simp) ?_
            refine AllReadyIn.cons rfl (fun K hK => ?_) ?_
            · skip
              go_simp
              refine hK _ _ ?_
              clear hK K
              refine wpAnyIn_ready (rs := [5]) (by kernel_rfl) (by simp) ?_
              refine AllReadyIn.cons rfl (fun K hK => ?_) ?_
              · skip
                go_simp
                refine hK _ _ ?_
                clear hK K
                refine wpAnyIn_ready (rs := [6]) (by kernel_rfl) (by simp) ?_
                refine AllReadyIn.cons rfl (fun K hK => ?_) ?_
                · skip
                  go_simp
                  gi_wp2_with (refine ⟨trivial, ?_⟩; gi_at_call 35; (with_reducible refine (CallsIn.inRound l (callsIn_wide.2 (C2.out _ HW1.out))).mono ?_); rintro e w2 ⟨rfl, hb2⟩; have HW2 := Lib.hid (below_then HW1.out hb2); have q2 := below_cell HW2.out hc; have q3 := below_cell (below_alloc HW2.out (.cells #[.int .i64 a1, .int .i64 a2] 32)) hc)
                  refine wpAnyIn_ready (rs := [7]) (by kernel_rfl) (by simp) ?_
                  refine AllReadyIn.cons rfl (fun K hK => ?_) ?_
                  · skip
                    go_simp
                    refine hK _ _ ?_
                    clear hK K
                    refine wpAnyIn_ready (rs := [8]) (by kernel_rfl) (by simp) ?_
                    refine AllReadyIn.cons rfl (fun K hK => ?_) ?_
                    · skip
                      go_simp
                      refine hK _ _ ?_
                      clear hK K
                      exact TAIL.out _ _ ⟨w2, rfl, HW2, rfl⟩
                    exact AllReadyIn.nil
                  exact AllReadyIn.nil
                exact AllReadyIn.nil
              exact AllReadyIn.nil
            exact AllReadyIn.nil
          refine AllReadyIn.cons rfl (fun K hK => ?_) ?_
          · skip
            go_simp
            refine hK _ _ ?_
            clear hK K
            refine wpAnyIn_ready (rs := [3, 5]) (by kernel_rfl) (by simp) ?_
            refine AllReadyIn.cons rfl (fun K hK => ?_) ?_
            · skip
              go_simp
              gi_wp2_with (refine ⟨trivial, ?_⟩; gi_at_call 35; (with_reducible refine (CallsIn.inRound l (callsIn_wide.2 (C1.out _ (below_drew (Below.refl _ _))))).mono ?_); rintro e w1 ⟨rfl, hb1⟩; have HW1 := Lib.hid (below_then (below_drew (Below.refl W.heap.size W)) hb1); have q1 := below_cell HW1.out hc)
              refine wpAnyIn_ready (rs := [5]) (by kernel_rfl) (by simp) ?_
              refine AllReadyIn.cons rfl (fun K hK => ?_) ?_
              · skip
                go_simp
                refine hK _ _ ?_
                clear hK K
                refine wpAnyIn_ready (rs := [6]) (by kernel_rfl) (by simp) ?_
                refine AllReadyIn.cons rfl (fun K hK => ?_) ?_
                · skip
                  go_simp
                  gi_wp2_with (refine ⟨trivial, ?_⟩; gi_at_call 35; (with_reducible refine (CallsIn.inRound l (callsIn_wide.2 (C2.out _ HW1.out))).mono ?_); rintro e w2 ⟨rfl, hb2⟩; have HW2 := Lib.hid (below_then HW1.out hb2); have q2 := below_cell HW2.out hc; have q3 := below_cell (below_alloc HW2.out (.cells #[.int .i64 a1, .int .i64 a2] 32)) hc)
                  refine wpAnyIn_ready (rs := [7]) (by kernel_rfl) (by simp) ?_
                  refine AllReadyIn.cons rfl (fun K hK => ?_) ?_
                  · skip
                    go_simp
                    refine hK _ _ ?_
                    clear hK K
                    refine wpAnyIn_ready (rs := [8]) (by kernel_rfl) (by simp) ?_
                    refine AllReadyIn.cons rfl (fun K hK => ?_) ?_
                    · skip
                      go_simp
                      refine hK _ _ ?_
                      clear hK K
                      exact TAIL.out _ _ ⟨w2, rfl, HW2, rfl⟩
                    exact AllReadyIn.nil
                  exact AllReadyIn.nil
                exact AllReadyIn.nil
              exact AllReadyIn.nil
            refine AllReadyIn.cons rfl (fun K hK => ?_) ?_
            · skip
              go_simp
              refine hK _ _ ?_
              clear hK K
              refine wpAnyIn_ready (rs := [3]) (by kernel_rfl) (by simp) ?_
              refine AllReadyIn.cons rfl (fun K hK => ?_) ?_
              · skip
                go_simp
                gi_wp2_with (refine ⟨trivial, ?_⟩; gi_at_call 35; (with_reducible refine (CallsIn.inRound l (callsIn_wide.2 (C1.out _ (below_drew (Below.refl _ _))))).mono ?_); rintro e w1 ⟨rfl, hb1⟩; have HW1 := Lib.hid (below_then (below_drew (Below.refl W.heap.size W)) hb1); have q1 := below_cell HW1.out hc)
                refine wpAnyIn_ready (rs := [6]) (by kernel_rfl) (by simp) ?_
                refine AllReadyIn.cons rfl (fun K hK => ?_) ?_
                · skip
                  go_simp
                  gi_wp2_with (refine ⟨trivial, ?_⟩; gi_at_call 35; (with_reducible refine (CallsIn.inRound l (callsIn_wide.2 (C2.out _ HW1.out))).mono ?_); rintro e w2 ⟨rfl, hb2⟩; have HW2 := Lib.hid (below_then HW1.out hb2); have q2 := below_cell HW2.out hc; have q3 := below_cell (below_alloc HW2.out (.cells #[.int .i64 a1, .int .i64 a2] 32)) hc)
                  refine wpAnyIn_ready (rs := [7]) (by kernel_rfl) (by simp) ?_
                  refine AllReadyIn.cons rfl (fun K hK => ?_) ?_
                  · skip
                    go_simp
                    refine hK _ _ ?_
                    clear hK K
                    refine wpAnyIn_ready (rs := [8]) (by kernel_rfl) (by simp) ?_
                    refine AllReadyIn.cons rfl (fun K hK => ?_) ?_
                    · skip
                      go_simp
                      refine hK _ _ ?_
                      clear hK K
                      exact TAIL.out _ _ ⟨w2, rfl, HW2, rfl⟩
                    exact AllReadyIn.nil
                  exact AllReadyIn.nil
                exact AllReadyIn.nil
              exact AllReadyIn.nil
            exact AllReadyIn.nil
          exact AllReadyIn.nil
        refine AllReadyIn.cons rfl (fun K hK => ?_) ?_
        · skip
          go_simp
          refine hK _ _ ?_
          clear hK K
          refine wpAnyIn_ready (rs := [2, 5]) (by kernel_rfl) (by simp) ?_
          refine AllReadyIn.cons rfl (fun K hK => ?_) ?_
          · skip
            go_simp
            refine hK _ _ ?_
            clear hK K
            refine wpAnyIn_ready (rs := [3, 5]) (by kernel_rfl) (by simp) ?_
            refine AllReadyIn.cons rfl (fun K hK => ?_) ?_
            · skip
              go_simp
              gi_wp2_with (refine ⟨trivial, ?_⟩; gi_at_call 35; (with_reducible refine (CallsIn.inRound l (callsIn_wide.2 (C1.out _ (below_drew (Below.refl _ _))))).mono ?_); rintro e w1 ⟨rfl, hb1⟩; have HW1 := Lib.hid (below_then (below_drew (Below.refl W.heap.size W)) hb1); have q1 := below_cell HW1.out hc)
              refine wpAnyIn_ready (rs := [5]) (by kernel_rfl) (by simp) ?_
              refine AllReadyIn.cons rfl (fun K hK => ?_) ?_
              · skip
                go_simp
                refine hK _ _ ?_
                clear hK K
                refine wpAnyIn_ready (rs := [6]) (by kernel_rfl) (by simp) ?_
                refine AllReadyIn.cons rfl (fun K hK => ?_) ?_
                · skip
                  go_simp
                  gi_wp2_with (refine ⟨trivial, ?_⟩; gi_at_call 35; (with_reducible refine (CallsIn.inRound l (callsIn_wide.2 (C2.out _ HW1.out))).mono ?_); rintro e w2 ⟨rfl, hb2⟩; have HW2 := Lib.hid (below_then HW1.out hb2); have q2 := below_cell HW2.out hc; have q3 := below_cell (below_alloc HW2.out (.cells #[.int .i64 a1, .int .i64 a2] 32)) hc)
                  refine wpAnyIn_ready (rs := [7]) (by kernel_rfl) (by simp) ?_
                  refine AllReadyIn.cons rfl (fun K hK => ?_) ?_
                  · skip
                    go_simp
                    refine hK _ _ ?_
                    clear hK K
                    refine wpAnyIn_ready (rs := [8]) (by kernel_rfl) (by simp) ?_
                    refine AllReadyIn.cons rfl (fun K hK => ?_) ?_
                    · skip
                      go_simp
                      refine hK _ _ ?_
                      clear hK K
                      exact TAIL.out _ _ ⟨w2, rfl, HW2, rfl⟩
                    exact AllReadyIn.nil
                  exact AllReadyIn.nil
                exact AllReadyIn.nil
              exact AllReadyIn.nil
            refine AllReadyIn.cons rfl (fun K hK => ?_) ?_
            · skip
              go_simp
              refine hK _ _ ?_
              clear hK K
              refine wpAnyIn_ready (rs := [3]) (by kernel_rfl) (by simp) ?_
              refine AllReadyIn.cons rfl (fun K hK => ?_) ?_
              · skip
                go_simp
                gi_wp2_with (refine ⟨trivial, ?_⟩; gi_at_call 35; (with_reducible refine (CallsIn.inRound l (callsIn_wide.2 (C1.out _ (below_drew (Below.refl _ _))))).mono ?_); rintro e w1 ⟨rfl, hb1⟩; have HW1 := Lib.hid (below_then (below_drew (Below.refl W.heap.size W)) hb1); have q1 := below_cell HW1.out hc)
                refine wpAnyIn_ready (rs := [6]) (by kernel_rfl) (by simp) ?_
                refine AllReadyIn.cons rfl (fun K hK => ?_) ?_
                · skip
                  go_simp
                  gi_wp2_with (refine ⟨trivial, ?_⟩; gi_at_call 35; (with_reducible refine (CallsIn.inRound l (callsIn_wide.2 (C2.out _ HW1.out))).mono ?_); rintro e w2 ⟨rfl, hb2⟩; have HW2 := Lib.hid (below_then HW1.out hb2); have q2 := below_cell HW2.out hc; have q3 := below_cell (below_alloc HW2.out (.cells #[.int .i64 a1, .int .i64 a2] 32)) hc)
                  refine wpAnyIn_ready (rs := [7]) (by kernel_rfl) (by simp) ?_
                  refine AllReadyIn.cons rfl (fun K hK => ?_) ?_
                  · skip
                    go_simp
                    refine hK _ _ ?_
                    clear hK K
                    refine wpAnyIn_ready (rs := [8]) (by kernel_rfl) (by simp) ?_
                    refine AllReadyIn.cons rfl (fun K hK => ?_) ?_
                    · skip
                      go_simp
                      refine hK _ _ ?_
                      clear hK K
                      exact TAIL.out _ _ ⟨w2, rfl, HW2, rfl⟩
                    exact AllReadyIn.nil
                  exact AllReadyIn.nil
                exact AllReadyIn.nil
              exact AllReadyIn.nil
            exact AllReadyIn.nil
          refine AllReadyIn.cons rfl (fun K hK => ?_) ?_
          · skip
            go_simp
            refine hK _ _ ?_
            clear hK K
            refine wpAnyIn_ready (rs := [2]) (by kernel_rfl) (by simp) ?_
            refine AllReadyIn.cons rfl (fun K hK => ?_) ?_
            · skip
              go_simp
              refine hK _ _ ?_
              clear hK K
              refine wpAnyIn_ready (rs := [3]) (by kernel_rfl) (by simp) ?_
              refine AllReadyIn.cons rfl (fun K hK => ?_) ?_
              · skip
                go_simp
                gi_wp2_with (refine ⟨trivial, ?_⟩; gi_at_call 35; (with_reducible refine (CallsIn.inRound l (callsIn_wide.2 (C1.out _ (below_drew (Below.refl _ _))))).mono ?_); rintro e w1 ⟨rfl, hb1⟩; have HW1 := Lib.hid (below_then (below_drew (Below.refl W.heap.size W)) hb1); have q1 := below_cell HW1.out hc)
                refine wpAnyIn_ready (rs := [6]) (by kernel_rfl) (by simp) ?_
                refine AllReadyIn.cons rfl (fun K hK => ?_) ?_
                · skip
                  go_simp
                  gi_wp2_with (refine ⟨trivial, ?_⟩; gi_at_call 35; (with_reducible refine (CallsIn.inRound l (callsIn_wide.2 (C2.out _ HW1.out))).mono ?_); rintro e w2 ⟨rfl, hb2⟩; have HW2 := Lib.hid (below_then HW1.out hb2); have q2 := below_cell HW2.out hc; have q3 := below_cell (below_alloc HW2.out (.cells #[.int .i64 a1, .int .i64 a2] 32)) hc)
                  refine wpAnyIn_ready (rs := [7]) (by kernel_rfl) (by simp) ?_
                  refine AllReadyIn.cons rfl (fun K hK => ?_) ?_
                  · skip
                    go_simp
                    refine hK _ _ ?_
                    clear hK K
                    refine wpAnyIn_ready (rs := [8]) (by kernel_rfl) (by simp) ?_
                    refine AllReadyIn.cons rfl (fun K hK => ?_) ?_
                    · skip
                      go_simp
                      refine hK _ _ ?_
                      clear hK K
                      exact TAIL.out _ _ ⟨w2, rfl, HW2, rfl⟩
                    exact AllReadyIn.nil
                  exact AllReadyIn.nil
                exact AllReadyIn.nil
              exact AllReadyIn.nil
            exact AllReadyIn.nil
          exact AllReadyIn.nil
        exact AllReadyIn.nil
      refine AllReadyIn.cons rfl (fun K hK => ?_) ?_
      · skip
        go_simp
        refine hK _ _ ?_
        clear hK K
        refine wpAnyIn_ready (rs := [0, 3, 4]) (by kernel_rfl) (by simp) ?_
        refine AllReadyIn.cons rfl (fun K hK => ?_) ?_
        · skip
          go_simp
          refine hK _ _ ?_
          clear hK K
          refine wpAnyIn_ready (rs := [3, 4]) (by kernel_rfl) (by simp) ?_
          refine AllReadyIn.cons rfl (fun K hK => ?_) ?_
          · skip
            go_simp
            gi_wp2_with (refine ⟨trivial, ?_⟩; gi_at_call 35; (with_reducible refine (CallsIn.inRound l (callsIn_wide.2 (C1.out _ (below_drew (Below.refl _ _))))).mono ?_); rintro e w1 ⟨rfl, hb1⟩; have HW1 := Lib.hid (below_then (below_drew (Below.refl W.heap.size W)) hb1); have q1 := below_cell HW1.out hc)
            refine wpAnyIn_ready (rs := [4]) (by kernel_rfl) (by simp) ?_
            refine AllReadyIn.cons rfl (fun K hK => ?_) ?_
            · skip
              go_simp
              refine hK _ _ ?_
              clear hK K
              refine wpAnyIn_ready (rs := [5]) (by kernel_rfl) (by simp) ?_
              refine AllReadyIn.cons rfl (fun K hK => ?_) ?_
              · skip
                go_simp
                refine hK _ _ ?_
                clear hK K
                refine wpAnyIn_ready (rs := [6]) (by kernel_rfl) (by simp) ?_
                refine AllReadyIn.cons rfl (fun K hK => ?_) ?_
                · skip
                  go_simp
                  gi_wp2_with (refine ⟨trivial, ?_⟩; gi_at_call 35; (with_reducible refine (CallsIn.inRound l (callsIn_wide.2 (C2.out _ HW1.out))).mono ?_); rintro e w2 ⟨rfl, hb2⟩; have HW2 := Lib.hid (below_then HW1.out hb2); have q2 := below_cell HW2.out hc; have q3 := below_cell (below_alloc HW2.out (.cells #[.int .i64 a1, .int .i64 a2] 32)) hc)
                  refine wpAnyIn_ready (rs := [7]) (by kernel_rfl) (by simp) ?_
                  refine AllReadyIn.cons rfl (fun K hK => ?_) ?_
                  · skip
                    go_simp
                    refine hK _ _ ?_
                    clear hK K
                    refine wpAnyIn_ready (rs := [8]) (by kernel_rfl) (by simp) ?_
                    refine AllReadyIn.cons rfl (fun K hK => ?_) ?_
                    · skip
                      go_simp
                      refine hK _ _ ?_
                      clear hK K
                      exact TAIL.out _ _ ⟨w2, rfl, HW2, rfl⟩
                    exact AllReadyIn.nil
                  exact AllReadyIn.nil
                exact AllReadyIn.nil
              exact AllReadyIn.nil
            exact AllReadyIn.nil
          refine AllReadyIn.cons rfl (fun K hK => ?_) ?_
          · skip
            go_simp
            refine hK _ _ ?_
            clear hK K
            refine wpAnyIn_ready (rs := [3, 5]) (by kernel_rfl) (by simp) ?_
            refine AllReadyIn.cons rfl (fun K hK => ?_) ?_
            · skip
              go_simp
              gi_wp2_with (refine ⟨trivial, ?_⟩; gi_at_call 35; (with_reducible refine (CallsIn.inRound l (callsIn_wide.2 (C1.out _ (below_drew (Below.refl _ _))))).mono ?_); rintro e w1 ⟨rfl, hb1⟩; have HW1 := Lib.hid (below_then (below_drew (Below.refl W.heap.size W)) hb1); have q1 := below_cell HW1.out hc)
              refine wpAnyIn_ready (rs := [5]) (by kernel_rfl) (by simp) ?_
              refine AllReadyIn.cons rfl (fun K hK => ?_) ?_
              · skip
                go_simp
                refine hK _ _ ?_
                clear hK K
                refine wpAnyIn_ready (rs := [6]) (by kernel_rfl) (by simp) ?_
                refine AllReadyIn.cons rfl (fun K hK => ?_) ?_
                · skip
                  go_simp
                  gi_wp2_with (refine ⟨trivial, ?_⟩; gi_at_call 35; (with_reducible refine (CallsIn.inRound l (callsIn_wide.2 (C2.out _ HW1.out))).mono ?_); rintro e w2 ⟨rfl, hb2⟩; have HW2 := Lib.hid (below_then HW1.out hb2); have q2 := below_cell HW2.out hc; have q3 := below_cell (below_alloc HW2.out (.cells #[.int .i64 a1, .int .i64 a2] 32)) hc)
                  refine wpAnyIn_ready (rs := [7]) (by kernel_rfl) (by simp) ?_
                  refine AllReadyIn.cons rfl (fun K hK => ?_) ?_
                  · skip
                    go_simp
                    refine hK _ _ ?_
                    clear hK K
                    refine wpAnyIn_ready (rs := [8]) (by kernel_rfl) (by simp) ?_
                    refine AllReadyIn.cons rfl (fun K hK => ?_) ?_
                    · skip
                      go_simp
                      refine hK _ _ ?_
                      clear hK K
                      exact TAIL.out _ _ ⟨w2, rfl, HW2, rfl⟩
                    exact AllReadyIn.nil
                  exact AllReadyIn.nil
                exact AllReadyIn.nil
              exact AllReadyIn.nil
            refine AllReadyIn.cons rfl (fun K hK => ?_) ?_
            · skip
              go_simp
              refine hK _ _ ?_
              clear hK K
              refine wpAnyIn_ready (rs := [3]) (by kernel_rfl) (by simp) ?_
              refine AllReadyIn.cons rfl (fun K hK => ?_) ?_
              · skip
                go_simp
                gi_wp2_with (refine ⟨trivial, ?_⟩; gi_at_call 35; (with_reducible refine (CallsIn.inRound l (callsIn_wide.2 (C1.out _ (below_drew (Below.refl _ _))))).mono ?_); rintro e w1 ⟨rfl, hb1⟩; have HW1 := Lib.hid (below_then (below_drew (Below.refl W.heap.size W)) hb1); have q1 := below_cell HW1.out hc)
                refine wpAnyIn_ready (rs := [6]) (by kernel_rfl) (by simp) ?_
                refine AllReadyIn.cons rfl (fun K hK => ?_) ?_
                · skip
                  go_simp
                  gi_wp2_with (refine ⟨trivial, ?_⟩; gi_at_call 35; (with_reducible refine (CallsIn.inRound l (callsIn_wide.2 (C2.out _ HW1.out))).mono ?_); rintro e w2 ⟨rfl, hb2⟩; have HW2 := Lib.hid (below_then HW1.out hb2); have q2 := below_cell HW2.out hc; have q3 := below_cell (below_alloc HW2.out (.cells #[.int .i64 a1, .int .i64 a2] 32)) hc)
                  refine wpAnyIn_ready (rs := [7]) (by kernel_rfl) (by simp) ?_
                  refine AllReadyIn.cons rfl (fun K hK => ?_) ?_
                  · skip
                    go_simp
                    refine hK _ _ ?_
                    clear hK K
                    refine wpAnyIn_ready (rs := [8]) (by kernel_rfl) (by simp) ?_
                    refine AllReadyIn.cons rfl (fun K hK => ?_) ?_
                    · skip
                      go_simp
                      refine hK _ _ ?_
                      clear hK K
                      exact TAIL.out _ _ ⟨w2, rfl, HW2, rfl⟩
                    exact AllReadyIn.nil
                  exact AllReadyIn.nil
                exact AllReadyIn.nil
              exact AllReadyIn.nil
            exact AllReadyIn.nil
          exact AllReadyIn.nil
        refine AllReadyIn.cons rfl (fun K hK => ?_) ?_
        · skip
          go_simp
          gi_wp2_with (refine ⟨trivial, ?_⟩; gi_at_call 35; (with_reducible refine (CallsIn.inRound l (callsIn_wide.2 (C1.out _ (below_drew (Below.refl _ _))))).mono ?_); rintro e w1 ⟨rfl, hb1⟩; have HW1 := Lib.hid (below_then (below_drew (Below.refl W.heap.size W)) hb1); have q1 := below_cell HW1.out hc)
          refine wpAnyIn_ready (rs := [0, 4]) (by kernel_rfl) (by simp) ?_
          refine AllReadyIn.cons rfl (fun K hK => ?_) ?_
          · skip
            go_simp
            refine hK _ _ ?_
            clear hK K
            refine wpAnyIn_ready (rs := [4]) (by kernel_rfl) (by simp) ?_
            refine AllReadyIn.cons rfl (fun K hK => ?_) ?_
            · skip
              go_simp
              refine hK _ _ ?_
              clear hK K
              refine wpAnyIn_ready (rs := [5]) (by kernel_rfl) (by simp) ?_
              refine AllReadyIn.cons rfl (fun K hK => ?_) ?_
              · skip
                go_simp
                refine hK _ _ ?_
                clear hK K
                refine wpAnyIn_ready (rs := [6]) (by kernel_rfl) (by simp) ?_
                refine AllReadyIn.cons rfl (fun K hK => ?_) ?_
                · skip
                  go_simp
                  gi_wp2_with (refine ⟨trivial, ?_⟩; gi_at_call 35; (with_reducible refine (CallsIn.inRound l (callsIn_wide.2 (C2.out _ HW1.out))).mono ?_); rintro e w2 ⟨rfl, hb2⟩; have HW2 := Lib.hid (below_then HW1.out hb2); have q2 := below_cell HW2.out hc; have q3 := below_cell (below_alloc HW2.out (.cells #[.int .i64 a1, .int .i64 a2] 32)) hc)
                  refine wpAnyIn_ready (rs := [7]) (by kernel_rfl) (by simp) ?_
                  refine AllReadyIn.cons rfl (fun K hK => ?_) ?_
                  · skip
                    go_simp
                    refine hK _ _ ?_
                    clear hK K
                    refine wpAnyIn_ready (rs := [8]) (by kernel_rfl) (by simp) ?_
                    refine AllReadyIn.cons rfl (fun K hK => ?_) ?_
                    · skip
                      go_simp
                      refine hK _ _ ?_
                      clear hK K
                      exact TAIL.out _ _ ⟨w2, rfl, HW2, rfl⟩
                    exact AllReadyIn.nil
                  exact AllReadyIn.nil
                exact AllReadyIn.nil
              exact AllReadyIn.nil
            exact AllReadyIn.nil
          refine AllReadyIn.cons rfl (fun K hK => ?_) ?_
          · skip
            go_simp
            refine hK _ _ ?_
            clear hK K
            refine wpAnyIn_ready (rs := [0, 5]) (by kernel_rfl) (by simp) ?_
            refine AllReadyIn.cons rfl (fun K hK => ?_) ?_
            · skip
              go_simp
              refine hK _ _ ?_
              clear hK K
              refine wpAnyIn_ready (rs := [5]) (by kernel_rfl) (by simp) ?_
              refine AllReadyIn.cons rfl (fun K hK => ?_) ?_
              · skip
                go_simp
                refine hK _ _ ?_
                clear hK K
                refine wpAnyIn_ready (rs := [6]) (by kernel_rfl) (by simp) ?_
                refine AllReadyIn.cons rfl (fun K hK => ?_) ?_
                · skip
                  go_simp
                  gi_wp2_with (refine ⟨trivial, ?_⟩; gi_at_call 35; (with_reducible refine (CallsIn.inRound l (callsIn_wide.2 (C2.out _ HW1.out))).mono ?_); rintro e w2 ⟨rfl, hb2⟩; have HW2 := Lib.hid (below_then HW1.out hb2); have q2 := below_cell HW2.out hc; have q3 := below_cell (below_alloc HW2.out (.cells #[.int .i64 a1, .int .i64 a2] 32)) hc)
                  refine wpAnyIn_ready (rs := [7]) (by kernel_rfl) (by simp) ?_
                  refine AllReadyIn.cons rfl (fun K hK => ?_) ?_
                  · skip
                    go_simp
                    refine hK _ _ ?_
                    clear hK K
                    refine wpAnyIn_ready (rs := [8]) (by kernel_rfl) (by simp) ?_
                    refine AllReadyIn.cons rfl (fun K hK => ?_) ?_
                    · skip
                      go_simp
                      refine hK _ _ ?_
                      clear hK K
                      exact TAIL.out _ _ ⟨w2, rfl, HW2, rfl⟩
                    exact AllReadyIn.nil
                  exact AllReadyIn.nil
                exact AllReadyIn.nil
              exact AllReadyIn.nil
            refine AllReadyIn.cons rfl (fun K hK => ?_) ?_
            · skip
              go_simp
              refine hK _ _ ?_
              clear hK K
              refine wpAnyIn_ready (rs := [0, 6]) (by kernel_rfl) (by simp) ?_
              refine AllReadyIn.cons rfl (fun K hK => ?_) ?_
              · skip
                go_simp
                refine hK _ _ ?_
                clear hK K
                refine wpAnyIn_ready (rs := [6]) (by kernel_rfl) (by simp) ?_
                refine AllReadyIn.cons rfl (fun K hK => ?_) ?_
                · skip
                  go_simp
                  gi_wp2_with (refine ⟨trivial, ?_⟩; gi_at_call 35; (with_reducible refine (CallsIn.inRound l (callsIn_wide.2 (C2.out _ HW1.out))).mono ?_); rintro e w2 ⟨rfl, hb2⟩; have HW2 := Lib.hid (below_then HW1.out hb2); have q2 := below_cell HW2.out hc; have q3 := below_cell (below_alloc HW2.out (.cells #[.int .i64 a1, .int .i64 a2] 32)) hc)
                  refine wpAnyIn_ready (rs := [7]) (by kernel_rfl) (by simp) ?_
                  refine AllReadyIn.cons rfl (fun K hK => ?_) ?_
                  · skip
                    go_simp
                    refine hK _ _ ?_
                    clear hK K
                    refine wpAnyIn_ready (rs := [8]) (by kernel_rfl) (by simp) ?_
                    refine AllReadyIn.cons rfl (fun K hK => ?_) ?_
                    · skip
                      go_simp
                      refine hK _ _ ?_
                      clear hK K
                      exact TAIL.out _ _ ⟨w2, rfl, HW2, rfl⟩
                    exact AllReadyIn.nil
                  exact AllReadyIn.nil
                exact AllReadyIn.nil
              refine AllReadyIn.cons rfl (fun K hK => ?_) ?_
              · skip
                go_simp
                gi_wp2_with (refine ⟨trivial, ?_⟩; gi_at_call 35; (with_reducible refine (CallsIn.inRound l (callsIn_wide.2 (C2.out _ HW1.out))).mono ?_); rintro e w2 ⟨rfl, hb2⟩; have HW2 := Lib.hid (below_then HW1.out hb2); have q2 := below_cell HW2.out hc; have q3 := below_cell (below_alloc HW2.out (.cells #[.int .i64 a1, .int .i64 a2] 32)) hc)
                refine wpAnyIn_ready (rs := [0, 7]) (by kernel_rfl) (by simp) ?_
                refine AllReadyIn.cons rfl (fun K hK => ?_) ?_
                · skip
                  go_simp
                  refine hK _ _ ?_
                  clear hK K
                  refine wpAnyIn_ready (rs := [7]) (by kernel_rfl) (by simp) ?_
                  refine AllReadyIn.cons rfl (fun K hK => ?_) ?_
                  · skip
                    go_simp
                    refine hK _ _ ?_
                    clear hK K
                    refine wpAnyIn_ready (rs := [8]) (by kernel_rfl) (by simp) ?_
                    refine AllReadyIn.cons rfl (fun K hK => ?_) ?_
                    · skip
                      go_simp
                      refine hK _ _ ?_
                      clear hK K
                      exact TAIL.out _ _ ⟨w2, rfl, HW2, rfl⟩
                    exact AllReadyIn.nil
                  exact AllReadyIn.nil
                refine AllReadyIn.cons rfl (fun K hK => ?_) ?_
                · skip
                  go_simp
                  refine hK _ _ ?_
                  clear hK K
                  refine wpAnyIn_ready (rs := [0, 8]) (by kernel_rfl) (by simp) ?_
                  refine AllReadyIn.cons rfl (fun K hK => ?_) ?_
                  · skip
                    go_simp
                    refine hK _ _ ?_
                    clear hK K
                    refine wpAnyIn_ready (rs := [8]) (by kernel_rfl) (by simp) ?_
                    refine AllReadyIn.cons rfl (fun K hK => ?_) ?_
                    · skip
                      go_simp
                      refine hK _ _ ?_
                      clear hK K
                      exact TAIL.out _ _ ⟨w2, rfl, HW2, rfl⟩
                    exact AllReadyIn.nil
                  refine AllReadyIn.cons rfl (fun K hK => ?_) ?_
                  · skip
                    go_simp
                    refine hK _ _ ?_
                    clear hK K
                    refine wpAnyIn_ready (rs := [0]) (by kernel_rfl) (by simp) ?_
                    refine AllReadyIn.cons rfl (fun K hK => ?_) ?_
                    · skip
                      go_simp
                      refine hK _ _ ?_
                      clear hK K
                      exact TAIL.out _ _ ⟨w2, rfl, HW2, rfl⟩
                    exact AllReadyIn.nil
                  exact AllReadyIn.nil
                exact AllReadyIn.nil
              exact AllReadyIn.nil
            exact AllReadyIn.nil
          exact AllReadyIn.nil
        refine AllReadyIn.cons rfl (fun K hK => ?_) ?_
        · skip
          go_simp
          refine hK _ _ ?_
          clear hK K
          refine wpAnyIn_ready (rs := [0, 3, 5]) (by kernel_rfl) (by simp) ?_
          refine AllReadyIn.cons rfl (fun K hK => ?_) ?_
          · skip
            go_simp
            refine hK _ _ ?_
            clear hK K
            refine wpAnyIn_ready (rs := [3, 5]) (by kernel_rfl) (by simp) ?_
            refine AllReadyIn.cons rfl (fun K hK => ?_) ?_
            · skip
              go_simp
              gi_wp2_with (refine ⟨trivial, ?_⟩; gi_at_call 35; (with_reducible refine (CallsIn.inRound l (callsIn_wide.2 (C1.out _ (below_drew (Below.refl _ _))))).mono ?_); rintro e w1 ⟨rfl, hb1⟩; have HW1 := Lib.hid (below_then (below_drew (Below.refl W.heap.size W)) hb1); have q1 := below_cell HW1.out hc)
              refine wpAnyIn_ready (rs := [5]) (by kernel_rfl) (by simp) ?_
              refine AllReadyIn.cons rfl (fun K hK => ?_) ?_
              · skip
                go_simp
                refine hK _ _ ?_
                clear hK K
                refine wpAnyIn_ready (rs := [6]) (by kernel_rfl) (by simp) ?_
                refine AllReadyIn.cons rfl (fun K hK => ?_) ?_
                · skip
                  go_simp
                  gi_wp2_with (refine ⟨trivial, ?_⟩; gi_at_call 35; (with_reducible refine (CallsIn.inRound l (callsIn_wide.2 (C2.out _ HW1.out))).mono ?_); rintro e w2 ⟨rfl, hb2⟩; have HW2 := Lib.hid (below_then HW1.out hb2); have q2 := below_cell HW2.out hc; have q3 := below_cell (below_alloc HW2.out (.cells #[.int .i64 a1, .int .i64 a2] 32)) hc)
                  refine wpAnyIn_ready (rs := [7]) (by kernel_rfl) (by simp) ?_
                  refine AllReadyIn.cons rfl (fun K hK => ?_) ?_
                  · skip
                    go_simp
                    refine hK _ _ ?_
                    clear hK K
                    refine wpAnyIn_ready (rs := [8]) (by kernel_rfl) (by simp) ?_
                    refine AllReadyIn.cons rfl (fun K hK => ?_) ?_
                    · skip
                      go_simp
                      refine hK _ _ ?_
                      clear hK K
                      exact TAIL.out _ _ ⟨w2, rfl, HW2, rfl⟩
                    exact AllReadyIn.nil
                  exact AllReadyIn.nil
                exact AllReadyIn.nil
              exact AllReadyIn.nil
            refine AllReadyIn.cons rfl (fun K hK => ?_) ?_
            · skip
              go_simp
              refine hK _ _ ?_
              clear hK K
              refine wpAnyIn_ready (rs := [3]) (by kernel_rfl) (by simp) ?_
              refine AllReadyIn.cons rfl (fun K hK => ?_) ?_
              · skip
                go_simp
                gi_wp2_with (refine ⟨trivial, ?_⟩; gi_at_call 35; (with_reducible refine (CallsIn.inRound l (callsIn_wide.2 (C1.out _ (below_drew (Below.refl _ _))))).mono ?_); rintro e w1 ⟨rfl, hb1⟩; have HW1 := Lib.hid (below_then (below_drew (Below.refl W.heap.size W)) hb1); have q1 := below_cell HW1.out hc)
                refine wpAnyIn_ready (rs := [6]) (by kernel_rfl) (by simp) ?_
                refine AllReadyIn.cons rfl (fun K hK => ?_) ?_
                · skip
                  go_simp
                  gi_wp2_with (refine ⟨trivial, ?_⟩; gi_at_call 35; (with_reducible refine (CallsIn.inRound l (callsIn_wide.2 (C2.out _ HW1.out))).mono ?_); rintro e w2 ⟨rfl, hb2⟩; have HW2 := Lib.hid (below_then HW1.out hb2); have q2 := below_cell HW2.out hc; have q3 := below_cell (below_alloc HW2.out (.cells #[.int .i64 a1, .int .i64 a2] 32)) hc)
                  refine wpAnyIn_ready (rs := [7]) (by kernel_rfl) (by simp) ?_
                  refine AllReadyIn.cons rfl (fun K hK => ?_) ?_
                  · skip
                    go_simp
                    refine hK _ _ ?_
                    clear hK K
                    refine wpAnyIn_ready (rs := [8]) (by kernel_rfl) (by simp) ?_
                    refine AllReadyIn.cons rfl (fun K hK => ?_) ?_
                    · skip
                      go_simp
                      refine hK _ _ ?_
                      clear hK K
                      exact TAIL.out _ _ ⟨w2, rfl, HW2, rfl⟩
                    exact AllReadyIn.nil
                  exact AllReadyIn.nil
                exact AllReadyIn.nil
              exact AllReadyIn.nil
            exact AllReadyIn.nil
          refine AllReadyIn.cons rfl (fun K hK => ?_) ?_
          · skip
            go_simp
            gi_wp2_with (refine ⟨trivial, ?_⟩; gi_at_call 35; (with_reducible refine (CallsIn.inRound l (callsIn_wide.2 (C1.out _ (below_drew (Below.refl _ _))))).mono ?_); rintro e w1 ⟨rfl, hb1⟩; have HW1 := Lib.hid (below_then (below_drew (Below.refl W.heap.size W)) hb1); have q1 := below_cell HW1.out hc)
            refine wpAnyIn_ready (rs := [0, 5]) (by kernel_rfl) (by simp) ?_
            refine AllReadyIn.cons rfl (fun K hK => ?_) ?_
            · skip
              go_simp
              refine hK _ _ ?_
              clear hK K
              refine wpAnyIn_ready (rs := [5]) (by kernel_rfl) (by simp) ?_
              refine AllReadyIn.cons rfl (fun K hK => ?_) ?_
              · skip
                go_simp
                refine hK _ _ ?_
                clear hK K
                refine wpAnyIn_ready (rs := [6]) (by kernel_rfl) (by simp) ?_
                refine AllReadyIn.cons rfl (fun K hK => ?_) ?_
                · skip
                  go_simp
                  gi_wp2_with (refine ⟨trivial, ?_⟩; gi_at_call 35; (with_reducible refine (CallsIn.inRound l (callsIn_wide.2 (C2.out _ HW1.out))).mono ?_); rintro e w2 ⟨rfl, hb2⟩; have HW2 := Lib.hid (below_then HW1.out hb2); have q2 := below_cell HW2.out hc; have q3 := below_cell (below_alloc HW2.out (.cells #[.int .i64 a1, .int .i64 a2] 32)) hc)
                  refine wpAnyIn_ready (rs := [7]) (by kernel_rfl) (by simp) ?_
                  refine AllReadyIn.cons rfl (fun K hK => ?_) ?_
                  · skip
                    go_simp
                    refine hK _ _ ?_
                    clear hK K
                    refine wpAnyIn_ready (rs := [8]) (by kernel_rfl) (by simp) ?_
                    refine AllReadyIn.cons rfl (fun K hK => ?_) ?_
                    · skip
                      go_simp
                      refine hK _ _ ?_
                      clear hK K
                      exact TAIL.out _ _ ⟨w2, rfl, HW2, rfl⟩
                    exact AllReadyIn.nil
                  exact AllReadyIn.nil
                exact AllReadyIn.nil
              exact AllReadyIn.nil
            refine AllReadyIn.cons rfl (fun K hK => ?_) ?_
            · skip
              go_simp
              refine hK _ _ ?_
              clear hK K
              refine wpAnyIn_ready (rs := [0, 6]) (by kernel_rfl) (by simp) ?_
              refine AllReadyIn.cons rfl (fun K hK => ?_) ?_
              · skip
                go_simp
                refine hK _ _ ?_
                clear hK K
                refine wpAnyIn_ready (rs := [6]) (by kernel_rfl) (by simp) ?_
                refine AllReadyIn.cons rfl (fun K hK => ?_) ?_
                · skip
                  go_simp
                  gi_wp2_with (refine ⟨trivial, ?_⟩; gi_at_call 35; (with_reducible refine (CallsIn.inRound l (callsIn_wide.2 (C2.out _ HW1.out))).mono ?_); rintro e w2 ⟨rfl, hb2⟩; have HW2 := Lib.hid (below_then HW1.out hb2); have q2 := below_cell HW2.out hc; have q3 := below_cell (below_alloc HW2.out (.cells #[.int .i64 a1, .int .i64 a2] 32)) hc)
                  refine wpAnyIn_ready (rs := [7]) (by kernel_rfl) (by simp) ?_
                  refine AllReadyIn.cons rfl (fun K hK => ?_) ?_
                  · skip
                    go_simp
                    refine hK _ _ ?_
                    clear hK K
                    refine wpAnyIn_ready (rs := [8]) (by kernel_rfl) (by simp) ?_
                    refine AllReadyIn.cons rfl (fun K hK => ?_) ?_
                    · skip
                      go_simp
                      refine hK _ _ ?_
                      clear hK K
                      exact TAIL.out _ _ ⟨w2, rfl, HW2, rfl⟩
                    exact AllReadyIn.nil
                  exact AllReadyIn.nil
                exact AllReadyIn.nil
              refine AllReadyIn.cons rfl (fun K hK => ?_) ?_
              · skip
                go_simp
                gi_wp2_with (refine ⟨trivial, ?_⟩; gi_at_call 35; (with_reducible refine (CallsIn.inRound l (callsIn_wide.2 (C2.out _ HW1.out))).mono ?_); rintro e w2 ⟨rfl, hb2⟩; have HW2 := Lib.hid (below_then HW1.out hb2); have q2 := below_cell HW2.out hc; have q3 := below_cell (below_alloc HW2.out (.cells #[.int .i64 a1, .int .i64 a2] 32)) hc)
                refine wpAnyIn_ready (rs := [0, 7]) (by kernel_rfl) (by simp) ?_
                refine AllReadyIn.cons rfl (fun K hK => ?_) ?_
                · skip
                  go_simp
                  refine hK _ _ ?_
                  clear hK K
                  refine wpAnyIn_ready (rs := [7]) (by kernel_rfl) (by simp) ?_
                  refine AllReadyIn.cons rfl (fun K hK => ?_) ?_
                  · skip
                    go_simp
                    refine hK _ _ ?_
                    clear hK K
                    refine wpAnyIn_ready (rs := [8]) (by kernel_rfl) (by simp) ?_
                    refine AllReadyIn.cons rfl (fun K hK => ?_) ?_
                    · skip
                      go_simp
                      refine hK _ _ ?_
                      clear hK K
                      exact TAIL.out _ _ ⟨w2, rfl, HW2, rfl⟩
                    exact AllReadyIn.nil
                  exact AllReadyIn.nil
                refine AllReadyIn.cons rfl (fun K hK => ?_) ?_
                · skip
                  go_simp
                  refine hK _ _ ?_
                  clear hK K
                  refine wpAnyIn_ready (rs := [0, 8]) (by kernel_rfl) (by simp) ?_
                  refine AllReadyIn.cons rfl (fun K hK => ?_) ?_
                  · skip
                    go_simp
                    refine hK _ _ ?_
                    clear hK K
                    refine wpAnyIn_ready (rs := [8]) (by kernel_rfl) (by simp) ?_
                    refine AllReadyIn.cons rfl (fun K hK => ?_) ?_
                    · skip
                      go_simp
                      refine hK _ _ ?_
                      clear hK K
                      exact TAIL.out _ _ ⟨w2, rfl, HW2, rfl⟩
                    exact AllReadyIn.nil
                  refine AllReadyIn.cons rfl (fun K hK => ?_) ?_
                  · skip
                    go_simp
                    refine hK _ _ ?_
                    clear hK K
                    refine wpAnyIn_ready (rs := [0]) (by kernel_rfl) (by simp) ?_
                    refine AllReadyIn.cons rfl (fun K hK => ?_) ?_
                    · skip
                      go_simp
                      refine hK _ _ ?_
                      clear hK K
                      exact TAIL.out _ _ ⟨w2, rfl, HW2, rfl⟩
                    exact AllReadyIn.nil
                  exact AllReadyIn.nil
                exact AllReadyIn.nil
              exact AllReadyIn.nil
            exact AllReadyIn.nil
          refine AllReadyIn.cons rfl (fun K hK => ?_) ?_
          · skip
            go_simp
            refine hK _ _ ?_
            clear hK K
            refine wpAnyIn_ready (rs := [0, 3]) (by kernel_rfl) (by simp) ?_
            refine AllReadyIn.cons rfl (fun K hK => ?_) ?_
            · skip
              go_simp
              refine hK _ _ ?_
              clear hK K
              refine wpAnyIn_ready (rs := [3]) (by kernel_rfl) (by simp) ?_
              refine AllReadyIn.cons rfl (fun K hK => ?_) ?_
              · skip
                go_simp
                gi_wp2_with (refine ⟨trivial, ?_⟩; gi_at_call 35; (with_reducible refine (CallsIn.inRound l (callsIn_wide.2 (C1.out _ (below_drew (Below.refl _ _))))).mono ?_); rintro e w1 ⟨rfl, hb1⟩; have HW1 := Lib.hid (below_then (below_drew (Below.refl W.heap.size W)) hb1); have q1 := below_cell HW1.out hc)
                refine wpAnyIn_ready (rs := [6]) (by kernel_rfl) (by simp) ?_
                refine AllReadyIn.cons rfl (fun K hK => ?_) ?_
                · skip
                  go_simp
                  gi_wp2_with (refine ⟨trivial, ?_⟩; gi_at_call 35; (with_reducible refine (CallsIn.inRound l (callsIn_wide.2 (C2.out _ HW1.out))).mono ?_); rintro e w2 ⟨rfl, hb2⟩; have HW2 := Lib.hid (below_then HW1.out hb2); have q2 := below_cell HW2.out hc; have q3 := below_cell (below_alloc HW2.out (.cells #[.int .i64 a1, .int .i64 a2] 32)) hc)
                  refine wpAnyIn_ready (rs := [7]) (by kernel_rfl) (by simp) ?_
                  refine AllReadyIn.cons rfl (fun K hK => ?_) ?_
                  · skip
                    go_simp
                    refine hK _ _ ?_
                    clear hK K
                    refine wpAnyIn_ready (rs := [8]) (by kernel_rfl) (by simp) ?_
                    refine AllReadyIn.cons rfl (fun K hK => ?_) ?_
                    · skip
                      go_simp
                      refine hK _ _ ?_
                      clear hK K
                      exact TAIL.out _ _ ⟨w2, rfl, HW2, rfl⟩
                    exact AllReadyIn.nil
                  exact AllReadyIn.nil
                exact AllReadyIn.nil
              exact AllReadyIn.nil
            refine AllReadyIn.cons rfl (fun K hK => ?_) ?_
            · skip
              go_simp
              gi_wp2_with (refine ⟨trivial, ?_⟩; gi_at_call 35; (with_reducible refine (CallsIn.inRound l (callsIn_wide.2 (C1.out _ (below_drew (Below.refl _ _))))).mono ?_); rintro e w1 ⟨rfl, hb1⟩; have HW1 := Lib.hid (below_then (below_drew (Below.refl W.heap.size W)) hb1); have q1 := below_cell HW1.out hc)
              refine wpAnyIn_ready (rs := [0, 6]) (by kernel_rfl) (by simp) ?_
              refine AllReadyIn.cons rfl (fun K hK => ?_) ?_
              · skip
                go_simp
                refine hK _ _ ?_
                clear hK K
                refine wpAnyIn_ready (rs := [6]) (by kernel_rfl) (by simp) ?_
                refine AllReadyIn.cons rfl (fun K hK => ?_) ?_
                · skip
                  go_simp
                  gi_wp2_with (refine ⟨trivial, ?_⟩; gi_at_call 35; (with_reducible refine (CallsIn.inRound l (callsIn_wide.2 (C2.out _ HW1.out))).mono ?_); rintro e w2 ⟨rfl, hb2⟩; have HW2 := Lib.hid (below_then HW1.out hb2); have q2 := below_cell HW2.out hc; have q3 := below_cell (below_alloc HW2.out (.cells #[.int .i64 a1, .int .i64 a2] 32)) hc)
                  refine wpAnyIn_ready (rs := [7]) (by kernel_rfl) (by simp) ?_
                  refine AllReadyIn.cons rfl (fun K hK => ?_) ?_
                  · skip
                    go_simp
                    refine hK _ _ ?_
                    clear hK K
                    refine wpAnyIn_ready (rs := [8]) (by kernel_rfl) (by simp) ?_
                    refine AllReadyIn.cons rfl (fun K hK => ?_) ?_
                    · skip
                      go_simp
                      refine hK _ _ ?_
                      clear hK K
                      exact TAIL.out _ _ ⟨w2, rfl, HW2, rfl⟩
                    exact AllReadyIn.nil
                  exact AllReadyIn.nil
                exact AllReadyIn.nil
              refine AllReadyIn.cons rfl (fun K hK => ?_) ?_
              · skip
                go_simp
                gi_wp2_with (refine ⟨trivial, ?_⟩; gi_at_call 35; (with_reducible refine (CallsIn.inRound l (callsIn_wide.2 (C2.out _ HW1.out))).mono ?_); rintro e w2 ⟨rfl, hb2⟩; have HW2 := Lib.hid (below_then HW1.out hb2); have q2 := below_cell HW2.out hc; have q3 := below_cell (below_alloc HW2.out (.cells #[.int .i64 a1, .int .i64 a2] 32)) hc)
                refine wpAnyIn_ready (rs := [0, 7]) (by kernel_rfl) (by simp) ?_
                refine AllReadyIn.cons rfl (fun K hK => ?_) ?_
                · skip
                  go_simp
                  refine hK _ _ ?_
                  clear hK K
                  refine wpAnyIn_ready (rs := [7]) (by kernel_rfl) (by simp) ?_
                  refine AllReadyIn.cons rfl (fun K hK => ?_) ?_
                  · skip
                    go_simp
                    refine hK _ _ ?_
                    clear hK K
                    refine wpAnyIn_ready (rs := [8]) (by kernel_rfl) (by simp) ?_
                    refine AllReadyIn.cons rfl (fun K hK => ?_) ?_
                    · skip
                      go_simp
                      refine hK _ _ ?_
                      clear hK K
                      exact TAIL.out _ _ ⟨w2, rfl, HW2, rfl⟩
                    exact AllReadyIn.nil
                  exact AllReadyIn.nil
                refine AllReadyIn.cons rfl (fun K hK => ?_) ?_
                · skip
                  go_simp
                  refine hK _ _ ?_
                  clear hK K
                  refine wpAnyIn_ready (rs := [0, 8]) (by kernel_rfl) (by simp) ?_
                  refine AllReadyIn.cons rfl (fun K hK => ?_) ?_
                  · skip
                    go_simp
                    refine hK _ _ ?_
                    clear hK K
                    refine wpAnyIn_ready (rs := [8]) (by kernel_rfl) (by simp) ?_
                    refine AllReadyIn.cons rfl (fun K hK => ?_) ?_
                    · skip
                      go_simp
                      refine hK _ _ ?_
                      clear hK K
                      exact TAIL.out _ _ ⟨w2, rfl, HW2, rfl⟩
                    exact AllReadyIn.nil
                  refine AllReadyIn.cons rfl (fun K hK => ?_) ?_
                  · skip
                    go_simp
                    refine hK _ _ ?_
                    clear hK K
                    refine wpAnyIn_ready (rs := [0]) (by kernel_rfl) (by simp) ?_
                    refine AllReadyIn.cons rfl (fun K hK => ?_) ?_
                    · skip
                      go_simp
                      refine hK _ _ ?_
                      clear hK K
                      exact TAIL.out _ _ ⟨w2, rfl, HW2, rfl⟩
                    exact AllReadyIn.nil
                  exact AllReadyIn.nil
                exact AllReadyIn.nil
              exact AllReadyIn.nil
            exact AllReadyIn.nil
          exact AllReadyIn.nil
        exact AllReadyIn.nil
      refine AllReadyIn.cons rfl (fun K hK => ?_) ?_
      · skip
        go_simp
        refine hK _ _ ?_
        clear hK K
        refine wpAnyIn_ready (rs := [0, 2, 5]) (by kernel_rfl) (by simp) ?_
        refine AllReadyIn.cons rfl (fun K hK => ?_) ?_
        · skip
          go_simp
          refine hK _ _ ?_
          clear hK K
          refine wpAnyIn_ready (rs := [2, 5]) (by kernel_rfl) (by simp) ?_
          refine AllReadyIn.cons rfl (fun K hK => ?_) ?_
          · skip
            go_simp
            refine hK _ _ ?_
            clear hK K
            refine wpAnyIn_ready (rs := [3, 5]) (by kernel_rfl) (by simp) ?_
            refine AllReadyIn.cons rfl (fun K hK => ?_) ?_
            · skip
              go_simp
              gi_wp2_with (refine ⟨trivial, ?_⟩; gi_at_call 35; (with_reducible refine (CallsIn.inRound l (callsIn_wide.2 (C1.out _ (below_drew (Below.refl _ _))))).mono ?_); rintro e w1 ⟨rfl, hb1⟩; have HW1 := Lib.hid (below_then (below_drew (Below.refl W.heap.size W)) hb1); have q1 := below_cell HW1.out hc)
              refine wpAnyIn_ready (rs := [5]) (by kernel_rfl) (by simp) ?_
              refine AllReadyIn.cons rfl (fun K hK => ?_) ?_
              · skip
                go_simp
                refine hK _ _ ?_
                clear hK K
                refine wpAnyIn_ready (rs := [6]) (by kernel_rfl) (by simp) ?_
                refine AllReadyIn.cons rfl (fun K hK => ?_) ?_
                · skip
                  go_simp
                  gi_wp2_with (refine ⟨trivial, ?_⟩; gi_at_call 35; (with_reducible refine (CallsIn.inRound l (callsIn_wide.2 (C2.out _ HW1.out))).mono ?_); rintro e w2 ⟨rfl, hb2⟩; have HW2 := Lib.hid (below_then HW1.out hb2); have q2 := below_cell HW2.out hc; have q3 := below_cell (below_alloc HW2.out (.cells #[.int .i64 a1, .int .i64 a2] 32)) hc)
                  refine wpAnyIn_ready (rs := [7]) (by kernel_rfl) (by simp) ?_
                  refine AllReadyIn.cons rfl (fun K hK => ?_) ?_
                  · skip
                    go_simp
                    refine hK _ _ ?_
                    clear hK K
                    refine wpAnyIn_ready (rs := [8]) (by kernel_rfl) (by simp) ?_
                    refine AllReadyIn.cons rfl (fun K hK => ?_) ?_
                    · skip
                      go_simp
                      refine hK _ _ ?_
                      clear hK K
                      exact TAIL.out _ _ ⟨w2, rfl, HW2, rfl⟩
                    exact AllReadyIn.nil
                  exact AllReadyIn.nil
                exact AllReadyIn.nil
              exact AllReadyIn.nil
            refine AllReadyIn.cons rfl (fun K hK => ?_) ?_
            · skip
              go_simp
              refine hK _ _ ?_
              clear hK K
              refine wpAnyIn_ready (rs := [3]) (by kernel_rfl) (by simp) ?_
              refine AllReadyIn.cons rfl (fun K hK => ?_) ?_
              · skip
                go_simp
                gi_wp2_with (refine ⟨trivial, ?_⟩; gi_at_call 35; (with_reducible refine (CallsIn.inRound l (callsIn_wide.2 (C1.out _ (below_drew (Below.refl _ _))))).mono ?_); rintro e w1 ⟨rfl, hb1⟩; have HW1 := Lib.hid (below_then (below_drew (Below.refl W.heap.size W)) hb1); have q1 := below_cell HW1.out hc)
                refine wpAnyIn_ready (rs := [6]) (by kernel_rfl) (by simp) ?_
                refine AllReadyIn.cons rfl (fun K hK => ?_) ?_
                · skip
                  go_simp
                  gi_wp2_with (refine ⟨trivial, ?_⟩; gi_at_call 35; (with_reducible refine (CallsIn.inRound l (callsIn_wide.2 (C2.out _ HW1.out))).mono ?_); rintro e w2 ⟨rfl, hb2⟩; have HW2 := Lib.hid (below_then HW1.out hb2); have q2 := below_cell HW2.out hc; have q3 := below_cell (below_alloc HW2.out (.cells #[.int .i64 a1, .int .i64 a2] 32)) hc)
                  refine wpAnyIn_ready (rs := [7]) (by kernel_rfl) (by simp) ?_
                  refine AllReadyIn.cons rfl (fun K hK => ?_) ?_
                  · skip
                    go_simp
                    refine hK _ _ ?_
                    clear hK K
                    refine wpAnyIn_ready (rs := [8]) (by kernel_rfl) (by simp) ?_
                    refine AllReadyIn.cons rfl (fun K hK => ?_) ?_
                    · skip
                      go_simp
                      refine hK _ _ ?_
                      clear hK K
                      exact TAIL.out _ _ ⟨w2, rfl, HW2, rfl⟩
                    exact AllReadyIn.nil
                  exact AllReadyIn.nil
                exact AllReadyIn.nil
              exact AllReadyIn.nil
            exact AllReadyIn.nil
          refine AllReadyIn.cons rfl (fun K hK => ?_) ?_
          · skip
            go_simp
            refine hK _ _ ?_
            clear hK K
            refine wpAnyIn_ready (rs := [2]) (by kernel_rfl) (by simp) ?_
            refine AllReadyIn.cons rfl (fun K hK => ?_) ?_
            · skip
              go_simp
              refine hK _ _ ?_
              clear hK K
              refine wpAnyIn_ready (rs := [3]) (by kernel_rfl) (by simp) ?_
              refine AllReadyIn.cons rfl (fun K hK => ?_) ?_
              · skip
                go_simp
                gi_wp2_with (refine ⟨trivial, ?_⟩; gi_at_call 35; (with_reducible refine (CallsIn.inRound l (callsIn_wide.2 (C1.out _ (below_drew (Below.refl _ _))))).mono ?_); rintro e w1 ⟨rfl, hb1⟩; have HW1 := Lib.hid (below_then (below_drew (Below.refl W.heap.size W)) hb1); have q1 := below_cell HW1.out hc)
                refine wpAnyIn_ready (rs := [6]) (by kernel_rfl) (by simp) ?_
                refine AllReadyIn.cons rfl (fun K hK => ?_) ?_
                · skip
                  go_simp
                  gi_wp2_with (refine ⟨trivial, ?_⟩; gi_at_call 35; (with_reducible refine (CallsIn.inRound l (callsIn_wide.2 (C2.out _ HW1.out))).mono ?_); rintro e w2 ⟨rfl, hb2⟩; have HW2 := Lib.hid (below_then HW1.out hb2); have q2 := below_cell HW2.out hc; have q3 := below_cell (below_alloc HW2.out (.cells #[.int .i64 a1, .int .i64 a2] 32)) hc)
                  refine wpAnyIn_ready (rs := [7]) (by kernel_rfl) (by simp) ?_
                  refine AllReadyIn.cons rfl (fun K hK => ?_) ?_
                  · skip
                    go_simp
                    refine hK _ _ ?_
                    clear hK K
                    refine wpAnyIn_ready (rs := [8]) (by kernel_rfl) (by simp) ?_
                    refine AllReadyIn.cons rfl (fun K hK => ?_) ?_
                    · skip
                      go_simp
                      refine hK _ _ ?_
                      clear hK K
                      exact TAIL.out _ _ ⟨w2, rfl, HW2, rfl⟩
                    exact AllReadyIn.nil
                  exact AllReadyIn.nil
                exact AllReadyIn.nil
              exact AllReadyIn.nil
            exact AllReadyIn.nil
          exact AllReadyIn.nil
        refine AllReadyIn.cons rfl (fun K hK => ?_) ?_
        · skip
          go_simp
          refine hK _ _ ?_
          clear hK K
          refine wpAnyIn_ready (rs := [0, 3, 5]) (by kernel_rfl) (by simp) ?_
          refine AllReadyIn.cons rfl (fun K hK => ?_) ?_
          · skip
            go_simp
            refine hK _ _ ?_
            clear hK K
            refine wpAnyIn_ready (rs := [3, 5]) (by kernel_rfl) (by simp) ?_
            refine AllReadyIn.cons rfl (fun K hK => ?_) ?_
            · skip
              go_simp
              gi_wp2_with (refine ⟨trivial, ?_⟩; gi_at_call 35; (with_reducible refine (CallsIn.inRound l (callsIn_wide.2 (C1.out _ (below_drew (Below.refl _ _))))).mono ?_); rintro e w1 ⟨rfl, hb1⟩; have HW1 := Lib.hid (below_then (below_drew (Below.refl W.heap.size W)) hb1); have q1 := below_cell HW1.out hc)
              refine wpAnyIn_ready (rs := [5]) (by kernel_rfl) (by simp) ?_
              refine AllReadyIn.cons rfl (fun K hK => ?_) ?_
              · skip
                go_simp
                refine hK _ _ ?_
                clear hK K
                refine wpAnyIn_ready (rs := [6]) (by kernel_rfl) (by simp) ?_
                refine AllReadyIn.cons rfl (fun K hK => ?_) ?_
                · skip
                  go_simp
                  gi_wp2_with (refine ⟨trivial, ?_⟩; gi_at_call 35; (with_reducible refine (CallsIn.inRound l (callsIn_wide.2 (C2.out _ HW1.out))).mono ?_); rintro e w2 ⟨rfl, hb2⟩; have HW2 := Lib.hid (below_then HW1.out hb2); have q2 := below_cell HW2.out hc; have q3 := below_cell (below_alloc HW2.out (.cells #[.int .i64 a1, .int .i64 a2] 32)) hc)
                  refine wpAnyIn_ready (rs := [7]) (by kernel_rfl) (by simp) ?_
                  refine AllReadyIn.cons rfl (fun K hK => ?_) ?_
                  · skip
                    go_simp
                    refine hK _ _ ?_
                    clear hK K
                    refine wpAnyIn_ready (rs := [8]) (by kernel_rfl) (by simp) ?_
                    refine AllReadyIn.cons rfl (fun K hK => ?_) ?_
                    · skip
                      go_simp
                      refine hK _ _ ?_
                      clear hK K
                      exact TAIL.out _ _ ⟨w2, rfl, HW2, rfl⟩
                    exact AllReadyIn.nil
                  exact AllReadyIn.nil
                exact AllReadyIn.nil
              exact AllReadyIn.nil
            refine AllReadyIn.cons rfl (fun K hK => ?_) ?_
            · skip
              go_simp
              refine hK _ _ ?_
              clear hK K
              refine wpAnyIn_ready (rs := [3]) (by kernel_rfl) (by simp) ?_
              refine AllReadyIn.cons rfl (fun K hK => ?_) ?_
              · skip
                go_simp
                gi_wp2_with (refine ⟨trivial, ?_⟩; gi_at_call 35; (with_reducible refine (CallsIn.inRound l (callsIn_wide.2 (C1.out _ (below_drew (Below.refl _ _))))).mono ?_); rintro e w1 ⟨rfl, hb1⟩; have HW1 := Lib.hid (below_then (below_drew (Below.refl W.heap.size W)) hb1); have q1 := below_cell HW1.out hc)
                refine wpAnyIn_ready (rs := [6]) (by kernel_rfl) (by simp) ?_
                refine AllReadyIn.cons rfl (fun K hK => ?_) ?_
                · skip
                  go_simp
                  gi_wp2_with (refine ⟨trivial, ?_⟩; gi_at_call 35; (with_reducible refine (CallsIn.inRound l (callsIn_wide.2 (C2.out _ HW1.out))).mono ?_); rintro e w2 ⟨rfl, hb2⟩; have HW2 := Lib.hid (below_then HW1.out hb2); have q2 := below_cell HW2.out hc; have q3 := below_cell (below_alloc HW2.out (.cells #[.int .i64 a1, .int .i64 a2] 32)) hc)
                  refine wpAnyIn_ready (rs := [7]) (by kernel_rfl) (by simp) ?_
                  refine AllReadyIn.cons rfl (fun K hK => ?_) ?_
                  · skip
                    go_simp
                    refine hK _ _ ?_
                    clear hK K
                    refine wpAnyIn_ready (rs := [8]) (by kernel_rfl) (by simp) ?_
                    refine AllReadyIn.cons rfl (fun K hK => ?_) ?_
                    · skip
                      go_simp
                      refine hK _ _ ?_
                      clear hK K
                      exact TAIL.out _ _ ⟨w2, rfl, HW2, rfl⟩
                    exact AllReadyIn.nil
                  exact AllReadyIn.nil
                exact AllReadyIn.nil
              exact AllReadyIn.nil
            exact AllReadyIn.nil
          refine AllReadyIn.cons rfl (fun K hK => ?_) ?_
          · skip
            go_simp
            gi_wp2_with (refine ⟨trivial, ?_⟩; gi_at_call 35; (with_reducible refine (CallsIn.inRound l (callsIn_wide.2 (C1.out _ (below_drew (Below.refl _ _))))).mono ?_); rintro e w1 ⟨rfl, hb1⟩; have HW1 := Lib.hid (below_then (below_drew (Below.refl W.heap.size W)) hb1); have q1 := below_cell HW1.out hc)
            refine wpAnyIn_ready (rs := [0, 5]) (by kernel_rfl) (by simp) ?_
            refine AllReadyIn.cons rfl (fun K hK => ?_) ?_
            · skip
              go_simp
              refine hK _ _ ?_
              clear hK K
              refine wpAnyIn_ready (rs := [5]) (by kernel_rfl) (by simp) ?_
              refine AllReadyIn.cons rfl (fun K hK => ?_) ?_
              · skip
                go_simp
                refine hK _ _ ?_
                clear hK K
                refine wpAnyIn_ready (rs := [6]) (by kernel_rfl) (by simp) ?_
                refine AllReadyIn.cons rfl (fun K hK => ?_) ?_
                · skip
                  go_simp
                  gi_wp2_with (refine ⟨trivial, ?_⟩; gi_at_call 35; (with_reducible refine (CallsIn.inRound l (callsIn_wide.2 (C2.out _ HW1.out))).mono ?_); rintro e w2 ⟨rfl, hb2⟩; have HW2 := Lib.hid (below_then HW1.out hb2); have q2 := below_cell HW2.out hc; have q3 := below_cell (below_alloc HW2.out (.cells #[.int .i64 a1, .int .i64 a2] 32)) hc)
                  refine wpAnyIn_ready (rs := [7]) (by kernel_rfl) (by simp) ?_
                  refine AllReadyIn.cons rfl (fun K hK => ?_) ?_
                  · skip
                    go_simp
                    refine hK _ _ ?_
                    clear hK K
                    refine wpAnyIn_ready (rs := [8]) (by kernel_rfl) (by simp) ?_
                    refine AllReadyIn.cons rfl (fun K hK => ?_) ?_
                    · skip
                      go_simp
                      refine hK _ _ ?_
                      clear hK K
                      exact TAIL.out _ _ ⟨w2, rfl, HW2, rfl⟩
                    exact AllReadyIn.nil
                  exact AllReadyIn.nil
                exact AllReadyIn.nil
              exact AllReadyIn.nil
            refine AllReadyIn.cons rfl (fun K hK => ?_) ?_
            · skip
              go_simp
              refine hK _ _ ?_
              clear hK K
              refine wpAnyIn_ready (rs := [0, 6]) (by kernel_rfl) (by simp) ?_
              refine AllReadyIn.cons rfl (fun K hK => ?_) ?_
              · skip
                go_simp
                refine hK _ _ ?_
                clear hK K
                refine wpAnyIn_ready (rs := [6]) (by kernel_rfl) (by simp) ?_
                refine AllReadyIn.cons rfl (fun K hK => ?_) ?_
                · skip
                  go_simp
                  gi_wp2_with (refine ⟨trivial, ?_⟩; gi_at_call 35; (with_reducible refine (CallsIn.inRound l (callsIn_wide.2 (C2.out _ HW1.out))).mono ?_); rintro e w2 ⟨rfl, hb2⟩; have HW2 := Lib.hid (below_then HW1.out hb2); have q2 := below_cell HW2.out hc; have q3 := below_cell (below_alloc HW2.out (.cells #[.int .i64 a1, .int .i64 a2] 32)) hc)
                  refine wpAnyIn_ready (rs := [7]) (by kernel_rfl) (by simp) ?_
                  refine AllReadyIn.cons rfl (fun K hK => ?_) ?_
                  · skip
                    go_simp
                    refine hK _ _ ?_
                    clear hK K
                    refine wpAnyIn_ready (rs := [8]) (by kernel_rfl) (by simp) ?_
                    refine AllReadyIn.cons rfl (fun K hK => ?_) ?_
                    · skip
                      go_simp
                      refine hK _ _ ?_
                      clear hK K
                      exact TAIL.out _ _ ⟨w2, rfl, HW2, rfl⟩
                    exact AllReadyIn.nil
                  exact AllReadyIn.nil
                exact AllReadyIn.nil
              refine AllReadyIn.cons rfl (fun K hK => ?_) ?_
              · skip
                go_simp
                gi_wp2_with (refine ⟨trivial, ?_⟩; gi_at_call 35; (with_reducible refine (CallsIn.inRound l (callsIn_wide.2 (C2.out _ HW1.out))).mono ?_); rintro e w2 ⟨rfl, hb2⟩; have HW2 := Lib.hid (below_then HW1.out hb2); have q2 := below_cell HW2.out hc; have q3 := below_cell (below_alloc HW2.out (.cells #[.int .i64 a1, .int .i64 a2] 32)) hc)
                refine wpAnyIn_ready (rs := [0, 7]) (by kernel_rfl) (by simp) ?_
                refine AllReadyIn.cons rfl (fun K hK => ?_) ?_
                · skip
                  go_simp
                  refine hK _ _ ?_
                  clear hK K
                  refine wpAnyIn_ready (rs := [7]) (by kernel_rfl) (by simp) ?_
                  refine AllReadyIn.cons rfl (fun K hK => ?_) ?_
                  · skip
                    go_simp
                    refine hK _ _ ?_
                    clear hK K
                    refine wpAnyIn_ready (rs := [8]) (by kernel_rfl) (by simp) ?_
                    refine AllReadyIn.cons rfl (fun K hK => ?_) ?_
                    · skip
                      go_simp
                      refine hK _ _ ?_
                      clear hK K
                      exact TAIL.out _ _ ⟨w2, rfl, HW2, rfl⟩
                    exact AllReadyIn.nil
                  exact AllReadyIn.nil
                refine AllReadyIn.cons rfl (fun K hK => ?_) ?_
                · skip
                  go_simp
                  refine hK _ _ ?_
                  clear hK K
                  refine wpAnyIn_ready (rs := [0, 8]) (by kernel_rfl) (by simp) ?_
                  refine AllReadyIn.cons rfl (fun K hK => ?_) ?_
                  · skip
                    go_simp
                    refine hK _ _ ?_
                    clear hK K
                    refine wpAnyIn_ready (rs := [8]) (by kernel_rfl) (by simp) ?_
                    refine AllReadyIn.cons rfl (fun K hK => ?_) ?_
                    · skip
                      go_simp
                      refine hK _ _ ?_
                      clear hK K
                      exact TAIL.out _ _ ⟨w2, rfl, HW2, rfl⟩
                    exact AllReadyIn.nil
                  refine AllReadyIn.cons rfl (fun K hK => ?_) ?_
                  · skip
                    go_simp
                    refine hK _ _ ?_
                    clear hK K
                    refine wpAnyIn_ready (rs := [0]) (by kernel_rfl) (by simp) ?_
                    refine AllReadyIn.cons rfl (fun K hK => ?_) ?_
                    · skip
                      go_simp
                      refine hK _ _ ?_
                      clear hK K
                      exact TAIL.out _ _ ⟨w2, rfl, HW2, rfl⟩
                    exact AllReadyIn.nil
                  exact AllReadyIn.nil
                exact AllReadyIn.nil
              exact AllReadyIn.nil
            exact AllReadyIn.nil
          refine AllReadyIn.cons rfl (fun K hK => ?_) ?_
          · skip
            go_simp
            refine hK _ _ ?_
            clear hK K
            refine wpAnyIn_ready (rs := [0, 3]) (by kernel_rfl) (by simp) ?_
            refine AllReadyIn.cons rfl (fun K hK => ?_) ?_
            · skip
              go_simp
              refine hK _ _ ?_
              clear hK K
              refine wpAnyIn_ready (rs := [3]) (by kernel_rfl) (by simp) ?_
              refine AllReadyIn.cons rfl (fun K hK => ?_) ?_
              · skip
                go_simp
                gi_wp2_with (refine ⟨trivial, ?_⟩; gi_at_call 35; (with_reducible refine (CallsIn.inRound l (callsIn_wide.2 (C1.out _ (below_drew (Below.refl _ _))))).mono ?_); rintro e w1 ⟨rfl, hb1⟩; have HW1 := Lib.hid (below_then (below_drew (Below.refl W.heap.size W)) hb1); have q1 := below_cell HW1.out hc)
                refine wpAnyIn_ready (rs := [6]) (by kernel_rfl) (by simp) ?_
                refine AllReadyIn.cons rfl (fun K hK => ?_) ?_
                · skip
                  go_simp
                  gi_wp2_with (refine ⟨trivial, ?_⟩; gi_at_call 35; (with_reducible refine (CallsIn.inRound l (callsIn_wide.2 (C2.out _ HW1.out))).mono ?_); rintro e w2 ⟨rfl, hb2⟩; have HW2 := Lib.hid (below_then HW1.out hb2); have q2 := below_cell HW2.out hc; have q3 := below_cell (below_alloc HW2.out (.cells #[.int .i64 a1, .int .i64 a2] 32)) hc)
                  refine wpAnyIn_ready (rs := [7]) (by kernel_rfl) (by simp) ?_
                  refine AllReadyIn.cons rfl (fun K hK => ?_) ?_
                  · skip
                    go_simp
                    refine hK _ _ ?_
                    clear hK K
                    refine wpAnyIn_ready (rs := [8]) (by kernel_rfl) (by simp) ?_
                    refine AllReadyIn.cons rfl (fun K hK => ?_) ?_
                    · skip
                      go_simp
                      refine hK _ _ ?_
                      clear hK K
                      exact TAIL.out _ _ ⟨w2, rfl, HW2, rfl⟩
                    exact AllReadyIn.nil
                  exact AllReadyIn.nil
                exact AllReadyIn.nil
              exact AllReadyIn.nil
            refine AllReadyIn.cons rfl (fun K hK => ?_) ?_
            · skip
              go_simp
              gi_wp2_with (refine ⟨trivial, ?_⟩; gi_at_call 35; (with_reducible refine (CallsIn.inRound l (callsIn_wide.2 (C1.out _ (below_drew (Below.refl _ _))))).mono ?_); rintro e w1 ⟨rfl, hb1⟩; have HW1 := Lib.hid (below_then (below_drew (Below.refl W.heap.size W)) hb1); have q1 := below_cell HW1.out hc)
              refine wpAnyIn_ready (rs := [0, 6]) (by kernel_rfl) (by simp) ?_
              refine AllReadyIn.cons rfl (fun K hK => ?_) ?_
              · skip
                go_simp
                refine hK _ _ ?_
                clear hK K
                refine wpAnyIn_ready (rs := [6]) (by kernel_rfl) (by simp) ?_
                refine AllReadyIn.cons rfl (fun K hK => ?_) ?_
                · skip
                  go_simp
                  gi_wp2_with (refine ⟨trivial, ?_⟩; gi_at_call 35; (with_reducible refine (CallsIn.inRound l (callsIn_wide.2 (C2.out _ HW1.out))).mono ?_); rintro e w2 ⟨rfl, hb2⟩; have HW2 := Lib.hid (below_then HW1.out hb2); have q2 := below_cell HW2.out hc; have q3 := below_cell (below_alloc HW2.out (.cells #[.int .i64 a1, .int .i64 a2] 32)) hc)
                  refine wpAnyIn_ready (rs := [7]) (by kernel_rfl) (by simp) ?_
                  refine AllReadyIn.cons rfl (fun K hK => ?_) ?_
                  · skip
                    go_simp
                    refine hK _ _ ?_
                    clear hK K
                    refine wpAnyIn_ready (rs := [8]) (by kernel_rfl) (by simp) ?_
                    refine AllReadyIn.cons rfl (fun K hK => ?_) ?_
                    · skip
                      go_simp
                      refine hK _ _ ?_
                      clear hK K
                      exact TAIL.out _ _ ⟨w2, rfl, HW2, rfl⟩
                    exact AllReadyIn.nil
                  exact AllReadyIn.nil
                exact AllReadyIn.nil
              refine AllReadyIn.cons rfl (fun K hK => ?_) ?_
              · skip
                go_simp
                gi_wp2_with (refine ⟨trivial, ?_⟩; gi_at_call 35; (with_reducible refine (CallsIn.inRound l (callsIn_wide.2 (C2.out _ HW1.out))).mono ?_); rintro e w2 ⟨rfl, hb2⟩; have HW2 := Lib.hid (below_then HW1.out hb2); have q2 := below_cell HW2.out hc; have q3 := below_cell (below_alloc HW2.out (.cells #[.int .i64 a1, .int .i64 a2] 32)) hc)
                refine wpAnyIn_ready (rs := [0, 7]) (by kernel_rfl) (by simp) ?_
                refine AllReadyIn.cons rfl (fun K hK => ?_) ?_
                · skip
                  go_simp
                  refine hK _ _ ?_
                  clear hK K
                  refine wpAnyIn_ready (rs := [7]) (by kernel_rfl) (by simp) ?_
                  refine AllReadyIn.cons rfl (fun K hK => ?_) ?_
                  · skip
                    go_simp
                    refine hK _ _ ?_
                    clear hK K
                    refine wpAnyIn_ready (rs := [8]) (by kernel_rfl) (by simp) ?_
                    refine AllReadyIn.cons rfl (fun K hK => ?_) ?_
                    · skip
                      go_simp
                      refine hK _ _ ?_
                      clear hK K
                      exact TAIL.out _ _ ⟨w2, rfl, HW2, rfl⟩
                    exact AllReadyIn.nil
                  exact AllReadyIn.nil
                refine AllReadyIn.cons rfl (fun K hK => ?_) ?_
                · skip
                  go_simp
                  refine hK _ _ ?_
                  clear hK K
                  refine wpAnyIn_ready (rs := [0, 8]) (by kernel_rfl) (by simp) ?_
                  refine AllReadyIn.cons rfl (fun K hK => ?_) ?_
                  · skip
                    go_simp
                    refine hK _ _ ?_
                    clear hK K
                    refine wpAnyIn_ready (rs := [8]) (by kernel_rfl) (by simp) ?_
                    refine AllReadyIn.cons rfl (fun K hK => ?_) ?_
                    · skip
                      go_simp
                      refine hK _ _ ?_
                      clear hK K
                      exact TAIL.out _ _ ⟨w2, rfl, HW2, rfl⟩
                    exact AllReadyIn.nil
                  refine AllReadyIn.cons rfl (fun K hK => ?_) ?_
                  · skip
                    go_simp
                    refine hK _ _ ?_
                    clear hK K
                    refine wpAnyIn_ready (rs := [0]) (by kernel_rfl) (by simp) ?_
                    refine AllReadyIn.cons rfl (fun K hK => ?_) ?_
                    · skip
                      go_simp
                      refine hK _ _ ?_
                      clear hK K
                      exact TAIL.out _ _ ⟨w2, rfl, HW2, rfl⟩
                    exact AllReadyIn.nil
                  exact AllReadyIn.nil
                exact AllReadyIn.nil
              exact AllReadyIn.nil
            exact AllReadyIn.nil
          exact AllReadyIn.nil
        refine AllReadyIn.cons rfl (fun K hK => ?_) ?_
        · skip
          go_simp
          refine hK _ _ ?_
          clear hK K
          refine wpAnyIn_ready (rs := [0, 2]) (by kernel_rfl) (by simp) ?_
          refine AllReadyIn.cons rfl (fun K hK => ?_) ?_
          · skip
            go_simp
            refine hK _ _ ?_
            clear hK K
            refine wpAnyIn_ready (rs := [2]) (by kernel_rfl) (by simp) ?_
            refine AllReadyIn.cons rfl (fun K hK => ?_) ?_
            · skip
              go_simp
              refine hK _ _ ?_
              clear hK K
              refine wpAnyIn_ready (rs := [3]) (by kernel_rfl) (by simp) ?_
              refine AllReadyIn.cons rfl (fun K hK => ?_) ?_
              · skip
                go_simp
                gi_wp2_with (refine ⟨trivial, ?_⟩; gi_at_call 35; (with_reducible refine (CallsIn.inRound l (callsIn_wide.2 (C1.out _ (below_drew (Below.refl _ _))))).mono ?_); rintro e w1 ⟨rfl, hb1⟩; have HW1 := Lib.hid (below_then (below_drew (Below.refl W.heap.size W)) hb1); have q1 := below_cell HW1.out hc)
                refine wpAnyIn_ready (rs := [6]) (by kernel_rfl) (by simp) ?_
                refine AllReadyIn.cons rfl (fun K hK => ?_) ?_
                · skip
                  go_simp
                  gi_wp2_with (refine ⟨trivial, ?_⟩; gi_at_call 35; (with_reducible refine (CallsIn.inRound l (callsIn_wide.2 (C2.out _ HW1.out))).mono ?_); rintro e w2 ⟨rfl, hb2⟩; have HW2 := Lib.hid (below_then HW1.out hb2); have q2 := below_cell HW2.out hc; have q3 := below_cell (below_alloc HW2.out (.cells #[.int .i64 a1, .int .i64 a2] 32)) hc)
                  refine wpAnyIn_ready (rs := [7]) (by kernel_rfl) (by simp) ?_
                  refine AllReadyIn.cons rfl (fun K hK => ?_) ?_
                  · skip
                    go_simp
                    refine hK _ _ ?_
                    clear hK K
                    refine wpAnyIn_ready (rs := [8]) (by kernel_rfl) (by simp) ?_
                    refine AllReadyIn.cons rfl (fun K hK => ?_) ?_
                    · skip
                      go_simp
                      refine hK _ _ ?_
                      clear hK K
                      exact TAIL.out _ _ ⟨w2, rfl, HW2, rfl⟩
                    exact AllReadyIn.nil
                  exact AllReadyIn.nil
                exact AllReadyIn.nil
              exact AllReadyIn.nil
            exact AllReadyIn.nil
          refine AllReadyIn.cons rfl (fun K hK => ?_) ?_
          · skip
            go_simp
            refine hK _ _ ?_
            clear hK K
            refine wpAnyIn_ready (rs := [0, 3]) (by kernel_rfl) (by simp) ?_
            refine AllReadyIn.cons rfl (fun K hK => ?_) ?_
            · skip
              go_simp
              refine hK _ _ ?_
              clear hK K
              refine wpAnyIn_ready (rs := [3]) (by kernel_rfl) (by simp) ?_
              refine AllReadyIn.cons rfl (fun K hK => ?_) ?_
              · skip
                go_simp
                gi_wp2_with (refine ⟨trivial, ?_⟩; gi_at_call 35; (with_reducible refine (CallsIn.inRound l (callsIn_wide.2 (C1.out _ (below_drew (Below.refl _ _))))).mono ?_); rintro e w1 ⟨rfl, hb1⟩; have HW1 := Lib.hid (below_then (below_drew (Below.refl W.heap.size W)) hb1); have q1 := below_cell HW1.out hc)
                refine wpAnyIn_ready (rs := [6]) (by kernel_rfl) (by simp) ?_
                refine AllReadyIn.cons rfl (fun K hK => ?_) ?_
                · skip
                  go_simp
                  gi_wp2_with (refine ⟨trivial, ?_⟩; gi_at_call 35; (with_reducible refine (CallsIn.inRound l (callsIn_wide.2 (C2.out _ HW1.out))).mono ?_); rintro e w2 ⟨rfl, hb2⟩; have HW2 := Lib.hid (below_then HW1.out hb2); have q2 := below_cell HW2.out hc; have q3 := below_cell (below_alloc HW2.out (.cells #[.int .i64 a1, .int .i64 a2] 32)) hc)
                  refine wpAnyIn_ready (rs := [7]) (by kernel_rfl) (by simp) ?_
                  refine AllReadyIn.cons rfl (fun K hK => ?_) ?_
                  · skip
                    go_simp
                    refine hK _ _ ?_
                    clear hK K
                    refine wpAnyIn_ready (rs := [8]) (by kernel_rfl) (by simp) ?_
                    refine AllReadyIn.cons rfl (fun K hK => ?_) ?_
                    · skip
                      go_simp
                      refine hK _ _ ?_
                      clear hK K
                      exact TAIL.out _ _ ⟨w2, rfl, HW2, rfl⟩
                    exact AllReadyIn.nil
                  exact AllReadyIn.nil
                exact AllReadyIn.nil
              exact AllReadyIn.nil
            refine AllReadyIn.cons rfl (fun K hK => ?_) ?_
            · skip
              go_simp
              gi_wp2_with (refine ⟨trivial, ?_⟩; gi_at_call 35; (with_reducible refine (CallsIn.inRound l (callsIn_wide.2 (C1.out _ (below_drew (Below.refl _ _))))).mono ?_); rintro e w1 ⟨rfl, hb1⟩; have HW1 := Lib.hid (below_then (below_drew (Below.refl W.heap.size W)) hb1); have q1 := below_cell HW1.out hc)
              refine wpAnyIn_ready (rs := [0, 6]) (by kernel_rfl) (by simp) ?_
              refine AllReadyIn.cons rfl (fun K hK => ?_) ?_
              · skip
                go_simp
                refine hK _ _ ?_
                clear hK K
                refine wpAnyIn_ready (rs := [6]) (by kernel_rfl) (by simp) ?_
                refine AllReadyIn.cons rfl (fun K hK => ?_) ?_
                · skip
                  go_simp
                  gi_wp2_with (refine ⟨trivial, ?_⟩; gi_at_call 35; (with_reducible refine (CallsIn.inRound l (callsIn_wide.2 (C2.out _ HW1.out))).mono ?_); rintro e w2 ⟨rfl, hb2⟩; have HW2 := Lib.hid (below_then HW1.out hb2); have q2 := below_cell HW2.out hc; have q3 := below_cell (below_alloc HW2.out (.cells #[.int .i64 a1, .int .i64 a2] 32)) hc)
                  refine wpAnyIn_ready (rs := [7]) (by kernel_rfl) (by simp) ?_
                  refine AllReadyIn.cons rfl (fun K hK => ?_) ?_
                  · skip
                    go_simp
                    refine hK _ _ ?_
                    clear hK K
                    refine wpAnyIn_ready (rs := [8]) (by kernel_rfl) (by simp) ?_
                    refine AllReadyIn.cons rfl (fun K hK => ?_) ?_
                    · skip
                      go_simp
                      refine hK _ _ ?_
                      clear hK K
                      exact TAIL.out _ _ ⟨w2, rfl, HW2, rfl⟩
                    exact AllReadyIn.nil
                  exact AllReadyIn.nil
                exact AllReadyIn.nil
              refine AllReadyIn.cons rfl (fun K hK => ?_) ?_
              · skip
                go_simp
                gi_wp2_with (refine ⟨trivial, ?_⟩; gi_at_call 35; (with_reducible refine (CallsIn.inRound l (callsIn_wide.2 (C2.out _ HW1.out))).mono ?_); rintro e w2 ⟨rfl, hb2⟩; have HW2 := Lib.hid (below_then HW1.out hb2); have q2 := below_cell HW2.out hc; have q3 := below_cell (below_alloc HW2.out (.cells #[.int .i64 a1, .int .i64 a2] 32)) hc)
                refine wpAnyIn_ready (rs := [0, 7]) (by kernel_rfl) (by simp) ?_
                refine AllReadyIn.cons rfl (fun K hK => ?_) ?_
                · skip
                  go_simp
                  refine hK _ _ ?_
                  clear hK K
                  refine wpAnyIn_ready (rs := [7]) (by kernel_rfl) (by simp) ?_
                  refine AllReadyIn.cons rfl (fun K hK => ?_) ?_
                  · skip
                    go_simp
                    refine hK _ _ ?_
                    clear hK K
                    refine wpAnyIn_ready (rs := [8]) (by kernel_rfl) (by simp) ?_
                    refine AllReadyIn.cons rfl (fun K hK => ?_) ?_
                    · skip
                      go_simp
                      refine hK _ _ ?_
                      clear hK K
                      exact TAIL.out _ _ ⟨w2, rfl, HW2, rfl⟩
                    exact AllReadyIn.nil
                  exact AllReadyIn.nil
                refine AllReadyIn.cons rfl (fun K hK => ?_) ?_
                · skip
                  go_simp
                  refine hK _ _ ?_
                  clear hK K
                  refine wpAnyIn_ready (rs := [0, 8]) (by kernel_rfl) (by simp) ?_
                  refine AllReadyIn.cons rfl (fun K hK => ?_) ?_
                  · skip
                    go_simp
                    refine hK _ _ ?_
                    clear hK K
                    refine wpAnyIn_ready (rs := [8]) (by kernel_rfl) (by simp) ?_
                    refine AllReadyIn.cons rfl (fun K hK => ?_) ?_
                    · skip
                      go_simp
                      refine hK _ _ ?_
                      clear hK K
                      exact TAIL.out _ _ ⟨w2, rfl, HW2, rfl⟩
                    exact AllReadyIn.nil
                  refine AllReadyIn.cons rfl (fun K hK => ?_) ?_
                  · skip
                    go_simp
                    refine hK _ _ ?_
                    clear hK K
                    refine wpAnyIn_ready (rs := [0]) (by kernel_rfl) (by simp) ?_
                    refine AllReadyIn.cons rfl (fun K hK => ?_) ?_
                    · skip
                      go_simp
                      refine hK _ _ ?_
                      clear hK K
                      exact TAIL.out _ _ ⟨w2, rfl, HW2, rfl⟩
                    exact AllReadyIn.nil
                  exact AllReadyIn.nil
                exact AllReadyIn.nil
              exact AllReadyIn.nil
            exact AllReadyIn.nil
          exact AllReadyIn.nil
        exact AllReadyIn.nil
      exact AllReadyIn.nil
    refine AllReadyIn.cons rfl (fun K hK => ?_) ?_
    · skip
      go_simp
      refine hK _ _ ?_
      clear hK K
      refine wpAnyIn_ready (rs := [0, 1, 5]) (by kernel_rfl) (by simp) ?_
      refine AllReadyIn.cons rfl (fun K hK => ?_) ?_
      · skip
        go_simp
        refine hK _ _ ?_
        clear hK K
        refine wpAnyIn_ready (rs := [1, 5]) (by kernel_rfl) (by simp) ?_
        refine AllReadyIn.cons rfl (fun K hK => ?_) ?_
        · skip
          go_simp
          refine hK _ _ ?_
          clear hK K
          refine wpAnyIn_ready (rs := [2, 5]) (by kernel_rfl) (by simp) ?_
          refine AllReadyIn.cons rfl (fun K hK => ?_) ?_
          · skip
            go_simp
            refine hK _ _ ?_
            clear hK K
            refine wpAnyIn_ready (rs := [3, 5]) (by kernel_rfl) (by simp) ?_
            refine AllReadyIn.cons rfl (fun K hK => ?_) ?_
            · skip
              go_simp
              gi_wp2_with (refine ⟨trivial, ?_⟩; gi_at_call 35; (with_reducible refine (CallsIn.inRound l (callsIn_wide.2 (C1.out _ (below_drew (Below.refl _ _))))).mono ?_); rintro e w1 ⟨rfl, hb1⟩; have HW1 := Lib.hid (below_then (below_drew (Below.refl W.heap.size W)) hb1); have q1 := below_cell HW1.out hc)
              refine wpAnyIn_ready (rs := [5]) (by kernel_rfl) (by simp) ?_
              refine AllReadyIn.cons rfl (fun K hK => ?_) ?_
              · skip
                go_simp
                refine hK _ _ ?_
                clear hK K
                refine wpAnyIn_ready (rs := [6]) (by kernel_rfl) (by simp) ?_
                refine AllReadyIn.cons rfl (fun K hK => ?_) ?_
                · skip
                  go_simp
                  gi_wp2_with (refine ⟨trivial, ?_⟩; gi_at_call 35; (with_reducible refine (CallsIn.inRound l (callsIn_wide.2 (C2.out _ HW1.out))).mono ?_); rintro e w2 ⟨rfl, hb2⟩; have HW2 := Lib.hid (below_then HW1.out hb2); have q2 := below_cell HW2.out hc; have q3 := below_cell (below_alloc HW2.out (.cells #[.int .i64 a1, .int .i64 a2] 32)) hc)
                  refine wpAnyIn_ready (rs := [7]) (by kernel_rfl) (by simp) ?_
                  refine AllReadyIn.cons rfl (fun K hK => ?_) ?_
                  · skip
                    go_simp
                    refine hK _ _ ?_
                    clear hK K
                    refine wpAnyIn_ready (rs := [8]) (by kernel_rfl) (by simp) ?_
                    refine AllReadyIn.cons rfl (fun K hK => ?_) ?_
                    · skip
                      go_simp
                      refine hK _ _ ?_
                      clear hK K
                      exact TAIL.out _ _ ⟨w2, rfl, HW2, rfl⟩
                    exact AllReadyIn.nil
                  exact AllReadyIn.nil
                exact AllReadyIn.nil
              exact AllReadyIn.nil
            refine AllReadyIn.cons rfl (fun K hK => ?_) ?_
            · skip
              go_simp
              refine hK _ _ ?_
              clear hK K
              refine wpAnyIn_ready (rs := [3]) (by kernel_rfl) (by simp) ?_
              refine AllReadyIn.cons rfl (fun K hK => ?_) ?_
              · skip
                go_simp
                gi_wp2_with (refine ⟨trivial, ?_⟩; gi_at_call 35; (with_reducible refine (CallsIn.inRound l (callsIn_wide.2 (C1.out _ (below_drew (Below.refl _ _))))).mono ?_); rintro e w1 ⟨rfl, hb1⟩; have HW1 := Lib.hid (below_then (below_drew (Below.refl W.heap.size W)) hb1); have q1 := below_cell HW1.out hc)
                refine wpAnyIn_ready (rs := [6]) (by kernel_rfl) (by simp) ?_
                refine AllReadyIn.cons rfl (fun K hK => ?_) ?_
                · skip
                  go_simp
                  gi_wp2_with (refine ⟨trivial, ?_⟩; gi_at_call 35; (with_reducible refine (CallsIn.inRound l (callsIn_wide.2 (C2.out _ HW1.out))).mono ?_); rintro e w2 ⟨rfl, hb2⟩; have HW2 := Lib.hid (below_then HW1.out hb2); have q2 := below_cell HW2.out hc; have q3 := below_cell (below_alloc HW2.out (.cells #[.int .i64 a1, .int .i64 a2] 32)) hc)
                  refine wpAnyIn_ready (rs := [7]) (by kernel_rfl) (by simp) ?_
                  refine AllReadyIn.cons rfl (fun K hK => ?_) ?_
                  · skip
                    go_simp
                    refine hK _ _ ?_
                    clear hK K
                    refine wpAnyIn_ready (rs := [8]) (by kernel_rfl) (by simp) ?_
                    refine AllReadyIn.cons rfl (fun K hK => ?_) ?_
                    · skip
                      go_simp
                      refine hK _ _ ?_
                      clear hK K
                      exact TAIL.out _ _ ⟨w2, rfl, HW2, rfl⟩
                    exact AllReadyIn.nil
                  exact AllReadyIn.nil
                exact AllReadyIn.nil
              exact AllReadyIn.nil
            exact AllReadyIn.nil
          refine AllReadyIn.cons rfl (fun K hK => ?_) ?_
          · skip
            go_simp
            refine hK _ _ ?_
            clear hK K
            refine wpAnyIn_ready (rs := [2]) (by kernel_rfl) (by simp) ?_
            refine AllReadyIn.cons rfl (fun K hK => ?_) ?_
            · skip
              go_simp
              refine hK _ _ ?_
              clear hK K
              refine wpAnyIn_ready (rs := [3]) (by kernel_rfl) (by simp) ?_
              refine AllReadyIn.cons rfl (fun K hK => ?_) ?_
              · skip
                go_simp
                gi_wp2_with (refine ⟨trivial, ?_⟩; gi_at_call 35; (with_reducible refine (CallsIn.inRound l (callsIn_wide.2 (C1.out _ (below_drew (Below.refl _ _))))).mono ?_); rintro e w1 ⟨rfl, hb1⟩; have HW1 := Lib.hid (below_then (below_drew (Below.refl W.heap.size W)) hb1); have q1 := below_cell HW1.out hc)
                refine wpAnyIn_ready (rs := [6]) (by kernel_rfl) (by simp) ?_
                refine AllReadyIn.cons rfl (fun K hK => ?_) ?_
                · skip
                  go_simp
                  gi_wp2_with (refine ⟨trivial, ?_⟩; gi_at_call 35; (with_reducible refine (CallsIn.inRound l (callsIn_wide.2 (C2.out _ HW1.out))).mono ?_); rintro e w2 ⟨rfl, hb2⟩; have HW2 := Lib.hid (below_then HW1.out hb2); have q2 := below_cell HW2.out hc; have q3 := below_cell (below_alloc HW2.out (.cells #[.int .i64 a1, .int .i64 a2] 32)) hc)
                  refine wpAnyIn_ready (rs := [7]) (by kernel_rfl) (by simp) ?_
                  refine AllReadyIn.cons rfl (fun K hK => ?_) ?_
                  · skip
                    go_simp
                    refine hK _ _ ?_
                    clear hK K
                    refine wpAnyIn_ready (rs := [8]) (by kernel_rfl) (by simp) ?_
                    refine AllReadyIn.cons rfl (fun K hK => ?_) ?_
                    · skip
                      go_simp
                      refine hK _ _ ?_
                      clear hK K
                      exact TAIL.out _ _ ⟨w2, rfl, HW2, rfl⟩
                    exact AllReadyIn.nil
                  exact AllReadyIn.nil
                exact AllReadyIn.nil
              exact AllReadyIn.nil
            exact AllReadyIn.nil
          exact AllReadyIn.nil
        refine AllReadyIn.cons rfl (fun K hK => ?_) ?_
        · skip
          go_simp
          refine hK _ _ ?_
          clear hK K
          refine wpAnyIn_ready (rs := [1]) (by kernel_rfl) (by simp) ?_
          refine AllReadyIn.cons rfl (fun K hK => ?_) ?_
          · skip
            go_simp
            refine hK _ _ ?_
            clear hK K
            refine wpAnyIn_ready (rs := [2]) (by kernel_rfl) (by simp) ?_
            refine AllReadyIn.cons rfl (fun K hK => ?_) ?_
            · skip
              go_simp
              refine hK _ _ ?_
              clear hK K
              refine wpAnyIn_ready (rs := [3]) (by kernel_rfl) (by simp) ?_
              refine AllReadyIn.cons rfl (fun K hK => ?_) ?_
              · skip
                go_simp
                gi_wp2_with (refine ⟨trivial, ?_⟩; gi_at_call 35; (with_reducible refine (CallsIn.inRound l (callsIn_wide.2 (C1.out _ (below_drew (Below.refl _ _))))).mono ?_); rintro e w1 ⟨rfl, hb1⟩; have HW1 := Lib.hid (below_then (below_drew (Below.refl W.heap.size W)) hb1); have q1 := below_cell HW1.out hc)
                refine wpAnyIn_ready (rs := [6]) (by kernel_rfl) (by simp) ?_
                refine AllReadyIn.cons rfl (fun K hK => ?_) ?_
                · skip
                  go_simp
                  gi_wp2_with (refine ⟨trivial, ?_⟩; gi_at_call 35; (with_reducible refine (CallsIn.inRound l (callsIn_wide.2 (C2.out _ HW1.out))).mono ?_); rintro e w2 ⟨rfl, hb2⟩; have HW2 := Lib.hid (below_then HW1.out hb2); have q2 := below_cell HW2.out hc; have q3 := below_cell (below_alloc HW2.out (.cells #[.int .i64 a1, .int .i64 a2] 32)) hc)
                  refine wpAnyIn_ready (rs := [7]) (by kernel_rfl) (by simp) ?_
                  refine AllReadyIn.cons rfl (fun K hK => ?_) ?_
                  · skip
                    go_simp
                    refine hK _ _ ?_
                    clear hK K
                    refine wpAnyIn_ready (rs := [8]) (by kernel_rfl) (by simp) ?_
                    refine AllReadyIn.cons rfl (fun K hK => ?_) ?_
                    · skip
                      go_simp
                      refine hK _ _ ?_
                      clear hK K
                      exact TAIL.out _ _ ⟨w2, rfl, HW2, rfl⟩
                    exact AllReadyIn.nil
                  exact AllReadyIn.nil
                exact AllReadyIn.nil
              exact AllReadyIn.nil
            exact AllReadyIn.nil
          exact AllReadyIn.nil
        exact AllReadyIn.nil
      refine AllReadyIn.cons rfl (fun K hK => ?_) ?_
      · skip
        go_simp
        refine hK _ _ ?_
        clear hK K
        refine wpAnyIn_ready (rs := [0, 2, 5]) (by kernel_rfl) (by simp) ?_
        refine AllReadyIn.cons rfl (fun K hK => ?_) ?_
        · skip
          go_simp
          refine hK _ _ ?_
          clear hK K
          refine wpAnyIn_ready (rs := [2, 5]) (by kernel_rfl) (by simp) ?_
          refine AllReadyIn.cons rfl (fun K hK => ?_) ?_
          · skip
            go_simp
            refine hK _ _ ?_
            clear hK K
            refine wpAnyIn_ready (rs := [3, 5]) (by kernel_rfl) (by simp) ?_
            refine AllReadyIn.cons rfl (fun K hK => ?_) ?_
            · skip
              go_simp
              gi_wp2_with (refine ⟨trivial, ?_⟩; gi_at_call 35; (with_reducible refine (CallsIn.inRound l (callsIn_wide.2 (C1.out _ (below_drew (Below.refl _ _))))).mono ?_); rintro e w1 ⟨rfl, hb1⟩; have HW1 := Lib.hid (below_then (below_drew (Below.refl W.heap.size W)) hb1); have q1 := below_cell HW1.out hc)
              refine wpAnyIn_ready (rs := [5]) (by kernel_rfl) (by simp) ?_
              refine AllReadyIn.cons rfl (fun K hK => ?_) ?_
              · skip
                go_simp
                refine hK _ _ ?_
                clear hK K
                refine wpAnyIn_ready (rs := [6]) (by kernel_rfl) (by simp) ?_
                refine AllReadyIn.cons rfl (fun K hK => ?_) ?_
                · skip
                  go_simp
                  gi_wp2_with (refine ⟨trivial, ?_⟩; gi_at_call 35; (with_reducible refine (CallsIn.inRound l (callsIn_wide.2 (C2.out _ HW1.out))).mono ?_); rintro e w2 ⟨rfl, hb2⟩; have HW2 := Lib.hid (below_then HW1.out hb2); have q2 := below_cell HW2.out hc; have q3 := below_cell (below_alloc HW2.out (.cells #[.int .i64 a1, .int .i64 a2] 32)) hc)
                  refine wpAnyIn_ready (rs := [7]) (by kernel_rfl) (by simp) ?_
                  refine AllReadyIn.cons rfl (fun K hK => ?_) ?_
                  · skip
                    go_simp
                    refine hK _ _ ?_
                    clear hK K
                    refine wpAnyIn_ready (rs := [8]) (by kernel_rfl) (by simp) ?_
                    refine AllReadyIn.cons rfl (fun K hK => ?_) ?_
                    · skip
                      go_simp
                      refine hK _ _ ?_
                      clear hK K
                      exact TAIL.out _ _ ⟨w2, rfl, HW2, rfl⟩
                    exact AllReadyIn.nil
                  exact AllReadyIn.nil
                exact AllReadyIn.nil
              exact AllReadyIn.nil
            refine AllReadyIn.cons rfl (fun K hK => ?_) ?_
            · skip
              go_simp
              refine hK _ _ ?_
              clear hK K
              refine wpAnyIn_ready (rs := [3]) (by kernel_rfl) (by simp) ?_
              refine AllReadyIn.cons rfl (fun K hK => ?_) ?_
              · skip
                go_simp
                gi_wp2_with (refine ⟨trivial, ?_⟩; gi_at_call 35; (with_reducible refine (CallsIn.inRound l (callsIn_wide.2 (C1.out _ (below_drew (Below.refl _ _))))).mono ?_); rintro e w1 ⟨rfl, hb1⟩; have HW1 := Lib.hid (below_then (below_drew (Below.refl W.heap.size W)) hb1); have q1 := below_cell HW1.out hc)
                refine wpAnyIn_ready (rs := [6]) (by kernel_rfl) (by simp) ?_
                refine AllReadyIn.cons rfl (fun K hK => ?_) ?_
                · skip
                  go_simp
                  gi_wp2_with (refine ⟨trivial, ?_⟩; gi_at_call 35; (with_reducible refine (CallsIn.inRound l (callsIn_wide.2 (C2.out _ HW1.out))).mono ?_); rintro e w2 ⟨rfl, hb2⟩; have HW2 := Lib.hid (below_then HW1.out hb2); have q2 := below_cell HW2.out hc; have q3 := below_cell (below_alloc HW2.out (.cells #[.int .i64 a1, .int .i64 a2] 32)) hc)
                  refine wpAnyIn_ready (rs := [7]) (by kernel_rfl) (by simp) ?_
                  refine AllReadyIn.cons rfl (fun K hK => ?_) ?_
                  · skip
                    go_simp
                    refine hK _ _ ?_
                    clear hK K
                    refine wpAnyIn_ready (rs := [8]) (by kernel_rfl) (by simp) ?_
                    refine AllReadyIn.cons rfl (fun K hK => ?_) ?_
                    · skip
                      go_simp
                      refine hK _ _ ?_
                      clear hK K
                      exact TAIL.out _ _ ⟨w2, rfl, HW2, rfl⟩
                    exact AllReadyIn.nil
                  exact AllReadyIn.nil
                exact AllReadyIn.nil
              exact AllReadyIn.nil
            exact AllReadyIn.nil
          refine AllReadyIn.cons rfl (fun K hK => ?_) ?_
          · skip
            go_simp
            refine hK _ _ ?_
            clear hK K
            refine wpAnyIn_ready (rs := [2]) (by kernel_rfl) (by simp) ?_
            refine AllReadyIn.cons rfl (fun K hK => ?_) ?_
            · skip
              go_simp
              refine hK _ _ ?_
              clear hK K
              refine wpAnyIn_ready (rs := [3]) (by kernel_rfl) (by simp) ?_
              refine AllReadyIn.cons rfl (fun K hK => ?_) ?_
              · skip
                go_simp
                gi_wp2_with (refine ⟨trivial, ?_⟩; gi_at_call 35; (with_reducible refine (CallsIn.inRound l (callsIn_wide.2 (C1.out _ (below_drew (Below.refl _ _))))).mono ?_); rintro e w1 ⟨rfl, hb1⟩; have HW1 := Lib.hid (below_then (below_drew (Below.refl W.heap.size W)) hb1); have q1 := below_cell HW1.out hc)
                refine wpAnyIn_ready (rs := [6]) (by kernel_rfl) (by simp) ?_
                refine AllReadyIn.cons rfl (fun K hK => ?_) ?_
                · skip
                  go_simp
                  gi_wp2_with (refine ⟨trivial, ?_⟩; gi_at_call 35; (with_reducible refine (CallsIn.inRound l (callsIn_wide.2 (C2.out _ HW1.out))).mono ?_); rintro e w2 ⟨rfl, hb2⟩; have HW2 := Lib.hid (below_then HW1.out hb2); have q2 := below_cell HW2.out hc; have q3 := below_cell (below_alloc HW2.out (.cells #[.int .i64 a1, .int .i64 a2] 32)) hc)
                  refine wpAnyIn_ready (rs := [7]) (by kernel_rfl) (by simp) ?_
                  refine AllReadyIn.cons rfl (fun K hK => ?_) ?_
                  · skip
                    go_simp
                    refine hK _ _ ?_
                    clear hK K
                    refine wpAnyIn_ready (rs := [8]) (by kernel_rfl) (by simp) ?_
                    refine AllReadyIn.cons rfl (fun K hK => ?_) ?_
                    · skip
                      go_simp
                      refine hK _ _ ?_
                      clear hK K
                      exact TAIL.out _ _ ⟨w2, rfl, HW2, rfl⟩
                    exact AllReadyIn.nil
                  exact AllReadyIn.nil
                exact AllReadyIn.nil
              exact AllReadyIn.nil
            exact AllReadyIn.nil
          exact AllReadyIn.nil
        refine AllReadyIn.cons rfl (fun K hK => ?_) ?_
        · skip
          go_simp
          refine hK _ _ ?_
          clear hK K
          refine wpAnyIn_ready (rs := [0, 3, 5]) (by kernel_rfl) (by simp) ?_
          refine AllReadyIn.cons rfl (fun K hK => ?_) ?_
          · skip
            go_simp
            refine hK _ _ ?_
            clear hK K
            refine wpAnyIn_ready (rs := [3, 5]) (by kernel_rfl) (by simp) ?_
            refine AllReadyIn.cons rfl (fun K hK => ?_) ?_
            · skip
              go_simp
              gi_wp2_with (refine ⟨trivial, ?_⟩; gi_at_call 35; (with_reducible refine (CallsIn.inRound l (callsIn_wide.2 (C1.out _ (below_drew (Below.refl _ _))))).mono ?_); rintro e w1 ⟨rfl, hb1⟩; have HW1 := Lib.hid (below_then (below_drew (Below.refl W.heap.size W)) hb1); have q1 := below_cell HW1.out hc)
              refine wpAnyIn_ready (rs := [5]) (by kernel_rfl) (by simp) ?_
              refine AllReadyIn.cons rfl (fun K hK => ?_) ?_
              · skip
                go_simp
                refine hK _ _ ?_
                clear hK K
                refine wpAnyIn_ready (rs := [6]) (by kernel_rfl) (by simp) ?_
                refine AllReadyIn.cons rfl (fun K hK => ?_) ?_
                · skip
                  go_simp
                  gi_wp2_with (refine ⟨trivial, ?_⟩; gi_at_call 35; (with_reducible refine (CallsIn.inRound l (callsIn_wide.2 (C2.out _ HW1.out))).mono ?_); rintro e w2 ⟨rfl, hb2⟩; have HW2 := Lib.hid (below_then HW1.out hb2); have q2 := below_cell HW2.out hc; have q3 := below_cell (below_alloc HW2.out (.cells #[.int .i64 a1, .int .i64 a2] 32)) hc)
                  refine wpAnyIn_ready (rs := [7]) (by kernel_rfl) (by simp) ?_
                  refine AllReadyIn.cons rfl (fun K hK => ?_) ?_
                  · skip
                    go_simp
                    refine hK _ _ ?_
                    clear hK K
                    refine wpAnyIn_ready (rs := [8]) (by kernel_rfl) (by simp) ?_
                    refine AllReadyIn.cons rfl (fun K hK => ?_) ?_
                    · skip
                      go_simp
                      refine hK _ _ ?_
                      clear hK K
                      exact TAIL.out _ _ ⟨w2, rfl, HW2, rfl⟩
                    exact AllReadyIn.nil
                  exact AllReadyIn.nil
                exact AllReadyIn.nil
              exact AllReadyIn.nil
            refine AllReadyIn.cons rfl (fun K hK => ?_) ?_
            · skip
              go_simp
              refine hK _ _ ?_
              clear hK K
              refine wpAnyIn_ready (rs := [3]) (by kernel_rfl) (by simp) ?_
              refine AllReadyIn.cons rfl (fun K hK => ?_) ?_
              · skip
                go_simp
                gi_wp2_with (refine ⟨trivial, ?_⟩; gi_at_call 35; (with_reducible refine (CallsIn.inRound l (callsIn_wide.2 (C1.out _ (below_drew (Below.refl _ _))))).mono ?_); rintro e w1 ⟨rfl, hb1⟩; have HW1 := Lib.hid (below_then (below_drew (Below.refl W.heap.size W)) hb1); have q1 := below_cell HW1.out hc)
                refine wpAnyIn_ready (rs := [6]) (by kernel_rfl) (by simp) ?_
                refine AllReadyIn.cons rfl (fun K hK => ?_) ?_
                · skip
                  go_simp
                  gi_wp2_with (refine ⟨trivial, ?_⟩; gi_at_call 35; (with_reducible refine (CallsIn.inRound l (callsIn_wide.2 (C2.out _ HW1.out))).mono ?_); rintro e w2 ⟨rfl, hb2⟩; have HW2 := Lib.hid (below_then HW1.out hb2); have q2 := below_cell HW2.out hc; have q3 := below_cell (below_alloc HW2.out (.cells #[.int .i64 a1, .int .i64 a2] 32)) hc)
                  refine wpAnyIn_ready (rs := [7]) (by kernel_rfl) (by simp) ?_
                  refine AllReadyIn.cons rfl (fun K hK => ?_) ?_
                  · skip
                    go_simp
                    refine hK _ _ ?_
                    clear hK K
                    refine wpAnyIn_ready (rs := [8]) (by kernel_rfl) (by simp) ?_
                    refine AllReadyIn.cons rfl (fun K hK => ?_) ?_
                    · skip
                      go_simp
                      refine hK _ _ ?_
                      clear hK K
                      exact TAIL.out _ _ ⟨w2, rfl, HW2, rfl⟩
                    exact AllReadyIn.nil
                  exact AllReadyIn.nil
                exact AllReadyIn.nil
              exact AllReadyIn.nil
            exact AllReadyIn.nil
          refine AllReadyIn.cons rfl (fun K hK => ?_) ?_
          · skip
            go_simp
            gi_wp2_with (refine ⟨trivial, ?_⟩; gi_at_call 35; (with_reducible refine (CallsIn.inRound l (callsIn_wide.2 (C1.out _ (below_drew (Below.refl _ _))))).mono ?_); rintro e w1 ⟨rfl, hb1⟩; have HW1 := Lib.hid (below_then (below_drew (Below.refl W.heap.size W)) hb1); have q1 := below_cell HW1.out hc)
            refine wpAnyIn_ready (rs := [0, 5]) (by kernel_rfl) (by simp) ?_
            refine AllReadyIn.cons rfl (fun K hK => ?_) ?_
            · skip
              go_simp
              refine hK _ _ ?_
              clear hK K
              refine wpAnyIn_ready (rs := [5]) (by kernel_rfl) (by simp) ?_
              refine AllReadyIn.cons rfl (fun K hK => ?_) ?_
              · skip
                go_simp
                refine hK _ _ ?_
                clear hK K
                refine wpAnyIn_ready (rs := [6]) (by kernel_rfl) (by simp) ?_
                refine AllReadyIn.cons rfl (fun K hK => ?_) ?_
                · skip
                  go_simp
                  gi_wp2_with (refine ⟨trivial, ?_⟩; gi_at_call 35; (with_reducible refine (CallsIn.inRound l (callsIn_wide.2 (C2.out _ HW1.out))).mono ?_); rintro e w2 ⟨rfl, hb2⟩; have HW2 := Lib.hid (below_then HW1.out hb2); have q2 := below_cell HW2.out hc; have q3 := below_cell (below_alloc HW2.out (.cells #[.int .i64 a1, .int .i64 a2] 32)) hc)
                  refine wpAnyIn_ready (rs := [7]) (by kernel_rfl) (by simp) ?_
                  refine AllReadyIn.cons rfl (fun K hK => ?_) ?_
                  · skip
                    go_simp
                    refine hK _ _ ?_
                    clear hK K
                    refine wpAnyIn_ready (rs := [8]) (by kernel_rfl) (by simp) ?_
                    refine AllReadyIn.cons rfl (fun K hK => ?_) ?_
                    · skip
                      go_simp
                      refine hK _ _ ?_
                      clear hK K
                      exact TAIL.out _ _ ⟨w2, rfl, HW2, rfl⟩
                    exact AllReadyIn.nil
                  exact AllReadyIn.nil
                exact AllReadyIn.nil
              exact AllReadyIn.nil
            refine AllReadyIn.cons rfl (fun K hK => ?_) ?_
            · skip
              go_simp
              refine hK _ _ ?_
              clear hK K
              refine wpAnyIn_ready (rs := [0, 6]) (by kernel_rfl) (by simp) ?_
              refine AllReadyIn.cons rfl (fun K hK => ?_) ?_
              · skip
                go_simp
                refine hK _ _ ?_
                clear hK K
                refine wpAnyIn_ready (rs := [6]) (by kernel_rfl) (by simp) ?_
                refine AllReadyIn.cons rfl (fun K hK => ?_) ?_
                · skip
                  go_simp
                  gi_wp2_with (refine ⟨trivial, ?_⟩; gi_at_call 35; (with_reducible refine (CallsIn.inRound l (callsIn_wide.2 (C2.out _ HW1.out))).mono ?_); rintro e w2 ⟨rfl, hb2⟩; have HW2 := Lib.hid (below_then HW1.out hb2); have q2 := below_cell HW2.out hc; have q3 := below_cell (below_alloc HW2.out (.cells #[.int .i64 a1, .int .i64 a2] 32)) hc)
                  refine wpAnyIn_ready (rs := [7]) (by kernel_rfl) (by simp) ?_
                  refine AllReadyIn.cons rfl (fun K hK => ?_) ?_
                  · skip
                    go_simp
                    refine hK _ _ ?_
                    clear hK K
                    refine wpAnyIn_ready (rs := [8]) (by kernel_rfl) (by simp) ?_
                    refine AllReadyIn.cons rfl (fun K hK => ?_) ?_
                    · skip
                      go_simp
                      refine hK _ _ ?_
                      clear hK K
                      exact TAIL.out _ _ ⟨w2, rfl, HW2, rfl⟩
                    exact AllReadyIn.nil
                  exact AllReadyIn.nil
                exact AllReadyIn.nil
              refine AllReadyIn.cons rfl (fun K hK => ?_) ?_
              · skip
                go_simp
                gi_wp2_with (refine ⟨trivial, ?_⟩; gi_at_call 35; (with_reducible refine (CallsIn.inRound l (callsIn_wide.2 (C2.out _ HW1.out))).mono ?_); rintro e w2 ⟨rfl, hb2⟩; have HW2 := Lib.hid (below_then HW1.out hb2); have q2 := below_cell HW2.out hc; have q3 := below_cell (below_alloc HW2.out (.cells #[.int .i64 a1, .int .i64 a2] 32)) hc)
                refine wpAnyIn_ready (rs := [0, 7]) (by kernel_rfl) (by simp) ?_
                refine AllReadyIn.cons rfl (fun K hK => ?_) ?_
                · skip
                  go_simp
                  refine hK _ _ ?_
                  clear hK K
                  refine wpAnyIn_ready (rs := [7]) (by kernel_rfl) (by simp) ?_
                  refine AllReadyIn.cons rfl (fun K hK => ?_) ?_
                  · skip
                    go_simp
                    refine hK _ _ ?_
                    clear hK K
                    refine wpAnyIn_ready (rs := [8]) (by kernel_rfl) (by simp) ?_
                    refine AllReadyIn.cons rfl (fun K hK => ?_) ?_
                    · skip
                      go_simp
                      refine hK _ _ ?_
                      clear hK K
                      exact TAIL.out _ _ ⟨w2, rfl, HW2, rfl⟩
                    exact AllReadyIn.nil
                  exact AllReadyIn.nil
                refine AllReadyIn.cons rfl (fun K hK => ?_) ?_
                · skip
                  go_simp
                  refine hK _ _ ?_
                  clear hK K
                  refine wpAnyIn_ready (rs := [0, 8]) (by kernel_rfl) (by simp) ?_
                  refine AllReadyIn.cons rfl (fun K hK => ?_) ?_
                  · skip
                    go_simp
                    refine hK _ _ ?_
                    clear hK K
                    refine wpAnyIn_ready (rs := [8]) (by kernel_rfl) (by simp) ?_
                    refine AllReadyIn.cons rfl (fun K hK => ?_) ?_
                    · skip
                      go_simp
                      refine hK _ _ ?_
                      clear hK K
                      exact TAIL.out _ _ ⟨w2, rfl, HW2, rfl⟩
                    exact AllReadyIn.nil
                  refine AllReadyIn.cons rfl (fun K hK => ?_) ?_
                  · skip
                    go_simp
                    refine hK _ _ ?_
                    clear hK K
                    refine wpAnyIn_ready (rs := [0]) (by kernel_rfl) (by simp) ?_
                    refine AllReadyIn.cons rfl (fun K hK => ?_) ?_
                    · skip
                      go_simp
                      refine hK _ _ ?_
                      clear hK K
                      exact TAIL.out _ _ ⟨w2, rfl, HW2, rfl⟩
                    exact AllReadyIn.nil
                  exact AllReadyIn.nil
                exact AllReadyIn.nil
              exact AllReadyIn.nil
            exact AllReadyIn.nil
          refine AllReadyIn.cons rfl (fun K hK => ?_) ?_
          · skip
            go_simp
            refine hK _ _ ?_
            clear hK K
            refine wpAnyIn_ready (rs := [0, 3]) (by kernel_rfl) (by simp) ?_
            refine AllReadyIn.cons rfl (fun K hK => ?_) ?_
            · skip
              go_simp
              refine hK _ _ ?_
              clear hK K
              refine wpAnyIn_ready (rs := [3]) (by kernel_rfl) (by simp) ?_
              refine AllReadyIn.cons rfl (fun K hK => ?_) ?_
              · skip
                go_simp
                gi_wp2_with (refine ⟨trivial, ?_⟩; gi_at_call 35; (with_reducible refine (CallsIn.inRound l (callsIn_wide.2 (C1.out _ (below_drew (Below.refl _ _))))).mono ?_); rintro e w1 ⟨rfl, hb1⟩; have HW1 := Lib.hid (below_then (below_drew (Below.refl W.heap.size W)) hb1); have q1 := below_cell HW1.out hc)
                refine wpAnyIn_ready (rs := [6]) (by kernel_rfl) (by simp) ?_
                refine AllReadyIn.cons rfl (fun K hK => ?_) ?_
                · skip
                  go_simp
                  gi_wp2_with (refine ⟨trivial, ?_⟩; gi_at_call 35; (with_reducible refine (CallsIn.inRound l (callsIn_wide.2 (C2.out _ HW1.out))).mono ?_); rintro e w2 ⟨rfl, hb2⟩; have HW2 := Lib.hid (below_then HW1.out hb2); have q2 := below_cell HW2.out hc; have q3 := below_cell (below_alloc HW2.out (.cells #[.int .i64 a1, .int .i64 a2] 32)) hc)
                  refine wpAnyIn_ready (rs := [7]) (by kernel_rfl) (by simp) ?_
                  refine AllReadyIn.cons rfl (fun K hK => ?_) ?_
                  · skip
                    go_simp
                    refine hK _ _ ?_
                    clear hK K
                    refine wpAnyIn_ready (rs := [8]) (by kernel_rfl) (by simp) ?_
                    refine AllReadyIn.cons rfl (fun K hK => ?_) ?_
                    · skip
                      go_simp
                      refine hK _ _ ?_
                      clear hK K
                      exact TAIL.out _ _ ⟨w2, rfl, HW2, rfl⟩
                    exact AllReadyIn.nil
                  exact AllReadyIn.nil
                exact AllReadyIn.nil
              exact AllReadyIn.nil
            refine AllReadyIn.cons rfl (fun K hK => ?_) ?_
            · skip
              go_simp
              gi_wp2_with (refine ⟨trivial, ?_⟩; gi_at_call 35; (with_reducible refine (CallsIn.inRound l (callsIn_wide.2 (C1.out _ (below_drew (Below.refl _ _))))).mono ?_); rintro e w1 ⟨rfl, hb1⟩; have HW1 := Lib.hid (below_then (below_drew (Below.refl W.heap.size W)) hb1); have q1 := below_cell HW1.out hc)
              refine wpAnyIn_ready (rs := [0, 6]) (by kernel_rfl) (by simp) ?_
              refine AllReadyIn.cons rfl (fun K hK => ?_) ?_
              · skip
                go_simp
                refine hK _ _ ?_
                clear hK K
                refine wpAnyIn_ready (rs := [6]) (by kernel_rfl) (by simp) ?_
                refine AllReadyIn.cons rfl (fun K hK => ?_) ?_
                · skip
                  go_simp
                  gi_wp2_with (refine ⟨trivial, ?_⟩; gi_at_call 35; (with_reducible refine (CallsIn.inRound l (callsIn_wide.2 (C2.out _ HW1.out))).mono ?_); rintro e w2 ⟨rfl, hb2⟩; have HW2 := Lib.hid (below_then HW1.out hb2); have q2 := below_cell HW2.out hc; have q3 := below_cell (below_alloc HW2.out (.cells #[.int .i64 a1, .int .i64 a2] 32)) hc)
                  refine wpAnyIn_ready (rs := [7]) (by kernel_rfl) (by simp) ?_
                  refine AllReadyIn.cons rfl (fun K hK => ?_) ?_
                  · skip
                    go_simp
                    refine hK _ _ ?_
                    clear hK K
                    refine wpAnyIn_ready (rs := [8]) (by kernel_rfl) (by simp) ?_
                    refine AllReadyIn.cons rfl (fun K hK => ?_) ?_
                    · skip
                      go_simp
                      refine hK _ _ ?_
                      clear hK K
                      exact TAIL.out _ _ ⟨w2, rfl, HW2, rfl⟩
                    exact AllReadyIn.nil
                  exact AllReadyIn.nil
                exact AllReadyIn.nil
              refine AllReadyIn.cons rfl (fun K hK => ?_) ?_
              · skip
                go_simp
                gi_wp2_with (refine ⟨trivial, ?_⟩; gi_at_call 35; (with_reducible refine (CallsIn.inRound l (callsIn_wide.2 (C2.out _ HW1.out))).mono ?_); rintro e w2 ⟨rfl, hb2⟩; have HW2 := Lib.hid (below_then HW1.out hb2); have q2 := below_cell HW2.out hc; have q3 := below_cell (below_alloc HW2.out (.cells #[.int .i64 a1, .int .i64 a2] 32)) hc)
                refine wpAnyIn_ready (rs := [0, 7]) (by kernel_rfl) (by simp) ?_
                refine AllReadyIn.cons rfl (fun K hK => ?_) ?_
                · skip
                  go_simp
                  refine hK _ _ ?_
                  clear hK K
                  refine wpAnyIn_ready (rs := [7]) (by kernel_rfl) (by simp) ?_
                  refine AllReadyIn.cons rfl (fun K hK => ?_) ?_
                  · skip
                    go_simp
                    refine hK _ _ ?_
                    clear hK K
                    refine wpAnyIn_ready (rs := [8]) (by kernel_rfl) (by simp) ?_
                    refine AllReadyIn.cons rfl (fun K hK => ?_) ?_
                    · skip
                      go_simp
                      refine hK _ _ ?_
                      clear hK K
                      exact TAIL.out _ _ ⟨w2, rfl, HW2, rfl⟩
                    exact AllReadyIn.nil
                  exact AllReadyIn.nil
                refine AllReadyIn.cons rfl (fun K hK => ?_) ?_
                · skip
                  go_simp
                  refine hK _ _ ?_
                  clear hK K
                  refine wpAnyIn_ready (rs := [0, 8]) (by kernel_rfl) (by simp) ?_
                  refine AllReadyIn.cons rfl (fun K hK => ?_) ?_
                  · skip
                    go_simp
                    refine hK _ _ ?_
                    clear hK K
                    refine wpAnyIn_ready (rs := [8]) (by kernel_rfl) (by simp) ?_
                    refine AllReadyIn.cons rfl (fun K hK => ?_) ?_
                    · skip
                      go_simp
                      refine hK _ _ ?_
                      clear hK K
                      exact TAIL.out _ _ ⟨w2, rfl, HW2, rfl⟩
                    exact AllReadyIn.nil
                  refine AllReadyIn.cons rfl (fun K hK => ?_) ?_
                  · skip
                    go_simp
                    refine hK _ _ ?_
                    clear hK K
                    refine wpAnyIn_ready (rs := [0]) (by kernel_rfl) (by simp) ?_
                    refine AllReadyIn.cons rfl (fun K hK => ?_) ?_
                    · skip
                      go_simp
                      refine hK _ _ ?_
                      clear hK K
                      exact TAIL.out _ _ ⟨w2, rfl, HW2, rfl⟩
                    exact AllReadyIn.nil
                  exact AllReadyIn.nil
                exact AllReadyIn.nil
              exact AllReadyIn.nil
            exact AllReadyIn.nil
          exact AllReadyIn.nil
        refine AllReadyIn.cons rfl (fun K hK => ?_) ?_
        · skip
          go_simp
          refine hK _ _ ?_
          clear hK K
          refine wpAnyIn_ready (rs := [0, 2]) (by kernel_rfl) (by simp) ?_
          refine AllReadyIn.cons rfl (fun K hK => ?_) ?_
          · skip
            go_simp
            refine hK _ _ ?_
            clear hK K
            refine wpAnyIn_ready (rs := [2]) (by kernel_rfl) (by simp) ?_
            refine AllReadyIn.cons rfl (fun K hK => ?_) ?_
            · skip
              go_simp
              refine hK _ _ ?_
              clear hK K
              refine wpAnyIn_ready (rs := [3]) (by kernel_rfl) (by simp) ?_
              refine AllReadyIn.cons rfl (fun K hK => ?_) ?_
              · skip
                go_simp
                gi_wp2_with (refine ⟨trivial, ?_⟩; gi_at_call 35; (with_reducible refine (CallsIn.inRound l (callsIn_wide.2 (C1.out _ (below_drew (Below.refl _ _))))).mono ?_); rintro e w1 ⟨rfl, hb1⟩; have HW1 := Lib.hid (below_then (below_drew (Below.refl W.heap.size W)) hb1); have q1 := below_cell HW1.out hc)
                refine wpAnyIn_ready (rs := [6]) (by kernel_rfl) (by simp) ?_
                refine AllReadyIn.cons rfl (fun K hK => ?_) ?_
                · skip
                  go_simp
                  gi_wp2_with (refine ⟨trivial, ?_⟩; gi_at_call 35; (with_reducible refine (CallsIn.inRound l (callsIn_wide.2 (C2.out _ HW1.out))).mono ?_); rintro e w2 ⟨rfl, hb2⟩; have HW2 := Lib.hid (below_then HW1.out hb2); have q2 := below_cell HW2.out hc; have q3 := below_cell (below_alloc HW2.out (.cells #[.int .i64 a1, .int .i64 a2] 32)) hc)
                  refine wpAnyIn_ready (rs := [7]) (by kernel_rfl) (by simp) ?_
                  refine AllReadyIn.cons rfl (fun K hK => ?_) ?_
                  · skip
                    go_simp
                    refine hK _ _ ?_
                    clear hK K
                    refine wpAnyIn_ready (rs := [8]) (by kernel_rfl) (by simp) ?_
                    refine AllReadyIn.cons rfl (fun K hK => ?_) ?_
                    · skip
                      go_simp
                      refine hK _ _ ?_
                      clear hK K
                      exact TAIL.out _ _ ⟨w2, rfl, HW2, rfl⟩
                    exact AllReadyIn.nil
                  exact AllReadyIn.nil
                exact AllReadyIn.nil
              exact AllReadyIn.nil
            exact AllReadyIn.nil
          refine AllReadyIn.cons rfl (fun K hK => ?_) ?_
          · skip
            go_simp
            refine hK _ _ ?_
            clear hK K
            refine wpAnyIn_ready (rs := [0, 3]) (by kernel_rfl) (by simp) ?_
            refine AllReadyIn.cons rfl (fun K hK => ?_) ?_
            · skip
              go_simp
              refine hK _ _ ?_
              clear hK K
              refine wpAnyIn_ready (rs := [3]) (by kernel_rfl) (by simp) ?_
              refine AllReadyIn.cons rfl (fun K hK => ?_) ?_
              · skip
                go_simp
                gi_wp2_with (refine ⟨trivial, ?_⟩; gi_at_call 35; (with_reducible refine (CallsIn.inRound l (callsIn_wide.2 (C1.out _ (below_drew (Below.refl _ _))))).mono ?_); rintro e w1 ⟨rfl, hb1⟩; have HW1 := Lib.hid (below_then (below_drew (Below.refl W.heap.size W)) hb1); have q1 := below_cell HW1.out hc)
                refine wpAnyIn_ready (rs := [6]) (by kernel_rfl) (by simp) ?_
                refine AllReadyIn.cons rfl (fun K hK => ?_) ?_
                · skip
                  go_simp
                  gi_wp2_with (refine ⟨trivial, ?_⟩; gi_at_call 35; (with_reducible refine (CallsIn.inRound l (callsIn_wide.2 (C2.out _ HW1.out))).mono ?_); rintro e w2 ⟨rfl, hb2⟩; have HW2 := Lib.hid (below_then HW1.out hb2); have q2 := below_cell HW2.out hc; have q3 := below_cell (below_alloc HW2.out (.cells #[.int .i64 a1, .int .i64 a2] 32)) hc)
                  refine wpAnyIn_ready (rs := [7]) (by kernel_rfl) (by simp) ?_
                  refine AllReadyIn.cons rfl (fun K hK => ?_) ?_
                  · skip
                    go_simp
                    refine hK _ _ ?_
                    clear hK K
                    refine wpAnyIn_ready (rs := [8]) (by kernel_rfl) (by simp) ?_
                    refine AllReadyIn.cons rfl (fun K hK => ?_) ?_
                    · skip
                      go_simp
                      refine hK _ _ ?_
                      clear hK K
                      exact TAIL.out _ _ ⟨w2, rfl, HW2, rfl⟩
                    exact AllReadyIn.nil
                  exact AllReadyIn.nil
                exact AllReadyIn.nil
              exact AllReadyIn.nil
            refine AllReadyIn.cons rfl (fun K hK => ?_) ?_
            · skip
              go_simp
              gi_wp2_with (refine ⟨trivial, ?_⟩; gi_at_call 35; (with_reducible refine (CallsIn.inRound l (callsIn_wide.2 (C1.out _ (below_drew (Below.refl _ _))))).mono ?_); rintro e w1 ⟨rfl, hb1⟩; have HW1 := Lib.hid (below_then (below_drew (Below.refl W.heap.size W)) hb1); have q1 := below_cell HW1.out hc)
              refine wpAnyIn_ready (rs := [0, 6]) (by kernel_rfl) (by simp) ?_
              refine AllReadyIn.cons rfl (fun K hK => ?_) ?_
              · skip
                go_simp
                refine hK _ _ ?_
                clear hK K
                refine wpAnyIn_ready (rs := [6]) (by kernel_rfl) (by simp) ?_
                refine AllReadyIn.cons rfl (fun K hK => ?_) ?_
                · skip
                  go_simp
                  gi_wp2_with (refine ⟨trivial, ?_⟩; gi_at_call 35; (with_reducible refine (CallsIn.inRound l (callsIn_wide.2 (C2.out _ HW1.out))).mono ?_); rintro e w2 ⟨rfl, hb2⟩; have HW2 := Lib.hid (below_then HW1.out hb2); have q2 := below_cell HW2.out hc; have q3 := below_cell (below_alloc HW2.out (.cells #[.int .i64 a1, .int .i64 a2] 32)) hc)
                  refine wpAnyIn_ready (rs := [7]) (by kernel_rfl) (by simp) ?_
                  refine AllReadyIn.cons rfl (fun K hK => ?_) ?_
                  · skip
                    go_simp
                    refine hK _ _ ?_
                    clear hK K
                    refine wpAnyIn_ready (rs := [8]) (by kernel_rfl) (by simp) ?_
                    refine AllReadyIn.cons rfl (fun K hK => ?_) ?_
                    · skip
                      go_simp
                      refine hK _ _ ?_
                      clear hK K
                      exact TAIL.out _ _ ⟨w2, rfl, HW2, rfl⟩
                    exact AllReadyIn.nil
                  exact AllReadyIn.nil
                exact AllReadyIn.nil
              refine AllReadyIn.cons rfl (fun K hK => ?_) ?_
              · skip
                go_simp
                gi_wp2_with (refine ⟨trivial, ?_⟩; gi_at_call 35; (with_reducible refine (CallsIn.inRound l (callsIn_wide.2 (C2.out _ HW1.out))).mono ?_); rintro e w2 ⟨rfl, hb2⟩; have HW2 := Lib.hid (below_then HW1.out hb2); have q2 := below_cell HW2.out hc; have q3 := below_cell (below_alloc HW2.out (.cells #[.int .i64 a1, .int .i64 a2] 32)) hc)
                refine wpAnyIn_ready (rs := [0, 7]) (by kernel_rfl) (by simp) ?_
                refine AllReadyIn.cons rfl (fun K hK => ?_) ?_
                · skip
                  go_simp
                  refine hK _ _ ?_
                  clear hK K
                  refine wpAnyIn_ready (rs := [7]) (by kernel_rfl) (by simp) ?_
                  refine AllReadyIn.cons rfl (fun K hK => ?_) ?_
                  · skip
                    go_simp
                    refine hK _ _ ?_
                    clear hK K
                    refine wpAnyIn_ready (rs := [8]) (by kernel_rfl) (by simp) ?_
                    refine AllReadyIn.cons rfl (fun K hK => ?_) ?_
                    · skip
                      go_simp
                      refine hK _ _ ?_
                      clear hK K
                      exact TAIL.out _ _ ⟨w2, rfl, HW2, rfl⟩
                    exact AllReadyIn.nil
                  exact AllReadyIn.nil
                refine AllReadyIn.cons rfl (fun K hK => ?_) ?_
                · skip
                  go_simp
                  refine hK _ _ ?_
                  clear hK K
                  refine wpAnyIn_ready (rs := [0, 8]) (by kernel_rfl) (by simp) ?_
                  refine AllReadyIn.cons rfl (fun K hK => ?_) ?_
                  · skip
                    go_simp
                    refine hK _ _ ?_
                    clear hK K
                    refine wpAnyIn_ready (rs := [8]) (by kernel_rfl) (by simp) ?_
                    refine AllReadyIn.cons rfl (fun K hK => ?_) ?_
                    · skip
                      go_simp
                      refine hK _ _ ?_
                      clear hK K
                      exact TAIL.out _ _ ⟨w2, rfl, HW2, rfl⟩
                    exact AllReadyIn.nil
                  refine AllReadyIn.cons rfl (fun K hK => ?_) ?_
                  · skip
                    go_simp
                    refine hK _ _ ?_
                    clear hK K
                    refine wpAnyIn_ready (rs := [0]) (by kernel_rfl) (by simp) ?_
                    refine AllReadyIn.cons rfl (fun K hK => ?_) ?_
                    · skip
                      go_simp
                      refine hK _ _ ?_
                      clear hK K
                      exact TAIL.out _ _ ⟨w2, rfl, HW2, rfl⟩
                    exact AllReadyIn.nil
                  exact AllReadyIn.nil
                exact AllReadyIn.nil
              exact AllReadyIn.nil
            exact AllReadyIn.nil
          exact AllReadyIn.nil
        exact AllReadyIn.nil
      refine AllReadyIn.cons rfl (fun K hK => ?_) ?_
      · skip
        go_simp
        refine hK _ _ ?_
        clear hK K
        refine wpAnyIn_ready (rs := [0, 1]) (by kernel_rfl) (by simp) ?_
        refine AllReadyIn.cons rfl (fun K hK => ?_) ?_
        · skip
          go_simp
          refine hK _ _ ?_
          clear hK K
          refine wpAnyIn_ready (rs := [1]) (by kernel_rfl) (by simp) ?_
          refine AllReadyIn.cons rfl (fun K hK => ?_) ?_
          · skip
            go_simp
            refine hK _ _ ?_
            clear hK K
            refine wpAnyIn_ready (rs := [2]) (by kernel_rfl) (by simp) ?_
            refine AllReadyIn.cons rfl (fun K hK => ?_) ?_
            · skip
              go_simp
              refine hK _ _ ?_
              clear hK K
              refine wpAnyIn_ready (rs := [3]) (by kernel_rfl) (by simp) ?_
              refine AllReadyIn.cons rfl (fun K hK => ?_) ?_
              · skip
                go_simp
                gi_wp2_with (refine ⟨trivial, ?_⟩; gi_at_call 35; (with_reducible refine (CallsIn.inRound l (callsIn_wide.2 (C1.out _ (below_drew (Below.refl _ _))))).mono ?_); rintro e w1 ⟨rfl, hb1⟩; have HW1 := Lib.hid (below_then (below_drew (Below.refl W.heap.size W)) hb1); have q1 := below_cell HW1.out hc)
                refine wpAnyIn_ready (rs := [6]) (by kernel_rfl) (by simp) ?_
                refine AllReadyIn.cons rfl (fun K hK => ?_) ?_
                · skip
                  go_simp
                  gi_wp2_with (refine ⟨trivial, ?_⟩; gi_at_call 35; (with_reducible refine (CallsIn.inRound l (callsIn_wide.2 (C2.out _ HW1.out))).mono ?_); rintro e w2 ⟨rfl, hb2⟩; have HW2 := Lib.hid (below_then HW1.out hb2); have q2 := below_cell HW2.out hc; have q3 := below_cell (below_alloc HW2.out (.cells #[.int .i64 a1, .int .i64 a2] 32)) hc)
                  refine wpAnyIn_ready (rs := [7]) (by kernel_rfl) (by simp) ?_
                  refine AllReadyIn.cons rfl (fun K hK => ?_) ?_
                  · skip
                    go_simp
                    refine hK _ _ ?_
                    clear hK K
                    refine wpAnyIn_ready (rs := [8]) (by kernel_rfl) (by simp) ?_
                    refine AllReadyIn.cons rfl (fun K hK => ?_) ?_
                    · skip
                      go_simp
                      refine hK _ _ ?_
                      clear hK K
                      exact TAIL.out _ _ ⟨w2, rfl, HW2, rfl⟩
                    exact AllReadyIn.nil
                  exact AllReadyIn.nil
                exact AllReadyIn.nil
              exact AllReadyIn.nil
            exact AllReadyIn.nil
          exact AllReadyIn.nil
        refine AllReadyIn.cons rfl (fun K hK => ?_) ?_
        · skip
          go_simp
          refine hK _ _ ?_
          clear hK K
          refine wpAnyIn_ready (rs := [0, 2]) (by kernel_rfl) (by simp) ?_
          refine AllReadyIn.cons rfl (fun K hK => ?_) ?_
          · skip
            go_simp
            refine hK _ _ ?_
            clear hK K
            refine wpAnyIn_ready (rs := [2]) (by kernel_rfl) (by simp) ?_
            refine AllReadyIn.cons rfl (fun K hK => ?_) ?_
            · skip
              go_simp
              refine hK _ _ ?_
              clear hK K
              refine wpAnyIn_ready (rs := [3]) (by kernel_rfl) (by simp) ?_
              refine AllReadyIn.cons rfl (fun K hK => ?_) ?_
              · skip
                go_simp
                gi_wp2_with (refine ⟨trivial, ?_⟩; gi_at_call 35; (with_reducible refine (CallsIn.inRound l (callsIn_wide.2 (C1.out _ (below_drew (Below.refl _ _))))).mono ?_); rintro e w1 ⟨rfl, hb1⟩; have HW1 := Lib.hid (below_then (below_drew (Below.refl W.heap.size W)) hb1); have q1 := below_cell HW1.out hc)
                refine wpAnyIn_ready (rs := [6]) (by kernel_rfl) (by simp) ?_
                refine AllReadyIn.cons rfl (fun K hK => ?_) ?_
                · skip
                  go_simp
                  gi_wp2_with (refine ⟨trivial, ?_⟩; gi_at_call 35; (with_reducible refine (CallsIn.inRound l (callsIn_wide.2 (C2.out _ HW1.out))).mono ?_); rintro e w2 ⟨rfl, hb2⟩; have HW2 := Lib.hid (below_then HW1.out hb2); have q2 := below_cell HW2.out hc; have q3 := below_cell (below_alloc HW2.out (.cells #[.int .i64 a1, .int .i64 a2] 32)) hc)
                  refine wpAnyIn_ready (rs := [7]) (by kernel_rfl) (by simp) ?_
                  refine AllReadyIn.cons rfl (fun K hK => ?_) ?_
                  · skip
                    go_simp
                    refine hK _ _ ?_
                    clear hK K
                    refine wpAnyIn_ready (rs := [8]) (by kernel_rfl) (by simp) ?_
                    refine AllReadyIn.cons rfl (fun K hK => ?_) ?_
                    · skip
                      go_simp
                      refine hK _ _ ?_
                      clear hK K
                      exact TAIL.out _ _ ⟨w2, rfl, HW2, rfl⟩
                    exact AllReadyIn.nil
                  exact AllReadyIn.nil
                exact AllReadyIn.nil
              exact AllReadyIn.nil
            exact AllReadyIn.nil
          refine AllReadyIn.cons rfl (fun K hK => ?_) ?_
          · skip
            go_simp
            refine hK _ _ ?_
            clear hK K
            refine wpAnyIn_ready (rs := [0, 3]) (by kernel_rfl) (by simp) ?_
            refine AllReadyIn.cons rfl (fun K hK => ?_) ?_
            · skip
              go_simp
              refine hK _ _ ?_
              clear hK K
              refine wpAnyIn_ready (rs := [3]) (by kernel_rfl) (by simp) ?_
              refine AllReadyIn.cons rfl (fun K hK => ?_) ?_
              · skip
                go_simp
                gi_wp2_with (refine ⟨trivial, ?_⟩; gi_at_call 35; (with_reducible refine (CallsIn.inRound l (callsIn_wide.2 (C1.out _ (below_drew (Below.refl _ _))))).mono ?_); rintro e w1 ⟨rfl, hb1⟩; have HW1 := Lib.hid (below_then (below_drew (Below.refl W.heap.size W)) hb1); have q1 := below_cell HW1.out hc)
                refine wpAnyIn_ready (rs := [6]) (by kernel_rfl) (by simp) ?_
                refine AllReadyIn.cons rfl (fun K hK => ?_) ?_
                · skip
                  go_simp
                  gi_wp2_with (refine ⟨trivial, ?_⟩; gi_at_call 35; (with_reducible refine (CallsIn.inRound l (callsIn_wide.2 (C2.out _ HW1.out))).mono ?_); rintro e w2 ⟨rfl, hb2⟩; have HW2 := Lib.hid (below_then HW1.out hb2); have q2 := below_cell HW2.out hc; have q3 := below_cell (below_alloc HW2.out (.cells #[.int .i64 a1, .int .i64 a2] 32)) hc)
                  refine wpAnyIn_ready (rs := [7]) (by kernel_rfl) (by simp) ?_
                  refine AllReadyIn.cons rfl (fun K hK => ?_) ?_
                  · skip
                    go_simp
                    refine hK _ _ ?_
                    clear hK K
                    refine wpAnyIn_ready (rs := [8]) (by kernel_rfl) (by simp) ?_
                    refine AllReadyIn.cons rfl (fun K hK => ?_) ?_
                    · skip
                      go_simp
                      refine hK _ _ ?_
                      clear hK K
                      exact TAIL.out _ _ ⟨w2, rfl, HW2, rfl⟩
                    exact AllReadyIn.nil
                  exact AllReadyIn.nil
                exact AllReadyIn.nil
              exact AllReadyIn.nil
            refine AllReadyIn.cons rfl (fun K hK => ?_) ?_
            · skip
              go_simp
              gi_wp2_with (refine ⟨trivial, ?_⟩; gi_at_call 35; (with_reducible refine (CallsIn.inRound l (callsIn_wide.2 (C1.out _ (below_drew (Below.refl _ _))))).mono ?_); rintro e w1 ⟨rfl, hb1⟩; have HW1 := Lib.hid (below_then (below_drew (Below.refl W.heap.size W)) hb1); have q1 := below_cell HW1.out hc)
              refine wpAnyIn_ready (rs := [0, 6]) (by kernel_rfl) (by simp) ?_
              refine AllReadyIn.cons rfl (fun K hK => ?_) ?_
              · skip
                go_simp
                refine hK _ _ ?_
                clear hK K
                refine wpAnyIn_ready (rs := [6]) (by kernel_rfl) (by simp) ?_
                refine AllReadyIn.cons rfl (fun K hK => ?_) ?_
                · skip
                  go_simp
                  gi_wp2_with (refine ⟨trivial, ?_⟩; gi_at_call 35; (with_reducible refine (CallsIn.inRound l (callsIn_wide.2 (C2.out _ HW1.out))).mono ?_); rintro e w2 ⟨rfl, hb2⟩; have HW2 := Lib.hid (below_then HW1.out hb2); have q2 := below_cell HW2.out hc; have q3 := below_cell (below_alloc HW2.out (.cells #[.int .i64 a1, .int .i64 a2] 32)) hc)
                  refine wpAnyIn_ready (rs := [7]) (by kernel_rfl) (by simp) ?_
                  refine AllReadyIn.cons rfl (fun K hK => ?_) ?_
                  · skip
                    go_simp
                    refine hK _ _ ?_
                    clear hK K
                    refine wpAnyIn_ready (rs := [8]) (by kernel_rfl) (by simp) ?_
                    refine AllReadyIn.cons rfl (fun K hK => ?_) ?_
                    · skip
                      go_simp
                      refine hK _ _ ?_
                      clear hK K
                      exact TAIL.out _ _ ⟨w2, rfl, HW2, rfl⟩
                    exact AllReadyIn.nil
                  exact AllReadyIn.nil
                exact AllReadyIn.nil
              refine AllReadyIn.cons rfl (fun K hK => ?_) ?_
              · skip
                go_simp
                gi_wp2_with (refine ⟨trivial, ?_⟩; gi_at_call 35; (with_reducible refine (CallsIn.inRound l (callsIn_wide.2 (C2.out _ HW1.out))).mono ?_); rintro e w2 ⟨rfl, hb2⟩; have HW2 := Lib.hid (below_then HW1.out hb2); have q2 := below_cell HW2.out hc; have q3 := below_cell (below_alloc HW2.out (.cells #[.int .i64 a1, .int .i64 a2] 32)) hc)
                refine wpAnyIn_ready (rs := [0, 7]) (by kernel_rfl) (by simp) ?_
                refine AllReadyIn.cons rfl (fun K hK => ?_) ?_
                · skip
                  go_simp
                  refine hK _ _ ?_
                  clear hK K
                  refine wpAnyIn_ready (rs := [7]) (by kernel_rfl) (by simp) ?_
                  refine AllReadyIn.cons rfl (fun K hK => ?_) ?_
                  · skip
                    go_simp
                    refine hK _ _ ?_
                    clear hK K
                    refine wpAnyIn_ready (rs := [8]) (by kernel_rfl) (by simp) ?_
                    refine AllReadyIn.cons rfl (fun K hK => ?_) ?_
                    · skip
                      go_simp
                      refine hK _ _ ?_
                      clear hK K
                      exact TAIL.out _ _ ⟨w2, rfl, HW2, rfl⟩
                    exact AllReadyIn.nil
                  exact AllReadyIn.nil
                refine AllReadyIn.cons rfl (fun K hK => ?_) ?_
                · skip
                  go_simp
                  refine hK _ _ ?_
                  clear hK K
                  refine wpAnyIn_ready (rs := [0, 8]) (by kernel_rfl) (by simp) ?_
                  refine AllReadyIn.cons rfl (fun K hK => ?_) ?_
                  · skip
                    go_simp
                    refine hK _ _ ?_
                    clear hK K
                    refine wpAnyIn_ready (rs := [8]) (by kernel_rfl) (by simp) ?_
                    refine AllReadyIn.cons rfl (fun K hK => ?_) ?_
                    · skip
                      go_simp
                      refine hK _ _ ?_
                      clear hK K
                      exact TAIL.out _ _ ⟨w2, rfl, HW2, rfl⟩
                    exact AllReadyIn.nil
                  refine AllReadyIn.cons rfl (fun K hK => ?_) ?_
                  · skip
                    go_simp
                    refine hK _ _ ?_
                    clear hK K
                    refine wpAnyIn_ready (rs := [0]) (by kernel_rfl) (by simp) ?_
                    refine AllReadyIn.cons rfl (fun K hK => ?_) ?_
                    · skip
                      go_simp
                      refine hK _ _ ?_
                      clear hK K
                      exact TAIL.out _ _ ⟨w2, rfl, HW2, rfl⟩
                    exact AllReadyIn.nil
                  exact AllReadyIn.nil
                exact AllReadyIn.nil
              exact AllReadyIn.nil
            exact AllReadyIn.nil
          exact AllReadyIn.nil
        exact AllReadyIn.nil
      exact AllReadyIn.nil
    exact AllReadyIn.nil
  case done =>
    rintro D ys W hD rfl ⟨⟨v, hv, hrow, _⟩, hB, hsz⟩ hK
    have hc := hv.cell
    gi_wp2
    refine ⟨by simp, .inl ⟨_, _, rfl, run_takeDeferred hK, ?_⟩⟩
    rw [recP_all, recsK_len] at hrow
    exact ⟨_, results_tmp2 rfl _ _ _, _, rfl, by show World.ownsRow _ _ _ _ _ (recsK xs m).length (recV (recsK xs m)); rw [recsK_len]; exact ownsRow_putObj (own_base (base' := w.heap.size) hrow (by omega)) _ hK rfl, hB.trans (belowK_b (w := w) (Nat.le_refl _) W D _ _ (by simp at hD; omega) hK rfl rfl)⟩
  case stop =>
    rintro D c pre W _ _ h _
    exact h.elim
end Go.Proofs.Ytainoghjelfnkaa
