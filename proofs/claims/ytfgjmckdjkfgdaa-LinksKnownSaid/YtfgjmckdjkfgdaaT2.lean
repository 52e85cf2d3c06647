/- does: a call on both nets. -/
import Derived.Test.YtfgjmckdjkfgdaaRows
import Derived.IntWalk
import Derived.Test.YtfgjmckdjkfgdaaWords
import Derived.Test.YtfgjmckdjkfgdaaByts
import Derived.Test.YtfgjmckdjkfgdaaStrs
import Derived.Test.YtfgjmckdjkfgdaaFrame
import Derived.Test.YtfgjmckdjkfgdaaElems
import Derived.Test.YtfgjmckdjkfgdaaHeads
import Derived.Test.YtfgjmckdjkfgdaaN10
import Derived.Test.YtfgjmckdjkfgdaaN11
import Derived.Test.YtfgjmckdjkfgdaaN12
import Derived.Test.YtfgjmckdjkfgdaaR1
import Derived.Test.YtfgjmckdjkfgdaaR2
import Derived.Test.YtfgjmckdjkfgdaaR3
import Derived.Test.YtfgjmckdjkfgdaaR4
import Derived.Test.YtfgjmckdjkfgdaaP1
import Derived.Test.YtfgjmckdjkfgdaaT1
namespace Go.Proofs.Ytfgjmckdjkfgdaa
open Go Go.RowKit Go.Proofs.Tail
set_option linter.unusedSimpArgs false
set_option linter.unusedVariables false
/-- Both nets, apart. -/
structure St (w : World) (B : Nat) (D1 D2 : Nat → Prop) (P M : Nat) (N : NetS) (R : RefS) : Prop where
  net : Net w D1 P N
  ref : Ref w D2 M R
  dis : ∀ k, D1 k → ¬ D2 k
  b1 : ∀ k, D1 k → B ≤ k
  b2 : ∀ k, D2 k → B ≤ k
  sim : Sim N R
variable {w w' w2 : World} {B : Nat} {D D1 D2 : Nat → Prop} {P M : Nat} {N : NetS} {R : RefS}
theorem St.keep (h : St w B D1 D2 P M N R) (h1 : ∀ k, D1 k ∨ D2 k → w'.heap[k]? = w.heap[k]?) (hs : w.heap.size ≤ w'.heap.size) : St w' B D1 D2 P M N R :=
  ⟨h.net.keep (fun k hk => h1 k (.inl hk)) hs, h.ref.keep (fun k hk => h1 k (.inr hk)) hs, h.dis, h.b1, h.b2, h.sim⟩
theorem St.below (h : St w B D1 D2 P M N R) (hb : Below w.heap.size w w') : St w' B D1 D2 P M N R :=
  h.keep (fun k hk => hb.block k (hk.elim (h.net.lt k) (h.ref.lt k))) hb.size
/-- The net's part turned. -/
theorem St.net' (h : St w B D1 D2 P M N R) (hB : B ≤ w.heap.size) {N' : NetS} (hn : Net w' (grewD D1 w w') P N') (hf : Fr D1 w w') {R' : RefS} (hs : Sim N' R') (hr : R = R') : St w' B (grewD D1 w w') D2 P M N' R' := by
  subst hr
  refine ⟨hn, h.ref.fr hf (fun k h2 h1 => h.dis k h1 h2), fun k h1 h2 => ?_, fun k h1 => ?_, h.b2, hs⟩
  · rcases h1 with h1 | h1
    · exact h.dis k h1 h2
    · have := h.ref.lt k h2; omega
  · rcases h1 with h1 | h1
    · exact h.b1 k h1
    · omega
/-- The reference's part turned. -/
theorem St.ref' (h : St w B D1 D2 P M N R) (hB : B ≤ w.heap.size) {R' : RefS} (hn : Ref w' (grewD D2 w w') M R') (hf : Fr D2 w w') {N' : NetS} (hs : Sim N' R') (hr : N = N') : St w' B D1 (grewD D2 w w') P M N' R' := by
  subst hr
  refine ⟨h.net.fr hf (fun k h1 h2 => h.dis k h1 h2), hn, fun k h1 h2 => ?_, h.b1, fun k h1 => ?_, hs⟩
  · rcases h2 with h2 | h2
    · exact h.dis k h1 h2
    · have := h.net.lt k h1; omega
  · rcases h1 with h1 | h1
    · exact h.b2 k h1
    · omega
/-- Both turned, one behind the other. -/
theorem St.both (h : St w B D1 D2 P M N R) (hB : B ≤ w.heap.size) {w1 : World} {D1' : Nat → Prop} {N' : NetS} {R' : RefS} (hn : Net w1 D1' P N') (hD : ∀ k, D1' k → D1 k ∨ (w.heap.size ≤ k ∧ k < w1.heap.size)) (hf : Fr D1 w w1) (hr : Ref w' (grewD D2 w1 w') M R') (hg : Fr D2 w1 w') (hs : Sim N' R') :
    St w' B D1' (grewD D2 w1 w') P M N' R' ∧ Below B w w' := by
  have h12 : ∀ k, D1' k → ¬ D2 k := fun k h1 h2 => by
    rcases hD k h1 with h3 | h3
    · exact h.dis k h3 h2
    · have := h.ref.lt k h2; omega
  refine ⟨⟨hn.fr hg h12, hr, fun k h1 h2 => ?_, fun k h1 => ?_, fun k h2 => ?_, hs⟩, ?_⟩
  · rcases h2 with h2 | h2
    · exact h12 k h1 h2
    · have := hn.lt k h1; omega
  · rcases hD k h1 with h3 | h3
    · exact h.b1 k h3
    · omega
  · rcases h2 with h2 | h2
    · exact h.b2 k h2
    · have := hf.size; omega
  · exact (hf.below hB (fun k hk h1 => by have := h.b1 k h1; omega)).trans (hg.below (Nat.le_trans hB hf.size) (fun k hk h2 => by have := h.b2 k h2; omega))
theorem owns_small {w : World} {base n : Nat} {e : TypeId} {v : Value} {xs : List Value} {size : Nat} (h : w.ownsRow base e size v n xs) : n ≤ 9223372036854775807 := by
  rcases h.2 with ⟨_, rfl⟩ | ⟨g, cap, cur, _, _, _, h1, h2, _⟩
  · omega
  · unfold maxLen at h2; omega
/-- What a call on both gives. -/
def GivesDo (B P M : Nat) (R : RefS) (w : World) (e : Ending) (w' : World) : Prop := ∃ D1 D2 N' R', e = .returned (.bool true) ∧ St w' B D1 D2 P M N' R' ∧ Below B w w' ∧ R'.L.length ≤ R.L.length + 1
theorem takeR_len (R : RefS) (a b : Int) : (takeR R a b).L.length ≤ R.L.length + 1 := by
  unfold takeR
  split
  · simp only [List.length_append, List.length_take, List.length_drop]; omega
  · omega
/-- The box of a call. -/
def bxC (x : CallS) (A : Option Addr) (c : Nat) : List Value := [.int .u8 x.k, .int .i64 x.f, .int .i64 x.t, .slice A x.b.length c]
set_option maxHeartbeats 8000000 in
theorem does_take (hS : St w B D1 D2 P M N R) (hB : B ≤ w.heap.size) (x : CallS) (A : Option Addr) (c : Nat) (hz : (x.k.tmod 8 == 4) = true ∨ ((x.k.tmod 8 == 4) = false ∧ (x.k.tmod 8 == 5) = true) ∨ ((x.k.tmod 8 == 4) = false ∧ (x.k.tmod 8 == 5) = false ∧ (x.k.tmod 8 == 6) = true)) :
    Calls Try.prog 10 #[.pointer (some ⟨P, 0, none⟩), .pointer (some ⟨M, 0, none⟩), .agg #[.int .u8 x.k, .int .i64 x.f, .int .i64 x.t, .slice A x.b.length c]] w (GivesDo B P M R w) := by
  have HB := Lib.hid hB
  obtain ⟨wb, hwb⟩ : ∃ wb, wb = w.alloc (.cells (bxC x A c).toArray 32) := ⟨_, rfl⟩
  have hbel : Below w.heap.size w wb := by rw [hwb]; exact below_new w _
  have hSb := hS.below hbel
  have hBb : B ≤ wb.heap.size := Nat.le_trans hB hbel.size
  have hbx : Blk wb w.heap.size (bxC x A c) 32 := by rw [hwb]; exact Blk.new w _ _ _ rfl
  have b0 : wb.cell? ⟨w.heap.size, 0, none⟩ = some (.int .u8 x.k) := hbx.cell 0
  have b1 : wb.cell? ⟨w.heap.size, 1, none⟩ = some (.int .i64 x.f) := hbx.cell 1
  have b2 : wb.cell? ⟨w.heap.size, 2, none⟩ = some (.int .i64 x.t) := hbx.cell 2
  have HBX := Lib.hid hbx
  have HBE := Lib.hid hbel
  have HSb := Lib.hid hSb
  have HBb := Lib.hid hBb
  have HBO := Lib.hid (show ¬ D1 w.heap.size ∧ ¬ D2 w.heap.size from ⟨fun h => by have := hS.net.lt _ h; omega, fun h => by have := hS.ref.lt _ h; omega⟩)
  have HT := Lib.hid (ntake_any hSb.net x.f x.t)
  have HR2 := Lib.hid (fun W (hf : Fr D1 wb W) => by have := reftake_any (hSb.ref.fr hf (fun k h2 h1 => hSb.dis k h1 h2)) x.f x.t; unfold GivesTr at this; rw [← hSb.sim.head] at this; exact this)
  have hxx : (w.alloc (.cells #[.int .u8 x.k, .int .i64 x.f, .int .i64 x.t, .slice A x.b.length c] 32)) = wb := hwb.symm
  clear hS hB hbel hSb hBb hbx hwb
  rcases hz with h4 | ⟨h4, h5⟩ | ⟨h4, h5, h6⟩
  all_goals
    go_enter Try.func10, Try.ntmps10
    go_wp2_with fail
    refine HT.out.mono ?_
    rintro e w1 ⟨v, rfl, hv, hn1, hf1⟩
    have HN1 := Lib.hid hn1
    have HF1 := Lib.hid hf1
    have HV := Lib.hid hv
    have c1 := hf1.cell b1 HBO.out.1
    have c2 := hf1.cell b2 HBO.out.1
    have HR3 := Lib.hid (HR2.out w1 hf1)
    clear hn1 hf1 hv HR2 b0 b1 b2
    go_wp2_with fail
    refine HR3.out.mono ?_
    rintro e w2 ⟨rfl, hr2, hg2⟩
    obtain ⟨A2, c9, rfl, hb2⟩ := own_bytes (own_fr HV.out hg2 (fun k hk hd => by have := own_lt HV.out k hk; have := HSb.out.ref.lt k hd; omega)) (owns_small HV.out)
    have hcv := run_convert_byts w2 30 5 Try.underlying30 Try.underlying5 hb2 9 Try.underlying9
    have HR2 := Lib.hid hr2
    have HG2 := Lib.hid hg2
    have HTL := Lib.hid (takeR_len R x.f x.t)
    have HSM := Lib.hid (HSb.out.sim.take x.f x.t)
    clear hr2 hg2 hb2 HR3 c1 c2
    generalize headN N x.f x.t = o at *
    unfold pairR
    generalize o.getD [] = ys at *
    generalize o.isSome = bo at *
    go_wp2_with fail
    go_ret
    obtain ⟨s1, s2⟩ := HSb.out.both HBb.out (D1' := D1) HN1.out (fun k h => .inl h) HF1.out HR2.out HG2.out HSM.out
    exact ⟨_, _, _, _, rfl, s1, ((HBE.out.mono HB.out).trans s2), HTL.out⟩
set_option maxHeartbeats 8000000 in
theorem does_clear (hS : St w B D1 D2 P M N R) (hB : B ≤ w.heap.size) (x : CallS) (A : Option Addr) (c : Nat) (h4 : (x.k.tmod 8 == 4) = false) (h5 : (x.k.tmod 8 == 5) = false) (h6 : (x.k.tmod 8 == 6) = false) (h7 : (x.k.tmod 8 == 7) = true) :
    Calls Try.prog 10 #[.pointer (some ⟨P, 0, none⟩), .pointer (some ⟨M, 0, none⟩), .agg #[.int .u8 x.k, .int .i64 x.f, .int .i64 x.t, .slice A x.b.length c]] w (GivesDo B P M R w) := by
  have HB := Lib.hid hB
  obtain ⟨wb, hwb⟩ : ∃ wb, wb = w.alloc (.cells (bxC x A c).toArray 32) := ⟨_, rfl⟩
  have hbel : Below w.heap.size w wb := by rw [hwb]; exact below_new w _
  have hSb := hS.below hbel
  have hBb : B ≤ wb.heap.size := Nat.le_trans hB hbel.size
  have hbx : Blk wb w.heap.size (bxC x A c) 32 := by rw [hwb]; exact Blk.new w _ _ _ rfl
  have b0 : wb.cell? ⟨w.heap.size, 0, none⟩ = some (.int .u8 x.k) := hbx.cell 0
  have b1 : wb.cell? ⟨w.heap.size, 1, none⟩ = some (.int .i64 x.f) := hbx.cell 1
  have b2 : wb.cell? ⟨w.heap.size, 2, none⟩ = some (.int .i64 x.t) := hbx.cell 2
  have HBX := Lib.hid hbx
  have HBE := Lib.hid hbel
  have HSb := Lib.hid hSb
  have HBb := Lib.hid hBb
  have HBO := Lib.hid (show ¬ D1 w.heap.size ∧ ¬ D2 w.heap.size from ⟨fun h => by have := hS.net.lt _ h; omega, fun h => by have := hS.ref.lt _ h; omega⟩)
  have HT := Lib.hid (nclear_any hSb.net x.f)
  have HR2 := Lib.hid (fun W (hf : Fr D1 wb W) => refclear_any (hSb.ref.fr hf (fun k h2 h1 => hSb.dis k h1 h2)) x.f)
  have hxx : (w.alloc (.cells #[.int .u8 x.k, .int .i64 x.f, .int .i64 x.t, .slice A x.b.length c] 32)) = wb := hwb.symm
  clear hS hB hbel hSb hBb hbx hwb
  go_enter Try.func10, Try.ntmps10
  go_wp2_with fail
  refine HT.out.mono ?_
  rintro e w1 ⟨rfl, hn1, hf1⟩
  have HN1 := Lib.hid hn1
  have HF1 := Lib.hid hf1
  have c1 := hf1.cell b1 HBO.out.1
  have HR3 := Lib.hid (HR2.out w1 hf1)
  clear hn1 hf1 HR2 b0 b1 b2
  go_wp2_with fail
  refine HR3.out.mono ?_
  rintro e w2 ⟨rfl, hr2, hg2⟩
  have HR2 := Lib.hid hr2
  have HG2 := Lib.hid hg2
  have HTL := Lib.hid (show (clearR R x.f).L.length ≤ R.L.length + 1 from Nat.le_succ_of_le (List.length_filter_le _ _))
  have HSM := Lib.hid (HSb.out.sim.clear x.f)
  clear hr2 hg2 HR3 c1
  go_wp2_with fail
  go_ret
  obtain ⟨s1, s2⟩ := HSb.out.both HBb.out (D1' := D1) HN1.out (fun k h => .inl h) HF1.out HR2.out HG2.out HSM.out
  exact ⟨_, _, _, _, rfl, s1, ((HBE.out.mono HB.out).trans s2), HTL.out⟩
end Go.Proofs.Ytfgjmckdjkfgdaa
