/- does: Send on both nets. -/
import Derived.Test.YtfgjmckdjkfgdaaRows
import Derived.IntWalk
import Derived.Deep.RegionHeld3
import Derived.Test.YtfgjmckdjkfgdaaWords
import Derived.Test.YtfgjmckdjkfgdaaByts
import Derived.Test.YtfgjmckdjkfgdaaStrs
import Derived.Test.YtfgjmckdjkfgdaaFrame
import Derived.Test.YtfgjmckdjkfgdaaElems
import Derived.Test.YtfgjmckdjkfgdaaHeads
import Derived.Test.YtfgjmckdjkfgdaaN10
import Derived.Test.YtfgjmckdjkfgdaaN11
import Derived.Test.YtfgjmckdjkfgdaaR1
import Derived.Test.YtfgjmckdjkfgdaaR2
import Derived.Test.YtfgjmckdjkfgdaaR3
import Derived.Test.YtfgjmckdjkfgdaaP1
import Derived.Test.YtfgjmckdjkfgdaaT1
import Derived.Test.YtfgjmckdjkfgdaaT2
namespace Go.Proofs.Ytfgjmckdjkfgdaa
open Go Go.RowKit Go.Proofs.Tail
set_option linter.unusedSimpArgs false
set_option linter.unusedVariables false
variable {w w' w2 : World} {B : Nat} {D D1 D2 : Nat → Prop} {P M : Nat} {N : NetS} {R : RefS}
/-- Bytes that may be written. -/
def Wr8 (w : World) (b n : Nat) : Prop := ∀ j, j < n → (∃ z, w.cell? ⟨b, j, none⟩ = some (.int .u8 z)) ∧ w.frozen? ⟨b, j, none⟩ = false
theorem Wr8.set {w : World} {b n : Nat} (h : Wr8 w b n) (i : Nat) (z : Int) : Wr8 (w.setCell ⟨b, i, none⟩ (.int .u8 z)) b n := fun j hj => by
  obtain ⟨⟨y, hy⟩, hf⟩ := h j hj
  refine ⟨?_, by rw [World.frozen?_setCell]; exact hf⟩
  by_cases hij : j = i
  · subst hij
    exact ⟨z, World.cell?_setCell_same _ _ _ hy⟩
  · exact ⟨y, by rw [World.cell?_setCell_other _ _ _ _ (by simp only [ne_eq, Addr.mk.injEq, and_true, true_and]; omega)]; exact hy⟩
theorem Wr8.keep {w w' : World} {b n : Nat} (h : Wr8 w b n) (hb : w'.heap[b]? = w.heap[b]?) : Wr8 w' b n := fun j hj => by
  obtain ⟨⟨y, hy⟩, hf⟩ := h j hj
  exact ⟨⟨y, (World.cell?_of_block (w := w) (a := ⟨b, j, none⟩) hb).trans hy⟩, (World.frozen?_of_block (w := w) (a := ⟨b, j, none⟩) hb).trans hf⟩
theorem wr8_new (w : World) (e : TypeId) (s : ByteArray) : Wr8 (Lib.bytesWorld w e s) w.heap.size s.size := fun j hj => by
  refine ⟨⟨_, Lib.bytesWorld_cell w e s j hj⟩, ?_⟩
  have h := Lib.bytesWorld_at_new w e s
  unfold World.frozen?
  dsimp only
  rw [h]
  have : s.size ≤ (Lib.bytesCells w e s).size := by
    unfold Lib.bytesCells
    rw [Array.size_append, Array.size_map]
    exact Nat.le_add_right _ _
  simp
  omega
theorem sendR_len (R : RefS) (a b : Int) (xs : List Int) : (sendR R a b xs).L.length ≤ R.L.length + 1 := by
  unfold sendR
  split
  · simp
  · omega
set_option maxRecDepth 100000 in
set_option maxHeartbeats 8000000 in
theorem does_send {w0 : World} (hS : St w w0.heap.size D1 D2 P M N R) (hb0 : Below w0.heap.size w0 w) (hlim : R.L.length < 1000000) (x : CallS) (A : Option Addr) (c : Nat) (hx : Byts w0 A x.b.length c x.b) (hlen : x.b.length ≤ 5000) (h4 : (x.k.tmod 8 == 4) = false) (h5 : (x.k.tmod 8 == 5) = false) (h6 : (x.k.tmod 8 == 6) = false) (h7 : (x.k.tmod 8 == 7) = false) :
    Calls Try.prog 10 #[.pointer (some ⟨P, 0, none⟩), .pointer (some ⟨M, 0, none⟩), .agg #[.int .u8 x.k, .int .i64 x.f, .int .i64 x.t, .slice A x.b.length c]] w (GivesDo w0.heap.size P M R w) := by
  obtain ⟨S, hSS⟩ : ∃ S, S = strOfNums x.b := ⟨_, rfl⟩
  obtain ⟨ys, hys⟩ : ∃ ys, ys = numsOf S := ⟨_, rfl⟩
  have hyl : ys.length = x.b.length := by rw [hys, numsOf_length, hSS, str_size]
  have hsy : strOfNums ys = S := by rw [hys, str_nums]
  have hSz : S.size = x.b.length := by rw [hSS, str_size]
  obtain ⟨wb, hwb⟩ : ∃ wb, wb = w.alloc (.cells (bxC x A c).toArray 32) := ⟨_, rfl⟩
  have hbel : Below w.heap.size w wb := by rw [hwb]; exact below_new w _
  have hbx : Blk wb w.heap.size (bxC x A c) 32 := by rw [hwb]; exact Blk.new w _ _ _ rfl
  have hKb := conv_bytes wb 5 S (by unfold maxLen; omega)
  have hW8 := wr8_new wb 5 S
  obtain ⟨wi, hwi⟩ : ∃ wi, wi = Lib.bytesWorld wb 5 S := ⟨_, rfl⟩
  rw [← hwi] at hKb hW8
  have HSW := Lib.hid (show wb.heap.size < wi.heap.size by rw [hwi, Lib.bytesWorld_size]; omega)
  have hcb := Go.Lib.run_convert_string_bytes (P := Try.prog) wb 9 30 5 S Try.underlying9 Try.underlying30 Try.underlying5
  rw [← hwi] at hcb
  have hcv : ∀ W, Below w0.heap.size w0 W → (convert 30 9 (.slice A x.b.length c)).run Try.prog W = .ok (.string S) W := fun W hb => by
    rw [hSS]
    exact run_convert_byts W 30 5 Try.underlying30 Try.underlying5 (hx.below RByte.stays hb) 9 Try.underlying9
  have hBw : w0.heap.size ≤ w.heap.size := hb0.size
  have hb1 := hb0.trans (hbel.mono hBw)
  have hbi := hb1.trans (hKb.1.mono hb1.size)
  have b0 : wb.cell? ⟨w.heap.size, 0, none⟩ = some (.int .u8 x.k) := hbx.cell 0
  have b3 : wb.cell? ⟨w.heap.size, 3, none⟩ = some (.slice A x.b.length c) := hbx.cell 3
  have i1 : wi.cell? ⟨w.heap.size, 1, none⟩ = some (.int .i64 x.f) := below_cell hKb.1 (hbx.cell 1)
  have i2 : wi.cell? ⟨w.heap.size, 2, none⟩ = some (.int .i64 x.t) := below_cell hKb.1 (hbx.cell 2)
  have i3 : wi.cell? ⟨w.heap.size, 3, none⟩ = some (.slice A x.b.length c) := below_cell hKb.1 (hbx.cell 3)
  have cvb := hcv wb hb1
  have cvi := hcv wi.drew hbi.drew
  have hSi := (hS.below hbel).below hKb.1
  have HN := Lib.hid (nsend_any (hSi.net.below ((Below.refl _ wi).drew)) x.f x.t (A := some ⟨wb.heap.size, 0, none⟩) (hKb.2.below RByte.stays ((Below.refl _ wi).drew)))
  have HR := Lib.hid (fun W (hf : Fr D1 wi W) => by have := refsend_any (hSi.ref.fr hf (fun k h2 h1 => hSi.dis k h1 h2)) x.f x.t ys hlim; unfold GivesSr at this; rw [← hSi.sim.code, hsy] at this; exact this)
  rw [← hys] at HN
  have hxx : (w.alloc (.cells #[.int .u8 x.k, .int .i64 x.f, .int .i64 x.t, .slice A x.b.length c] 32)) = wb := hwb.symm
  have HKB := Lib.hid hKb
  have HSI := Lib.hid hSi
  have HBI := Lib.hid hbi
  have HCV := Lib.hid hcv
  have HW8 := Lib.hid hW8
  have HBE := Lib.hid hbel
  have HB0 := Lib.hid hb0
  have HBO := Lib.hid (show ¬ D1 w.heap.size ∧ ¬ D2 w.heap.size from ⟨fun h => by have := hS.net.lt _ h; omega, fun h => by have := hS.ref.lt _ h; omega⟩)
  have HBI2 := Lib.hid (show ¬ D1 wb.heap.size ∧ ¬ D2 wb.heap.size from ⟨fun h => by have := (hS.below hbel).net.lt _ h; omega, fun h => by have := (hS.below hbel).ref.lt _ h; omega⟩)
  have HSZ := Lib.hid hSz
  have HYL := Lib.hid hyl
  have HTL := Lib.hid (sendR_len R x.f x.t ys)
  have HSM := Lib.hid (hSi.sim.send x.f x.t ys)
  have HSY := Lib.hid hsy
  have HBY := Lib.hid hKb.2
  rw [← hys] at HBY
  have HLN := Lib.hid hlen
  clear hS hb0 hlim hx hlen hSS hys hyl hsy hSz hwb hbel hbx hKb hW8 hwi hcv hBw hb1 hbi hSi
  go_enter Try.func10, Try.ntmps10
  go_wp2_with fail
  clear b0 b3 cvb hcb h4 h5 h6 h7 hxx
  go_region_held3 (fun w' => w'.cell? ⟨w.heap.size, 1, none⟩ = some (.int .i64 x.f) ∧ w'.cell? ⟨w.heap.size, 2, none⟩ = some (.int .i64 x.t) ∧ w'.cell? ⟨w.heap.size, 3, none⟩ = some (.slice A x.b.length c) ∧ (convert 30 9 (.slice A x.b.length c)).run Try.prog w' = .ok (.string S) w')
    (first | exact ⟨i1, i2, i3, cvi⟩ | exact ⟨j1, j2, j3, cvj⟩ | exact ⟨k1, k2, k3, cvk⟩)
    (first
      | (go_at_call 14; refine HN.out.mono ?_; rintro e w1 ⟨rfl, hn1, hf1⟩
         have HF1 := Lib.hid (show Fr D1 wi w1 from ⟨hf1.os, hf1.tape, hf1.output, hf1.size, hf1.block⟩)
         have HN1 := Lib.hid hn1
         have j1 := HF1.out.cell i1 HBO.out.1
         have j2 := HF1.out.cell i2 HBO.out.1
         have j3 := HF1.out.cell i3 HBO.out.1
         have HB1 := Lib.hid (HBI.out.trans (HF1.out.below HBI.out.size (fun k hk h1 => by have := HSI.out.b1 k h1; omega)))
         have cvj := HCV.out w1 HB1.out
         have HR3 := Lib.hid (HR.out w1 HF1.out)
         clear hn1 hf1)
      | (go_at_call 23; refine HR3.out.mono ?_; rintro e w2 ⟨rfl, hr2, hg2⟩
         have HR2 := Lib.hid hr2
         have HG2 := Lib.hid hg2
         have k1 := hg2.cell j1 HBO.out.2
         have k2 := hg2.cell j2 HBO.out.2
         have k3 := hg2.cell j3 HBO.out.2
         have HB2 := Lib.hid (HB1.out.trans (HG2.out.below HB1.out.size (fun k hk h1 => by have := HSI.out.b2 k h1; omega)))
         have cvk := HCV.out w2 HB2.out
         clear hr2 hg2))
  have hIO : Byts w2 (some ⟨wb.heap.size, 0, none⟩) S.size (grownCap wb S.size 0 5) ys := byts_fr (byts_fr HBY.out HF1.out (fun a ha => by cases ha; exact HBI2.out.1)) HG2.out (fun a ha => by cases ha; exact HBI2.out.2)
  have hci := run_convert_byts w2 30 5 Try.underlying30 Try.underlying5 hIO 9 Try.underlying9
  rw [HSY.out] at hci
  have H8 := Lib.hid ((HW8.out.keep (HF1.out.block _ (HSW.out) HBI2.out.1)).keep (HG2.out.block _ (Nat.lt_of_lt_of_le HSW.out HF1.out.size) HBI2.out.2))
  obtain ⟨s1, s2⟩ := HSI.out.both HBI.out.size HN1.out (fun k h => h) HF1.out HR2.out HG2.out HSM.out
  have HS1 := Lib.hid s1
  have HNE := Lib.hid (show ¬ grewD D1 wi.drew w1 wb.heap.size ∧ ¬ grewD D2 w1 w2 wb.heap.size from ⟨fun h => by
      rcases h with h | h
      · exact HBI2.out.1 h
      · have := HSW.out; have h2 : wi.heap.size ≤ wb.heap.size := h.1; omega, fun h => by
      rcases h with h | h
      · exact HBI2.out.2 h
      · have := HSW.out; have := HF1.out.size; omega⟩)
  have hszn : S.size ≤ 5000 := by rw [HSZ.out]; exact HLN.out
  have HF1' := Lib.hid HF1.out.size
  have HG2' := Lib.hid HG2.out.size
  clear s1 s2 HN HR HR3 HN1 HR2 HG2 HF1 hIO i1 i2 i3 j1 j2 j3 k1 k2 cvi cvj HSM HSI
  have HBW := Lib.hid (show w0.heap.size ≤ wb.heap.size from Nat.le_trans HB0.out.size HBE.out.size)
  have HB2' := Lib.hid (show Below w0.heap.size w w2 from ⟨HB2.out.os.trans HB0.out.os.symm, HB2.out.tape.trans HB0.out.tape.symm, HB2.out.output.trans HB0.out.output.symm, Nat.le_trans HBE.out.size (Nat.le_trans HKB.out.1.size (Nat.le_trans HF1'.out HG2'.out)), fun k hk => (HB2.out.block k hk).trans (HB0.out.block k hk).symm⟩)
  generalize grewD D1 wi.drew w1 = E1 at *
  generalize grewD D2 w1 w2 = E2 at *
  generalize sendE N x.f x.t ys.length = z at *
  go_wp2_with fail
  clear hci cvk k3
  generalize hn : S.size = n at *
  generalize grownCap wb n 0 5 = cp at *
  go_loopw [15] (fun i wr => ∃ k : Nat, k ≤ n ∧ i = .int .i64 k ∧ Hid (St wr w0.heap.size E1 E2 P M (sendN N x.f x.t ys) (sendR R x.f x.t ys)) ∧ Hid (Below w0.heap.size w wr) ∧ Hid (Wr8 wr wb.heap.size n)) (fun i _ => n - (intOf i).toNat)
  case atStart => exact ⟨0, Nat.zero_le _, rfl, HS1, HB2', H8⟩
  case round =>
    clear HS1 HB2' H8
    obtain ⟨k, hk, rfl, HST, HBW2, H8⟩ := hrel
    by_cases hlt : k < n
    · have hd : decide ((k : Int) < n) = true := decide_eq_true (by omega)
      have hd' : decide (k < n) = true := decide_eq_true (by omega)
      have hk0 : (0 : Int) ≤ k := by omega
      have hkn : (k : Int) < n := by omega
      obtain ⟨⟨y, hy⟩, hf⟩ := H8.out k hlt
      go_wp2_with fail
      go_roundw
      case rel => exact ⟨k + 1, by omega, by go_num, Lib.hid (HST.out.keep (fun j hj => Below.heap_setCell _ _ _ _ (fun e => by subst e; exact hj.elim HNE.out.1 HNE.out.2)) (by simp [World.setCell])), Lib.hid (HBW2.out.setCell HBW.out _), Lib.hid (H8.out.set _ _)⟩
      case measure => simp [intOf]; omega
    · have hd : decide ((k : Int) < n) = false := decide_eq_false (by omega)
      have hd' : decide (k < n) = false := decide_eq_false (by omega)
      go_wp2_with fail
      go_ret
      exact ⟨_, _, _, _, rfl, HST.out, HBW2.out, HTL.out⟩
theorem does_any {w0 : World} (hS : St w w0.heap.size D1 D2 P M N R) (hb0 : Below w0.heap.size w0 w) (hlim : R.L.length < 1000000) (x : CallS) (A : Option Addr) (c : Nat) (hx : Byts w0 A x.b.length c x.b) (hlen : x.b.length ≤ 5000) :
    Calls Try.prog 10 #[.pointer (some ⟨P, 0, none⟩), .pointer (some ⟨M, 0, none⟩), .agg #[.int .u8 x.k, .int .i64 x.f, .int .i64 x.t, .slice A x.b.length c]] w (GivesDo w0.heap.size P M R w) := by
  cases h4 : (x.k.tmod 8 == 4) with
  | true => exact does_take hS hb0.size x A c (.inl h4)
  | false =>
    cases h5 : (x.k.tmod 8 == 5) with
    | true => exact does_take hS hb0.size x A c (.inr (.inl ⟨h4, h5⟩))
    | false =>
      cases h6 : (x.k.tmod 8 == 6) with
      | true => exact does_take hS hb0.size x A c (.inr (.inr ⟨h4, h5, h6⟩))
      | false =>
        cases h7 : (x.k.tmod 8 == 7) with
        | true => exact does_clear hS hb0.size x A c h4 h5 h6 h7
        | false => exact does_send hS hb0 hlim x A c hx hlen h4 h5 h6 h7
end Go.Proofs.Ytfgjmckdjkfgdaa
