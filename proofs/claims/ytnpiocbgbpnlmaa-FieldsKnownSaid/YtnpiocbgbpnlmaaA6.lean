/- Contracts of the Reader's number, Byte, Short, Word, Long. -/
import Derived.Test.YtnpiocbgbpnlmaaRows
import Derived.Test.YtnpiocbgbpnlmaaWords
import Derived.Test.YtnpiocbgbpnlmaaByts
import Derived.Test.YtnpiocbgbpnlmaaStrs
import Derived.Test.YtnpiocbgbpnlmaaFrame
import Derived.Test.YtnpiocbgbpnlmaaBitsW
import Derived.Test.YtnpiocbgbpnlmaaA1
import Derived.Test.YtnpiocbgbpnlmaaA4
import Derived.Test.YtnpiocbgbpnlmaaA5
import Derived.Deep.RegionWith
import Derived.Deep.RegionLaw
import Derived.Laws.CopyOwn
namespace Go.Proofs.Ytnpiocbgbpnlmaa
open Go.RowKit Go.Proofs.Tail
set_option linter.unusedSimpArgs false
set_option linter.unusedVariables false
/-- The number of bytes. -/
def numV (ys : List Int) : Int := ys.foldl (fun n c => n * 256 + c) 0
def NumGives (k : IntKind) (P G : Nat) (r : List Int × List Int × Bool) (w : World) (e : Ending) (w' : World) : Prop :=
  e = .returned (.int k (numV r.1)) ∧ Rr w' P G r.2.1 r.2.2 ∧ Fr (fun k => k = P) w w'
theorem Rr.low {w w' : World} {P G B : Nat} {xs : List Int} {sp : Bool} (h : Rr w P G xs sp) (hb : Below B w w') (hP : P < B) (hG : xs ≠ [] → G < B) : Rr w' P G xs sp := by
  obtain ⟨A, n, c, hk, hr, hg⟩ := h.ex
  refine ⟨⟨A, n, c, hk.below hb hP, ⟨hr.len, hr.cap, hr.big, fun hn => ?_⟩, hg⟩, h.ne, h.inb⟩
  obtain ⟨b, off, rfl, hc⟩ := hr.at_ hn
  have hbG : b = G := hg _ rfl
  have hlt := hG (by intro e; have := hr.len; rw [e] at this; simp at this; omega)
  exact ⟨b, off, rfl, fun j x hj => RByte.block (hb.block b (by omega)) (hc j x hj)⟩
theorem Rr.glt {w : World} {P G : Nat} {xs : List Int} {sp : Bool} (h : Rr w P G xs sp) (hx : xs ≠ []) : G < w.heap.size := by
  obtain ⟨A, n, c, hk, hr, hg⟩ := h.ex
  have hn : 0 < n := by rw [← hr.len]; exact List.length_pos_iff.2 hx
  obtain ⟨b, off, rfl, hc⟩ := hr.at_ hn
  have hbG : b = G := hg _ rfl
  have hx0 : 0 < xs.length := by rw [hr.len]; exact hn
  have h0 := hc 0 xs[0] (List.getElem?_eq_getElem hx0)
  rw [← hbG]
  exact RByte.lt h0
theorem nxt_rest {xs : List Int} {sp : Bool} {k : Int} (h : (nxt xs sp k).2.1 ≠ []) : xs ≠ [] := by
  intro e
  subst e
  unfold nxt at h
  split at h <;> simp at h
theorem nxt_first (xs : List Int) (sp : Bool) (k : Nat) : (nxt xs sp k).1 = [] ∨ (nxt xs sp k).1.length = k := by
  unfold nxt
  split
  · exact .inl rfl
  · right; simp [List.length_take]; omega
theorem nxt_in {xs : List Int} (sp : Bool) (k : Int) (h : InB xs) : InB (nxt xs sp k).1 := by
  unfold nxt
  split
  · intro x hx; simp at hx
  · exact fun x hx => h x (List.mem_of_mem_take hx)
theorem bits_or_u64 (p q : Int) (h0 : 0 ≤ p) (h1 : p < 72057594037927936) (q0 : 0 ≤ q) (q1 : q < 256) : bits .or .u64 (p * 256) q = p * 256 + q := by
  obtain ⟨n, rfl⟩ := Int.eq_ofNat_of_zero_le h0
  obtain ⟨m, rfl⟩ := Int.eq_ofNat_of_zero_le q0
  have hm : m < 256 := by omega
  have e : n * 256 ||| m = n * 256 + m := by
    have := Nat.shiftLeft_add_eq_or_of_lt (i := 8) (b := m) hm n
    rw [Nat.shiftLeft_eq] at this
    exact this.symm
  unfold bits
  have a1 : (BitVec.ofInt IntKind.u64.bits ((n : Int) * 256)) = BitVec.ofNat 64 (n * 256) := by
    rw [show ((n : Int) * 256) = ((n * 256 : Nat) : Int) by omega, BitVec.ofInt_natCast]; rfl
  have a2 : (BitVec.ofInt IntKind.u64.bits (m : Int)) = BitVec.ofNat 64 m := by rw [BitVec.ofInt_natCast]; rfl
  rw [a1, a2]
  have a3 : (BitVec.ofNat 64 (n * 256) ||| BitVec.ofNat 64 m).toNat = n * 256 + m := by
    rw [BitVec.toNat_or, BitVec.toNat_ofNat, BitVec.toNat_ofNat, Nat.mod_eq_of_lt (by omega), Nat.mod_eq_of_lt (by omega), e]
  show IntKind.u64.wrap ((BitVec.ofNat 64 (n * 256) ||| BitVec.ofNat 64 m).toNat : Int) = _
  rw [a3]
  show ((n * 256 + m : Nat) : Int) % 18446744073709551616 = _
  omega
@[go_sem] theorem index8_0 (a0 a1 a2 a3 a4 a5 a6 a7 : Int) (w : World) : (Instr.index 73 (.agg #[.int .u8 a0, .int .u8 a1, .int .u8 a2, .int .u8 a3, .int .u8 a4, .int .u8 a5, .int .u8 a6, .int .u8 a7]) (.int .i64 0)).run Try.prog w = .ok (.int .u8 a0) w := by
  have u5 := Try.underlying5
  have a5 := Try.isAgg5
  have z5 := Try.sizeOf5
  unfold Instr.index
  simp only [Sem.run_bind, run_underlying Try.underlying73, asIntOf, Sem.run_pure, Result.andThen_ok]
  go_simp
@[go_sem] theorem index8_1 (a0 a1 a2 a3 a4 a5 a6 a7 : Int) (w : World) : (Instr.index 73 (.agg #[.int .u8 a0, .int .u8 a1, .int .u8 a2, .int .u8 a3, .int .u8 a4, .int .u8 a5, .int .u8 a6, .int .u8 a7]) (.int .i64 1)).run Try.prog w = .ok (.int .u8 a1) w := by
  have u5 := Try.underlying5
  have a5 := Try.isAgg5
  have z5 := Try.sizeOf5
  unfold Instr.index
  simp only [Sem.run_bind, run_underlying Try.underlying73, asIntOf, Sem.run_pure, Result.andThen_ok]
  go_simp
@[go_sem] theorem index8_2 (a0 a1 a2 a3 a4 a5 a6 a7 : Int) (w : World) : (Instr.index 73 (.agg #[.int .u8 a0, .int .u8 a1, .int .u8 a2, .int .u8 a3, .int .u8 a4, .int .u8 a5, .int .u8 a6, .int .u8 a7]) (.int .i64 2)).run Try.prog w = .ok (.int .u8 a2) w := by
  have u5 := Try.underlying5
  have a5 := Try.isAgg5
  have z5 := Try.sizeOf5
  unfold Instr.index
  simp only [Sem.run_bind, run_underlying Try.underlying73, asIntOf, Sem.run_pure, Result.andThen_ok]
  go_simp
@[go_sem] theorem index8_3 (a0 a1 a2 a3 a4 a5 a6 a7 : Int) (w : World) : (Instr.index 73 (.agg #[.int .u8 a0, .int .u8 a1, .int .u8 a2, .int .u8 a3, .int .u8 a4, .int .u8 a5, .int .u8 a6, .int .u8 a7]) (.int .i64 3)).run Try.prog w = .ok (.int .u8 a3) w := by
  have u5 := Try.underlying5
  have a5 := Try.isAgg5
  have z5 := Try.sizeOf5
  unfold Instr.index
  simp only [Sem.run_bind, run_underlying Try.underlying73, asIntOf, Sem.run_pure, Result.andThen_ok]
  go_simp
@[go_sem] theorem index8_4 (a0 a1 a2 a3 a4 a5 a6 a7 : Int) (w : World) : (Instr.index 73 (.agg #[.int .u8 a0, .int .u8 a1, .int .u8 a2, .int .u8 a3, .int .u8 a4, .int .u8 a5, .int .u8 a6, .int .u8 a7]) (.int .i64 4)).run Try.prog w = .ok (.int .u8 a4) w := by
  have u5 := Try.underlying5
  have a5 := Try.isAgg5
  have z5 := Try.sizeOf5
  unfold Instr.index
  simp only [Sem.run_bind, run_underlying Try.underlying73, asIntOf, Sem.run_pure, Result.andThen_ok]
  go_simp
@[go_sem] theorem index8_5 (a0 a1 a2 a3 a4 a5 a6 a7 : Int) (w : World) : (Instr.index 73 (.agg #[.int .u8 a0, .int .u8 a1, .int .u8 a2, .int .u8 a3, .int .u8 a4, .int .u8 a5, .int .u8 a6, .int .u8 a7]) (.int .i64 5)).run Try.prog w = .ok (.int .u8 a5) w := by
  have u5 := Try.underlying5
  have a5 := Try.isAgg5
  have z5 := Try.sizeOf5
  unfold Instr.index
  simp only [Sem.run_bind, run_underlying Try.underlying73, asIntOf, Sem.run_pure, Result.andThen_ok]
  go_simp
@[go_sem] theorem index8_6 (a0 a1 a2 a3 a4 a5 a6 a7 : Int) (w : World) : (Instr.index 73 (.agg #[.int .u8 a0, .int .u8 a1, .int .u8 a2, .int .u8 a3, .int .u8 a4, .int .u8 a5, .int .u8 a6, .int .u8 a7]) (.int .i64 6)).run Try.prog w = .ok (.int .u8 a6) w := by
  have u5 := Try.underlying5
  have a5 := Try.isAgg5
  have z5 := Try.sizeOf5
  unfold Instr.index
  simp only [Sem.run_bind, run_underlying Try.underlying73, asIntOf, Sem.run_pure, Result.andThen_ok]
  go_simp
@[go_sem] theorem index8_7 (a0 a1 a2 a3 a4 a5 a6 a7 : Int) (w : World) : (Instr.index 73 (.agg #[.int .u8 a0, .int .u8 a1, .int .u8 a2, .int .u8 a3, .int .u8 a4, .int .u8 a5, .int .u8 a6, .int .u8 a7]) (.int .i64 7)).run Try.prog w = .ok (.int .u8 a7) w := by
  have u5 := Try.underlying5
  have a5 := Try.isAgg5
  have z5 := Try.sizeOf5
  unfold Instr.index
  simp only [Sem.run_bind, run_underlying Try.underlying73, asIntOf, Sem.run_pure, Result.andThen_ok]
  go_simp
set_option maxRecDepth 100000 in
set_option maxHeartbeats 16000000 in
theorem num_1 (P G : Nat) (xs : List Int) (sp : Bool) (w : World) (hW : Rr w P G xs sp) :
    Calls Try.prog 32 #[.pointer (some ⟨P, 0, none⟩), .int .i64 1] w (NumGives .u64 P G (nxt xs sp 1) w) := by
  have H := Lib.hid (fun w hW => next_any P G xs sp 1 w hW (by omega))
  have HW := Lib.hid (hW.below (below_new w (.cells #[.int .u8 0, .int .u8 0, .int .u8 0, .int .u8 0, .int .u8 0, .int .u8 0, .int .u8 0, .int .u8 0] 73)))
  have HP := Lib.hid (show P < w.heap.size by obtain ⟨_, _, _, hb, _⟩ := hW.ex; exact hb.lt)
  have HD := Lib.hid (Blk.new w [.int .u8 0, .int .u8 0, .int .u8 0, .int .u8 0, .int .u8 0, .int .u8 0, .int .u8 0, .int .u8 0] 73 _ rfl)
  have HF0 := Lib.hid ((Fr.of_below (S := fun k => k = P) (below_new w (.cells #[.int .u8 0, .int .u8 0, .int .u8 0, .int .u8 0, .int .u8 0, .int .u8 0, .int .u8 0, .int .u8 0] 73))).drew)
  have HL := Lib.hid (nxt_first xs sp 1)
  have HG0 := Lib.hid (fun h => hW.glt (nxt_rest (xs := xs) (sp := sp) (k := 1) h))
  have HI := Lib.hid (nxt_in sp 1 hW.inb)
  generalize hr : nxt xs sp 1 = r at *
  clear hr
  obtain ⟨r1, r2, r3⟩ := r
  have HL := Lib.hid (show r1 = [] ∨ r1.length = 1 from HL.out)
  have HL2 := Lib.hid (show r1.length ≤ 1 by rcases HL.out with e | e <;> simp [e])
  clear hW
  have hw6 : IntKind.i64.wrap 7 = 7 := by decide
  go_enter Try.func32, Try.ntmps32
  go_wp2_with fail
  go_region_law (first
    | (go_simp; go_at_call 29; first | refine (H.out _ HW.out).mono ?_ | refine (H.out _ (HW.out.below ((Below.refl _ _).drew))).mono ?_
       rintro e w1 ⟨A, n, c, rfl, hr, hg, hR, hf⟩
       have HX := Lib.hid hr; have HG := Lib.hid hg; have HR := Lib.hid hR; have HF := Lib.hid hf; clear hr hg hR hf
       have HK := Lib.hid (HD.out.drew.fr HF.out (fun e => by have := HP.out; omega))
       have HC1 := Lib.hid (show (byV r1).length = Nat.min n 1 by rw [byV_length, HX.out.len]; exact (Nat.min_eq_left (by have := HX.out.len; have := HL2.out; dsimp only at *; omega)).symm)
       have HC2 := Lib.hid (show 7 + (byV r1).length ≤ 8 by have := HL2.out; rw [byV_length]; dsimp only at *; omega)
       have HC3 := Lib.hid (show 0 < (byV r1).length → 0 < n from fun h => by rw [byV_length] at h; have := HX.out.len; dsimp only at *; omega))
    | (refine step_copy_splice rfl (.tmp 11) (.tmp 14) 23 23 rfl 5 Try.underlying23 (by kernel_rfl) _ _ _ _ _ _ rfl rfl w.heap.size 7 _ _ HK.out.h (byV r1) HC1.out (fun h => ⟨rfl, byV_src HX.out (HC3.out h)⟩) HC2.out (byV_one _) w.heap.size w1 (Below.refl _ _) (Nat.le_refl _) ?_
       intro w4 hg4 hb4))
  have HE : Hid (Rr w4 P G r2 r3 ∧ Fr (fun k => k = P) w w4) := Lib.hid ⟨HR.out.low hb4 HP.out HG0.out, by
    have h1 := HF0.out.trans HF.out (fun _ _ h => h)
    exact ⟨hb4.os.trans h1.os, hb4.tape.trans h1.tape, hb4.output.trans h1.output, Nat.le_trans h1.size hb4.size, fun k hk hn => (hb4.block k hk).trans (h1.block k hk hn)⟩⟩
  have hz : bits .or .u64 0 0 = 0 := by decide
  have HL := HL.out
  rcases HL with h | h
  · subst h
    have HB4 : Hid (Blk w4 w.heap.size [.int .u8 0, .int .u8 0, .int .u8 0, .int .u8 0, .int .u8 0, .int .u8 0, .int .u8 0, .int .u8 0] 73) := Lib.hid ⟨hg4.out⟩
    have l0 := HB4.out.cell
    clear hg4 hb4 HC1 HC2 HC3 HK HX HG HR HF HF0 HD HW H
    go_wp2_with fail
    refine wp_loop_rounds 9 ?_
    iterate 9 (rw [rounds_succ]; go_wp2_with fail)
    go_ret
    exact ⟨rfl, HE.out.1, HE.out.2⟩
  · obtain ⟨y1, rfl⟩ : ∃ y1, r1 = [y1] := by
      match r1, h with
      | [y1], _ => exact ⟨_, rfl⟩
    have g1 := HI.out y1 (by simp)
    have HB4 : Hid (Blk w4 w.heap.size [.int .u8 0, .int .u8 0, .int .u8 0, .int .u8 0, .int .u8 0, .int .u8 0, .int .u8 0, .int .u8 y1] 73) := Lib.hid ⟨hg4.out⟩
    have l0 := HB4.out.cell
    clear hg4 hb4 HC1 HC2 HC3 HK HX HG HR HF HF0 HD HW H HI
    have f1 : bits .or .u64 0 y1 = y1 := by have := bits_or_u64 0 y1 (by omega) (by omega) (by omega) (by omega); simpa using this
    go_wp2_with fail
    refine wp_loop_rounds 9 ?_
    iterate 9 (rw [rounds_succ]; go_wp2_with fail)
    go_ret
    exact ⟨by simp [numV], HE.out.1, HE.out.2⟩
set_option maxRecDepth 100000 in
set_option maxHeartbeats 16000000 in
theorem num_2 (P G : Nat) (xs : List Int) (sp : Bool) (w : World) (hW : Rr w P G xs sp) :
    Calls Try.prog 32 #[.pointer (some ⟨P, 0, none⟩), .int .i64 2] w (NumGives .u64 P G (nxt xs sp 2) w) := by
  have H := Lib.hid (fun w hW => next_any P G xs sp 2 w hW (by omega))
  have HW := Lib.hid (hW.below (below_new w (.cells #[.int .u8 0, .int .u8 0, .int .u8 0, .int .u8 0, .int .u8 0, .int .u8 0, .int .u8 0, .int .u8 0] 73)))
  have HP := Lib.hid (show P < w.heap.size by obtain ⟨_, _, _, hb, _⟩ := hW.ex; exact hb.lt)
  have HD := Lib.hid (Blk.new w [.int .u8 0, .int .u8 0, .int .u8 0, .int .u8 0, .int .u8 0, .int .u8 0, .int .u8 0, .int .u8 0] 73 _ rfl)
  have HF0 := Lib.hid ((Fr.of_below (S := fun k => k = P) (below_new w (.cells #[.int .u8 0, .int .u8 0, .int .u8 0, .int .u8 0, .int .u8 0, .int .u8 0, .int .u8 0, .int .u8 0] 73))).drew)
  have HL := Lib.hid (nxt_first xs sp 2)
  have HG0 := Lib.hid (fun h => hW.glt (nxt_rest (xs := xs) (sp := sp) (k := 2) h))
  have HI := Lib.hid (nxt_in sp 2 hW.inb)
  generalize hr : nxt xs sp 2 = r at *
  clear hr
  obtain ⟨r1, r2, r3⟩ := r
  have HL := Lib.hid (show r1 = [] ∨ r1.length = 2 from HL.out)
  have HL2 := Lib.hid (show r1.length ≤ 2 by rcases HL.out with e | e <;> simp [e])
  clear hW
  have hw6 : IntKind.i64.wrap 6 = 6 := by decide
  go_enter Try.func32, Try.ntmps32
  go_wp2_with fail
  go_region_law (first
    | (go_simp; go_at_call 29; first | refine (H.out _ HW.out).mono ?_ | refine (H.out _ (HW.out.below ((Below.refl _ _).drew))).mono ?_
       rintro e w1 ⟨A, n, c, rfl, hr, hg, hR, hf⟩
       have HX := Lib.hid hr; have HG := Lib.hid hg; have HR := Lib.hid hR; have HF := Lib.hid hf; clear hr hg hR hf
       have HK := Lib.hid (HD.out.drew.fr HF.out (fun e => by have := HP.out; omega))
       have HC1 := Lib.hid (show (byV r1).length = Nat.min n 2 by rw [byV_length, HX.out.len]; exact (Nat.min_eq_left (by have := HX.out.len; have := HL2.out; dsimp only at *; omega)).symm)
       have HC2 := Lib.hid (show 6 + (byV r1).length ≤ 8 by have := HL2.out; rw [byV_length]; dsimp only at *; omega)
       have HC3 := Lib.hid (show 0 < (byV r1).length → 0 < n from fun h => by rw [byV_length] at h; have := HX.out.len; dsimp only at *; omega))
    | (refine step_copy_splice rfl (.tmp 11) (.tmp 14) 23 23 rfl 5 Try.underlying23 (by kernel_rfl) _ _ _ _ _ _ rfl rfl w.heap.size 6 _ _ HK.out.h (byV r1) HC1.out (fun h => ⟨rfl, byV_src HX.out (HC3.out h)⟩) HC2.out (byV_one _) w.heap.size w1 (Below.refl _ _) (Nat.le_refl _) ?_
       intro w4 hg4 hb4))
  have HE : Hid (Rr w4 P G r2 r3 ∧ Fr (fun k => k = P) w w4) := Lib.hid ⟨HR.out.low hb4 HP.out HG0.out, by
    have h1 := HF0.out.trans HF.out (fun _ _ h => h)
    exact ⟨hb4.os.trans h1.os, hb4.tape.trans h1.tape, hb4.output.trans h1.output, Nat.le_trans h1.size hb4.size, fun k hk hn => (hb4.block k hk).trans (h1.block k hk hn)⟩⟩
  have hz : bits .or .u64 0 0 = 0 := by decide
  have HL := HL.out
  rcases HL with h | h
  · subst h
    have HB4 : Hid (Blk w4 w.heap.size [.int .u8 0, .int .u8 0, .int .u8 0, .int .u8 0, .int .u8 0, .int .u8 0, .int .u8 0, .int .u8 0] 73) := Lib.hid ⟨hg4.out⟩
    have l0 := HB4.out.cell
    clear hg4 hb4 HC1 HC2 HC3 HK HX HG HR HF HF0 HD HW H
    go_wp2_with fail
    refine wp_loop_rounds 9 ?_
    iterate 9 (rw [rounds_succ]; go_wp2_with fail)
    go_ret
    exact ⟨rfl, HE.out.1, HE.out.2⟩
  · obtain ⟨y1, y2, rfl⟩ : ∃ y1 y2, r1 = [y1, y2] := by
      match r1, h with
      | [y1, y2], _ => exact ⟨_, _, rfl⟩
    have g1 := HI.out y1 (by simp)
    have g2 := HI.out y2 (by simp)
    have HB4 : Hid (Blk w4 w.heap.size [.int .u8 0, .int .u8 0, .int .u8 0, .int .u8 0, .int .u8 0, .int .u8 0, .int .u8 y1, .int .u8 y2] 73) := Lib.hid ⟨hg4.out⟩
    have l0 := HB4.out.cell
    clear hg4 hb4 HC1 HC2 HC3 HK HX HG HR HF HF0 HD HW H HI
    have f1 : bits .or .u64 0 y1 = y1 := by have := bits_or_u64 0 y1 (by omega) (by omega) (by omega) (by omega); simpa using this
    have f2 : bits .or .u64 ((y1) * 256) y2 = (y1) * 256 + y2 := bits_or_u64 _ _ (by omega) (by omega) (by omega) (by omega)
    go_wp2_with fail
    refine wp_loop_rounds 9 ?_
    iterate 9 (rw [rounds_succ]; go_wp2_with fail)
    go_ret
    exact ⟨by simp [numV], HE.out.1, HE.out.2⟩
set_option maxRecDepth 100000 in
set_option maxHeartbeats 16000000 in
theorem num_4 (P G : Nat) (xs : List Int) (sp : Bool) (w : World) (hW : Rr w P G xs sp) :
    Calls Try.prog 32 #[.pointer (some ⟨P, 0, none⟩), .int .i64 4] w (NumGives .u64 P G (nxt xs sp 4) w) := by
  have H := Lib.hid (fun w hW => next_any P G xs sp 4 w hW (by omega))
  have HW := Lib.hid (hW.below (below_new w (.cells #[.int .u8 0, .int .u8 0, .int .u8 0, .int .u8 0, .int .u8 0, .int .u8 0, .int .u8 0, .int .u8 0] 73)))
  have HP := Lib.hid (show P < w.heap.size by obtain ⟨_, _, _, hb, _⟩ := hW.ex; exact hb.lt)
  have HD := Lib.hid (Blk.new w [.int .u8 0, .int .u8 0, .int .u8 0, .int .u8 0, .int .u8 0, .int .u8 0, .int .u8 0, .int .u8 0] 73 _ rfl)
  have HF0 := Lib.hid ((Fr.of_below (S := fun k => k = P) (below_new w (.cells #[.int .u8 0, .int .u8 0, .int .u8 0, .int .u8 0, .int .u8 0, .int .u8 0, .int .u8 0, .int .u8 0] 73))).drew)
  have HL := Lib.hid (nxt_first xs sp 4)
  have HG0 := Lib.hid (fun h => hW.glt (nxt_rest (xs := xs) (sp := sp) (k := 4) h))
  have HI := Lib.hid (nxt_in sp 4 hW.inb)
  generalize hr : nxt xs sp 4 = r at *
  clear hr
  obtain ⟨r1, r2, r3⟩ := r
  have HL := Lib.hid (show r1 = [] ∨ r1.length = 4 from HL.out)
  have HL2 := Lib.hid (show r1.length ≤ 4 by rcases HL.out with e | e <;> simp [e])
  clear hW
  have hw6 : IntKind.i64.wrap 4 = 4 := by decide
  go_enter Try.func32, Try.ntmps32
  go_wp2_with fail
  go_region_law (first
    | (go_simp; go_at_call 29; first | refine (H.out _ HW.out).mono ?_ | refine (H.out _ (HW.out.below ((Below.refl _ _).drew))).mono ?_
       rintro e w1 ⟨A, n, c, rfl, hr, hg, hR, hf⟩
       have HX := Lib.hid hr; have HG := Lib.hid hg; have HR := Lib.hid hR; have HF := Lib.hid hf; clear hr hg hR hf
       have HK := Lib.hid (HD.out.drew.fr HF.out (fun e => by have := HP.out; omega))
       have HC1 := Lib.hid (show (byV r1).length = Nat.min n 4 by rw [byV_length, HX.out.len]; exact (Nat.min_eq_left (by have := HX.out.len; have := HL2.out; dsimp only at *; omega)).symm)
       have HC2 := Lib.hid (show 4 + (byV r1).length ≤ 8 by have := HL2.out; rw [byV_length]; dsimp only at *; omega)
       have HC3 := Lib.hid (show 0 < (byV r1).length → 0 < n from fun h => by rw [byV_length] at h; have := HX.out.len; dsimp only at *; omega))
    | (refine step_copy_splice rfl (.tmp 11) (.tmp 14) 23 23 rfl 5 Try.underlying23 (by kernel_rfl) _ _ _ _ _ _ rfl rfl w.heap.size 4 _ _ HK.out.h (byV r1) HC1.out (fun h => ⟨rfl, byV_src HX.out (HC3.out h)⟩) HC2.out (byV_one _) w.heap.size w1 (Below.refl _ _) (Nat.le_refl _) ?_
       intro w4 hg4 hb4))
  have HE : Hid (Rr w4 P G r2 r3 ∧ Fr (fun k => k = P) w w4) := Lib.hid ⟨HR.out.low hb4 HP.out HG0.out, by
    have h1 := HF0.out.trans HF.out (fun _ _ h => h)
    exact ⟨hb4.os.trans h1.os, hb4.tape.trans h1.tape, hb4.output.trans h1.output, Nat.le_trans h1.size hb4.size, fun k hk hn => (hb4.block k hk).trans (h1.block k hk hn)⟩⟩
  have hz : bits .or .u64 0 0 = 0 := by decide
  have HL := HL.out
  rcases HL with h | h
  · subst h
    have HB4 : Hid (Blk w4 w.heap.size [.int .u8 0, .int .u8 0, .int .u8 0, .int .u8 0, .int .u8 0, .int .u8 0, .int .u8 0, .int .u8 0] 73) := Lib.hid ⟨hg4.out⟩
    have l0 := HB4.out.cell
    clear hg4 hb4 HC1 HC2 HC3 HK HX HG HR HF HF0 HD HW H
    go_wp2_with fail
    refine wp_loop_rounds 9 ?_
    iterate 9 (rw [rounds_succ]; go_wp2_with fail)
    go_ret
    exact ⟨rfl, HE.out.1, HE.out.2⟩
  · obtain ⟨y1, y2, y3, y4, rfl⟩ : ∃ y1 y2 y3 y4, r1 = [y1, y2, y3, y4] := by
      match r1, h with
      | [y1, y2, y3, y4], _ => exact ⟨_, _, _, _, rfl⟩
    have g1 := HI.out y1 (by simp)
    have g2 := HI.out y2 (by simp)
    have g3 := HI.out y3 (by simp)
    have g4 := HI.out y4 (by simp)
    have HB4 : Hid (Blk w4 w.heap.size [.int .u8 0, .int .u8 0, .int .u8 0, .int .u8 0, .int .u8 y1, .int .u8 y2, .int .u8 y3, .int .u8 y4] 73) := Lib.hid ⟨hg4.out⟩
    have l0 := HB4.out.cell
    clear hg4 hb4 HC1 HC2 HC3 HK HX HG HR HF HF0 HD HW H HI
    have f1 : bits .or .u64 0 y1 = y1 := by have := bits_or_u64 0 y1 (by omega) (by omega) (by omega) (by omega); simpa using this
    have f2 : bits .or .u64 ((y1) * 256) y2 = (y1) * 256 + y2 := bits_or_u64 _ _ (by omega) (by omega) (by omega) (by omega)
    have f3 : bits .or .u64 (((y1) * 256 + y2) * 256) y3 = ((y1) * 256 + y2) * 256 + y3 := bits_or_u64 _ _ (by omega) (by omega) (by omega) (by omega)
    have f4 : bits .or .u64 ((((y1) * 256 + y2) * 256 + y3) * 256) y4 = (((y1) * 256 + y2) * 256 + y3) * 256 + y4 := bits_or_u64 _ _ (by omega) (by omega) (by omega) (by omega)
    go_wp2_with fail
    refine wp_loop_rounds 9 ?_
    iterate 9 (rw [rounds_succ]; go_wp2_with fail)
    go_ret
    exact ⟨by simp [numV], HE.out.1, HE.out.2⟩
set_option maxRecDepth 100000 in
set_option maxHeartbeats 16000000 in
theorem num_8 (P G : Nat) (xs : List Int) (sp : Bool) (w : World) (hW : Rr w P G xs sp) :
    Calls Try.prog 32 #[.pointer (some ⟨P, 0, none⟩), .int .i64 8] w (NumGives .u64 P G (nxt xs sp 8) w) := by
  have H := Lib.hid (fun w hW => next_any P G xs sp 8 w hW (by omega))
  have HW := Lib.hid (hW.below (below_new w (.cells #[.int .u8 0, .int .u8 0, .int .u8 0, .int .u8 0, .int .u8 0, .int .u8 0, .int .u8 0, .int .u8 0] 73)))
  have HP := Lib.hid (show P < w.heap.size by obtain ⟨_, _, _, hb, _⟩ := hW.ex; exact hb.lt)
  have HD := Lib.hid (Blk.new w [.int .u8 0, .int .u8 0, .int .u8 0, .int .u8 0, .int .u8 0, .int .u8 0, .int .u8 0, .int .u8 0] 73 _ rfl)
  have HF0 := Lib.hid ((Fr.of_below (S := fun k => k = P) (below_new w (.cells #[.int .u8 0, .int .u8 0, .int .u8 0, .int .u8 0, .int .u8 0, .int .u8 0, .int .u8 0, .int .u8 0] 73))).drew)
  have HL := Lib.hid (nxt_first xs sp 8)
  have HG0 := Lib.hid (fun h => hW.glt (nxt_rest (xs := xs) (sp := sp) (k := 8) h))
  have HI := Lib.hid (nxt_in sp 8 hW.inb)
  generalize hr : nxt xs sp 8 = r at *
  clear hr
  obtain ⟨r1, r2, r3⟩ := r
  have HL := Lib.hid (show r1 = [] ∨ r1.length = 8 from HL.out)
  have HL2 := Lib.hid (show r1.length ≤ 8 by rcases HL.out with e | e <;> simp [e])
  clear hW
  have hw6 : IntKind.i64.wrap 0 = 0 := by decide
  go_enter Try.func32, Try.ntmps32
  go_wp2_with fail
  go_region_law (first
    | (go_simp; go_at_call 29; first | refine (H.out _ HW.out).mono ?_ | refine (H.out _ (HW.out.below ((Below.refl _ _).drew))).mono ?_
       rintro e w1 ⟨A, n, c, rfl, hr, hg, hR, hf⟩
       have HX := Lib.hid hr; have HG := Lib.hid hg; have HR := Lib.hid hR; have HF := Lib.hid hf; clear hr hg hR hf
       have HK := Lib.hid (HD.out.drew.fr HF.out (fun e => by have := HP.out; omega))
       have HC1 := Lib.hid (show (byV r1).length = Nat.min n 8 by rw [byV_length, HX.out.len]; exact (Nat.min_eq_left (by have := HX.out.len; have := HL2.out; dsimp only at *; omega)).symm)
       have HC2 := Lib.hid (show 0 + (byV r1).length ≤ 8 by have := HL2.out; rw [byV_length]; dsimp only at *; omega)
       have HC3 := Lib.hid (show 0 < (byV r1).length → 0 < n from fun h => by rw [byV_length] at h; have := HX.out.len; dsimp only at *; omega))
    | (refine step_copy_splice rfl (.tmp 11) (.tmp 14) 23 23 rfl 5 Try.underlying23 (by kernel_rfl) _ _ _ _ _ _ rfl rfl w.heap.size 0 _ _ HK.out.h (byV r1) HC1.out (fun h => ⟨rfl, byV_src HX.out (HC3.out h)⟩) HC2.out (byV_one _) w.heap.size w1 (Below.refl _ _) (Nat.le_refl _) ?_
       intro w4 hg4 hb4))
  have HE : Hid (Rr w4 P G r2 r3 ∧ Fr (fun k => k = P) w w4) := Lib.hid ⟨HR.out.low hb4 HP.out HG0.out, by
    have h1 := HF0.out.trans HF.out (fun _ _ h => h)
    exact ⟨hb4.os.trans h1.os, hb4.tape.trans h1.tape, hb4.output.trans h1.output, Nat.le_trans h1.size hb4.size, fun k hk hn => (hb4.block k hk).trans (h1.block k hk hn)⟩⟩
  have hz : bits .or .u64 0 0 = 0 := by decide
  have HL := HL.out
  rcases HL with h | h
  · subst h
    have HB4 : Hid (Blk w4 w.heap.size [.int .u8 0, .int .u8 0, .int .u8 0, .int .u8 0, .int .u8 0, .int .u8 0, .int .u8 0, .int .u8 0] 73) := Lib.hid ⟨hg4.out⟩
    have l0 := HB4.out.cell
    clear hg4 hb4 HC1 HC2 HC3 HK HX HG HR HF HF0 HD HW H
    go_wp2_with fail
    refine wp_loop_rounds 9 ?_
    iterate 9 (rw [rounds_succ]; go_wp2_with fail)
    go_ret
    exact ⟨rfl, HE.out.1, HE.out.2⟩
  · obtain ⟨y1, y2, y3, y4, y5, y6, y7, y8, rfl⟩ : ∃ y1 y2 y3 y4 y5 y6 y7 y8, r1 = [y1, y2, y3, y4, y5, y6, y7, y8] := by
      match r1, h with
      | [y1, y2, y3, y4, y5, y6, y7, y8], _ => exact ⟨_, _, _, _, _, _, _, _, rfl⟩
    have g1 := HI.out y1 (by simp)
    have g2 := HI.out y2 (by simp)
    have g3 := HI.out y3 (by simp)
    have g4 := HI.out y4 (by simp)
    have g5 := HI.out y5 (by simp)
    have g6 := HI.out y6 (by simp)
    have g7 := HI.out y7 (by simp)
    have g8 := HI.out y8 (by simp)
    have HB4 : Hid (Blk w4 w.heap.size [.int .u8 y1, .int .u8 y2, .int .u8 y3, .int .u8 y4, .int .u8 y5, .int .u8 y6, .int .u8 y7, .int .u8 y8] 73) := Lib.hid ⟨hg4.out⟩
    have l0 := HB4.out.cell
    clear hg4 hb4 HC1 HC2 HC3 HK HX HG HR HF HF0 HD HW H HI
    have f1 : bits .or .u64 0 y1 = y1 := by have := bits_or_u64 0 y1 (by omega) (by omega) (by omega) (by omega); simpa using this
    have f2 : bits .or .u64 ((y1) * 256) y2 = (y1) * 256 + y2 := bits_or_u64 _ _ (by omega) (by omega) (by omega) (by omega)
    have f3 : bits .or .u64 (((y1) * 256 + y2) * 256) y3 = ((y1) * 256 + y2) * 256 + y3 := bits_or_u64 _ _ (by omega) (by omega) (by omega) (by omega)
    have f4 : bits .or .u64 ((((y1) * 256 + y2) * 256 + y3) * 256) y4 = (((y1) * 256 + y2) * 256 + y3) * 256 + y4 := bits_or_u64 _ _ (by omega) (by omega) (by omega) (by omega)
    have f5 : bits .or .u64 (((((y1) * 256 + y2) * 256 + y3) * 256 + y4) * 256) y5 = ((((y1) * 256 + y2) * 256 + y3) * 256 + y4) * 256 + y5 := bits_or_u64 _ _ (by omega) (by omega) (by omega) (by omega)
    have f6 : bits .or .u64 ((((((y1) * 256 + y2) * 256 + y3) * 256 + y4) * 256 + y5) * 256) y6 = (((((y1) * 256 + y2) * 256 + y3) * 256 + y4) * 256 + y5) * 256 + y6 := bits_or_u64 _ _ (by omega) (by omega) (by omega) (by omega)
    have f7 : bits .or .u64 (((((((y1) * 256 + y2) * 256 + y3) * 256 + y4) * 256 + y5) * 256 + y6) * 256) y7 = ((((((y1) * 256 + y2) * 256 + y3) * 256 + y4) * 256 + y5) * 256 + y6) * 256 + y7 := bits_or_u64 _ _ (by omega) (by omega) (by omega) (by omega)
    have f8 : bits .or .u64 ((((((((y1) * 256 + y2) * 256 + y3) * 256 + y4) * 256 + y5) * 256 + y6) * 256 + y7) * 256) y8 = (((((((y1) * 256 + y2) * 256 + y3) * 256 + y4) * 256 + y5) * 256 + y6) * 256 + y7) * 256 + y8 := bits_or_u64 _ _ (by omega) (by omega) (by omega) (by omega)
    go_wp2_with fail
    refine wp_loop_rounds 9 ?_
    iterate 9 (rw [rounds_succ]; go_wp2_with fail)
    go_ret
    exact ⟨by simp [numV], HE.out.1, HE.out.2⟩
end Go.Proofs.Ytnpiocbgbpnlmaa
