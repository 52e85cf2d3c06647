/- Contracts of text, read. -/
import Derived.Test.YtnpiocbgbpnlmaaRows
import Derived.Test.YtnpiocbgbpnlmaaWords
import Derived.Test.YtnpiocbgbpnlmaaByts
import Derived.Test.YtnpiocbgbpnlmaaStrs
import Derived.Test.YtnpiocbgbpnlmaaFrame
import Derived.Test.YtnpiocbgbpnlmaaA1
import Derived.Test.YtnpiocbgbpnlmaaA2
import Derived.Test.YtnpiocbgbpnlmaaA3
import Derived.Test.YtnpiocbgbpnlmaaA4
import Derived.Test.YtnpiocbgbpnlmaaA5
import Derived.Test.YtnpiocbgbpnlmaaA6
import Derived.Test.YtnpiocbgbpnlmaaA7
import Derived.Test.YtnpiocbgbpnlmaaA8
import Derived.Deep.RegionWith
import Derived.Deep.RegionLaw
namespace Go.Proofs.Ytnpiocbgbpnlmaa
open Go Go.Lib Go.RowKit Go.Proofs.Tail
set_option linter.unusedSimpArgs false
set_option linter.unusedVariables false
set_option maxHeartbeats 4000000 in
theorem text_any (x : Th) (hx : x.ok) (w : World) : Calls Try.prog 22 #[.agg #[.int .i8 x.s, .int .u64 x.n, .string x.b]] w (Gives (.string (strOfNums x.txt)) w) := by
  have HB := Lib.hid (Th.box w x)
  have HL := Lib.hid (below_new w x.bx)
  have l0 := HB.out.cell
  by_cases h0 : x.wide = 0
  · have HV := Lib.hid (wide_is x h0)
    have HT := Lib.hid (show strOfNums x.txt = x.b by unfold Th.txt; rw [if_pos h0, str_nums])
    clear h0
    go_enter Try.func22, Try.ntmps22
    go_wp2_with fail
    refine (HV.out _).mono ?_
    rintro e w1 ⟨rfl, hb⟩
    have HB1 := Lib.hid (HB.out.then hb)
    have HL1 := Lib.hid (below_then HL.out hb)
    clear l0 hb HB HL
    have l0 := HB1.out.cell
    go_wp2_with fail
    go_ret
    exact ⟨by rw [HT.out]; rfl, HL1.out⟩
  · have HV := Lib.hid (wide_any x)
    have HT := Lib.hid (show strOfNums x.txt = strOfNums (be x.n x.wide) by unfold Th.txt; rw [if_neg h0])
    have hne : ((x.wide : Int) == 0) = false := by simpa using h0
    have hne' : (x.wide == 0) = false := by simpa using h0
    have hw8 : x.wide ≤ 8 := by rcases x.cases with ⟨_, h⟩ | ⟨_, h⟩ | ⟨_, h⟩ | ⟨_, h⟩ | ⟨_, _, _, _, h⟩ <;> omega
    have HY := Lib.hid (fun w => bytes_any x.wide x.n w hw8 hx.n0 hx.n1)
    have hlb := Lib.hid (be_length x.n x.wide)
    generalize hwd : x.wide = k at *
    clear h0 hwd
    go_enter Try.func22, Try.ntmps22
    go_wp2_with fail
    refine (HV.out _).mono ?_
    rintro e w1 ⟨rfl, hb⟩
    have HB1 := Lib.hid (HB.out.then hb)
    have HL1 := Lib.hid (below_then HL.out hb)
    clear l0 hb HB HL
    have l0 := HB1.out.cell
    go_wp2_with fail
    go_region_with (first
      | (go_at_call 18; refine (HV.out _).mono ?_
         rintro e w2 ⟨rfl, hb⟩
         first | (have HB2 := Lib.hid (HB1.out.then hb); have HL2 := Lib.hid (below_then HL1.out hb)) | (have HB2 := Lib.hid (HB1.out.drew.then hb); have HL2 := Lib.hid (below_then HL1.out.drew hb))
         have l2 := HB2.out.cell
         clear hb)
      | (go_at_call 30; refine (HY.out _).mono ?_
         rintro e w3 ⟨v, rfl, ho, hb⟩
         first | have HL3 := Lib.hid (below_then HL2.out hb) | have HL3 := Lib.hid (below_then HL2.out.drew hb)
         obtain ⟨A, c, rfl, hr⟩ := own_byts ho (by have := hlb.out; omega)
         have hcv := run_convert_byts w3 23 5 Try.underlying23 Try.underlying5 hr 9 Try.underlying9
         clear ho hb hr))
    all_goals
      go_wp2_with fail
      go_ret
      exact ⟨by rw [HT.out]; rfl, HL3.out⟩
/-- What 'read' does. -/
def ReadGives (P G : Nat) (s : List Int) (r : List Int × List Int × Bool) (w : World) (e : Ending) (w' : World) : Prop :=
  e = .returned (.string (strOfNums s)) ∧ Rr w' P G r.2.1 r.2.2 ∧ Fr (fun k => k = P) w w'
set_option maxHeartbeats 4000000 in
theorem read_1 (x : Th) (h : x.wide = 1) (P G : Nat) (xs : List Int) (sp : Bool) (w : World) (hW : Rr w P G xs sp) :
    Calls Try.prog 19 #[.agg #[.int .i8 x.s, .int .u64 x.n, .string x.b], .pointer (some ⟨P, 0, none⟩)] w (ReadGives P G (x.readL (nxt xs sp 1).1) (nxt xs sp 1) w) := by
  have HB := Lib.hid (Th.box w x)
  have HL := Lib.hid (below_new w x.bx)
  have HW := Lib.hid hW
  have HV := Lib.hid (wide_is x h)
  have l0 := HB.out.cell
  obtain ⟨h0, h1, h2⟩ := numV_1 (nxt_in sp 1 hW.inb) (nxt_first xs sp 1)
  have HR := Lib.hid (fun w hW => rbyte_any P G xs sp w hW)
  have HT := Lib.hid (show be (numV (nxt xs sp 1).1) 1 = x.readL (nxt xs sp 1).1 by unfold Th.readL; rw [h, if_neg (by decide)]; exact h2)
  generalize nxt xs sp 1 = r at *
  generalize x.readL r.1 = ans at *
  have hb0 : 0 ≤ numV r.1 := h0
  have hb1 : numV r.1 < 256 := h1
  have HY := Lib.hid (fun w => bytes_any 1 (numV r.1) w (by omega) hb0 (by omega))
  have hlb := Lib.hid (be_length (numV r.1) 1)
  clear hW h h0 h1 h2
  go_enter Try.func19, Try.ntmps19
  go_wp2_with fail
  refine (HV.out _).mono ?_
  rintro e w1 ⟨rfl, hb⟩
  have HL1 := Lib.hid (below_then HL.out hb)
  clear l0 hb HB HL
  go_wp2_with fail
  refine (HR.out _ (HW.out.below HL1.out)).mono ?_
  rintro e w2 ⟨rfl, hR, hF⟩
  have HRR := Lib.hid hR
  have HF := Lib.hid ((Fr.of_below (S := fun k => k = P) HL1.out).trans hF (fun _ _ h => h))
  clear hR hF
  go_wp2_with fail
  refine (HY.out _).mono ?_
  rintro e w3 ⟨v, rfl, ho, hb⟩
  obtain ⟨A, c, rfl, hr⟩ := own_byts ho (by have := hlb.out; omega)
  have hcv := run_convert_byts w3 23 5 Try.underlying23 Try.underlying5 hr 9 Try.underlying9
  have HX := Lib.hid (And.intro (HRR.out.below hb) (HF.out.then hb))
  clear ho hb hr HF HRR
  go_wp2_with fail
  go_ret
  exact ⟨by rw [← HT.out]; rfl, HX.out.1, HX.out.2⟩
set_option maxHeartbeats 4000000 in
theorem read_2 (x : Th) (h : x.wide = 2) (P G : Nat) (xs : List Int) (sp : Bool) (w : World) (hW : Rr w P G xs sp) :
    Calls Try.prog 19 #[.agg #[.int .i8 x.s, .int .u64 x.n, .string x.b], .pointer (some ⟨P, 0, none⟩)] w (ReadGives P G (x.readL (nxt xs sp 2).1) (nxt xs sp 2) w) := by
  have HB := Lib.hid (Th.box w x)
  have HL := Lib.hid (below_new w x.bx)
  have HW := Lib.hid hW
  have HV := Lib.hid (wide_is x h)
  have l0 := HB.out.cell
  obtain ⟨h0, h1, h2⟩ := numV_2 (nxt_in sp 2 hW.inb) (nxt_first xs sp 2)
  have HR := Lib.hid (fun w hW => rshort_any P G xs sp w hW)
  have HT := Lib.hid (show be (numV (nxt xs sp 2).1) 2 = x.readL (nxt xs sp 2).1 by unfold Th.readL; rw [h, if_neg (by decide)]; exact h2)
  generalize nxt xs sp 2 = r at *
  generalize x.readL r.1 = ans at *
  have hb0 : 0 ≤ numV r.1 := h0
  have hb1 : numV r.1 < 65536 := h1
  have HY := Lib.hid (fun w => bytes_any 2 (numV r.1) w (by omega) hb0 (by omega))
  have hlb := Lib.hid (be_length (numV r.1) 2)
  clear hW h h0 h1 h2
  go_enter Try.func19, Try.ntmps19
  go_wp2_with fail
  refine (HV.out _).mono ?_
  rintro e w1 ⟨rfl, hb⟩
  have HL1 := Lib.hid (below_then HL.out hb)
  clear l0 hb HB HL
  go_wp2_with fail
  refine (HR.out _ (HW.out.below HL1.out)).mono ?_
  rintro e w2 ⟨rfl, hR, hF⟩
  have HRR := Lib.hid hR
  have HF := Lib.hid ((Fr.of_below (S := fun k => k = P) HL1.out).trans hF (fun _ _ h => h))
  clear hR hF
  go_wp2_with fail
  refine (HY.out _).mono ?_
  rintro e w3 ⟨v, rfl, ho, hb⟩
  obtain ⟨A, c, rfl, hr⟩ := own_byts ho (by have := hlb.out; omega)
  have hcv := run_convert_byts w3 23 5 Try.underlying23 Try.underlying5 hr 9 Try.underlying9
  have HX := Lib.hid (And.intro (HRR.out.below hb) (HF.out.then hb))
  clear ho hb hr HF HRR
  go_wp2_with fail
  go_ret
  exact ⟨by rw [← HT.out]; rfl, HX.out.1, HX.out.2⟩
set_option maxHeartbeats 4000000 in
theorem read_4 (x : Th) (h : x.wide = 4) (P G : Nat) (xs : List Int) (sp : Bool) (w : World) (hW : Rr w P G xs sp) :
    Calls Try.prog 19 #[.agg #[.int .i8 x.s, .int .u64 x.n, .string x.b], .pointer (some ⟨P, 0, none⟩)] w (ReadGives P G (x.readL (nxt xs sp 4).1) (nxt xs sp 4) w) := by
  have HB := Lib.hid (Th.box w x)
  have HL := Lib.hid (below_new w x.bx)
  have HW := Lib.hid hW
  have HV := Lib.hid (wide_is x h)
  have l0 := HB.out.cell
  obtain ⟨h0, h1, h2⟩ := numV_4 (nxt_in sp 4 hW.inb) (nxt_first xs sp 4)
  have HR := Lib.hid (fun w hW => rword_any P G xs sp w hW)
  have HT := Lib.hid (show be (numV (nxt xs sp 4).1) 4 = x.readL (nxt xs sp 4).1 by unfold Th.readL; rw [h, if_neg (by decide)]; exact h2)
  generalize nxt xs sp 4 = r at *
  generalize x.readL r.1 = ans at *
  have hb0 : 0 ≤ numV r.1 := h0
  have hb1 : numV r.1 < 4294967296 := h1
  have HY := Lib.hid (fun w => bytes_any 4 (numV r.1) w (by omega) hb0 (by omega))
  have hlb := Lib.hid (be_length (numV r.1) 4)
  clear hW h h0 h1 h2
  go_enter Try.func19, Try.ntmps19
  go_wp2_with fail
  refine (HV.out _).mono ?_
  rintro e w1 ⟨rfl, hb⟩
  have HL1 := Lib.hid (below_then HL.out hb)
  clear l0 hb HB HL
  go_wp2_with fail
  refine (HR.out _ (HW.out.below HL1.out)).mono ?_
  rintro e w2 ⟨rfl, hR, hF⟩
  have HRR := Lib.hid hR
  have HF := Lib.hid ((Fr.of_below (S := fun k => k = P) HL1.out).trans hF (fun _ _ h => h))
  clear hR hF
  go_wp2_with fail
  refine (HY.out _).mono ?_
  rintro e w3 ⟨v, rfl, ho, hb⟩
  obtain ⟨A, c, rfl, hr⟩ := own_byts ho (by have := hlb.out; omega)
  have hcv := run_convert_byts w3 23 5 Try.underlying23 Try.underlying5 hr 9 Try.underlying9
  have HX := Lib.hid (And.intro (HRR.out.below hb) (HF.out.then hb))
  clear ho hb hr HF HRR
  go_wp2_with fail
  go_ret
  exact ⟨by rw [← HT.out]; rfl, HX.out.1, HX.out.2⟩
set_option maxHeartbeats 4000000 in
theorem read_8 (x : Th) (h : x.wide = 8) (P G : Nat) (xs : List Int) (sp : Bool) (w : World) (hW : Rr w P G xs sp) :
    Calls Try.prog 19 #[.agg #[.int .i8 x.s, .int .u64 x.n, .string x.b], .pointer (some ⟨P, 0, none⟩)] w (ReadGives P G (x.readL (nxt xs sp 8).1) (nxt xs sp 8) w) := by
  have HB := Lib.hid (Th.box w x)
  have HL := Lib.hid (below_new w x.bx)
  have HW := Lib.hid hW
  have HV := Lib.hid (wide_is x h)
  have l0 := HB.out.cell
  obtain ⟨h0, h1, h2⟩ := numV_8 (nxt_in sp 8 hW.inb) (nxt_first xs sp 8)
  have HR := Lib.hid (fun w hW => rlong_any P G xs sp w hW)
  have HT := Lib.hid (show be (numV (nxt xs sp 8).1) 8 = x.readL (nxt xs sp 8).1 by unfold Th.readL; rw [h, if_neg (by decide)]; exact h2)
  generalize nxt xs sp 8 = r at *
  generalize x.readL r.1 = ans at *
  have hb0 : 0 ≤ numV r.1 := h0
  have hb1 : numV r.1 < 18446744073709551616 := h1
  have HY := Lib.hid (fun w => bytes_any 8 (numV r.1) w (by omega) hb0 (by omega))
  have hlb := Lib.hid (be_length (numV r.1) 8)
  clear hW h h0 h1 h2
  go_enter Try.func19, Try.ntmps19
  go_wp2_with fail
  refine (HV.out _).mono ?_
  rintro e w1 ⟨rfl, hb⟩
  have HL1 := Lib.hid (below_then HL.out hb)
  clear l0 hb HB HL
  go_wp2_with fail
  refine (HR.out _ (HW.out.below HL1.out)).mono ?_
  rintro e w2 ⟨rfl, hR, hF⟩
  have HRR := Lib.hid hR
  have HF := Lib.hid ((Fr.of_below (S := fun k => k = P) HL1.out).trans hF (fun _ _ h => h))
  clear hR hF
  go_wp2_with fail
  refine (HY.out _).mono ?_
  rintro e w3 ⟨v, rfl, ho, hb⟩
  obtain ⟨A, c, rfl, hr⟩ := own_byts ho (by have := hlb.out; omega)
  have hcv := run_convert_byts w3 23 5 Try.underlying23 Try.underlying5 hr 9 Try.underlying9
  have HX := Lib.hid (And.intro (HRR.out.below hb) (HF.out.then hb))
  clear ho hb hr HF HRR
  go_wp2_with fail
  go_ret
  exact ⟨by rw [← HT.out]; rfl, HX.out.1, HX.out.2⟩
set_option maxHeartbeats 4000000 in
theorem read_0 (x : Th) (hx : x.ok) (h : x.wide = 0) (P G : Nat) (xs : List Int) (sp : Bool) (w : World) (hW : Rr w P G xs sp) (hlim : xs.length ≤ 140737488355328) :
    Calls Try.prog 19 #[.agg #[.int .i8 x.s, .int .u64 x.n, .string x.b], .pointer (some ⟨P, 0, none⟩)] w (ReadGives P G (x.readL (nxt xs sp x.b.size).1) (nxt xs sp x.b.size) w) := by
  have HB := Lib.hid (Th.box w x)
  have HL := Lib.hid (below_new w x.bx)
  have HW := Lib.hid hW
  have HV := Lib.hid (wide_is x h)
  have l0 := HB.out.cell
  have hbb := hx.bb
  have hrl := Lib.hid (nxt_len xs sp x.b.size)
  have HR := Lib.hid (fun w hW => rraw_any P G xs sp x.b.size w hW (by omega) hlim)
  have HT := Lib.hid (show (nxt xs sp x.b.size).1 = x.readL (nxt xs sp x.b.size).1 by unfold Th.readL; rw [h, if_pos rfl])
  generalize nxt xs sp x.b.size = r at *
  generalize x.readL r.1 = ans at *
  clear hW h hx
  go_enter Try.func19, Try.ntmps19
  go_wp2_with fail
  refine (HV.out _).mono ?_
  rintro e w1 ⟨rfl, hb⟩
  have HL1 := Lib.hid (below_then HL.out hb)
  have HB1 := Lib.hid (HB.out.then hb)
  clear l0 hb HB HL
  have l0 := HB1.out.cell
  go_wp2_with fail
  refine (HR.out _ (HW.out.below HL1.out)).mono ?_
  rintro e w2 ⟨v, rfl, ho, hR, hF⟩
  obtain ⟨A, c, rfl, hr⟩ := own_byts ho (by have := hrl.out; omega)
  have hcv := run_convert_byts w2 23 5 Try.underlying23 Try.underlying5 hr 9 Try.underlying9
  have HX := Lib.hid (And.intro hR ((Fr.of_below (S := fun k => k = P) HL1.out).trans hF (fun _ _ h => h)))
  clear ho hr hR hF l0
  go_wp2_with fail
  go_ret
  exact ⟨by rw [← HT.out]; rfl, HX.out.1, HX.out.2⟩
theorem read_any (x : Th) (hx : x.ok) (P G : Nat) (xs : List Int) (sp : Bool) (w : World) (hW : Rr w P G xs sp) (hlim : xs.length ≤ 140737488355328) :
    Calls Try.prog 19 #[.agg #[.int .i8 x.s, .int .u64 x.n, .string x.b], .pointer (some ⟨P, 0, none⟩)] w (ReadGives P G (x.readL (nxt xs sp x.wants).1) (nxt xs sp x.wants) w) := by
  rcases x.cases with ⟨_, h⟩ | ⟨_, h⟩ | ⟨_, h⟩ | ⟨_, h⟩ | ⟨_, _, _, _, h⟩
  · have e : x.wants = 1 := by unfold Th.wants; rw [h]; rfl
    rw [e]; exact read_1 x h P G xs sp w hW
  · have e : x.wants = 2 := by unfold Th.wants; rw [h]; rfl
    rw [e]; exact read_2 x h P G xs sp w hW
  · have e : x.wants = 4 := by unfold Th.wants; rw [h]; rfl
    rw [e]; exact read_4 x h P G xs sp w hW
  · have e : x.wants = 8 := by unfold Th.wants; rw [h]; rfl
    rw [e]; exact read_8 x h P G xs sp w hW
  · have e : x.wants = x.b.size := by unfold Th.wants; rw [if_pos h]
    rw [e]; exact read_0 x hx h P G xs sp w hW hlim
end Go.Proofs.Ytnpiocbgbpnlmaa
