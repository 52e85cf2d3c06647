/- The chapter's examples hold. -/
import Derived.Test.YtamniepfgddecaaRows
import Derived.Deep.RegionHeld3
import Derived.Laws.OwnMore
import Derived.Laws.Rows
import Derived.Test.YtamniepfgddecaaWords
import Derived.Test.YtamniepfgddecaaByts
import Derived.Test.YtamniepfgddecaaFrame
import Derived.Test.YtamniepfgddecaaElems
import Derived.Test.YtamniepfgddecaaEqs
import Derived.Test.YtamniepfgddecaaS1
import Derived.Test.YtamniepfgddecaaS2
import Derived.Test.YtamniepfgddecaaS4
import Derived.Test.YtamniepfgddecaaU1
import Derived.Test.YtamniepfgddecaaU4
import Derived.Test.YtamniepfgddecaaA1
import Derived.Test.YtamniepfgddecaaA2
import Derived.Test.YtamniepfgddecaaA3
import Derived.Test.YtamniepfgddecaaA4
import Derived.Test.YtamniepfgddecaaA5
import Derived.Test.YtamniepfgddecaaB1
import Derived.Test.YtamniepfgddecaaB5
import Derived.Test.YtamniepfgddecaaP1
import Derived.Test.YtamniepfgddecaaP3
import Derived.Test.YtamniepfgddecaaL0
namespace Go.Proofs.Ytamniepfgddecaa
open Go Go.RowKit Go.Proofs.Tail Go.Sort
set_option linter.unusedSimpArgs false
set_option linter.unusedVariables false
attribute [local go_sem high] eq_stamp
def tt (e n : Int) : T := ⟨1, e, n, 0, 0⟩
theorem t_any (e n : Int) (w : World) : Calls Try.prog 27 #[.int .i64 e, .int .i64 n] w (Gives (.agg #[.int .i64 1, .int .i64 e, .int .i64 n, .int .i64 0, .int .i64 0]) w) := by
  go_enter Try.func27, Try.ntmps27
  go_wp2_with fail
  refine bodyPost_ret (v := .agg #[.int .i64 1, .int .i64 e, .int .i64 n, .int .i64 0, .int .i64 0]) ?_ rfl ⟨rfl, below_new _ _⟩
  exact results_cell_row rfl _ _ w.heap.size _ _ _ _ rfl (heap_alloc_new _ _) Try.underlying32 rfl (by kernel_rfl)
theorem tms_lit (W : World) (ts : List T) (cs : Array Value) (h : cs.toList = recT ts) (n : Nat) (hn : ts.length = n) (hb : n ≤ 1000) : Tms (W.alloc (.cells cs 32)) (some ⟨W.heap.size, 0, none⟩) n n ts := by
  have h1 := World.ownsRow_lit (e := 32) (size := 5) (base := 0) W cs n (Nat.zero_le _) (by unfold maxLen; omega) (by rw [← Array.length_toList, h, recT_length, hn])
  rw [h] at h1
  obtain ⟨A, c, e, hr⟩ := own_tms h1 (by omega)
  cases e
  exact hr

theorem tms_cap {w : World} {A : Option Addr} {n c c' : Nat} {ts : List T} (h : Tms w A n c ts) (hc : n ≤ c') : Tms w A n c' ts := ⟨h.len, hc, h.big, h.at_⟩
theorem holds_tt (A : Option Addr) (c : Nat) (e n : Int) (b : Bool) (hb : holdsF [tt 1 2, tt 2 1] (tt e n) = b) (W : World) (h : Tms W A 2 c [tt 1 2, tt 2 1]) :
    Calls Try.prog 16 #[.slice A 2 c, .agg #[.int .i64 1, .int .i64 e, .int .i64 n, .int .i64 0, .int .i64 0]] W (Gives (.bool b) W) := by
  subst hb
  exact holds_any A 2 c _ (tt e n) W h (by omega)
theorem of_is {ts l : List T} (ha : ∀ t ∈ ts, t.rightB = true ∧ t.d = (ts.headD T0).d) (hs : l.Pairwise fun a b => cfT a b < 0) (h1 : ∀ t ∈ l, t ∈ ts ∧ ∀ s ∈ ts, leqB s t = true → s = t) (h2 : ∀ t ∈ ts, (∀ s ∈ ts, leqB s t = true → s = t) → t ∈ l) : ofT ts = some l := by
  obtain ⟨l', e, hf, hm⟩ := of_good ha
  rw [e]
  congr 1
  refine ssrt_eq hf.srt hs fun t => (hm t).trans ⟨fun h => h2 t h.1 h.2, fun h => h1 t h⟩
theorem right_is {ts : List T} (ha : ∀ t ∈ ts, t.rightB = true ∧ t.d = (ts.headD T0).d) (hs : ts.Pairwise fun a b => cfT a b < 0) (h3 : ts.Pairwise fun a b => leqB a b = false ∧ leqB b a = false) : rightF ts = true := rightF_iff.2 ⟨ha, hs, h3⟩
theorem F0 : ofT [tt 1 2, tt 2 1, tt 2 2, tt 1 2] = some [tt 1 2, tt 2 1] := of_is (by decide +kernel) (by decide +kernel) (by decide +kernel) (by decide +kernel)
theorem R1 : rightF [tt 1 2, tt 2 1] = true := right_is (by decide +kernel) (by decide +kernel) (by decide +kernel)
theorem R2 : rightF [tt 1 2] = true := right_is (by decide +kernel) (by decide +kernel) (by decide +kernel)
theorem R3 : rightF [tt 2 1] = true := right_is (by decide +kernel) (by decide +kernel) (by decide +kernel)
theorem R4 : rightF [tt 2 2] = true := right_is (by decide +kernel) (by decide +kernel) (by decide +kernel)
theorem R5 : rightF [] = true := right_is (by decide +kernel) (by decide +kernel) (by decide +kernel)
theorem F1 : bothF [tt 1 2] [tt 2 1] = some [tt 1 2, tt 2 1] := by
  unfold bothF
  rw [if_pos (alikeF_iff.2 ⟨R2, R3, by decide +kernel⟩)]
  exact of_is (by decide +kernel) (by decide +kernel) (by decide +kernel) (by decide +kernel)
theorem F2 : eitherF [tt 1 2] [tt 2 1] = some [tt 2 2] := by
  unfold eitherF
  rw [if_pos (alikeF_iff.2 ⟨R2, R3, by decide +kernel⟩)]
  exact of_is (by decide +kernel) (by decide +kernel) (by decide +kernel) (by decide +kernel)
theorem F3 : eitherF [tt 1 2, tt 2 1] [] = some [] := by
  unfold eitherF
  rw [if_pos (alikeF_iff.2 ⟨R1, R5, by decide +kernel⟩)]
  exact of_is (by decide +kernel) (by decide +kernel) (by decide +kernel) (by decide +kernel)
theorem F4 : holdsF [tt 1 2, tt 2 1] (tt 1 1) = true ∧ holdsF [tt 1 2, tt 2 1] (tt 1 2) = false ∧ holdsF [tt 1 2, tt 2 1] (tt 2 0) = true ∧ holdsF [tt 1 2, tt 2 1] (tt 3 3) = false := by
  unfold holdsF
  rw [R1]
  decide +kernel
theorem F5 : withinF [tt 1 2, tt 2 1] [tt 2 2] = true ∧ withinF [tt 2 2] [tt 1 2, tt 2 1] = false := by
  unfold withinF
  rw [alikeF_iff.2 ⟨R1, R4, by decide +kernel⟩, alikeF_iff.2 ⟨R4, R1, by decide +kernel⟩]
  decide +kernel

set_option maxRecDepth 100000 in
set_option maxHeartbeats 16000000 in
theorem works_any (w : World) : Calls Try.prog 10 #[] w (Gives (.bool true) w) := by
  have CT := Lib.hid t_any
  have I0 := Lib.hid (show Is (ofT [tt 1 2, tt 2 1, tt 2 2, tt 1 2]) [tt 1 2, tt 2 1] 2 0 from by rw [F0]; exact ⟨rfl, rfl, rfl, by omega⟩)
  have I1 := Lib.hid (show Is (bothF [tt 1 2] [tt 2 1]) [tt 1 2, tt 2 1] 2 0 from by rw [F1]; exact ⟨rfl, rfl, rfl, by omega⟩)
  have I2 := Lib.hid (show Is (eitherF [tt 1 2] [tt 2 1]) [tt 2 2] 1 0 from by rw [F2]; exact ⟨rfl, rfl, rfl, by omega⟩)
  have I3 := Lib.hid (show Is (eitherF [tt 1 2, tt 2 1] []) [] 0 0 from by rw [F3]; exact ⟨rfl, rfl, rfl, by omega⟩)
  go_enter Try.func10, Try.ntmps10
  go_wp2_with fail
  refine (CT.out 1 2 _).mono ?_
  rintro e w1 ⟨rfl, hb⟩
  have HB1 := Lib.hid (hb)
  clear hb
  go_wp2_with fail
  refine (CT.out 2 1 _).mono ?_
  rintro e w2 ⟨rfl, hb⟩
  have HB2 := Lib.hid (below_then HB1.out hb)
  clear hb HB1
  go_wp2_with fail
  refine (CT.out 2 2 _).mono ?_
  rintro e w3 ⟨rfl, hb⟩
  have HB3 := Lib.hid (below_then HB2.out hb)
  clear hb HB2
  go_wp2_with fail
  refine (CT.out 1 2 _).mono ?_
  rintro e w4 ⟨rfl, hb⟩
  have HB4 := Lib.hid (below_then HB3.out hb)
  clear hb HB3
  have C := Lib.hid ((of_any _ 4 4 _ _ (tms_lit w4 [tt 1 2, tt 2 1, tt 2 2, tt 1 2] #[.int .i64 1, .int .i64 1, .int .i64 2, .int .i64 0, .int .i64 0, .int .i64 1, .int .i64 2, .int .i64 1, .int .i64 0, .int .i64 0, .int .i64 1, .int .i64 2, .int .i64 2, .int .i64 0, .int .i64 0, .int .i64 1, .int .i64 1, .int .i64 2, .int .i64 0, .int .i64 0] rfl 4 rfl (by omega)) (by omega)).mono fun _ _ => I0.out.gives)
  go_wp2_with fail
  refine C.out.mono ?_
  rintro e w5 ⟨Af, cf, rfl, _, hr, hb⟩
  obtain ⟨bf, of, rfl, _⟩ := hr.at_ (by omega)
  have HF := Lib.hid hr
  clear hr C
  have hb' := below_then (below_new w4 _) hb
  clear hb
  have hb := hb'
  clear hb'
  have hcf : 2 ≤ cf := HF.out.cap
  have HB5 := Lib.hid (below_then HB4.out hb)
  clear hb HB4
  have hsl : ∀ W, (Instr.slice 22 (.slice (some ⟨bf, of, none⟩) 2 cf) none (some (.int .i64 1)) (some (.int .i64 1))).run Try.prog W = .ok (.slice (some ⟨bf, of, none⟩) 1 1) W := by
    intro W; have u := Try.underlying22; have z := Try.sizeOf32; have : (1 : Int) ≤ cf := by omega
    go_simp
  have CB := Lib.hid (fun (V : World) (h : Below w5.heap.size w5 V) => (both_any (some ⟨bf, of, none⟩) (some ⟨V.heap.size, 0, none⟩) 1 1 1 1 [tt 1 2] [tt 2 1] (V.alloc (.cells #[.int .i64 1, .int .i64 2, .int .i64 1, .int .i64 0, .int .i64 0] 32)) (tms_cap (Tms.take ((HF.out.below At.stays h).below At.stays (below_new V _)) (m := 1) (by omega)) (by omega)) (tms_lit V [tt 2 1] #[.int .i64 1, .int .i64 2, .int .i64 1, .int .i64 0, .int .i64 0] rfl 1 rfl (by omega)) (by omega) (by omega)).mono fun _ _ => I1.out.gives)
  go_wp2_with fail
  go_region_held3 (fun w' => True) (trivial)
    (first
      | (go_at_call 27
         (with_reducible refine (CT.out 2 1 _).mono ?_)
         rintro e wt ⟨rfl, hbt⟩)
      | (go_at_call 20
         (with_reducible refine (CB.out _ ?_).mono ?_)
         · exact (by repeat (first | (with_reducible exact Below.refl _ _) | (with_reducible refine below_alloc ?_ _) | (with_reducible refine below_drew ?_) | (with_reducible refine below_then ?_ (by assumption))))
         rintro e wu ⟨Ab, cb, rfl, _, hr, hbu⟩))
  have hb : Below w5.heap.size w5 wu := (by repeat (first | (with_reducible exact Below.refl _ _) | (with_reducible refine below_alloc ?_ _) | (with_reducible refine below_drew ?_) | (with_reducible refine below_then ?_ (by assumption))))
  obtain ⟨w6, hwk⟩ : ∃ q, q = wu := ⟨_, rfl⟩
  subst hwk
  have HBB := Lib.hid hr
  clear hr CB hbt hbu hsl
  have HB6 := Lib.hid (below_then HB5.out hb)
  have HF' := Lib.hid (HF.out.below At.stays hb)
  clear HF
  have HF := HF'
  clear HF'
  clear hb HB5
  go_wp2_with fail
  refine (CT.out 1 2 _).mono ?_
  rintro e w7 ⟨rfl, hb⟩
  have HB7 := Lib.hid (below_then HB6.out hb)
  have HF' := Lib.hid (HF.out.below At.stays hb)
  clear HF
  have HF := HF'
  clear HF'
  have HBB' := Lib.hid (HBB.out.below At.stays hb)
  clear HBB
  have HBB := HBB'
  clear HBB'
  clear hb HB6
  have HA := Lib.hid (tms_lit w7 [tt 1 2] #[.int .i64 1, .int .i64 1, .int .i64 2, .int .i64 0, .int .i64 0] rfl 1 rfl (by omega))
  have HAB := Lib.hid (below_new w7 (.cells #[.int .i64 1, .int .i64 1, .int .i64 2, .int .i64 0, .int .i64 0] 32))
  go_wp2_with fail
  refine (CT.out 2 1 _).mono ?_
  rintro e w8 ⟨rfl, hbt⟩
  have HC := Lib.hid ((either_any (some ⟨w7.heap.size, 0, none⟩) (some ⟨w8.heap.size, 0, none⟩) 1 1 1 1 [tt 1 2] [tt 2 1] (w8.alloc (.cells #[.int .i64 1, .int .i64 2, .int .i64 1, .int .i64 0, .int .i64 0] 32)) ((HA.out.below At.stays hbt).below At.stays (below_new w8 _)) (tms_lit w8 [tt 2 1] #[.int .i64 1, .int .i64 2, .int .i64 1, .int .i64 0, .int .i64 0] rfl 1 rfl (by omega)) (by omega) (by omega)).mono fun _ _ => I2.out.gives)
  have hb := below_then HAB.out hbt
  clear hbt HA HAB
  have HB8 := Lib.hid (below_then HB7.out hb)
  have HF' := Lib.hid (HF.out.below At.stays hb)
  clear HF
  have HF := HF'
  clear HF'
  have HBB' := Lib.hid (HBB.out.below At.stays hb)
  clear HBB
  have HBB := HBB'
  clear HBB'
  clear hb HB7
  go_wp2_with fail
  refine HC.out.mono ?_
  rintro e w9 ⟨Ao, co, rfl, _, hr, hbu⟩
  obtain ⟨bo, oo, rfl, _⟩ := hr.at_ (by omega)
  have hb := below_then (below_new w8 _) hbu
  have HOO := Lib.hid hr
  clear hr hbu HC
  have HB9 := Lib.hid (below_then HB8.out hb)
  have HF' := Lib.hid (HF.out.below At.stays hb)
  clear HF
  have HF := HF'
  clear HF'
  have HBB' := Lib.hid (HBB.out.below At.stays hb)
  clear HBB
  have HBB := HBB'
  clear HBB'
  clear hb HB8
  have HC := Lib.hid ((either_any (some ⟨bf, of, none⟩) none 2 cf 0 0 [tt 1 2, tt 2 1] [] w9 HF.out (Rd.nil _ _ _) (by omega) (by omega)).mono fun _ _ => I3.out.gives)
  go_wp2_with fail
  refine HC.out.mono ?_
  rintro e w10 ⟨An, cn, rfl, _, _, hb⟩
  clear HC
  have HB10 := Lib.hid (below_then HB9.out hb)
  have HF' := Lib.hid (HF.out.below At.stays hb)
  clear HF
  have HF := HF'
  clear HF'
  have HBB' := Lib.hid (HBB.out.below At.stays hb)
  clear HBB
  have HBB := HBB'
  clear HBB'
  have HOO' := Lib.hid (HOO.out.below At.stays hb)
  clear HOO
  have HOO := HOO'
  clear HOO'
  clear hb HB9
  have hx := cells_of HF.out (j := 0) rfl
  rw [Nat.zero_mul, Nat.add_zero] at hx
  have x0 := fun p : After w10 => cell_after hx.c0 p
  have x1 := fun p : After w10 => cell_after hx.c1 p
  have x2 := fun p : After w10 => cell_after hx.c2 p
  have x3 := fun p : After w10 => cell_after hx.c3 p
  have x4 := fun p : After w10 => cell_after hx.c4 p
  simp only [tt] at x0 x1 x2 x3 x4
  clear hx
  have hy := cells_of HF.out (j := 1) rfl
  rw [Nat.one_mul] at hy
  have y0 := fun p : After w10 => cell_after hy.c0 p
  have y1 := fun p : After w10 => cell_after hy.c1 p
  have y2 := fun p : After w10 => cell_after hy.c2 p
  have y3 := fun p : After w10 => cell_after hy.c3 p
  have y4 := fun p : After w10 => cell_after hy.c4 p
  simp only [tt] at y0 y1 y2 y3 y4
  clear hy
  have hz := cells_of HOO.out (j := 0) rfl
  rw [Nat.zero_mul, Nat.add_zero] at hz
  have z0 := fun p : After w10 => cell_after hz.c0 p
  have z1 := fun p : After w10 => cell_after hz.c1 p
  have z2 := fun p : After w10 => cell_after hz.c2 p
  have z3 := fun p : After w10 => cell_after hz.c3 p
  have z4 := fun p : After w10 => cell_after hz.c4 p
  simp only [tt] at z0 z1 z2 z3 z4
  clear hz
  have q0 : T.eqB ⟨1, 1, 2, 0, 0⟩ ⟨1, 1, 2, 0, 0⟩ = true := by decide
  have q1 : T.eqB ⟨1, 2, 1, 0, 0⟩ ⟨1, 2, 1, 0, 0⟩ = true := by decide
  have q2 : T.eqB ⟨1, 2, 2, 0, 0⟩ ⟨1, 2, 2, 0, 0⟩ = true := by decide
  have CH0 := Lib.hid (fun p : After w10 => holds_tt (some ⟨bf, of, none⟩) cf 1 1 _ F4.1 p.val (HF.out.below At.stays p.below))
  have CH1 := Lib.hid (fun p : After w10 => holds_tt (some ⟨bf, of, none⟩) cf 1 2 _ F4.2.1 p.val (HF.out.below At.stays p.below))
  have CH2 := Lib.hid (fun p : After w10 => holds_tt (some ⟨bf, of, none⟩) cf 2 0 _ F4.2.2.1 p.val (HF.out.below At.stays p.below))
  have CH3 := Lib.hid (fun p : After w10 => holds_tt (some ⟨bf, of, none⟩) cf 3 3 _ F4.2.2.2 p.val (HF.out.below At.stays p.below))
  have CI0 := Lib.hid (fun p : After w10 => within_any (some ⟨bf, of, none⟩) (some ⟨bo, oo, none⟩) 2 cf 1 co [tt 1 2, tt 2 1] [tt 2 2] p.val (HF.out.below At.stays p.below) (HOO.out.below At.stays p.below) (by omega) (by omega))
  simp only [F5.1] at CI0
  have CI1 := Lib.hid (fun p : After w10 => within_any (some ⟨bo, oo, none⟩) (some ⟨bf, of, none⟩) 1 co 2 cf [tt 2 2] [tt 1 2, tt 2 1] p.val (HOO.out.below At.stays p.below) (HF.out.below At.stays p.below) (by omega) (by omega))
  simp only [F5.2] at CI1
  have CS := Lib.hid (fun p : After w10 => same_any Ab (some ⟨bf, of, none⟩) 2 cb 2 cf [tt 1 2, tt 2 1] [tt 1 2, tt 2 1] p.val (HBB.out.below At.stays p.below) (HF.out.below At.stays p.below))
  simp only [decide_true] at CS
  have CR := Lib.hid (fun p : After w10 => right_any' (some ⟨bf, of, none⟩) 2 cf [tt 1 2, tt 2 1] p.val (HF.out.below At.stays p.below) (by omega))
  simp only [R1] at CR
  clear I0 I1 I2 I3 HF HBB HOO
  go_wp2_with fail
  refine quiet_after (by kernel_rfl) (by kernel_rfl) ?_
  repeat (first | go_big_quiet_step ((first | (go_at_call 27; first | with_reducible exact calls_after (CT.out 1 2 _) | with_reducible exact calls_after (CT.out 2 1 _) | with_reducible exact calls_after (CT.out 1 1 _) | with_reducible exact calls_after (CT.out 2 0 _) | with_reducible exact calls_after (CT.out 3 3 _) | with_reducible exact calls_after (CT.out 2 2 _)) | (go_at_call 16; first | with_reducible exact calls_after (CH0.out _) | with_reducible exact calls_after (CH1.out _) | with_reducible exact calls_after (CH2.out _) | with_reducible exact calls_after (CH3.out _)) | (go_at_call 24; first | with_reducible exact calls_after (CI0.out _) | with_reducible exact calls_after (CI1.out _)) | (go_at_call 26; with_reducible exact calls_after (CS.out _)) | (go_at_call 14; with_reducible exact calls_after (CR.out _)))) | quiet_step ((first | (go_at_call 27; first | with_reducible exact calls_after (CT.out 1 2 _) | with_reducible exact calls_after (CT.out 2 1 _) | with_reducible exact calls_after (CT.out 1 1 _) | with_reducible exact calls_after (CT.out 2 0 _) | with_reducible exact calls_after (CT.out 3 3 _) | with_reducible exact calls_after (CT.out 2 2 _)) | (go_at_call 16; first | with_reducible exact calls_after (CH0.out _) | with_reducible exact calls_after (CH1.out _) | with_reducible exact calls_after (CH2.out _) | with_reducible exact calls_after (CH3.out _)) | (go_at_call 24; first | with_reducible exact calls_after (CI0.out _) | with_reducible exact calls_after (CI1.out _)) | (go_at_call 26; with_reducible exact calls_after (CS.out _)) | (go_at_call 14; with_reducible exact calls_after (CR.out _)))))
  refine wpQuiet_nil ?_
  intro wz hw'
  obtain ⟨p, rfl⟩ := hw'
  obtain ⟨wf, hbq⟩ := p
  dsimp only
  have HBQ := Lib.hid (below_then HB10.out hbq)
  clear hbq
  go_wp2_with fail
  go_ret
  exact .bool rfl HBQ.out
end Go.Proofs.Ytamniepfgddecaa
