/- Contract of Add. -/
import Derived.Test.YtebpepjlhanopaaRows
import Derived.IntWalk
import Derived.Deep.RegionHeld3
import Derived.Laws.Pointers
import Derived.Test.YtebpepjlhanopaaWords
import Derived.Test.YtebpepjlhanopaaFrame
import Derived.Test.YtebpepjlhanopaaElems
import Derived.Test.YtebpepjlhanopaaMapOwn
import Derived.Test.YtebpepjlhanopaaS1
import Derived.Test.YtebpepjlhanopaaS2
import Derived.Test.YtebpepjlhanopaaEqs
import Derived.Test.YtebpepjlhanopaaM1
import Derived.Test.YtebpepjlhanopaaM2
namespace Go.Proofs.Ytebpepjlhanopaa
open Go Go.RowKit Go.Proofs.Tail
set_option linter.unusedSimpArgs false
set_option linter.unusedVariables false
/-- What an addition answers. -/
def addE (d : Int) (C : List (T × Int)) (t : T) (n : Int) : Int := if t.rightB = true ∧ t.d = d then (if inB n = true ∧ inB (cnt C t + n) = true then 0 else 3) else 50
/-- The counts behind an addition that goes well. -/
def Added (C : List (T × Int)) (t : T) (n : Int) (C' : List (T × Int)) : Prop := ∀ c, cnt C' c = if c = t then cnt C t + n else cnt C c
def Adds (P b : Nat) (d : Int) (C : List (T × Int)) (t : T) (n : Int) (C' : List (T × Int)) (w : World) (e : Ending) (w' : World) : Prop :=
  e = .returned (.int .i64 (addE d C t n)) ∧ Cs w' P b d (if addE d C t n = 0 then C' else C) ∧ Fr (fun k => k = b) w w'
theorem Adds.no {P b : Nat} {d : Int} {C : List (T × Int)} {t : T} {n : Int} {C' : List (T × Int)} {w w' : World} (x : Int) (h0 : x ≠ 0) (h : addE d C t n = x) (hC : Cs w P b d C) (hb : Below w.heap.size w w') : Adds P b d C t n C' w (.returned (.int .i64 x)) w' := by
  refine ⟨by rw [h], ?_, Fr.of_below hb⟩
  rw [h, if_neg h0]
  exact hC.below hb
theorem add_nil (t : T) (n : Int) (w : World) : Calls Try.prog 11 #[.pointer none, .agg #[.int .i64 t.d, .int .i64 t.e, .int .i64 t.a, .int .i64 t.b, .int .i64 t.c], .int .i64 n] w (Gives (.int .i64 1) w) := by
  have HB := Lib.hid (below_new w (.cells #[.int .i64 t.d, .int .i64 t.e, .int .i64 t.a, .int .i64 t.b, .int .i64 t.c] 28))
  go_enter Try.func11, Try.ntmps11
  go_wp2_with fail
  go_ret
  exact .int rfl HB.out
set_option maxHeartbeats 8000000 in
theorem add_wrong (P b : Nat) (d : Int) (C : List (T × Int)) (t : T) (n : Int) (C' : List (T × Int)) (w : World) (hC : Cs w P b d C) (hr : t.rightB = false) :
    Calls Try.prog 11 #[.pointer (some ⟨P, 0, none⟩), .agg #[.int .i64 t.d, .int .i64 t.e, .int .i64 t.a, .int .i64 t.b, .int .i64 t.c], .int .i64 n] w (Adds P b d C t n C' w) := by
  have HC := Lib.hid hC
  have HE := Lib.hid (show addE d C t n = 50 by unfold addE; rw [hr]; simp)
  have HB := Lib.hid (below_new w (.cells #[.int .i64 t.d, .int .i64 t.e, .int .i64 t.a, .int .i64 t.b, .int .i64 t.c] 28))
  have HR := Lib.hid (fun W => right_any t W)
  rw [hr] at HR
  have x0 := Bx.new w t _ rfl
  have y0 := fun p : After (w.alloc (.cells #[.int .i64 t.d, .int .i64 t.e, .int .i64 t.a, .int .i64 t.b, .int .i64 t.c] 28)) => (x0.below p.below).cells.1
  have y1 := fun p : After (w.alloc (.cells #[.int .i64 t.d, .int .i64 t.e, .int .i64 t.a, .int .i64 t.b, .int .i64 t.c] 28)) => (x0.below p.below).cells.2.1
  have y2 := fun p : After (w.alloc (.cells #[.int .i64 t.d, .int .i64 t.e, .int .i64 t.a, .int .i64 t.b, .int .i64 t.c] 28)) => (x0.below p.below).cells.2.2.1
  have y3 := fun p : After (w.alloc (.cells #[.int .i64 t.d, .int .i64 t.e, .int .i64 t.a, .int .i64 t.b, .int .i64 t.c] 28)) => (x0.below p.below).cells.2.2.2.1
  have y4 := fun p : After (w.alloc (.cells #[.int .i64 t.d, .int .i64 t.e, .int .i64 t.a, .int .i64 t.b, .int .i64 t.c] 28)) => (x0.below p.below).cells.2.2.2.2
  clear hC hr x0
  go_enter Try.func11, Try.ntmps11
  go_wp2_with fail
  refine quiet_after (by kernel_rfl) (by kernel_rfl) ?_
  repeat (first | go_big_quiet_step ((go_at_call 25; with_reducible exact calls_after (HR.out _))) | quiet_step ((go_at_call 25; with_reducible exact calls_after (HR.out _))))
  refine wpQuiet_nil ?_
  intro wz hw'
  obtain ⟨p, rfl⟩ := hw'
  obtain ⟨w5, hbq⟩ := p
  dsimp only
  have HB5 := Lib.hid (below_then HB.out hbq)
  clear y0 y1 y2 y3 y4 hbq
  go_wp2_with fail
  go_ret
  exact Adds.no 50 (by decide) HE.out HC.out HB5.out
set_option maxHeartbeats 8000000 in
theorem add_deep (P b : Nat) (d : Int) (C : List (T × Int)) (t : T) (n : Int) (C' : List (T × Int)) (w : World) (hC : Cs w P b d C) (hr : t.rightB = true) (hd : t.d ≠ d) :
    Calls Try.prog 11 #[.pointer (some ⟨P, 0, none⟩), .agg #[.int .i64 t.d, .int .i64 t.e, .int .i64 t.a, .int .i64 t.b, .int .i64 t.c], .int .i64 n] w (Adds P b d C t n C' w) := by
  have HC := Lib.hid hC
  have HE := Lib.hid (show addE d C t n = 50 by unfold addE; simp [hd])
  have HB := Lib.hid (below_new w (.cells #[.int .i64 t.d, .int .i64 t.e, .int .i64 t.a, .int .i64 t.b, .int .i64 t.c] 28))
  have HR := Lib.hid (fun W => right_any t W)
  rw [hr] at HR
  have hC1 := hC.below (below_new w (.cells #[.int .i64 t.d, .int .i64 t.e, .int .i64 t.a, .int .i64 t.b, .int .i64 t.c] 28))
  have p0 := fun p : After (w.alloc (.cells #[.int .i64 t.d, .int .i64 t.e, .int .i64 t.a, .int .i64 t.b, .int .i64 t.c] 28)) => ((hC1.below p.below).blk.cell 0)
  have x0 := Bx.new w t _ rfl
  have y0 := fun p : After (w.alloc (.cells #[.int .i64 t.d, .int .i64 t.e, .int .i64 t.a, .int .i64 t.b, .int .i64 t.c] 28)) => (x0.below p.below).cells.1
  have y1 := fun p : After (w.alloc (.cells #[.int .i64 t.d, .int .i64 t.e, .int .i64 t.a, .int .i64 t.b, .int .i64 t.c] 28)) => (x0.below p.below).cells.2.1
  have y2 := fun p : After (w.alloc (.cells #[.int .i64 t.d, .int .i64 t.e, .int .i64 t.a, .int .i64 t.b, .int .i64 t.c] 28)) => (x0.below p.below).cells.2.2.1
  have y3 := fun p : After (w.alloc (.cells #[.int .i64 t.d, .int .i64 t.e, .int .i64 t.a, .int .i64 t.b, .int .i64 t.c] 28)) => (x0.below p.below).cells.2.2.2.1
  have y4 := fun p : After (w.alloc (.cells #[.int .i64 t.d, .int .i64 t.e, .int .i64 t.a, .int .i64 t.b, .int .i64 t.c] 28)) => (x0.below p.below).cells.2.2.2.2
  have hd' : (t.d != d) = true := by simpa using hd
  clear hC hC1 hr hd x0
  go_enter Try.func11, Try.ntmps11
  go_wp2_with fail
  refine quiet_after (by kernel_rfl) (by kernel_rfl) ?_
  repeat (first | go_big_quiet_step ((go_at_call 25; with_reducible exact calls_after (HR.out _))) | quiet_step ((go_at_call 25; with_reducible exact calls_after (HR.out _))))
  refine wpQuiet_nil ?_
  intro wz hw'
  obtain ⟨p, rfl⟩ := hw'
  obtain ⟨w5, hbq⟩ := p
  dsimp only
  have HB5 := Lib.hid (below_then HB.out hbq)
  clear y0 y1 y2 y3 y4 p0 hbq
  go_wp2_with fail
  go_ret
  exact Adds.no 50 (by decide) HE.out HC.out HB5.out
set_option maxHeartbeats 8000000 in
theorem add_much1 (P b : Nat) (d : Int) (C : List (T × Int)) (t : T) (n : Int) (C' : List (T × Int)) (w : World) (hC : Cs w P b d C) (hr : t.rightB = true) (hd : t.d = d) (hn : inB n = false) :
    Calls Try.prog 11 #[.pointer (some ⟨P, 0, none⟩), .agg #[.int .i64 t.d, .int .i64 t.e, .int .i64 t.a, .int .i64 t.b, .int .i64 t.c], .int .i64 n] w (Adds P b d C t n C' w) := by
  have HC := Lib.hid hC
  have HE := Lib.hid (show addE d C t n = 3 by unfold addE; simp [hr, hd, hn])
  have HB := Lib.hid (below_new w (.cells #[.int .i64 t.d, .int .i64 t.e, .int .i64 t.a, .int .i64 t.b, .int .i64 t.c] 28))
  have HR := Lib.hid (fun W => right_any t W)
  rw [hr] at HR
  have HC1 := Lib.hid (hC.below (below_new w (.cells #[.int .i64 t.d, .int .i64 t.e, .int .i64 t.a, .int .i64 t.b, .int .i64 t.c] 28)))
  have HX := Lib.hid (Bx.new w t _ rfl)
  have y0 := fun p : After (w.alloc (.cells #[.int .i64 t.d, .int .i64 t.e, .int .i64 t.a, .int .i64 t.b, .int .i64 t.c] 28)) => (HX.out.below p.below).cells.1
  have y1 := fun p : After (w.alloc (.cells #[.int .i64 t.d, .int .i64 t.e, .int .i64 t.a, .int .i64 t.b, .int .i64 t.c] 28)) => (HX.out.below p.below).cells.2.1
  have y2 := fun p : After (w.alloc (.cells #[.int .i64 t.d, .int .i64 t.e, .int .i64 t.a, .int .i64 t.b, .int .i64 t.c] 28)) => (HX.out.below p.below).cells.2.2.1
  have y3 := fun p : After (w.alloc (.cells #[.int .i64 t.d, .int .i64 t.e, .int .i64 t.a, .int .i64 t.b, .int .i64 t.c] 28)) => (HX.out.below p.below).cells.2.2.2.1
  have y4 := fun p : After (w.alloc (.cells #[.int .i64 t.d, .int .i64 t.e, .int .i64 t.a, .int .i64 t.b, .int .i64 t.c] 28)) => (HX.out.below p.below).cells.2.2.2.2
  have p0 := fun p : After (w.alloc (.cells #[.int .i64 t.d, .int .i64 t.e, .int .i64 t.a, .int .i64 t.b, .int .i64 t.c] 28)) => ((HC1.out.below p.below).blk.cell 0)
  have hd' : (t.d != d) = false := by simpa using hd
  clear hC hr hd
  go_enter Try.func11, Try.ntmps11
  go_wp2_with fail
  refine quiet_after (by kernel_rfl) (by kernel_rfl) ?_
  repeat (first | go_big_quiet_step ((go_at_call 25; with_reducible exact calls_after (HR.out _))) | quiet_step ((go_at_call 25; with_reducible exact calls_after (HR.out _))))
  refine wpQuiet_nil ?_
  intro wz hw'
  obtain ⟨p, rfl⟩ := hw'
  obtain ⟨w5, hbq⟩ := p
  dsimp only
  have HB5 := Lib.hid (below_then HB.out hbq)
  have HX5 := Lib.hid (HX.out.below hbq)
  have HC5 := Lib.hid (HC1.out.below hbq)
  clear y0 y1 y2 y3 y4 p0 hbq HX HC1
  go_wp2_with fail
  have HR2 := Lib.hid (fun W => cwithin_any n W)
  rw [hn] at HR2
  have y0 := fun p : After w5 => (HX5.out.below p.below).cells.1
  have y1 := fun p : After w5 => (HX5.out.below p.below).cells.2.1
  have y2 := fun p : After w5 => (HX5.out.below p.below).cells.2.2.1
  have y3 := fun p : After w5 => (HX5.out.below p.below).cells.2.2.2.1
  have y4 := fun p : After w5 => (HX5.out.below p.below).cells.2.2.2.2
  have p1 := fun p : After w5 => ((HC5.out.below p.below).blk.cell 1)
  have HR3 := HR2
  clear HX5 HC5 hn
  refine quiet_after (by kernel_rfl) (by kernel_rfl) ?_
  repeat (first | go_big_quiet_step ((first | (go_at_call 26; first | with_reducible exact calls_after (HR2.out _) | with_reducible exact calls_after (HR3.out _)))) | quiet_step ((first | (go_at_call 26; first | with_reducible exact calls_after (HR2.out _) | with_reducible exact calls_after (HR3.out _)))))
  refine wpQuiet_nil ?_
  intro wz hw'
  obtain ⟨p, rfl⟩ := hw'
  obtain ⟨w6, hbq⟩ := p
  dsimp only
  have HB6 := Lib.hid (below_then HB5.out hbq)
  clear y0 y1 y2 y3 y4 p1 hbq
  go_wp2_with fail
  go_ret
  exact Adds.no 3 (by decide) HE.out HC.out HB6.out
set_option maxHeartbeats 8000000 in
theorem add_much2 (P b : Nat) (d : Int) (C : List (T × Int)) (t : T) (n : Int) (C' : List (T × Int)) (w : World) (hC : Cs w P b d C) (hr : t.rightB = true) (hd : t.d = d) (hc : -1099511627776 ≤ cnt C t ∧ cnt C t ≤ 1099511627776) (hn : inB n = true) (hm : inB (cnt C t + n) = false) :
    Calls Try.prog 11 #[.pointer (some ⟨P, 0, none⟩), .agg #[.int .i64 t.d, .int .i64 t.e, .int .i64 t.a, .int .i64 t.b, .int .i64 t.c], .int .i64 n] w (Adds P b d C t n C' w) := by
  have HC := Lib.hid hC
  have HE := Lib.hid (show addE d C t n = 3 by unfold addE; simp [hr, hd, hn, hm])
  have HB := Lib.hid (below_new w (.cells #[.int .i64 t.d, .int .i64 t.e, .int .i64 t.a, .int .i64 t.b, .int .i64 t.c] 28))
  have HR := Lib.hid (fun W => right_any t W)
  rw [hr] at HR
  have HC1 := Lib.hid (hC.below (below_new w (.cells #[.int .i64 t.d, .int .i64 t.e, .int .i64 t.a, .int .i64 t.b, .int .i64 t.c] 28)))
  have HX := Lib.hid (Bx.new w t _ rfl)
  have y0 := fun p : After (w.alloc (.cells #[.int .i64 t.d, .int .i64 t.e, .int .i64 t.a, .int .i64 t.b, .int .i64 t.c] 28)) => (HX.out.below p.below).cells.1
  have y1 := fun p : After (w.alloc (.cells #[.int .i64 t.d, .int .i64 t.e, .int .i64 t.a, .int .i64 t.b, .int .i64 t.c] 28)) => (HX.out.below p.below).cells.2.1
  have y2 := fun p : After (w.alloc (.cells #[.int .i64 t.d, .int .i64 t.e, .int .i64 t.a, .int .i64 t.b, .int .i64 t.c] 28)) => (HX.out.below p.below).cells.2.2.1
  have y3 := fun p : After (w.alloc (.cells #[.int .i64 t.d, .int .i64 t.e, .int .i64 t.a, .int .i64 t.b, .int .i64 t.c] 28)) => (HX.out.below p.below).cells.2.2.2.1
  have y4 := fun p : After (w.alloc (.cells #[.int .i64 t.d, .int .i64 t.e, .int .i64 t.a, .int .i64 t.b, .int .i64 t.c] 28)) => (HX.out.below p.below).cells.2.2.2.2
  have p0 := fun p : After (w.alloc (.cells #[.int .i64 t.d, .int .i64 t.e, .int .i64 t.a, .int .i64 t.b, .int .i64 t.c] 28)) => ((HC1.out.below p.below).blk.cell 0)
  have hd' : (t.d != d) = false := by simpa using hd
  clear hC hr hd
  have HS := Lib.hid (show IntKind.i64.wrap (cnt C t + n) = cnt C t + n by
    unfold inB at hn
    simp only [decide_eq_true_eq] at hn
    exact IntWalk.i64_in _ ⟨by omega, by omega⟩)
  clear hc
  go_enter Try.func11, Try.ntmps11
  go_wp2_with fail
  refine quiet_after (by kernel_rfl) (by kernel_rfl) ?_
  repeat (first | go_big_quiet_step ((go_at_call 25; with_reducible exact calls_after (HR.out _))) | quiet_step ((go_at_call 25; with_reducible exact calls_after (HR.out _))))
  refine wpQuiet_nil ?_
  intro wz hw'
  obtain ⟨p, rfl⟩ := hw'
  obtain ⟨w5, hbq⟩ := p
  dsimp only
  have HB5 := Lib.hid (below_then HB.out hbq)
  have HX5 := Lib.hid (HX.out.below hbq)
  have HC5 := Lib.hid (HC1.out.below hbq)
  clear y0 y1 y2 y3 y4 p0 hbq HX HC1
  go_wp2_with fail
  have HR2 := Lib.hid (fun W => cwithin_any n W)
  rw [hn] at HR2
  have y0 := fun p : After w5 => (HX5.out.below p.below).cells.1
  have y1 := fun p : After w5 => (HX5.out.below p.below).cells.2.1
  have y2 := fun p : After w5 => (HX5.out.below p.below).cells.2.2.1
  have y3 := fun p : After w5 => (HX5.out.below p.below).cells.2.2.2.1
  have y4 := fun p : After w5 => (HX5.out.below p.below).cells.2.2.2.2
  have p1 := fun p : After w5 => ((HC5.out.below p.below).blk.cell 1)
  have l1 := fun p : After w5 => (HC5.out.below p.below).look t
  have hs : IntKind.i64.wrap (cnt C t + n) = cnt C t + n := HS.out
  have HR3 := Lib.hid (fun W => cwithin_any (cnt C t + n) W)
  rw [hm] at HR3
  clear HX5 HC5 hn hm HS
  refine quiet_after (by kernel_rfl) (by kernel_rfl) ?_
  repeat (first | go_big_quiet_step ((first | (go_at_call 26; first | with_reducible exact calls_after (HR2.out _) | with_reducible exact calls_after (HR3.out _)))) | quiet_step ((first | (go_at_call 26; first | with_reducible exact calls_after (HR2.out _) | with_reducible exact calls_after (HR3.out _)))))
  refine wpQuiet_nil ?_
  intro wz hw'
  obtain ⟨p, rfl⟩ := hw'
  obtain ⟨w6, hbq⟩ := p
  dsimp only
  have HB6 := Lib.hid (below_then HB5.out hbq)
  clear y0 y1 y2 y3 y4 p1 l1 hbq
  go_wp2_with fail
  go_ret
  exact Adds.no 3 (by decide) HE.out HC.out HB6.out
end Go.Proofs.Ytebpepjlhanopaa
