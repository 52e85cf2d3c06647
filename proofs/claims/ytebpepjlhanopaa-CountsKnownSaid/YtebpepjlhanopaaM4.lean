/- Contract of Add, where it goes well. -/
import Derived.Test.YtebpepjlhanopaaRows
import Derived.IntWalk
import Derived.Deep.RegionHeld3
import Derived.Laws.Pointers
import Derived.Test.YtebpepjlhanopaaWords
import Derived.Test.YtebpepjlhanopaaFrame
import Derived.Test.YtebpepjlhanopaaElems
import Derived.Test.YtebpepjlhanopaaMapOwn
import Derived.Test.YtebpepjlhanopaaS1
import Derived.Test.YtebpepjlhanopaaS2
import Derived.Test.YtebpepjlhanopaaEqs
import Derived.Test.YtebpepjlhanopaaM1
import Derived.Test.YtebpepjlhanopaaM2
import Derived.Test.YtebpepjlhanopaaM3
namespace Go.Proofs.Ytebpepjlhanopaa
open Go Go.RowKit Go.Proofs.Tail
set_option linter.unusedSimpArgs false
set_option linter.unusedVariables false
/-- What the drawn region of a sum reads. -/
structure Rdy (W : World) (B P b : Nat) (t : T) : Prop where
  y0 : W.cell? ⟨B, 0, none⟩ = some (.int .i64 t.d)
  y1 : W.cell? ⟨B, 1, none⟩ = some (.int .i64 t.e)
  y2 : W.cell? ⟨B, 2, none⟩ = some (.int .i64 t.a)
  y3 : W.cell? ⟨B, 3, none⟩ = some (.int .i64 t.b)
  y4 : W.cell? ⟨B, 4, none⟩ = some (.int .i64 t.c)
  p1 : W.cell? ⟨P, 1, none⟩ = some (.map (some b))
theorem Rdy.kept {W W' : World} {B P b : Nat} {t : T} (h : Rdy W B P b t) (hg : W.grownBy W' (some b)) (hB : B ≠ b) (hP : P ≠ b) : Rdy W' B P b t :=
  ⟨hg.cell h.y0 (by simpa using hB), hg.cell h.y1 (by simpa using hB), hg.cell h.y2 (by simpa using hB), hg.cell h.y3 (by simpa using hB), hg.cell h.y4 (by simpa using hB), hg.cell h.p1 (by simpa using hP)⟩
theorem grown_fr {W W' : World} {b : Nat} (hg : W.grownBy W' (some b)) : Fr (fun k => k = b) W W' := ⟨hg.os, hg.tape, hg.output, hg.size, fun k hk hn => hg.block k hk (fun e => hn (by injection e))⟩
theorem drew_cs {W : World} {P b : Nat} {d : Int} {C : List (T × Int)} (h : Cs W P b d C) : Cs W.drew P b d C := h.below ((Below.refl _ _).drew)
theorem bx_ne {W : World} {P b B : Nat} {d : Int} {C : List (T × Int)} {t : T} (h : Cs W P b d C) (hx : Bx W B t) : B ≠ b := by
  obtain ⟨L, ⟨es, clock, hm, _⟩, _⟩ := h.mp
  have := hx.h
  rintro rfl
  rw [this] at hm
  cases hm
/-- The worlds of the sum. -/
theorem stage {W : World} {B P b : Nat} {d : Int} {C : List (T × Int)} {t : T} (n : Int) (C' : List (T × Int)) (hX : Bx W B t) (hC : Cs W P b d C) (hA : Added C t n C') :
    ∃ wd w7 w8 : World, wd = W.drew ∧ Rdy wd B P b t ∧ (Instr.lookup 52 (.map (some b)) (.agg #[.int .i64 t.d, .int .i64 t.e, .int .i64 t.a, .int .i64 t.b, .int .i64 t.c]) false).run Try.prog wd = .ok (.int .i64 (cnt C t)) wd ∧
      (∃ q : Nat, (Instr.mapEntry 52 (.map (some b)) (.agg #[.int .i64 t.d, .int .i64 t.e, .int .i64 t.a, .int .i64 t.b, .int .i64 t.c])).run Try.prog wd = .ok (.tuple #[.int .i64 (cnt C t), .int .i64 (q : Int)]) w7 ∧
      Rdy w7 B P b t ∧ (Instr.lookup 52 (.map (some b)) (.agg #[.int .i64 t.d, .int .i64 t.e, .int .i64 t.a, .int .i64 t.b, .int .i64 t.c]) false).run Try.prog w7 = .ok (.int .i64 (cnt C t)) w7 ∧
      (Instr.entryStore 52 (.map (some b)) (.int .i64 (q : Int)) (.int .i64 (cnt C t + n))).run Try.prog w7 = .ok () w8) ∧
      Rdy w8 B P b t ∧ (∃ L, Mp eT w8 b L ∧ ∀ c, lk L c = if c = t then some (.int .i64 (cnt C t + n)) else (if cnt C c = 0 then none else some (.int .i64 (cnt C c)))) ∧ Blk w8 P [.int .i64 d, .map (some b)] 54 ∧ Fr (fun k => k = b) W w8 := by
  have hB := bx_ne hC hX
  have hP := hC.ne
  have hCd := drew_cs hC
  have hXd : Bx W.drew B t := ⟨hX.h⟩
  obtain ⟨L, hm, hcp⟩ := hCd.mp
  obtain ⟨w7, L7, q, hent, hmd, hlk7, _, hg7, _⟩ := hm.entry (P := Try.prog) keyT Try.underlying52 (zero64 _) t
  rw [hcp.get] at hent hlk7
  obtain ⟨w8, L8, hsto, hm8, hlk8, _, hg8, _⟩ := hmd.store (P := Try.prog) 52 (.int .i64 (cnt C t + n))
  have hl7 := hmd.mp.lookup (P := Try.prog) keyT Try.underlying52 (zero64 _) t
  rw [hlk7, if_pos rfl] at hl7
  have R0 : Rdy W.drew B P b t := ⟨hXd.cells.1, hXd.cells.2.1, hXd.cells.2.2.1, hXd.cells.2.2.2.1, hXd.cells.2.2.2.2, hCd.blk.cell 1⟩
  refine ⟨W.drew, w7, w8, rfl, R0, hCd.look t, ⟨q, hent, R0.kept hg7 hB hP, hl7, hsto⟩, (R0.kept hg7 hB hP).kept hg8 hB hP, ⟨L8, hm8, fun c => ?_⟩, ?_, ?_⟩
  · rw [hlk8, hlk7, hcp c]
    by_cases hc : c = t <;> simp [hc]
  · exact (hCd.blk.fr (grown_fr hg7) hP).fr (grown_fr hg8) hP
  · have := ((grown_fr hg7).trans (grown_fr hg8) (fun _ _ h => h))
    exact ⟨this.os, this.tape, this.output, this.size, this.block⟩
theorem sum_look {w8 w9 : World} {b : Nat} {C : List (T × Int)} {t : T} {n : Int} (h : ∃ L, Mp eT w8 b L ∧ ∀ c, lk L c = if c = t then some (.int .i64 (cnt C t + n)) else (if cnt C c = 0 then none else some (.int .i64 (cnt C c)))) (hb : Below w8.heap.size w8 w9) :
    (Instr.lookup 52 (.map (some b)) (.agg #[.int .i64 t.d, .int .i64 t.e, .int .i64 t.a, .int .i64 t.b, .int .i64 t.c]) false).run Try.prog w9 = .ok (.int .i64 (cnt C t + n)) w9 := by
  obtain ⟨L, h1, h2⟩ := h
  have := (h1.below hb).lookup (P := Try.prog) keyT Try.underlying52 (zero64 _) t
  rw [h2, if_pos rfl] at this
  exact this
theorem cpl_some {L : List (T × Value)} {C C' : List (T × Int)} {t : T} {n : Int} (hA : Added C t n C') (hz : cnt C t + n ≠ 0) (h : ∀ c, lk L c = if c = t then some (.int .i64 (cnt C t + n)) else (if cnt C c = 0 then none else some (.int .i64 (cnt C c)))) : Cpl L C' := by
  intro c
  rw [h c, hA c]
  by_cases hc : c = t
  · simp [hc, hz]
  · simp [hc]
theorem cpl_zero {L L' : List (T × Value)} {C C' : List (T × Int)} {t : T} {n : Int} (hA : Added C t n C') (hz : cnt C t + n = 0) (h : ∀ c, lk L c = if c = t then some (.int .i64 (cnt C t + n)) else (if cnt C c = 0 then none else some (.int .i64 (cnt C c)))) (h' : ∀ c, lk L' c = if c = t then none else lk L c) : Cpl L' C' := by
  intro c
  rw [h' c, h c, hA c]
  by_cases hc : c = t
  · simp [hc, hz]
  · simp [hc]
theorem Rdy.then {W W' : World} {B P b : Nat} {t : T} (h : Rdy W B P b t) (hb : Below W.heap.size W W') : Rdy W' B P b t :=
  ⟨below_cell hb h.y0, below_cell hb h.y1, below_cell hb h.y2, below_cell hb h.y3, below_cell hb h.y4, below_cell hb h.p1⟩
theorem Rdy.drew {W : World} {B P b : Nat} {t : T} (h : Rdy W B P b t) : Rdy W.drew B P b t := h.then ((Below.refl _ _).drew)
theorem stage2 {W w8 w9 : World} {P b : Nat} {d : Int} {C : List (T × Int)} {t : T} {n : Int}
    (h : (∃ L, Mp eT w8 b L ∧ ∀ c, lk L c = if c = t then some (.int .i64 (cnt C t + n)) else (if cnt C c = 0 then none else some (.int .i64 (cnt C c)))) ∧ Blk w8 P [.int .i64 d, .map (some b)] 54 ∧ Fr (fun k => k = b) W w8) (hb : Below w8.heap.size w8 w9) :
    ∃ wx, (Builtin.delete_ #[52, 28] 0 #[.map (some b), .agg #[.int .i64 t.d, .int .i64 t.e, .int .i64 t.a, .int .i64 t.b, .int .i64 t.c]]).run Try.prog w9.drew = .ok (.tuple #[]) wx ∧
      (∀ {B}, B ≠ b → Rdy w9.drew B P b t → Rdy wx B P b t) ∧ (∃ L L', Mp eT wx b L' ∧ (∀ c, lk L c = if c = t then some (.int .i64 (cnt C t + n)) else (if cnt C c = 0 then none else some (.int .i64 (cnt C c)))) ∧ (∀ c, lk L' c = if c = t then none else lk L c)) ∧
      Blk wx P [.int .i64 d, .map (some b)] 54 ∧ Fr (fun k => k = b) W wx := by
  obtain ⟨⟨L, h1, h2⟩, h3, h4⟩ := h
  have hm := (h1.below hb).below ((Below.refl _ _).drew)
  obtain ⟨wx, hr, hmx, hg, _⟩ := hm.delete (P := Try.prog) keyT Try.underlying52 t 28 0
  have hne : P ≠ b := by
    obtain ⟨es, clock, hme, _⟩ := h1
    rintro rfl
    rw [h3.h] at hme
    cases hme
  refine ⟨wx, hr, fun hB hR => hR.kept hg hB hne, ⟨L, _, hmx, h2, fun c => lk_delL hm.nd t c⟩, ?_, ?_⟩
  · exact ((h3.then hb).then ((Below.refl _ _).drew)).fr (grown_fr hg) hne
  · exact ((h4.trans (Fr.of_below (S := fun k => k = b) hb) (fun _ _ h => h)).trans (Fr.of_below (S := fun k => k = b) ((Below.refl _ _).drew)) (fun _ _ h => h)).trans (grown_fr hg) (fun _ _ h => h)
set_option maxRecDepth 100000 in
set_option maxHeartbeats 8000000 in
theorem add_some (P b : Nat) (d : Int) (C : List (T × Int)) (t : T) (n : Int) (C' : List (T × Int)) (w : World) (hC : Cs w P b d C) (hr : t.rightB = true) (hd : t.d = d) (hc : -1099511627776 ≤ cnt C t ∧ cnt C t ≤ 1099511627776) (hn : inB n = true) (hm : inB (cnt C t + n) = true) (hz : cnt C t + n ≠ 0) (hA : Added C t n C') :
    Calls Try.prog 11 #[.pointer (some ⟨P, 0, none⟩), .agg #[.int .i64 t.d, .int .i64 t.e, .int .i64 t.a, .int .i64 t.b, .int .i64 t.c], .int .i64 n] w (Adds P b d C t n C' w) := by
  have HC := Lib.hid hC
  have HE := Lib.hid (show addE d C t n = 0 by unfold addE; simp [hr, hd, hn, hm])
  have HB := Lib.hid (below_new w (.cells #[.int .i64 t.d, .int .i64 t.e, .int .i64 t.a, .int .i64 t.b, .int .i64 t.c] 28))
  have HR := Lib.hid (fun W => right_any t W)
  rw [hr] at HR
  have HC1 := Lib.hid (hC.below (below_new w (.cells #[.int .i64 t.d, .int .i64 t.e, .int .i64 t.a, .int .i64 t.b, .int .i64 t.c] 28)))
  have HX := Lib.hid (Bx.new w t _ rfl)
  have y0 := fun p : After (w.alloc (.cells #[.int .i64 t.d, .int .i64 t.e, .int .i64 t.a, .int .i64 t.b, .int .i64 t.c] 28)) => (HX.out.below p.below).cells.1
  have y1 := fun p : After (w.alloc (.cells #[.int .i64 t.d, .int .i64 t.e, .int .i64 t.a, .int .i64 t.b, .int .i64 t.c] 28)) => (HX.out.below p.below).cells.2.1
  have y2 := fun p : After (w.alloc (.cells #[.int .i64 t.d, .int .i64 t.e, .int .i64 t.a, .int .i64 t.b, .int .i64 t.c] 28)) => (HX.out.below p.below).cells.2.2.1
  have y3 := fun p : After (w.alloc (.cells #[.int .i64 t.d, .int .i64 t.e, .int .i64 t.a, .int .i64 t.b, .int .i64 t.c] 28)) => (HX.out.below p.below).cells.2.2.2.1
  have y4 := fun p : After (w.alloc (.cells #[.int .i64 t.d, .int .i64 t.e, .int .i64 t.a, .int .i64 t.b, .int .i64 t.c] 28)) => (HX.out.below p.below).cells.2.2.2.2
  have p0 := fun p : After (w.alloc (.cells #[.int .i64 t.d, .int .i64 t.e, .int .i64 t.a, .int .i64 t.b, .int .i64 t.c] 28)) => ((HC1.out.below p.below).blk.cell 0)
  have hd' : (t.d != d) = false := by simpa using hd
  have HA := Lib.hid hA
  have HZ := Lib.hid hz
  clear hC hr hd hA hz
  have HS := Lib.hid (show IntKind.i64.wrap (cnt C t + n) = cnt C t + n by
    unfold inB at hn
    simp only [decide_eq_true_eq] at hn
    exact IntWalk.i64_in _ ⟨by omega, by omega⟩)
  clear hc
  go_enter Try.func11, Try.ntmps11
  go_wp2_with fail
  refine quiet_after (by kernel_rfl) (by kernel_rfl) ?_
  repeat (first | go_big_quiet_step ((go_at_call 25; with_reducible exact calls_after (HR.out _))) | quiet_step ((go_at_call 25; with_reducible exact calls_after (HR.out _))))
  refine wpQuiet_nil ?_
  intro wz hw'
  obtain ⟨p, rfl⟩ := hw'
  obtain ⟨w5, hbq⟩ := p
  dsimp only
  have HB5 := Lib.hid (below_then HB.out hbq)
  have HX5 := Lib.hid (HX.out.below hbq)
  have HC5 := Lib.hid (HC1.out.below hbq)
  clear y0 y1 y2 y3 y4 p0 hbq HX HC1
  go_wp2_with fail
  have HR2 := Lib.hid (fun W => cwithin_any n W)
  rw [hn] at HR2
  have y0 := fun p : After w5 => (HX5.out.below p.below).cells.1
  have y1 := fun p : After w5 => (HX5.out.below p.below).cells.2.1
  have y2 := fun p : After w5 => (HX5.out.below p.below).cells.2.2.1
  have y3 := fun p : After w5 => (HX5.out.below p.below).cells.2.2.2.1
  have y4 := fun p : After w5 => (HX5.out.below p.below).cells.2.2.2.2
  have p1 := fun p : After w5 => ((HC5.out.below p.below).blk.cell 1)
  have l1 := fun p : After w5 => (HC5.out.below p.below).look t
  have hs : IntKind.i64.wrap (cnt C t + n) = cnt C t + n := HS.out
  have HR3 := Lib.hid (fun W => cwithin_any (cnt C t + n) W)
  rw [hm] at HR3
  have HX5' := HX5
  have HC5' := HC5
  clear HX5 HC5 hn hm
  refine quiet_after (by kernel_rfl) (by kernel_rfl) ?_
  repeat (first | go_big_quiet_step ((first | (go_at_call 26; first | with_reducible exact calls_after (HR2.out _) | with_reducible exact calls_after (HR3.out _)))) | quiet_step ((first | (go_at_call 26; first | with_reducible exact calls_after (HR2.out _) | with_reducible exact calls_after (HR3.out _)))))
  refine wpQuiet_nil ?_
  intro wz hw'
  obtain ⟨p, rfl⟩ := hw'
  obtain ⟨w6, hbq⟩ := p
  dsimp only
  have HB6 := Lib.hid (below_then HB5.out hbq)
  have HX6 := Lib.hid (HX5'.out.below hbq)
  have HC6 := Lib.hid (HC5'.out.below hbq)
  clear y0 y1 y2 y3 y4 p1 l1 hbq HR2 HR3 HR
  go_wp2_with fail
  obtain ⟨wd, w7, w8, hwd, R0, hd1, ⟨q, hent, R1, hd2, hsto⟩, R2, HA8⟩ := stage n C' HX6.out HC6.out HA.out
  have HA8 := Lib.hid HA8
  obtain ⟨y0, y1, y2, y3, y4, p1⟩ := R0
  obtain ⟨z0, z1, z2, z3, z4, q1⟩ := R1
  have R2' := Lib.hid R2
  obtain ⟨v0, v1, v2, v3, v4, r1⟩ := R2
  subst hwd
  go_region_held3 (fun w' => w'.cell? ⟨w.heap.size, 0, none⟩ = some (.int .i64 t.d) ∧ w'.cell? ⟨w.heap.size, 1, none⟩ = some (.int .i64 t.e) ∧ w'.cell? ⟨w.heap.size, 2, none⟩ = some (.int .i64 t.a) ∧ w'.cell? ⟨w.heap.size, 3, none⟩ = some (.int .i64 t.b) ∧ w'.cell? ⟨w.heap.size, 4, none⟩ = some (.int .i64 t.c) ∧ w'.cell? ⟨P, 1, none⟩ = some (.map (some b)))
    (first | exact ⟨y0, y1, y2, y3, y4, p1⟩ | exact ⟨z0, z1, z2, z3, z4, q1⟩ | exact ⟨v0, v1, v2, v3, v4, r1⟩)
    (fail)
  all_goals
    clear y0 y1 y2 y3 y4 p1 z0 z1 z2 z3 z4 q1 hd1 hent hd2 hsto
    have a0 := fun p : After w8 => cell_after v0 p
    have a1 := fun p : After w8 => cell_after v1 p
    have a2 := fun p : After w8 => cell_after v2 p
    have a3 := fun p : After w8 => cell_after v3 p
    have a4 := fun p : After w8 => cell_after v4 p
    have ap := fun p : After w8 => cell_after r1 p
    have al := fun p : After w8 => sum_look HA8.out.1 p.below
    have hz := HZ.out
    clear v0 v1 v2 v3 v4 r1
    go_wp2_with fail
    refine quiet_after (by kernel_rfl) (by kernel_rfl) ?_
    repeat (first | go_big_quiet_step (fail) | quiet_step (fail))
    refine wpQuiet_nil ?_
    intro wz hw'
    obtain ⟨p, rfl⟩ := hw'
    obtain ⟨w9, hbq⟩ := p
    dsimp only
    have HB9 := Lib.hid hbq
    clear a0 a1 a2 a3 a4 ap al hbq
    go_wp2_with fail
    go_ret
    refine ⟨by rw [HE.out]; rfl, ?_, ?_⟩
    · rw [HE.out, if_pos rfl]
      obtain ⟨⟨L, h1, h2⟩, h3, h4⟩ := HA8.out
      exact (⟨h3, L, h1, cpl_some HA.out HZ.out h2⟩ : Cs _ _ _ _ _).below HB9.out
    · exact ((Fr.of_below (S := fun k => k = b) HB6.out).trans HA8.out.2.2 (fun _ _ h => h)).trans (Fr.of_below (S := fun k => k = b) HB9.out) (fun _ _ h => h)
set_option maxRecDepth 100000 in
set_option maxHeartbeats 8000000 in
theorem add_zero (P b : Nat) (d : Int) (C : List (T × Int)) (t : T) (n : Int) (C' : List (T × Int)) (w : World) (hC : Cs w P b d C) (hr : t.rightB = true) (hd : t.d = d) (hc : -1099511627776 ≤ cnt C t ∧ cnt C t ≤ 1099511627776) (hn : inB n = true) (hm : inB (cnt C t + n) = true) (hz : cnt C t + n = 0) (hA : Added C t n C') :
    Calls Try.prog 11 #[.pointer (some ⟨P, 0, none⟩), .agg #[.int .i64 t.d, .int .i64 t.e, .int .i64 t.a, .int .i64 t.b, .int .i64 t.c], .int .i64 n] w (Adds P b d C t n C' w) := by
  have HC := Lib.hid hC
  have HE := Lib.hid (show addE d C t n = 0 by unfold addE; simp [hr, hd, hn, hm])
  have HB := Lib.hid (below_new w (.cells #[.int .i64 t.d, .int .i64 t.e, .int .i64 t.a, .int .i64 t.b, .int .i64 t.c] 28))
  have HR := Lib.hid (fun W => right_any t W)
  rw [hr] at HR
  have HC1 := Lib.hid (hC.below (below_new w (.cells #[.int .i64 t.d, .int .i64 t.e, .int .i64 t.a, .int .i64 t.b, .int .i64 t.c] 28)))
  have HX := Lib.hid (Bx.new w t _ rfl)
  have y0 := fun p : After (w.alloc (.cells #[.int .i64 t.d, .int .i64 t.e, .int .i64 t.a, .int .i64 t.b, .int .i64 t.c] 28)) => (HX.out.below p.below).cells.1
  have y1 := fun p : After (w.alloc (.cells #[.int .i64 t.d, .int .i64 t.e, .int .i64 t.a, .int .i64 t.b, .int .i64 t.c] 28)) => (HX.out.below p.below).cells.2.1
  have y2 := fun p : After (w.alloc (.cells #[.int .i64 t.d, .int .i64 t.e, .int .i64 t.a, .int .i64 t.b, .int .i64 t.c] 28)) => (HX.out.below p.below).cells.2.2.1
  have y3 := fun p : After (w.alloc (.cells #[.int .i64 t.d, .int .i64 t.e, .int .i64 t.a, .int .i64 t.b, .int .i64 t.c] 28)) => (HX.out.below p.below).cells.2.2.2.1
  have y4 := fun p : After (w.alloc (.cells #[.int .i64 t.d, .int .i64 t.e, .int .i64 t.a, .int .i64 t.b, .int .i64 t.c] 28)) => (HX.out.below p.below).cells.2.2.2.2
  have p0 := fun p : After (w.alloc (.cells #[.int .i64 t.d, .int .i64 t.e, .int .i64 t.a, .int .i64 t.b, .int .i64 t.c] 28)) => ((HC1.out.below p.below).blk.cell 0)
  have hd' : (t.d != d) = false := by simpa using hd
  have HA := Lib.hid hA
  have HZ := Lib.hid hz
  clear hC hr hd hA hz
  have HS := Lib.hid (show IntKind.i64.wrap (cnt C t + n) = cnt C t + n by
    unfold inB at hn
    simp only [decide_eq_true_eq] at hn
    exact IntWalk.i64_in _ ⟨by omega, by omega⟩)
  clear hc
  go_enter Try.func11, Try.ntmps11
  go_wp2_with fail
  refine quiet_after (by kernel_rfl) (by kernel_rfl) ?_
  repeat (first | go_big_quiet_step ((go_at_call 25; with_reducible exact calls_after (HR.out _))) | quiet_step ((go_at_call 25; with_reducible exact calls_after (HR.out _))))
  refine wpQuiet_nil ?_
  intro wz hw'
  obtain ⟨p, rfl⟩ := hw'
  obtain ⟨w5, hbq⟩ := p
  dsimp only
  have HB5 := Lib.hid (below_then HB.out hbq)
  have HX5 := Lib.hid (HX.out.below hbq)
  have HC5 := Lib.hid (HC1.out.below hbq)
  clear y0 y1 y2 y3 y4 p0 hbq HX HC1
  go_wp2_with fail
  have HR2 := Lib.hid (fun W => cwithin_any n W)
  rw [hn] at HR2
  have y0 := fun p : After w5 => (HX5.out.below p.below).cells.1
  have y1 := fun p : After w5 => (HX5.out.below p.below).cells.2.1
  have y2 := fun p : After w5 => (HX5.out.below p.below).cells.2.2.1
  have y3 := fun p : After w5 => (HX5.out.below p.below).cells.2.2.2.1
  have y4 := fun p : After w5 => (HX5.out.below p.below).cells.2.2.2.2
  have p1 := fun p : After w5 => ((HC5.out.below p.below).blk.cell 1)
  have l1 := fun p : After w5 => (HC5.out.below p.below).look t
  have hs : IntKind.i64.wrap (cnt C t + n) = cnt C t + n := HS.out
  have HR3 := Lib.hid (fun W => cwithin_any (cnt C t + n) W)
  rw [hm] at HR3
  have HX5' := HX5
  have HC5' := HC5
  clear HX5 HC5 hn hm
  refine quiet_after (by kernel_rfl) (by kernel_rfl) ?_
  repeat (first | go_big_quiet_step ((first | (go_at_call 26; first | with_reducible exact calls_after (HR2.out _) | with_reducible exact calls_after (HR3.out _)))) | quiet_step ((first | (go_at_call 26; first | with_reducible exact calls_after (HR2.out _) | with_reducible exact calls_after (HR3.out _)))))
  refine wpQuiet_nil ?_
  intro wz hw'
  obtain ⟨p, rfl⟩ := hw'
  obtain ⟨w6, hbq⟩ := p
  dsimp only
  have HB6 := Lib.hid (below_then HB5.out hbq)
  have HX6 := Lib.hid (HX5'.out.below hbq)
  have HC6 := Lib.hid (HC5'.out.below hbq)
  clear y0 y1 y2 y3 y4 p1 l1 hbq HR2 HR3 HR
  go_wp2_with fail
  obtain ⟨wd, w7, w8, hwd, R0, hd1, ⟨q, hent, R1, hd2, hsto⟩, R2, HA8⟩ := stage n C' HX6.out HC6.out HA.out
  have HA8 := Lib.hid HA8
  obtain ⟨y0, y1, y2, y3, y4, p1⟩ := R0
  obtain ⟨z0, z1, z2, z3, z4, q1⟩ := R1
  have R2' := Lib.hid R2
  obtain ⟨v0, v1, v2, v3, v4, r1⟩ := R2
  subst hwd
  go_region_held3 (fun w' => w'.cell? ⟨w.heap.size, 0, none⟩ = some (.int .i64 t.d) ∧ w'.cell? ⟨w.heap.size, 1, none⟩ = some (.int .i64 t.e) ∧ w'.cell? ⟨w.heap.size, 2, none⟩ = some (.int .i64 t.a) ∧ w'.cell? ⟨w.heap.size, 3, none⟩ = some (.int .i64 t.b) ∧ w'.cell? ⟨w.heap.size, 4, none⟩ = some (.int .i64 t.c) ∧ w'.cell? ⟨P, 1, none⟩ = some (.map (some b)))
    (first | exact ⟨y0, y1, y2, y3, y4, p1⟩ | exact ⟨z0, z1, z2, z3, z4, q1⟩ | exact ⟨v0, v1, v2, v3, v4, r1⟩)
    (fail)
  all_goals
    clear y0 y1 y2 y3 y4 p1 z0 z1 z2 z3 z4 q1 hd1 hent hd2 hsto
    have a0 := fun p : After w8 => cell_after v0 p
    have a1 := fun p : After w8 => cell_after v1 p
    have a2 := fun p : After w8 => cell_after v2 p
    have a3 := fun p : After w8 => cell_after v3 p
    have a4 := fun p : After w8 => cell_after v4 p
    have ap := fun p : After w8 => cell_after r1 p
    have al := fun p : After w8 => sum_look HA8.out.1 p.below
    have hz := HZ.out
    clear v0 v1 v2 v3 v4 r1
    go_wp2_with fail
    refine quiet_after (by kernel_rfl) (by kernel_rfl) ?_
    repeat (first | go_big_quiet_step (fail) | quiet_step (fail))
    refine wpQuiet_nil ?_
    intro wz hw'
    obtain ⟨p, rfl⟩ := hw'
    obtain ⟨w9, hbq⟩ := p
    dsimp only
    have HB9 := Lib.hid hbq
    clear a0 a1 a2 a3 a4 ap al hbq
    go_wp2_with fail
    obtain ⟨v0, v1, v2, v3, v4, r1⟩ := (R2'.out.then HB9.out).drew
    obtain ⟨wx, hdel, HX⟩ := stage2 HA8.out HB9.out
    obtain ⟨u0, u1, u2, u3, u4, s1⟩ := HX.1 (bx_ne HC6.out HX6.out) ⟨v0, v1, v2, v3, v4, r1⟩
    have HX := Lib.hid HX
    go_region_held3 (fun w' => w'.cell? ⟨w.heap.size, 0, none⟩ = some (.int .i64 t.d) ∧ w'.cell? ⟨w.heap.size, 1, none⟩ = some (.int .i64 t.e) ∧ w'.cell? ⟨w.heap.size, 2, none⟩ = some (.int .i64 t.a) ∧ w'.cell? ⟨w.heap.size, 3, none⟩ = some (.int .i64 t.b) ∧ w'.cell? ⟨w.heap.size, 4, none⟩ = some (.int .i64 t.c) ∧ w'.cell? ⟨P, 1, none⟩ = some (.map (some b)))
      (first | exact ⟨v0, v1, v2, v3, v4, r1⟩ | exact ⟨u0, u1, u2, u3, u4, s1⟩)
      (fail)
    clear v0 v1 v2 v3 v4 r1 u0 u1 u2 u3 u4 s1 hdel
    go_wp2_with fail
    go_ret
    refine ⟨by rw [HE.out]; rfl, ?_, ?_⟩
    · rw [HE.out, if_pos rfl]
      obtain ⟨_, ⟨L, L', h1, h2, h2'⟩, h3, h4⟩ := HX.out
      exact ⟨h3, L', h1, cpl_zero HA.out HZ.out h2 h2'⟩
    · exact (Fr.of_below (S := fun k => k = b) HB6.out).trans HX.out.2.2.2 (fun _ _ h => h)
end Go.Proofs.Ytebpepjlhanopaa
