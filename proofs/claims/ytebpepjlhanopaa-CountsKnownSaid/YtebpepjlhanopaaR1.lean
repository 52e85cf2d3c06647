/- Contracts of the reference's place, Count. -/
import Derived.Test.YtebpepjlhanopaaRows
import Derived.IntWalk
import Derived.Test.YtebpepjlhanopaaWords
import Derived.Test.YtebpepjlhanopaaByts
import Derived.Test.YtebpepjlhanopaaFrame
import Derived.Test.YtebpepjlhanopaaElems
import Derived.Test.YtebpepjlhanopaaS1
import Derived.Test.YtebpepjlhanopaaS2
import Derived.Test.YtebpepjlhanopaaS7
import Derived.Test.YtebpepjlhanopaaS8
import Derived.Test.YtebpepjlhanopaaEqs
import Derived.Test.YtebpepjlhanopaaU1
import Derived.Test.YtebpepjlhanopaaA1
import Derived.Test.YtebpepjlhanopaaP1
import Derived.Test.YtebpepjlhanopaaM1
import Derived.Test.YtebpepjlhanopaaM8
import Derived.Test.YtebpepjlhanopaaR0
namespace Go.Proofs.Ytebpepjlhanopaa
open Go Go.RowKit Go.Proofs.Tail Go.Sort
set_option linter.unusedSimpArgs false
set_option linter.unusedVariables false
attribute [local go_sem high] eq_stamp
/-- How many stand ahead of a time; does it stand there? -/
def plN (C : List (T × Int)) (t : T) : Nat := (C.takeWhile fun p => decide (cfT p.1 t < 0)).length
def plB (C : List (T × Int)) (t : T) : Bool := match C[plN C t]? with
  | some p => T.eqB p.1 t
  | none => false
theorem plN_at {C : List (T × Int)} {t : T} {k : Nat} (h1 : ∀ (j : Nat) (x : T × Int), j < k → C[j]? = some x → cfT x.1 t < 0) (h2 : ∀ x, C[k]? = some x → ¬ cfT x.1 t < 0) (hk : k ≤ C.length) : plN C t = k := by
  unfold plN
  induction C generalizing k with
  | nil => simp at hk; simp [hk]
  | cons p C ih =>
    cases k with
    | zero =>
      have := h2 p rfl
      simp [this]
    | succ k =>
      have hp := h1 0 p (by omega) rfl
      rw [List.takeWhile_cons_of_pos (by simpa using hp), List.length_cons, ih (fun j x hj hx => h1 (j + 1) x (by omega) hx) (fun x hx => h2 x hx) (by simpa using hk)]
theorem plN_le (C : List (T × Int)) (t : T) : plN C t ≤ C.length := (List.takeWhile_prefix _).length_le
theorem Canon.ahead {C : List (T × Int)} (h : Canon C) {i j : Nat} {x y : T × Int} (hij : i < j) (hx : C[i]? = some x) (hy : C[j]? = some y) : cfT x.1 y.1 < 0 := by
  obtain ⟨hi, hx'⟩ := List.getElem?_eq_some_iff.1 hx
  obtain ⟨hj, hy'⟩ := List.getElem?_eq_some_iff.1 hy
  have := (List.pairwise_iff_getElem.1 h.srt) i j (by simpa using hi) (by simpa using hj) hij
  simpa [hx', hy'] using this
theorem cnt_place {C : List (T × Int)} {t : T} (h : Canon C) : (plB C t = true → ∃ p, C[plN C t]? = some p ∧ p.1 = t ∧ p.2 = cnt C t) ∧ (plB C t = false → cnt C t = 0) := by
  constructor
  · intro hb
    unfold plB at hb
    cases hg : C[plN C t]? with
    | none => rw [hg] at hb; cases hb
    | some p =>
      rw [hg] at hb
      have := T.eqB_iff.1 hb
      exact ⟨p, rfl, this, by rw [← this]; exact (cnt_mem (ssrt_nodup h.srt) (List.mem_of_getElem? hg)).symm⟩
  · intro hb
    refine Classical.byContradiction fun hc => ?_
    have hm := (h.mem t).2 hc
    obtain ⟨p, hp, hpt⟩ := List.mem_map.1 hm
    obtain ⟨k, hk, hpk⟩ := List.getElem_of_mem hp
    have hg : C[k]? = some p := by rw [List.getElem?_eq_getElem hk, hpk]
    have hpl : plN C t = k := plN_at (fun j x hj hx => by rw [← hpt]; exact h.ahead hj hx hg) (fun x hx => by
      rw [hg] at hx
      cases hx
      have := (cmp_zero (s := p.1) (t := t)).2 hpt
      unfold cfT
      omega) (by omega)
    unfold plB at hb
    rw [hpl, hg] at hb
    have h9 := T.eqB_iff.2 hpt
    have hb2 : T.eqB p.1 t = false := hb
    rw [h9] at hb2
    cases hb2
set_option maxRecDepth 100000 in
set_option maxHeartbeats 8000000 in
theorem place_any (d : Int) (A : Option Addr) (n c : Nat) (C : List (T × Int)) (t : T) (w : World) (hX : Cos w A n c C) :
    Calls Try.prog 35 #[.agg #[.int .i64 d, .slice A n c], .agg #[.int .i64 t.d, .int .i64 t.e, .int .i64 t.a, .int .i64 t.b, .int .i64 t.c]] w (Gives (.tuple #[.int .i64 (plN C t), .bool (plB C t)]) w) := by
  have hb1 := below_new w (.cells #[.int .i64 d, .slice A n c] 40)
  have hb2 := below_new (w.alloc (.cells #[.int .i64 d, .slice A n c] 40)) (.cells #[.int .i64 t.d, .int .i64 t.e, .int .i64 t.a, .int .i64 t.b, .int .i64 t.c] 28)
  have HB0 := Lib.hid (below_then hb1 hb2)
  have HS0 := Lib.hid ((Blk.new w [.int .i64 d, .slice A n c] 40 _ rfl).then hb2)
  have HT0 := Lib.hid (Bx.new (w.alloc (.cells #[.int .i64 d, .slice A n c] 40)) t (w.heap.size + 1) (by simp))
  have HX := Lib.hid hX
  have HL := Lib.hid hX.len
  have hbig := hX.big
  have N0 := Lib.hid (show ∀ (j : Nat) (x : T × Int), j < 0 → C[j]? = some x → cfT x.1 t < 0 from fun j x h => absurd h (Nat.not_lt_zero _))
  have HCM := Lib.hid (fun (x : T) W => refcompare_any x t W)
  clear hX hb1 hb2
  go_enter Try.func35, Try.ntmps35
  go_wp2_with fail
  go_loopw [6] (fun i wr => ∃ k : Nat, k ≤ n ∧ i = .int .i64 k ∧ Hid (∀ (j : Nat) (x : T × Int), j < k → C[j]? = some x → cfT x.1 t < 0) ∧ Hid (Below w.heap.size w wr) ∧ Hid (Blk wr w.heap.size [.int .i64 d, .slice A n c] 40) ∧ Hid (Bx wr (w.heap.size + 1) t)) (fun i _ => n - (intOf i).toNat)
  case atStart => exact ⟨0, Nat.zero_le _, rfl, N0, HB0, HS0, HT0⟩
  case round =>
    clear N0 HB0 HS0 HT0
    obtain ⟨k, hk, rfl, HN, HB, HS, HT⟩ := hrel
    have s1 := fun p : After wr => ((HS.out.then p.below).cell 1)
    have y0 := fun p : After wr => (HT.out.below p.below).cells.1
    have y1 := fun p : After wr => (HT.out.below p.below).cells.2.1
    have y2 := fun p : After wr => (HT.out.below p.below).cells.2.2.1
    have y3 := fun p : After wr => (HT.out.below p.below).cells.2.2.2.1
    have y4 := fun p : After wr => (HT.out.below p.below).cells.2.2.2.2
    by_cases hlt : k < n
    · have hd : decide ((k : Int) < n) = true := decide_eq_true (by omega)
      have hd' : decide (k < n) = true := decide_eq_true (by omega)
      have hk0 : (0 : Int) ≤ k := by omega
      have hkn : (k : Int) < n := by omega
      obtain ⟨b, off, x, rfl, hx, hc⟩ := (HX.out.below RCo.stays HB.out).elem hlt
      have z0 := fun p : After wr => cell_after hc.1.c0 p
      have z1 := fun p : After wr => cell_after hc.1.c1 p
      have z2 := fun p : After wr => cell_after hc.1.c2 p
      have z3 := fun p : After wr => cell_after hc.1.c3 p
      have z4 := fun p : After wr => cell_after hc.1.c4 p
      have HXE := Lib.hid hx
      have HRC := Lib.hid hc
      have CM := Lib.hid (fun W => HCM.out x.1 W)
      have hcm : cmpP x.1 t 3 = cfT x.1 t := rfl
      rw [hcm] at CM
      by_cases hcc : cfT x.1 t < 0
      · have hcd : decide (cfT x.1 t < 0) = true := decide_eq_true hcc
        have HQ := Lib.hid (show ∀ (j : Nat) (z : T × Int), j < k + 1 → C[j]? = some z → cfT z.1 t < 0 from fun j z hj hz => by
          rcases Nat.eq_or_lt_of_le (Nat.le_of_lt_succ hj) with e | e
          · subst e; rw [HXE.out] at hz; injection hz with hz; subst hz; exact hcc
          · exact HN.out j z e hz)
        clear hx hc hcm
        generalize cfT x.1 t = q at *
        go_wp2_with fail
        refine quiet_after (by kernel_rfl) (by kernel_rfl) ?_
        repeat (first | go_big_quiet_step ((first | (go_at_call 55; with_reducible exact calls_after (CM.out _)))) | quiet_step ((first | (go_at_call 55; with_reducible exact calls_after (CM.out _)))))
        refine wpQuiet_nil ?_
        intro wz hw'
        obtain ⟨p, rfl⟩ := hw'
        obtain ⟨w5, hbq⟩ := p
        dsimp only
        have HB5 := Lib.hid (below_then HB.out hbq)
        have HS5 := Lib.hid (HS.out.then hbq)
        have HT5 := Lib.hid (HT.out.below hbq)
        clear hbq HB z0 z1 z2 z3 z4 y0 y1 y2 y3 y4 s1 CM HN HS HT HRC
        go_wp2_with fail
        go_roundw
        case rel => exact ⟨k + 1, by omega, by go_num, HQ, HB5, HS5, HT5⟩
        case measure => simp [intOf]; omega
      · have hcd : decide (cfT x.1 t < 0) = false := decide_eq_false hcc
        have HPL := Lib.hid (show plN C t = k from plN_at HN.out (fun z hz => by rw [HXE.out] at hz; injection hz with hz; subst hz; exact hcc) (by rw [HL.out]; omega))
        have HPB := Lib.hid (show plB C t = T.eqB x.1 t by unfold plB; rw [HPL.out, HXE.out])
        clear hx hc hcm
        generalize cfT x.1 t = q at *
        go_wp2_with fail
        refine quiet_after (by kernel_rfl) (by kernel_rfl) ?_
        repeat (first | go_big_quiet_step ((first | (go_at_call 55; with_reducible exact calls_after (CM.out _)))) | quiet_step ((first | (go_at_call 55; with_reducible exact calls_after (CM.out _)))))
        refine wpQuiet_nil ?_
        intro wz hw'
        obtain ⟨p, rfl⟩ := hw'
        obtain ⟨w5, hbq⟩ := p
        dsimp only
        have HB5 := Lib.hid (below_then HB.out hbq)
        have HS5 := Lib.hid (HS.out.then hbq)
        have HT5 := Lib.hid (HT.out.below hbq)
        have HR5 := Lib.hid (RCo.stays _ _ _ _ _ hbq HRC.out)
        clear hbq HB z0 z1 z2 z3 z4 y0 y1 y2 y3 y4 s1 CM HN HS HT HRC
        have s1 := fun p : After w5 => ((HS5.out.then p.below).cell 1)
        have y0 := fun p : After w5 => (HT5.out.below p.below).cells.1
        have y1 := fun p : After w5 => (HT5.out.below p.below).cells.2.1
        have y2 := fun p : After w5 => (HT5.out.below p.below).cells.2.2.1
        have y3 := fun p : After w5 => (HT5.out.below p.below).cells.2.2.2.1
        have y4 := fun p : After w5 => (HT5.out.below p.below).cells.2.2.2.2
        have z0 := fun p : After w5 => cell_after HR5.out.1.c0 p
        have z1 := fun p : After w5 => cell_after HR5.out.1.c1 p
        have z2 := fun p : After w5 => cell_after HR5.out.1.c2 p
        have z3 := fun p : After w5 => cell_after HR5.out.1.c3 p
        have z4 := fun p : After w5 => cell_after HR5.out.1.c4 p
        go_wp2_with fail
        refine quiet_after (by kernel_rfl) (by kernel_rfl) ?_
        repeat (first | go_big_quiet_step (fail) | quiet_step (fail))
        refine wpQuiet_nil ?_
        intro wz hw'
        obtain ⟨p, rfl⟩ := hw'
        obtain ⟨w6, hbq⟩ := p
        dsimp only
        have HB6 := Lib.hid (below_then HB5.out hbq)
        clear hbq HB5 z0 z1 z2 z3 z4 y0 y1 y2 y3 y4 s1 HS5 HT5 HR5
        go_wp2_with fail
        go_ret2
        exact .mk (by rw [HPL.out, HPB.out]; rfl) HB6.out
    · have hkn : k = n := by omega
      subst hkn
      have hd : decide ((k : Int) < k) = false := decide_eq_false (by omega)
      have hd' : decide (k < k) = false := decide_eq_false (by omega)
      have hcn : C[k]? = none := List.getElem?_eq_none (by rw [HL.out]; exact Nat.le_refl _)
      have HPL := Lib.hid (show plN C t = k from plN_at HN.out (fun z hz => by rw [hcn] at hz; cases hz) (by rw [HL.out]; exact Nat.le_refl _))
      have HPB := Lib.hid (show plB C t = false by unfold plB; rw [HPL.out, hcn])
      clear hcn
      go_wp2_with fail
      refine quiet_after (by kernel_rfl) (by kernel_rfl) ?_
      repeat (first | go_big_quiet_step (fail) | quiet_step (fail))
      refine wpQuiet_nil ?_
      intro wz hw'
      obtain ⟨p, rfl⟩ := hw'
      obtain ⟨w5, hbq⟩ := p
      dsimp only
      have HB5 := Lib.hid (below_then HB.out hbq)
      have HS5 := Lib.hid (HS.out.then hbq)
      clear hbq HB y0 y1 y2 y3 y4 s1 HN HS HT
      have s1 := fun p : After w5 => ((HS5.out.then p.below).cell 1)
      go_wp2_with fail
      refine quiet_after (by kernel_rfl) (by kernel_rfl) ?_
      repeat (first | go_big_quiet_step (fail) | quiet_step (fail))
      refine wpQuiet_nil ?_
      intro wz hw'
      obtain ⟨p, rfl⟩ := hw'
      obtain ⟨w6, hbq⟩ := p
      dsimp only
      have HB6 := Lib.hid (below_then HB5.out hbq)
      clear hbq HB5 s1 HS5
      go_wp2_with fail
      go_ret2
      exact .mk (by rw [HPL.out, HPB.out]; rfl) HB6.out
set_option maxHeartbeats 4000000 in
theorem refcount_any (d : Int) (A : Option Addr) (n c : Nat) (C : List (T × Int)) (t : T) (w : World) (hX : Cos w A n c C) (hC : Canon C) :
    Calls Try.prog 18 #[.agg #[.int .i64 d, .slice A n c], .agg #[.int .i64 t.d, .int .i64 t.e, .int .i64 t.a, .int .i64 t.b, .int .i64 t.c]] w (Gives (.int .i64 (cnt C t)) w) := by
  have hb1 := below_new w (.cells #[.int .i64 d, .slice A n c] 40)
  have hb2 := below_new (w.alloc (.cells #[.int .i64 d, .slice A n c] 40)) (.cells #[.int .i64 t.d, .int .i64 t.e, .int .i64 t.a, .int .i64 t.b, .int .i64 t.c] 28)
  have hb := below_then hb1 hb2
  have HB0 := Lib.hid hb
  have HS0 := Lib.hid ((Blk.new w [.int .i64 d, .slice A n c] 40 _ rfl).then hb2)
  have HP := Lib.hid (place_any d A n c C t _ (hX.below RCo.stays hb))
  have HX := Lib.hid hX
  have HCP := Lib.hid (cnt_place (t := t) hC)
  have hbig := hX.big
  clear hX hb1 hb2 hb hC
  cases hpb : plB C t with
  | false =>
    have HQ := Lib.hid (HCP.out.2 hpb)
    rw [hpb] at HP
    clear HCP hpb
    go_enter Try.func18, Try.ntmps18
    go_wp2_with (go_at_call 35; refine HP.out.mono ?_; rintro e w1 ⟨rfl, hb1⟩; have HB1 := Lib.hid (below_then HB0.out hb1); clear hb1)
    go_ret
    exact .int HQ.out.symm HB1.out
  | true =>
    obtain ⟨p, hp, hpt, hpn⟩ := HCP.out.1 hpb
    rw [hpb] at HP
    have hlt := (List.getElem?_eq_some_iff.1 hp).1
    rw [HX.out.len] at hlt
    generalize plN C t = k at *
    have hk0 : (0 : Int) ≤ k := by omega
    have hkn : (k : Int) < n := by omega
    obtain ⟨b, off, x, rfl, hx, hc⟩ := HX.out.elem hlt
    rw [hp] at hx
    cases hx
    have HRC := Lib.hid hc
    have HPN := Lib.hid hpn
    clear HCP hpb hp hpt hpn hc
    go_enter Try.func18, Try.ntmps18
    go_wp2_with (go_at_call 35; refine HP.out.mono ?_; rintro e w1 ⟨rfl, hb1⟩; have HB1 := Lib.hid (below_then HB0.out hb1); have z5 := (RCo.stays _ _ _ _ _ HB1.out HRC.out).2; have s1 := (HS0.out.then hb1).cell 1; clear hb1)
    go_ret
    exact .int HPN.out HB1.out
end Go.Proofs.Ytebpepjlhanopaa
