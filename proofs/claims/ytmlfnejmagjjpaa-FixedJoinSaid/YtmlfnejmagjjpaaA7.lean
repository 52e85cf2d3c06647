/- Contracts of fixed.Holds, of fixed's may, and of slices.Clone at ints, for every slice that can be read (Clone: of at most 2^44 members). -/
import Derived.Test.YtmlfnejmagjjpaaRows
import Derived.Test.YtmlfnejmagjjpaaWords
import Derived.Test.YtmlfnejmagjjpaaFxPlain
import Derived.Test.YtmlfnejmagjjpaaA6
namespace Go.Proofs.Ytmlfnejmagjjpaa
open Go.RowKit Go.Proofs.Tail

def badB (a : List Int) (r : Fx.R) : Bool := !inB r.x r.y a.length || decide (max 0 (Fx.lk a r.y) < Fx.nd r.need (Fx.lk a r.x))
set_option maxHeartbeats 400000 in
theorem bad_any (x y : Int) (A : Option Addr) (n c : Nat) (need : List Int) (B : Nat) (A0 : Option Addr) (n0 c0 : Nat) (a : List Int) (w : World)
    (hc : w.cell? ⟨B, 0, none⟩ = some (.slice A0 n0 c0)) (h0 : Ints w A0 n0 c0 a) (h : Ints w A n c need) :
    Calls Try.prog 24 #[.agg #[.int .i64 x, .int .i64 y, .slice A n c], .pointer (some ⟨B, 0, none⟩)] w (Gives (.bool (badB a ⟨x, y, need⟩)) w) := by
  have hn := below_new w (.cells #[.int .i64 x, .int .i64 y, .slice A n c] 35)
  have hc' := cell_after (below_cell hn hc)
  have hb : ∀ j v, [Value.int .i64 x, .int .i64 y, .slice A n c][j]? = some v → ∀ p : After (w.alloc (.cells #[.int .i64 x, .int .i64 y, .slice A n c] 35)), p.val.cell? ⟨w.heap.size, j, none⟩ = some v := fun j v hj => cell_after (box_cell w _ 35 j v hj)
  have hb0 : ∀ p : After (w.alloc (.cells #[.int .i64 x, .int .i64 y, .slice A n c] 35)), p.val.cell? ⟨w.heap.size, 0, none⟩ = some (.int .i64 x) := hb 0 _ rfl
  have hb1 : ∀ p : After (w.alloc (.cells #[.int .i64 x, .int .i64 y, .slice A n c] 35)), p.val.cell? ⟨w.heap.size, 1, none⟩ = some (.int .i64 y) := hb 1 _ rfl
  have hb2 : ∀ p : After (w.alloc (.cells #[.int .i64 x, .int .i64 y, .slice A n c] 35)), p.val.cell? ⟨w.heap.size, 2, none⟩ = some (.slice A n c) := hb 2 _ rfl
  clear hb
  have h0' := h0.below RInt.stays hn
  have h' := h.below RInt.stays hn
  have HN := Lib.hid hn
  clear hc h0 h hn
  have hl := Lib.hid h0'.len
  have hm := h0'.big
  have hin := in_any x y (.slice A n c) n0
  cases hq : inB x y n0 with
  | false =>
    have HQ : Hid (badB a ⟨x, y, need⟩ = true) := Lib.hid (by unfold badB; simp only [hl.out, hq, Bool.not_false, Bool.true_or])
    rw [hq] at hin
    have HI := Lib.hid hin
    clear hq hin
    go_enter Try.func24, Try.ntmps24
    go_wp2
    refine quiet_after (by kernel_rfl) (by kernel_rfl) ?_
    repeat (first | go_big_quiet_step ((go_at_call 25; exact calls_after (HI.out _))) | quiet_step ((go_at_call 25; exact calls_after (HI.out _))))
    refine wpQuiet_nil ?_
    intro _ hw'
    obtain ⟨⟨wq, hbq⟩, rfl⟩ := hw'
    go_wp2
    go_ret
    exact .bool HQ.out.symm (below_then HN.out hbq)
  | true =>
    rw [hq] at hin
    have HI := Lib.hid hin
    unfold inB at hq
    rw [decide_eq_true_eq] at hq
    obtain ⟨x0, x1, y0, y1⟩ := hq
    obtain ⟨b0, off0, e, ex⟩ := h0'.int (j := x.toNat) (by omega)
    subst e
    obtain ⟨b1, off1, e, ey⟩ := h0'.int (j := y.toNat) (by omega)
    cases e
    have HB : Hid (badB a ⟨x, y, need⟩ = decide (max 0 (Fx.lk a y) < Fx.nd need (Fx.lk a x))) := Lib.hid (by
      unfold badB
      have : inB x y a.length = true := by unfold inB; rw [hl.out, decide_eq_true_eq]; omega
      simp only [this, Bool.not_true, Bool.false_or])
    have ex' := cell_after ex
    have ey' := cell_after ey
    have hne := fun W h => need_any x y A n c need (Fx.lk a x) W h
    unfold Fx.lk at HB hne
    clear ex ey hin
    generalize a.getD x.toNat 0 = qx at *
    generalize a.getD y.toNat 0 = qy at *
    have HNE := Lib.hid hne
    clear hne
    generalize hnd : Fx.nd need qx = q at HB HNE
    clear hnd
    go_enter Try.func24, Try.ntmps24
    go_wp2
    refine quiet_after (by kernel_rfl) (by kernel_rfl) ?_
    repeat (first | go_big_quiet_step ((first | (go_at_call 25; exact calls_after (HI.out _)) | (go_at_call 20; exact calls_after (HNE.out _ (h'.below RInt.stays (After.below _)))))) | quiet_step ((first | (go_at_call 25; exact calls_after (HI.out _)) | (go_at_call 20; exact calls_after (HNE.out _ (h'.below RInt.stays (After.below _)))))))
    refine wpQuiet_nil ?_
    intro _ hw'
    obtain ⟨⟨wq, hbq⟩, rfl⟩ := hw'
    go_wp2
    all_goals
      go_ret
      refine .bool ?_ (below_then HN.out hbq)
      rw [HB.out, Bool.eq_iff_iff, decide_eq_true_eq, decide_eq_true_eq]
      omega

set_option maxHeartbeats 400000 in
theorem holds_any (A A0 : Option Addr) (n c n0 c0 : Nat) (rules : List Fx.R) (a : List Int) (w : World) (h : Rules w A n c rules) (h0 : Ints w A0 n0 c0 a) :
    Calls Try.prog 14 #[.slice A n c, .slice A0 n0 c0] w (Gives (.bool (!rules.any (badB a))) w) := by
  have hn := below_new w (.cells #[.slice A0 n0 c0] 22)
  have hc := box_cell w [.slice A0 n0 c0] 22 0 _ rfl
  have H := Lib.hid (contains_rule 24 #[.pointer (some ⟨w.heap.size, 0, none⟩)] (badB a) A n c rules _ (h.below RRule.stays hn) (enters_of Try.func24 (by kernel_rfl) rfl)
    (fun W x A1 n1 c1 hb _ h1 => bad_any x.x x.y A1 n1 c1 x.need w.heap.size A0 n0 c0 a W (below_cell hb hc) ((h0.below RInt.stays hn).below RInt.stays hb) h1))
  have HN := Lib.hid hn
  clear hn hc
  generalize rules.any (badB a) = q at H
  go_enter Try.func14, Try.ntmps14
  go_wp2_with (go_at_call 23; refine H.out.mono ?_; rintro e w' ⟨rfl, hb'⟩)
  go_ret
  exact .bool rfl (below_then HN.out hb')

def mayE (tops : List Int) (rules : List Fx.R) : Int :=
  if 4096 < tops.length ∨ 200000 < rules.length ∨ rules.any longB = true then 3
  else if tops.any wrongB = true ∨ rules.any (outB tops.length) = true then 2 else 0
set_option maxHeartbeats 400000 in
theorem may_any (A A0 : Option Addr) (n c n0 c0 : Nat) (rules : List Fx.R) (tops : List Int) (w : World) (h : Rules w A n c rules) (h0 : Ints w A0 n0 c0 tops) :
    Calls Try.prog 18 #[.slice A0 n0 c0, .slice A n c] w (Gives (.int .i64 (mayE tops rules)) w) := by
  have hn := below_new w (.cells #[.slice A0 n0 c0] 22)
  have hc := box_cell w [.slice A0 n0 c0] 22 0 _ rfl
  have hl := h.len
  have hl0 := h0.len
  have hm := h.big
  have hm0 := h0.big
  have H1 := fun W (hb : Below (w.alloc (.cells #[.slice A0 n0 c0] 22)).heap.size (w.alloc (.cells #[.slice A0 n0 c0] 22)) W) => contains_rule 26 #[] longB A n c rules W ((h.below RRule.stays hn).below RRule.stays hb) (enters_of Try.func26 (by kernel_rfl) rfl)
    (fun W' x A1 n1 c1 _ _ h1 => long_any x.x x.y A1 n1 c1 x.need W' h1)
  have H2 := fun W (hb : Below (w.alloc (.cells #[.slice A0 n0 c0] 22)).heap.size (w.alloc (.cells #[.slice A0 n0 c0] 22)) W) => contains_int 27 #[] wrongB A0 n0 c0 tops W ((h0.below RInt.stays hn).below RInt.stays hb) (enters_of Try.func27 (by kernel_rfl) rfl)
    (fun W' x _ _ => wrong_any x W')
  have H3 := fun W (hb : Below (w.alloc (.cells #[.slice A0 n0 c0] 22)).heap.size (w.alloc (.cells #[.slice A0 n0 c0] 22)) W) => contains_rule 29 #[.pointer (some ⟨w.heap.size, 0, none⟩)] (outB n0) A n c rules W ((h.below RRule.stays hn).below RRule.stays hb) (enters_of Try.func29 (by kernel_rfl) rfl)
    (fun W' x A1 n1 c1 hb' _ _ => out_any x.x x.y _ x.need w.heap.size A0 n0 c0 W' (below_cell hb' (below_cell hb hc)))
  have hE : Hid (mayE tops rules = if 4096 < n0 ∨ 200000 < n ∨ rules.any longB = true then 3
    else if tops.any wrongB = true ∨ rules.any (outB n0) = true then 2 else 0) := Lib.hid (by unfold mayE; rw [hl, hl0])
  have HC := Lib.hid hc
  clear hl hl0 hc h h0
  have HN := Lib.hid hn
  clear hn
  generalize rules.any longB = q1 at *
  generalize tops.any wrongB = q2 at *
  generalize rules.any (outB n0) = q3 at *
  have HH1 := Lib.hid H1
  have HH2 := Lib.hid H2
  have HH3 := Lib.hid H3
  clear H1 H2 H3
  by_cases g0 : n0 ≤ 4096
  · by_cases g1 : n ≤ 200000
    · go_enter Try.func18, Try.ntmps18
      go_wp2_with fail
      refine (HH1.out _ (Below.refl _ _)).mono ?_
      rintro e w1 ⟨rfl, hb1⟩
      have HB1 := Lib.hid hb1
      have hc1 := below_cell hb1 HC.out
      clear hb1
      cases q1 with
      | true =>
        go_wp2
        go_ret
        exact .int (by rw [hE.out, if_pos (.inr (.inr (by simp)))]) (below_then HN.out HB1.out)
      | false =>
        go_wp2_with fail
        refine (HH2.out _ HB1.out).mono ?_
        rintro e w2 ⟨rfl, hb2⟩
        have HB2 := Lib.hid (below_then HB1.out hb2)
        have hc2 := below_cell hb2 hc1
        clear hb2
        cases q2 with
        | true =>
          go_wp2
          go_ret
          exact .int (by rw [hE.out, if_neg (by simp; omega), if_pos (.inl (by simp))]) (below_then HN.out HB2.out)
        | false =>
          go_wp2_with fail
          refine (HH3.out _ HB2.out).mono ?_
          rintro e w3 ⟨rfl, hb3⟩
          have HB3 := Lib.hid (below_then HB2.out hb3)
          clear hb3
          cases q3 with
          | true =>
            go_wp2
            go_ret
            exact .int (by rw [hE.out, if_neg (by simp; omega), if_pos (.inr (by simp))]) (below_then HN.out HB3.out)
          | false =>
            go_wp2
            go_ret
            exact .int (by rw [hE.out, if_neg (by simp; omega), if_neg (by simp)]) (below_then HN.out HB3.out)
    · have g1' : ¬ (n : Int) ≤ 200000 := by omega
      have hE' := Lib.hid (show mayE tops rules = 3 by rw [hE.out, if_pos (by omega)])
      clear hE HH1 HH2 HH3
      go_enter Try.func18, Try.ntmps18
      go_wp2
      all_goals
        go_ret
        exact .int hE'.out.symm HN.out
  · have g0' : ¬ (n0 : Int) ≤ 4096 := by omega
    have hE' := Lib.hid (show mayE tops rules = 3 by rw [hE.out, if_pos (by omega)])
    clear hE HH1 HH2 HH3
    go_enter Try.func18, Try.ntmps18
    go_wp2
    all_goals
      go_ret
      exact .int hE'.out.symm HN.out

/-- slices.Clone at ints: a row of its own; nil of nil. -/
def CloneQ (e : TypeId) (xs : List Int) (w : World) (en : Ending) (w' : World) : Prop :=
  ∃ v, en = .returned v ∧ w'.ownsRow w.heap.size e 1 v xs.length (ints xs) ∧ Below w.heap.size w w'
theorem Try.info3 : (Try.prog.info? 3).map (fun i => (i.zero, i.size, i.bytes)) = some (some (.int .i64 0), 1, 8) := by kernel_rfl
set_option maxHeartbeats 400000 in
theorem clone_any (A : Option Addr) (n c : Nat) (xs : List Int) (w : World) (h : Ints w A n c xs) (hr : n * 8 ≤ 140737488355328) :
    Calls Try.prog 19 #[.slice A n c] w (CloneQ 3 xs w) := by
  have hnil := Lib.run_eql_slice_nil (P := Try.prog) w 22 3 A n c 0 0 Try.underlying22
  cases A with
  | none =>
    have hx : xs = [] := by
      rcases Nat.eq_zero_or_pos n with h0 | h0
      · exact List.eq_nil_of_length_eq_zero (by rw [h.len, h0])
      · obtain ⟨b, off, e, _⟩ := h.at_ h0
        cases e
    subst hx
    go_enter Try.func19, Try.ntmps19
    go_wp2
    go_ret
    exact ⟨_, rfl, World.ownsRow_nil _ _ _ _, Below.refl _ _⟩
  | some ad =>
    go_enter Try.func19, Try.ntmps19
    go_wp2_with (at_builtin; refine own_append_ints rfl _ _ 22 3 rfl Try.underlying22 Try.info3 w.heap.size (.slice (some ⟨w.heap.size, 0, none⟩) 0 0) 0 [] _ n c xs rfl rfl (World.ownsRow_made _ #[] 0 (Nat.le_refl _) (by simp [maxLen]) rfl) (h.below RInt.stays (below_new _ _)) (by omega) (by simp) ?_)
    intro v1 w1 hown hg _
    have hb : Below w.heap.size w w1 := below_grown (below_new w _) hg (fun k hk => by simp [Value.ownBlock] at hk; omega)
    have HO := Lib.hid hown
    have HB := Lib.hid hb
    clear hown hg hb
    go_wp2
    go_ret
    exact ⟨_, rfl, by rw [h.len]; exact HO.out, HB.out⟩
end Go.Proofs.Ytmlfnejmagjjpaa
