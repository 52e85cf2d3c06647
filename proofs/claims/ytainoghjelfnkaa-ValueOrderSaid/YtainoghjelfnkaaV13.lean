/- The walk of ValueOrder. -/
import Derived.Test.YtainoghjelfnkaaRows
import Derived.Test.YtainoghjelfnkaaWords
import Derived.Test.YtainoghjelfnkaaByts
import Derived.Test.YtainoghjelfnkaaFrame
import Derived.Test.YtainoghjelfnkaaElems
import Derived.Test.YtainoghjelfnkaaV1
import Derived.Test.YtainoghjelfnkaaV2
import Derived.Test.YtainoghjelfnkaaV3
import Derived.Test.YtainoghjelfnkaaV4
import Derived.Test.YtainoghjelfnkaaV11
import Derived.Test.YtainoghjelfnkaaV12
import Derived.Test.YtainoghjelfnkaaP1
namespace Go.Proofs.Ytainoghjelfnkaa
open Go Go.RowKit Go.Proofs.Tail Go.Sort
set_option linter.unusedSimpArgs false
set_option linter.unusedVariables false
theorem cfR_turn (x y : Rc) : cfR y x = - cfR x y := by
  unfold cfR orI sgn
  by_cases h1 : x.1 < y.1
  · have : ¬ y.1 < x.1 := by omega
    simp [h1, this]
  · by_cases h2 : y.1 < x.1
    · simp [h1, h2]
    · by_cases h3 : x.2 < y.2
      · have : ¬ y.2 < x.2 := by omega
        simp [h1, h2, h3, this]
      · by_cases h4 : y.2 < x.2 <;> simp [h1, h2, h3, h4]
theorem cfR_range (x y : Rc) : -1 ≤ cfR x y ∧ cfR x y ≤ 1 := by
  unfold cfR orI sgn
  (repeat' split) <;> omega
theorem cfR_zero (x y : Rc) : cfR x y = 0 ↔ x = y := by
  constructor
  · intro h
    exact totR x y (by unfold ltOf; simp [h]) (by unfold ltOf; rw [cfR_turn, h]; simp)
  · exact cfR_eq
theorem cfR_le (x y : Rc) : cfR x y ≤ 0 ↔ leR x y = true := by
  unfold leR ltOf
  rw [cfR_turn]
  simp only [Bool.not_eq_true', decide_eq_false_iff_not]
  omega
theorem leR_trans {a b c : Rc} (h1 : leR a b = true) (h2 : leR b c = true) : leR a c = true := by
  rw [leR_iff] at *; omega
set_option maxRecDepth 100000 in
set_option maxHeartbeats 16000000 in
theorem law_order (p q r : Rc) (A : Option Addr) (n c : Nat) (xs : List Rc) (w : World) (hX : Recs w A n c xs) :
    Calls Try.prog 5 #[.agg #[.int .i64 p.1, .int .i64 p.2], .agg #[.int .i64 q.1, .int .i64 q.2], .agg #[.int .i64 r.1, .int .i64 r.2], .slice A n c] w (Gives (.bool true) w) := by
  have HX := Lib.hid hX
  have LX := Lib.hid hX.len
  have hb0 : Hid (Below w.heap.size w (((w.alloc (.cells #[.int .i64 p.1, .int .i64 p.2] 32)).alloc (.cells #[.int .i64 q.1, .int .i64 q.2] 32)).alloc (.cells #[.int .i64 r.1, .int .i64 r.2] 32))) := Lib.hid (below_alloc (below_alloc (below_new w _) _) _)
  by_cases hn : 100 < n
  · have d1 : decide (100 < (n : Int)) = true := decide_eq_true (by omega)
    clear hX hn
    go_enter Try.func5, Try.ntmps5
    go_wp2_with fail
    refine (works_any _).mono ?_
    rintro e w1 ⟨rfl, hb⟩
    have HB := Lib.hid (below_then hb0.out hb)
    clear hb
    go_wp2_with fail
    go_ret
    exact .bool rfl HB.out
  · have d1 : decide (100 < (n : Int)) = false := decide_eq_false (by omega)
    have CS := Lib.hid (fun W hb => sorted_any A n c xs W (hX.below RRc.stays hb) (by omega))
    have hsl : (sortR xs).length = n := by rw [sortR_length, hX.len]
    have HSS := Lib.hid (sortR_sorted xs)
    have hn100 : n ≤ 100 := by omega
    clear hX hn
    generalize sortR xs = us at *
    have HSL := Lib.hid hsl
    clear hsl
    have D1 := Lib.hid (Blk.new w [.int .i64 p.1, .int .i64 p.2] 32 _ rfl)
    have P3 := Lib.hid ((D1.out.then (below_new _ (.cells #[.int .i64 q.1, .int .i64 q.2] 32))).then (below_new _ (.cells #[.int .i64 r.1, .int .i64 r.2] 32)))
    have Q3 := Lib.hid ((Blk.new (w.alloc (.cells #[.int .i64 p.1, .int .i64 p.2] 32)) [.int .i64 q.1, .int .i64 q.2] 32 (w.heap.size + 1) (by simp)).then (below_new _ (.cells #[.int .i64 r.1, .int .i64 r.2] 32)))
    have R3 := Lib.hid (Blk.new ((w.alloc (.cells #[.int .i64 p.1, .int .i64 p.2] 32)).alloc (.cells #[.int .i64 q.1, .int .i64 q.2] 32)) [.int .i64 r.1, .int .i64 r.2] 32 (w.heap.size + 1 + 1) (by simp))
    go_enter Try.func5, Try.ntmps5
    go_wp2_with fail
    generalize ((w.alloc (.cells #[.int .i64 p.1, .int .i64 p.2] 32)).alloc (.cells #[.int .i64 q.1, .int .i64 q.2] 32)).alloc (.cells #[.int .i64 r.1, .int .i64 r.2] 32) = W at *
    have p0 := fun z : After W => (P3.out.then z.below).cell 0
    have p1 := fun z : After W => (P3.out.then z.below).cell 1
    have q0 := fun z : After W => (Q3.out.then z.below).cell 0
    have q1 := fun z : After W => (Q3.out.then z.below).cell 1
    have r0 := fun z : After W => (R3.out.then z.below).cell 0
    have r1 := fun z : After W => (R3.out.then z.below).cell 1
    clear D1 P3 Q3 R3
    have CPQ := Lib.hid (cmp_gives p q)
    have CQP := Lib.hid (cmp_gives q p)
    rw [cfR_turn p q] at CQP
    have CQR := Lib.hid (cmp_gives q r)
    have CPR := Lib.hid (cmp_gives p r)
    have b1 := cfR_range p q
    have hz := cfR_zero p q
    have l1 := cfR_le p q
    have l2 := cfR_le q r
    have l3 := cfR_le p r
    have htr : cfR p q ≤ 0 → cfR q r ≤ 0 → cfR p r ≤ 0 := fun h1 h2 => l3.2 (leR_trans (l1.1 h1) (l2.1 h2))
    clear l1 l2 l3
    generalize cfR p q = x at *
    generalize cfR q r = y at *
    generalize cfR p r = z at *
    obtain ⟨bx0, bx1⟩ := b1
    have hb1 : (-1 : Int) ≤ -x := by omega
    have hb2 : -x ≤ 1 := by omega
    have e1 : (x != - -x) = false := by simp
    have e1' : (x != x) = false := by simp
    have hxx : -(-x) = x := by omega
    have hcase : (0 < x ∧ p ≠ q) ∨ (x < 0 ∧ p ≠ q ∧ 0 < y) ∨ (x = 0 ∧ p = q ∧ 0 < y) ∨ (x < 0 ∧ p ≠ q ∧ y ≤ 0 ∧ z ≤ 0) ∨ (x = 0 ∧ p = q ∧ y ≤ 0 ∧ z ≤ 0) := by
      by_cases h0 : x = 0
      · by_cases hy : y ≤ 0
        · exact .inr (.inr (.inr (.inr ⟨h0, hz.1 h0, hy, htr (by omega) hy⟩)))
        · exact .inr (.inr (.inl ⟨h0, hz.1 h0, by omega⟩))
      · by_cases hp : 0 < x
        · exact .inl ⟨hp, fun e => h0 (hz.2 e)⟩
        · by_cases hy : y ≤ 0
          · exact .inr (.inr (.inr (.inl ⟨by omega, fun e => h0 (hz.2 e), hy, htr (by omega) hy⟩)))
          · exact .inr (.inl ⟨by omega, fun e => h0 (hz.2 e), by omega⟩)
    clear hz htr
    have T : True := trivial
    rcases hcase with ⟨h1, h2⟩ | ⟨h1, h2, h3⟩ | ⟨h1, h2, h3⟩ | ⟨h1, h2, h3, h4⟩ | ⟨h1, h2, h3, h4⟩
    all_goals
      have HH2 := Lib.hid h2
      (first | have he := eqRc_no h2 | have he := eqRc_of h2)
      (first | have e2 : (x == 0) = false := (by simp; omega) | have e2 : (x == 0) = true := (by simp; omega))
      (first | have d2 : decide (x ≤ 0) = true := decide_eq_true (by omega) | have d2 : decide (x ≤ 0) = false := decide_eq_false (by omega))
      (first | have d3 : decide (y ≤ 0) = true := decide_eq_true (by omega) | have d3 : decide (y ≤ 0) = false := decide_eq_false (by omega) | skip)
      (first | have d4 : decide (0 < z) = false := decide_eq_false (by omega) | skip)
      clear h1 h2
      (try clear h3)
      (try clear h4)
      refine quiet_after (by kernel_rfl) (by kernel_rfl) ?_
      repeat (first | go_big_quiet_step ((go_at_call 19; first | with_reducible exact calls_after (CPQ.out _) | with_reducible exact calls_after (CQP.out _) | with_reducible exact calls_after (CQR.out _) | with_reducible exact calls_after (CPR.out _))) | quiet_step ((go_at_call 19; first | with_reducible exact calls_after (CPQ.out _) | with_reducible exact calls_after (CQP.out _) | with_reducible exact calls_after (CQR.out _) | with_reducible exact calls_after (CPR.out _))))
      refine wpQuiet_nil ?_
      intro wz hw'
      obtain ⟨z', rfl⟩ := hw'
      obtain ⟨w5, hbq⟩ := z'
      dsimp only
      have HB5 := Lib.hid (below_then hb0.out hbq)
      clear p0 p1 q0 q1 r0 r1 CPQ CQP CQR CPR he e2 d2 e1 e1' hxx hb1 hb2 bx0 bx1 hbq
      (try clear d3)
      (try clear d4)
      have C5 := Lib.hid (CS.out _ HB5.out)
      go_wp2_with fail
      refine C5.out.mono ?_
      rintro e w6 ⟨v6, rfl, ho, hb⟩
      obtain ⟨A6, c6, ev, hr⟩ := own_recs (n := n) (by rw [← HSL.out]; exact ho) (by omega)
      subst ev
      have HB6 := Lib.hid (below_then HB5.out hb)
      have HR6 := Lib.hid hr
      clear ho hb hr C5 HB5
      simp only [HSL.out]
      go_wp2_with fail
      go_loopw [10] (fun i wr => ∃ k : Nat, k ≤ n ∧ i = .int .i64 ((k + 1 : Nat) : Int) ∧ Hid (Recs wr A6 n c6 us) ∧ Hid (Below w.heap.size w wr)) (fun i _ => n + 1 - (intOf i).toNat)
      case atStart => exact ⟨0, Nat.zero_le _, rfl, HR6, HB6⟩
      case round =>
        clear HR6 HB6
        obtain ⟨k, hk, rfl, HR, HB⟩ := hrel
        by_cases hlt : k + 1 < n
        · obtain ⟨b, o, y1, rfl, hy1, hc1⟩ := HR.out.elem (show k < n by omega)
          obtain ⟨b', o', y2, e', hy2, hc2⟩ := HR.out.elem hlt
          injection e' with e'
          injection e' with g1 g2
          subst g1 g2
          have dk : decide (((k + 1 : Nat) : Int) < n) = true := decide_eq_true (by omega)
          have dk' : decide ((k : Int) + 1 < n) = true := decide_eq_true (by omega)
          have hz1 : ((k + 1 : Nat) : Int) - 1 = (k : Int) := by omega
          have a0 := fun z : After wr => cell_after hc1.c0 z
          have a1 := fun z : After wr => cell_after hc1.c1 z
          have b0 := fun z : After wr => cell_after hc2.c0 z
          have b1 := fun z : After wr => cell_after hc2.c1 z
          have hle : cfR y1 y2 ≤ 0 := (cfR_le _ _).2 (by
            obtain ⟨j1, g1⟩ := List.getElem?_eq_some_iff.1 hy1
            obtain ⟨j2, g2⟩ := List.getElem?_eq_some_iff.1 hy2
            have := List.pairwise_iff_getElem.1 HSS.out k (k + 1) j1 j2 (by omega)
            rwa [g1, g2] at this)
          have CC := Lib.hid (cmp_gives y1 y2)
          generalize cfR y1 y2 = v at *
          have dv : decide (0 < v) = false := decide_eq_false (by omega)
          clear hy1 hy2 hc1 hc2 hle
          go_wp2_with fail
          refine quiet_after (by kernel_rfl) (by kernel_rfl) ?_
          repeat (first | go_big_quiet_step ((go_at_call 19; with_reducible exact calls_after (CC.out _))) | quiet_step ((go_at_call 19; with_reducible exact calls_after (CC.out _))))
          refine wpQuiet_nil ?_
          intro wz hw'
          obtain ⟨z', rfl⟩ := hw'
          obtain ⟨w7, hbq⟩ := z'
          dsimp only
          have HR7 := Lib.hid (HR.out.below RRc.stays hbq)
          have HB7 := Lib.hid (HB.out.trans (hbq.mono HB.out.size))
          clear a0 a1 b0 b1 CC dv hbq HR HB
          go_wp2_with fail
          go_roundw
          case rel => exact ⟨k + 1, by omega, by first | rfl | go_num, HR7, HB7⟩
          case measure => simp [intOf]; omega
        · have dk : decide (((k + 1 : Nat) : Int) < n) = false := decide_eq_false (by omega)
          have dk' : decide ((k : Int) + 1 < n) = false := decide_eq_false (by omega)
          clear HR
          go_wp2_with fail
          refine (works_any _).mono ?_
          rintro e w8 ⟨rfl, hb⟩
          have HB8 := Lib.hid (below_then HB.out hb)
          clear hb
          go_wp2_with fail
          go_ret
          exact .bool rfl HB8.out
end Go.Proofs.Ytainoghjelfnkaa
