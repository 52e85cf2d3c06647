/- The walk of StampBytes. -/
import Derived.Test.YtbojefdbkegimaaRows
import Derived.Test.YtbojefdbkegimaaWords
import Derived.Test.YtbojefdbkegimaaByts
import Derived.Test.YtbojefdbkegimaaS1
import Derived.Test.YtbojefdbkegimaaS2
import Derived.Test.YtbojefdbkegimaaS4
import Derived.Test.YtbojefdbkegimaaS7
import Derived.Test.YtbojefdbkegimaaS8
import Derived.Test.YtbojefdbkegimaaS9
import Derived.Test.YtbojefdbkegimaaS11
import Derived.Test.YtbojefdbkegimaaEqs
import Derived.Test.YtbojefdbkegimaaBs
import Derived.Test.YtbojefdbkegimaaF1
import Derived.Test.YtbojefdbkegimaaF2
import Derived.Test.YtbojefdbkegimaaS12
import Derived.Test.YtbojefdbkegimaaL3
namespace Go.Proofs.Ytbojefdbkegimaa
open Go.RowKit Go.Proofs.Tail
set_option linter.unusedSimpArgs false
set_option linter.unusedVariables false

theorem putL_in {t : T} (h : t.rightB = true) : InB (putL t) := by
  have r := right_iff.1 h
  rw [putL_of h]
  unfold T.right at r
  intro x hx
  rw [List.mem_append] at hx
  rcases hx with hx | hx
  · simp only [List.mem_cons, List.not_mem_nil, or_false] at hx; omega
  · have := List.mem_of_mem_take hx
    simp only [List.mem_cons, List.not_mem_nil, or_false] at this; omega
theorem putE_of {t : T} (h : t.rightB = true) : putE t = 0 := by unfold putE; rw [if_pos h]
theorem putE_not {t : T} (h : t.rightB = false) : putE t = 50 := by unfold putE; rw [if_neg (by simp [h])]
set_option maxRecDepth 100000 in
set_option maxHeartbeats 32000000 in
theorem law_bytes_no (s t : T) (w : World) (h : (s.rightB && t.rightB) = false) : Calls Try.prog 8 #[.agg #[.int .i64 s.d, .int .i64 s.e, .int .i64 s.a, .int .i64 s.b, .int .i64 s.c], .agg #[.int .i64 t.d, .int .i64 t.e, .int .i64 t.a, .int .i64 t.b, .int .i64 t.c]] w (Gives (.bool true) w) := by
  have N0 := Lib.hid (Bs.two w s t)
  have HW := Lib.hid works_any
  have HC1 := Lib.hid (put_any s)
  have HC2 := Lib.hid (put_any t)
  have HX := Lib.hid (putL_len s)
  have HY := Lib.hid (putL_len t)
  have h' : putE s = 50 ∨ putE s = 0 ∧ putE t = 50 := by
    cases hs : s.rightB with
    | false => exact .inl (putE_not hs)
    | true => rw [hs, Bool.true_and] at h; exact .inr ⟨putE_of hs, putE_not h⟩
  clear h
  generalize putE s = x at *
  generalize putE t = y at *
  have H := Lib.hid h'
  clear h'
  go_enter Try.func8, Try.ntmps8
  have l0 := N0.out.at 1 rfl
  go_wp2_with fail
  refine (HC1.out _).mono ?_
  rintro e1 w1 ⟨v1, rfl, ho, hb⟩
  clear l0
  obtain ⟨A1, c1, rfl, hr1⟩ := own_bytes ho (by have := HX.out; omega)
  clear ho
  have N1 := Lib.hid (N0.out.below hb)
  clear N0
  clear hr1 hb
  have l0 := N1.out.at 0 rfl
  go_wp2_with fail
  refine (HC2.out _).mono ?_
  rintro e2 w2 ⟨v2, rfl, ho, hb⟩
  clear l0
  obtain ⟨A2, c2, rfl, hr2⟩ := own_bytes ho (by have := HY.out; omega)
  clear ho
  have N2 := Lib.hid (N1.out.below hb)
  clear N1
  clear hr2 hb
  have H := H.out
  rcases H with rfl | ⟨rfl, rfl⟩
  · skip
    go_wp2_with fail
    refine (HW.out _).mono ?_
    rintro e3 w3 ⟨rfl, hb⟩
    have N3 := Lib.hid (N2.out.below hb)
    clear hb N2
    have HE := Lib.hid N3.out.b
    go_wp2
    go_ret
    exact .bool rfl HE.out
  · skip
    go_wp2_with fail
    refine (HW.out _).mono ?_
    rintro e3 w3 ⟨rfl, hb⟩
    have N3 := Lib.hid (N2.out.below hb)
    clear hb N2
    have HE := Lib.hid N3.out.b
    go_wp2
    go_ret
    exact .bool rfl HE.out
set_option maxRecDepth 100000 in
set_option maxHeartbeats 32000000 in
theorem law_bytes_yes (s t : T) (w : World) (hs : s.rightB = true) (ht : t.rightB = true) : Calls Try.prog 8 #[.agg #[.int .i64 s.d, .int .i64 s.e, .int .i64 s.a, .int .i64 s.b, .int .i64 s.c], .agg #[.int .i64 t.d, .int .i64 t.e, .int .i64 t.a, .int .i64 t.b, .int .i64 t.c]] w (Gives (.bool true) w) := by
  have N0 := Lib.hid (Bs.two w s t)
  have HW := Lib.hid works_any
  have HC1 := Lib.hid (put_any s)
  have HC2 := Lib.hid (put_any t)
  have HX := Lib.hid (putL_len s)
  have HY := Lib.hid (putL_len t)
  have HC := Lib.hid (cmp_any s t)
  have BX := Lib.hid (putL_in hs)
  have BY := Lib.hid (putL_in ht)
  have HF := Lib.hid (fun k => lx_cmp hs ht k)
  rw [putE_of hs] at HC1
  rw [putE_of ht] at HC2
  clear hs ht
  generalize putL s = xs at *
  generalize putL t = ys at *
  generalize cmpP s t 3 = c at *
  go_enter Try.func8, Try.ntmps8
  have l0 := N0.out.at 1 rfl
  go_wp2_with fail
  refine (HC1.out _).mono ?_
  rintro e1 w1 ⟨v1, rfl, ho, hb⟩
  clear l0
  obtain ⟨A1, c1, rfl, hr1⟩ := own_bytes ho (by have := HX.out; omega)
  clear ho
  have N1 := Lib.hid (N0.out.below hb)
  clear N0
  have R1 := Lib.hid hr1
  clear hr1 hb
  have l0 := N1.out.at 0 rfl
  go_wp2_with fail
  refine (HC2.out _).mono ?_
  rintro e2 w2 ⟨v2, rfl, ho, hb⟩
  clear l0
  obtain ⟨A2, c2, rfl, hr2⟩ := own_bytes ho (by have := HY.out; omega)
  clear ho
  have N2 := Lib.hid (N1.out.below hb)
  clear N1
  have R1' := Lib.hid (R1.out.below RByte.stays hb)
  have R2 := Lib.hid hr2
  clear hr2 hb R1
  have hx6 := HX.out
  have hy6 := HY.out
  go_wp2_with fail
  go_loopw [9, 10] (fun cc i wr => ∃ k : Nat, k ≤ xs.length ∧ k ≤ ys.length ∧ i = .int .i64 k ∧ cc = .int .i64 (lx xs ys k) ∧ Hid (Bs w wr [(w.heap.size + 1, t), (w.heap.size, s)]) ∧ Hid (Byts wr A1 xs.length c1 xs) ∧ Hid (Byts wr A2 ys.length c2 ys)) (fun _ i _ => 6 - (intOf i).toNat)
  case atStart => exact ⟨0, by omega, by omega, rfl, rfl, N2, R1', R2⟩
  case round =>
    clear N2 R1' R2
    obtain ⟨k, k1, k2, rfl, rfl, N2, R1, R2⟩ := hrel
    have HD := Lib.hid (HF.out k ⟨k1, k2⟩)
    by_cases h1 : k < xs.length
    · skip
      by_cases h2 : k < ys.length
      · skip
        by_cases h3 : lx xs ys k = 0
        · skip
          obtain ⟨b1, o1, rfl, z1⟩ := R1.out.byte h1
          obtain ⟨b2, o2, rfl, z2⟩ := R2.out.byte h2
          rw [h3]
          have hlx : lx xs ys (k + 1) = sgn (xs.getD k 0) (ys.getD k 0) := by rw [lx, h3]; rfl
          have p1 := BX.out (xs.getD k 0) (by rw [List.getD_eq_getElem?_getD, List.getElem?_eq_getElem h1]; exact List.getElem_mem h1)
          have p2 := BY.out (ys.getD k 0) (by rw [List.getD_eq_getElem?_getD, List.getElem?_eq_getElem h2]; exact List.getElem_mem h2)
          generalize xs.getD k 0 = p at *
          generalize ys.getD k 0 = q at *
          have H4 := Lib.hid hlx
          clear hlx h3
          rcases Int.lt_trichotomy p q with hpq | hpq | hpq
          · skip
            have hl : decide (p < q) = true := by simpa using hpq
            have hg : decide (q < p) = false := decide_eq_false (by omega)
            have H5 := Lib.hid (H4.out.trans (show sgn p q = -1 by unfold sgn; rw [if_pos hpq]))
            clear hpq
            clear H4
            go_wp2_with fail
            go_quiet (fail)
            all_goals go_wp2_with fail
            all_goals try (go_quiet (fail))
            all_goals try go_wp2_with fail
            exact ⟨⟨k + 1, by omega, by omega, by go_num, congrArg (Value.int .i64) H5.out.symm, Lib.hid (N2.out.below (below_drewN (Below.refl _ _) _)), Lib.hid (R1.out.below RByte.stays (below_drewN (Below.refl _ _) _)), Lib.hid (R2.out.below RByte.stays (below_drewN (Below.refl _ _) _))⟩, by simp [intOf]; omega⟩
          · skip
            subst hpq
            have hl : decide (p < p) = false := by simp
            have H5 := Lib.hid (H4.out.trans (sgn_same p))
            clear H4
            go_wp2_with fail
            go_quiet (fail)
            all_goals go_wp2_with fail
            all_goals try (go_quiet (fail))
            all_goals try go_wp2_with fail
            exact ⟨⟨k + 1, by omega, by omega, by go_num, congrArg (Value.int .i64) H5.out.symm, Lib.hid (N2.out.below (below_drewN (Below.refl _ _) _)), Lib.hid (R1.out.below RByte.stays (below_drewN (Below.refl _ _) _)), Lib.hid (R2.out.below RByte.stays (below_drewN (Below.refl _ _) _))⟩, by simp [intOf]; omega⟩
          · skip
            have hl : decide (p < q) = false := decide_eq_false (by omega)
            have hg : decide (q < p) = true := by simpa using hpq
            have H5 := Lib.hid (H4.out.trans (show sgn p q = 1 by unfold sgn; rw [if_neg (by omega), if_pos hpq]))
            clear hpq
            clear H4
            go_wp2_with fail
            go_quiet (fail)
            all_goals go_wp2_with fail
            all_goals try (go_quiet (fail))
            all_goals try go_wp2_with fail
            exact ⟨⟨k + 1, by omega, by omega, by go_num, congrArg (Value.int .i64) H5.out.symm, Lib.hid (N2.out.below (below_drewN (Below.refl _ _) _)), Lib.hid (R1.out.below RByte.stays (below_drewN (Below.refl _ _) _)), Lib.hid (R2.out.below RByte.stays (below_drewN (Below.refl _ _) _))⟩, by simp [intOf]; omega⟩
        · skip
          have HE := Lib.hid (HD.out (.inr (.inr h3)))
          rw [HE.out]
          have hne : (c == 0) = false := by rw [← HE.out]; simpa using h3
          clear h3
          have l0 := N2.out.at 1 rfl
          have l1 := N2.out.at 0 rfl
          go_wp2_with fail
          refine (HC.out _).mono ?_
          rintro e3 w3 ⟨rfl, hb⟩
          clear l0 l1
          have N3 := Lib.hid (N2.out.below hb)
          clear hb N2
          go_wp2_with fail
          refine (HW.out _).mono ?_
          rintro e4 w4 ⟨rfl, hb⟩
          have N4 := Lib.hid (N3.out.below hb)
          clear hb N3
          have HE := Lib.hid N4.out.b
          go_wp2
          go_ret
          exact .bool rfl HE.out
      · skip
        have HE := Lib.hid (HD.out (.inr (.inl (by omega))))
        rw [HE.out]
        have l0 := N2.out.at 1 rfl
        have l1 := N2.out.at 0 rfl
        go_wp2_with fail
        refine (HC.out _).mono ?_
        rintro e3 w3 ⟨rfl, hb⟩
        clear l0 l1
        have N3 := Lib.hid (N2.out.below hb)
        clear hb N2
        go_wp2_with fail
        refine (HW.out _).mono ?_
        rintro e4 w4 ⟨rfl, hb⟩
        have N4 := Lib.hid (N3.out.below hb)
        clear hb N3
        have HE := Lib.hid N4.out.b
        go_wp2
        go_ret
        exact .bool rfl HE.out
    · skip
      have HE := Lib.hid (HD.out (.inl (by omega)))
      rw [HE.out]
      have l0 := N2.out.at 1 rfl
      have l1 := N2.out.at 0 rfl
      go_wp2_with fail
      refine (HC.out _).mono ?_
      rintro e3 w3 ⟨rfl, hb⟩
      clear l0 l1
      have N3 := Lib.hid (N2.out.below hb)
      clear hb N2
      go_wp2_with fail
      refine (HW.out _).mono ?_
      rintro e4 w4 ⟨rfl, hb⟩
      have N4 := Lib.hid (N3.out.below hb)
      clear hb N3
      have HE := Lib.hid N4.out.b
      go_wp2
      go_ret
      exact .bool rfl HE.out
theorem law_bytes (s t : T) (w : World) : Calls Try.prog 8 #[.agg #[.int .i64 s.d, .int .i64 s.e, .int .i64 s.a, .int .i64 s.b, .int .i64 s.c], .agg #[.int .i64 t.d, .int .i64 t.e, .int .i64 t.a, .int .i64 t.b, .int .i64 t.c]] w (Gives (.bool true) w) := by
  cases h : (s.rightB && t.rightB) with
  | false => exact law_bytes_no s t w h
  | true =>
    rw [Bool.and_eq_true] at h
    exact law_bytes_yes s t w h.1 h.2
end Go.Proofs.Ytbojefdbkegimaa
