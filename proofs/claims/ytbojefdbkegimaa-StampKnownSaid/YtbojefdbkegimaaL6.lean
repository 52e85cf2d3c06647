/- The walk of StampLoops. -/
import Derived.Test.YtbojefdbkegimaaRows
import Derived.Test.YtbojefdbkegimaaWords
import Derived.Test.YtbojefdbkegimaaS1
import Derived.Test.YtbojefdbkegimaaS2
import Derived.Test.YtbojefdbkegimaaS3
import Derived.Test.YtbojefdbkegimaaS4
import Derived.Test.YtbojefdbkegimaaS6
import Derived.Test.YtbojefdbkegimaaEqs
import Derived.Test.YtbojefdbkegimaaBs
import Derived.Test.YtbojefdbkegimaaF1
import Derived.Test.YtbojefdbkegimaaS12
namespace Go.Proofs.Ytbojefdbkegimaa
open Go.RowKit Go.Proofs.Tail
set_option linter.unusedSimpArgs false
set_option linter.unusedVariables false

set_option maxRecDepth 100000 in
set_option maxHeartbeats 32000000 in
theorem law_loops (s t : T) (w : World) (hs : -9223372036854775808 ≤ s.d ∧ s.d ≤ 9223372036854775807) (ht : -9223372036854775808 ≤ t.d ∧ t.d ≤ 9223372036854775807) : Calls Try.prog 6 #[.agg #[.int .i64 s.d, .int .i64 s.e, .int .i64 s.a, .int .i64 s.b, .int .i64 s.c], .agg #[.int .i64 t.d, .int .i64 t.e, .int .i64 t.a, .int .i64 t.b, .int .i64 t.c]] w (Gives (.bool true) w) := by
  have N0 := Lib.hid (Bs.two w s t)
  have HW := Lib.hid works_any
  have C1 := fun w => into_any s w hs.1 hs.2
  have C2 : Wn (intoB s) <| ∀ w, Calls Try.prog 13 #[.agg #[.int .i64 (intoT s).d, .int .i64 (intoT s).e, .int .i64 (intoT s).a, .int .i64 (intoT s).b, .int .i64 (intoT s).c]] w (Gives (.tuple #[.agg #[.int .i64 s.d, .int .i64 s.e, .int .i64 s.a, .int .i64 s.b, .int .i64 s.c], .bool true]) w) := by intro h w; have := out_any (intoT s) w; rwa [(out_into h).1, (out_into h).2] at this
  have C3 := step_any s
  have C4 : Wn (stepB s) <| ∀ w, Calls Try.prog 26 #[.agg #[.int .i64 s.d, .int .i64 s.e, .int .i64 s.a, .int .i64 s.b, .int .i64 s.c], .agg #[.int .i64 (stepT s).d, .int .i64 (stepT s).e, .int .i64 (stepT s).a, .int .i64 (stepT s).b, .int .i64 (stepT s).c]] w (Gives (.bool true) w) := by intro h w; have := leq_any s (stepT s) w; rwa [(step_up h).1] at this
  have D4 : Wn (stepB s) <| T.eqB ⟨(stepT s).d, (stepT s).e, (stepT s).a, (stepT s).b, (stepT s).c⟩ ⟨s.d, s.e, s.a, s.b, s.c⟩ = false := by
    intro h
    exact (Bool.eq_false_iff.2 fun k => absurd (T.eqB_iff.1 k) (step_up h).2 : T.eqB (stepT s) s = false)
  have C5 := leq_any s t
  have C6 := fun w => into_any t w ht.1 ht.2
  have D6 : Wn (leqB s t) <| intoB s = intoB t := fun h => (into_leq h).1
  have C7 : Wn (leqB s t) <| Wn (intoB s) <| ∀ w, Calls Try.prog 26 #[.agg #[.int .i64 (intoT s).d, .int .i64 (intoT s).e, .int .i64 (intoT s).a, .int .i64 (intoT s).b, .int .i64 (intoT s).c], .agg #[.int .i64 (intoT t).d, .int .i64 (intoT t).e, .int .i64 (intoT t).a, .int .i64 (intoT t).b, .int .i64 (intoT t).c]] w (Gives (.bool true) w) := by intro h k w; have := leq_any (intoT s) (intoT t) w; rwa [(into_leq h).2 k] at this
  have C8 := out_any s
  have C9 := out_any t
  have D9 : Wn (leqB s t) <| outB s = outB t := fun h => (out_leq h).1
  have CA : Wn (leqB s t) <| Wn (outB s) <| ∀ w, Calls Try.prog 26 #[.agg #[.int .i64 (outT s).d, .int .i64 (outT s).e, .int .i64 (outT s).a, .int .i64 (outT s).b, .int .i64 (outT s).c], .agg #[.int .i64 (outT t).d, .int .i64 (outT t).e, .int .i64 (outT t).a, .int .i64 (outT t).b, .int .i64 (outT t).c]] w (Gives (.bool true) w) := by intro h k w; have := leq_any (outT s) (outT t) w; rwa [(out_leq h).2 k] at this
  have CB := step_any t
  have CC : Wn (leqB s t) <| Wn (stepB s) <| Wn (stepB t) <| ∀ w, Calls Try.prog 26 #[.agg #[.int .i64 (stepT s).d, .int .i64 (stepT s).e, .int .i64 (stepT s).a, .int .i64 (stepT s).b, .int .i64 (stepT s).c], .agg #[.int .i64 (stepT t).d, .int .i64 (stepT t).e, .int .i64 (stepT t).a, .int .i64 (stepT t).b, .int .i64 (stepT t).c]] w (Gives (.bool true) w) := by intro h k k' w; have := leq_any (stepT s) (stepT t) w; rwa [step_leq h k k'] at this
  have G1 : Wn (stepB s) (outB s = true) := by unfold Wn; rw [step_iff, out_iff]; exact fun h => ⟨h.1, h.2.1⟩
  have G2 : Wn (stepB t) (outB t = true) := by unfold Wn; rw [step_iff, out_iff]; exact fun h => ⟨h.1, h.2.1⟩
  generalize intoB s = ok at *
  generalize intoB t = is at *
  generalize stepB s = goes at *
  generalize stepB t = round at *
  generalize outB s = p at *
  generalize outB t = q at *
  generalize leqB s t = l at *
  generalize intoT s = x at *
  generalize stepT s = u at *
  generalize intoT t = y at *
  generalize stepT t = v at *
  generalize outT s = c at *
  generalize outT t = d at *
  clear hs ht
  have HC1 := Lib.hid C1
  have HC2 := Lib.hid C2
  have HC3 := Lib.hid C3
  have HC4 := Lib.hid C4
  have HD4 := Lib.hid D4
  have HC5 := Lib.hid C5
  have HC6 := Lib.hid C6
  have HD6 := Lib.hid D6
  have HC7 := Lib.hid C7
  have HC8 := Lib.hid C8
  have HC9 := Lib.hid C9
  have HD9 := Lib.hid D9
  have HCA := Lib.hid CA
  have HCB := Lib.hid CB
  have HCC := Lib.hid CC
  have HG1 := Lib.hid G1
  have HG2 := Lib.hid G2
  clear C1 C2 C3 C4 D4 C5 C6 D6 C7 C8 C9 D9 CA CB CC G1 G2
  go_enter Try.func6, Try.ntmps6
  have l0 := N0.out.at 1 rfl
  go_wp2_with fail
  refine (HC1.out _).mono ?_
  rintro e1 w1 ⟨rfl, hb⟩
  clear l0
  have N1 := Lib.hid (N0.out.call hb x)
  clear hb N0
  cases ok
  · skip
    have l0 := N1.out.at 2 rfl
    go_wp2_with fail
    refine (HC3.out _).mono ?_
    rintro e2 w2 ⟨rfl, hb⟩
    clear l0
    have N2 := Lib.hid (N1.out.call hb u)
    clear hb N1
    cases goes
    · skip
      have l0 := N2.out.at 3 rfl
      have l1 := N2.out.at 2 rfl
      go_wp2_with fail
      refine (HC5.out _).mono ?_
      rintro e3 w3 ⟨rfl, hb⟩
      clear l0 l1
      have N3 := Lib.hid (N2.out.below hb)
      clear hb N2
      cases l
      · skip
        go_wp2_with fail
        refine (HW.out _).mono ?_
        rintro e4 w4 ⟨rfl, hb⟩
        have N4 := Lib.hid (N3.out.below hb)
        clear hb N3
        have HE := Lib.hid N4.out.b
        go_wp2
        go_ret
        exact .bool rfl HE.out
      · skip
        have Hl := Lib.hid (HD6.out rfl)
        obtain rfl := Hl.out
        have Hl2 := Lib.hid (HD9.out rfl)
        obtain rfl := Hl2.out
        clear Hl Hl2
        have l0 := N3.out.at 2 rfl
        go_wp2_with fail
        refine (HC6.out _).mono ?_
        rintro e4 w4 ⟨rfl, hb⟩
        clear l0
        have N4 := Lib.hid (N3.out.call hb y)
        clear hb N3
        have l0 := N4.out.at 4 rfl
        go_wp2_with fail
        refine (HC8.out _).mono ?_
        rintro e5 w5 ⟨rfl, hb⟩
        clear l0
        have N5 := Lib.hid (N4.out.call hb c)
        clear hb N4
        have l0 := N5.out.at 4 rfl
        go_wp2_with fail
        refine (HC9.out _).mono ?_
        rintro e6 w6 ⟨rfl, hb⟩
        clear l0
        have N6 := Lib.hid (N5.out.call hb d)
        clear hb N5
        cases p
        · skip
          have l0 := N6.out.at 5 rfl
          go_wp2_with fail
          refine (HCB.out _).mono ?_
          rintro e7 w7 ⟨rfl, hb⟩
          clear l0
          have N7 := Lib.hid (N6.out.call hb v)
          clear hb N6
          go_wp2_with fail
          refine (HW.out _).mono ?_
          rintro e8 w8 ⟨rfl, hb⟩
          have N8 := Lib.hid (N7.out.below hb)
          clear hb N7
          have HE := Lib.hid N8.out.b
          go_wp2
          go_ret
          exact .bool rfl HE.out
        · skip
          have K9 := Lib.hid (HCA.out rfl rfl)
          have l0 := N6.out.at 1 rfl
          have l1 := N6.out.at 0 rfl
          go_wp2_with fail
          refine (K9.out _).mono ?_
          rintro e7 w7 ⟨rfl, hb⟩
          clear l0 l1
          have N7 := Lib.hid (N6.out.below hb)
          clear hb N6
          have l0 := N7.out.at 5 rfl
          go_wp2_with fail
          refine (HCB.out _).mono ?_
          rintro e8 w8 ⟨rfl, hb⟩
          clear l0
          have N8 := Lib.hid (N7.out.call hb v)
          clear hb N7
          go_wp2_with fail
          refine (HW.out _).mono ?_
          rintro e9 w9 ⟨rfl, hb⟩
          have N9 := Lib.hid (N8.out.below hb)
          clear hb N8
          have HE := Lib.hid N9.out.b
          go_wp2
          go_ret
          exact .bool rfl HE.out
    · skip
      have K4 := Lib.hid (HC4.out rfl)
      have e4 := HD4.out rfl
      have l0 := N2.out.at 3 rfl
      have l1 := N2.out.at 0 rfl
      have l2 := N2.out.at 2 rfl
      go_wp2_with fail
      refine (K4.out _).mono ?_
      rintro e3 w3 ⟨rfl, hb⟩
      clear l0 l1 l2
      have N3 := Lib.hid (N2.out.below hb)
      clear hb N2
      have l0 := N3.out.at 3 rfl
      have l1 := N3.out.at 0 rfl
      have l2 := N3.out.at 2 rfl
      go_wp2_with fail
      clear e4
      refine (HC5.out _).mono ?_
      rintro e4 w4 ⟨rfl, hb⟩
      clear l0 l1 l2
      have N4 := Lib.hid (N3.out.below hb)
      clear hb N3
      cases l
      · skip
        go_wp2_with fail
        refine (HW.out _).mono ?_
        rintro e5 w5 ⟨rfl, hb⟩
        have N5 := Lib.hid (N4.out.below hb)
        clear hb N4
        have HE := Lib.hid N5.out.b
        go_wp2
        go_ret
        exact .bool rfl HE.out
      · skip
        have Hl := Lib.hid (HD6.out rfl)
        obtain rfl := Hl.out
        have Hl2 := Lib.hid (HD9.out rfl)
        obtain rfl := Hl2.out
        clear Hl Hl2
        have l0 := N4.out.at 2 rfl
        go_wp2_with fail
        refine (HC6.out _).mono ?_
        rintro e5 w5 ⟨rfl, hb⟩
        clear l0
        have N5 := Lib.hid (N4.out.call hb y)
        clear hb N4
        have l0 := N5.out.at 4 rfl
        go_wp2_with fail
        refine (HC8.out _).mono ?_
        rintro e6 w6 ⟨rfl, hb⟩
        clear l0
        have N6 := Lib.hid (N5.out.call hb c)
        clear hb N5
        have l0 := N6.out.at 4 rfl
        go_wp2_with fail
        refine (HC9.out _).mono ?_
        rintro e7 w7 ⟨rfl, hb⟩
        clear l0
        have N7 := Lib.hid (N6.out.call hb d)
        clear hb N6
        cases p
        · skip
          exact absurd (HG1.out rfl) (by decide)
        · skip
          have K9 := Lib.hid (HCA.out rfl rfl)
          have l0 := N7.out.at 1 rfl
          have l1 := N7.out.at 0 rfl
          go_wp2_with fail
          refine (K9.out _).mono ?_
          rintro e8 w8 ⟨rfl, hb⟩
          clear l0 l1
          have N8 := Lib.hid (N7.out.below hb)
          clear hb N7
          have l0 := N8.out.at 5 rfl
          go_wp2_with fail
          refine (HCB.out _).mono ?_
          rintro e9 w9 ⟨rfl, hb⟩
          clear l0
          have N9 := Lib.hid (N8.out.call hb v)
          clear hb N8
          cases round
          · skip
            go_wp2_with fail
            refine (HW.out _).mono ?_
            rintro e10 w10 ⟨rfl, hb⟩
            have N10 := Lib.hid (N9.out.below hb)
            clear hb N9
            have HE := Lib.hid N10.out.b
            go_wp2
            go_ret
            exact .bool rfl HE.out
          · skip
            have K8 := Lib.hid (HCC.out rfl rfl rfl)
            have l0 := N9.out.at 4 rfl
            have l1 := N9.out.at 0 rfl
            go_wp2_with fail
            refine (K8.out _).mono ?_
            rintro e10 w10 ⟨rfl, hb⟩
            clear l0 l1
            have N10 := Lib.hid (N9.out.below hb)
            clear hb N9
            go_wp2_with fail
            refine (HW.out _).mono ?_
            rintro e11 w11 ⟨rfl, hb⟩
            have N11 := Lib.hid (N10.out.below hb)
            clear hb N10
            have HE := Lib.hid N11.out.b
            go_wp2
            go_ret
            exact .bool rfl HE.out
  · skip
    have K2 := Lib.hid (HC2.out rfl)
    have l0 := N1.out.at 0 rfl
    go_wp2_with fail
    refine (K2.out _).mono ?_
    rintro e2 w2 ⟨rfl, hb⟩
    clear l0
    have N2 := Lib.hid (N1.out.call hb s)
    clear hb N1
    have e1 := eq_self5 s
    have l0 := N2.out.at 0 rfl
    have l1 := N2.out.at 3 rfl
    go_wp2_with fail
    clear e1
    refine (HC3.out _).mono ?_
    rintro e3 w3 ⟨rfl, hb⟩
    clear l0 l1
    have N3 := Lib.hid (N2.out.call hb u)
    clear hb N2
    cases goes
    · skip
      have l0 := N3.out.at 4 rfl
      have l1 := N3.out.at 3 rfl
      go_wp2_with fail
      refine (HC5.out _).mono ?_
      rintro e4 w4 ⟨rfl, hb⟩
      clear l0 l1
      have N4 := Lib.hid (N3.out.below hb)
      clear hb N3
      cases l
      · skip
        go_wp2_with fail
        refine (HW.out _).mono ?_
        rintro e5 w5 ⟨rfl, hb⟩
        have N5 := Lib.hid (N4.out.below hb)
        clear hb N4
        have HE := Lib.hid N5.out.b
        go_wp2
        go_ret
        exact .bool rfl HE.out
      · skip
        have Hl := Lib.hid (HD6.out rfl)
        obtain rfl := Hl.out
        have Hl2 := Lib.hid (HD9.out rfl)
        obtain rfl := Hl2.out
        clear Hl Hl2
        have l0 := N4.out.at 3 rfl
        go_wp2_with fail
        refine (HC6.out _).mono ?_
        rintro e5 w5 ⟨rfl, hb⟩
        clear l0
        have N5 := Lib.hid (N4.out.call hb y)
        clear hb N4
        have K7 := Lib.hid (HC7.out rfl rfl)
        have l0 := N5.out.at 3 rfl
        have l1 := N5.out.at 0 rfl
        have l2 := N5.out.at 5 rfl
        go_wp2_with fail
        refine (K7.out _).mono ?_
        rintro e6 w6 ⟨rfl, hb⟩
        clear l0 l1 l2
        have N6 := Lib.hid (N5.out.below hb)
        clear hb N5
        have l0 := N6.out.at 5 rfl
        go_wp2_with fail
        refine (HC8.out _).mono ?_
        rintro e7 w7 ⟨rfl, hb⟩
        clear l0
        have N7 := Lib.hid (N6.out.call hb c)
        clear hb N6
        have l0 := N7.out.at 5 rfl
        go_wp2_with fail
        refine (HC9.out _).mono ?_
        rintro e8 w8 ⟨rfl, hb⟩
        clear l0
        have N8 := Lib.hid (N7.out.call hb d)
        clear hb N7
        cases p
        · skip
          have l0 := N8.out.at 6 rfl
          go_wp2_with fail
          refine (HCB.out _).mono ?_
          rintro e9 w9 ⟨rfl, hb⟩
          clear l0
          have N9 := Lib.hid (N8.out.call hb v)
          clear hb N8
          go_wp2_with fail
          refine (HW.out _).mono ?_
          rintro e10 w10 ⟨rfl, hb⟩
          have N10 := Lib.hid (N9.out.below hb)
          clear hb N9
          have HE := Lib.hid N10.out.b
          go_wp2
          go_ret
          exact .bool rfl HE.out
        · skip
          have K9 := Lib.hid (HCA.out rfl rfl)
          have l0 := N8.out.at 1 rfl
          have l1 := N8.out.at 0 rfl
          go_wp2_with fail
          refine (K9.out _).mono ?_
          rintro e9 w9 ⟨rfl, hb⟩
          clear l0 l1
          have N9 := Lib.hid (N8.out.below hb)
          clear hb N8
          have l0 := N9.out.at 6 rfl
          go_wp2_with fail
          refine (HCB.out _).mono ?_
          rintro e10 w10 ⟨rfl, hb⟩
          clear l0
          have N10 := Lib.hid (N9.out.call hb v)
          clear hb N9
          go_wp2_with fail
          refine (HW.out _).mono ?_
          rintro e11 w11 ⟨rfl, hb⟩
          have N11 := Lib.hid (N10.out.below hb)
          clear hb N10
          have HE := Lib.hid N11.out.b
          go_wp2
          go_ret
          exact .bool rfl HE.out
    · skip
      have K4 := Lib.hid (HC4.out rfl)
      have e4 := HD4.out rfl
      have l0 := N3.out.at 4 rfl
      have l1 := N3.out.at 0 rfl
      have l2 := N3.out.at 3 rfl
      go_wp2_with fail
      refine (K4.out _).mono ?_
      rintro e4 w4 ⟨rfl, hb⟩
      clear l0 l1 l2
      have N4 := Lib.hid (N3.out.below hb)
      clear hb N3
      have l0 := N4.out.at 4 rfl
      have l1 := N4.out.at 0 rfl
      have l2 := N4.out.at 3 rfl
      go_wp2_with fail
      clear e4
      refine (HC5.out _).mono ?_
      rintro e5 w5 ⟨rfl, hb⟩
      clear l0 l1 l2
      have N5 := Lib.hid (N4.out.below hb)
      clear hb N4
      cases l
      · skip
        go_wp2_with fail
        refine (HW.out _).mono ?_
        rintro e6 w6 ⟨rfl, hb⟩
        have N6 := Lib.hid (N5.out.below hb)
        clear hb N5
        have HE := Lib.hid N6.out.b
        go_wp2
        go_ret
        exact .bool rfl HE.out
      · skip
        have Hl := Lib.hid (HD6.out rfl)
        obtain rfl := Hl.out
        have Hl2 := Lib.hid (HD9.out rfl)
        obtain rfl := Hl2.out
        clear Hl Hl2
        have l0 := N5.out.at 3 rfl
        go_wp2_with fail
        refine (HC6.out _).mono ?_
        rintro e6 w6 ⟨rfl, hb⟩
        clear l0
        have N6 := Lib.hid (N5.out.call hb y)
        clear hb N5
        have K7 := Lib.hid (HC7.out rfl rfl)
        have l0 := N6.out.at 3 rfl
        have l1 := N6.out.at 0 rfl
        have l2 := N6.out.at 5 rfl
        go_wp2_with fail
        refine (K7.out _).mono ?_
        rintro e7 w7 ⟨rfl, hb⟩
        clear l0 l1 l2
        have N7 := Lib.hid (N6.out.below hb)
        clear hb N6
        have l0 := N7.out.at 5 rfl
        go_wp2_with fail
        refine (HC8.out _).mono ?_
        rintro e8 w8 ⟨rfl, hb⟩
        clear l0
        have N8 := Lib.hid (N7.out.call hb c)
        clear hb N7
        have l0 := N8.out.at 5 rfl
        go_wp2_with fail
        refine (HC9.out _).mono ?_
        rintro e9 w9 ⟨rfl, hb⟩
        clear l0
        have N9 := Lib.hid (N8.out.call hb d)
        clear hb N8
        cases p
        · skip
          exact absurd (HG1.out rfl) (by decide)
        · skip
          have K9 := Lib.hid (HCA.out rfl rfl)
          have l0 := N9.out.at 1 rfl
          have l1 := N9.out.at 0 rfl
          go_wp2_with fail
          refine (K9.out _).mono ?_
          rintro e10 w10 ⟨rfl, hb⟩
          clear l0 l1
          have N10 := Lib.hid (N9.out.below hb)
          clear hb N9
          have l0 := N10.out.at 6 rfl
          go_wp2_with fail
          refine (HCB.out _).mono ?_
          rintro e11 w11 ⟨rfl, hb⟩
          clear l0
          have N11 := Lib.hid (N10.out.call hb v)
          clear hb N10
          cases round
          · skip
            go_wp2_with fail
            refine (HW.out _).mono ?_
            rintro e12 w12 ⟨rfl, hb⟩
            have N12 := Lib.hid (N11.out.below hb)
            clear hb N11
            have HE := Lib.hid N12.out.b
            go_wp2
            go_ret
            exact .bool rfl HE.out
          · skip
            have K8 := Lib.hid (HCC.out rfl rfl rfl)
            have l0 := N11.out.at 4 rfl
            have l1 := N11.out.at 0 rfl
            go_wp2_with fail
            refine (K8.out _).mono ?_
            rintro e12 w12 ⟨rfl, hb⟩
            clear l0 l1
            have N12 := Lib.hid (N11.out.below hb)
            clear hb N11
            go_wp2_with fail
            refine (HW.out _).mono ?_
            rintro e13 w13 ⟨rfl, hb⟩
            have N13 := Lib.hid (N12.out.below hb)
            clear hb N12
            have HE := Lib.hid N13.out.b
            go_wp2
            go_ret
            exact .bool rfl HE.out
end Go.Proofs.Ytbojefdbkegimaa
