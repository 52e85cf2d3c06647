/- The walk of StampOrder. -/
import Derived.Test.YtbojefdbkegimaaRows
import Derived.Test.YtbojefdbkegimaaWords
import Derived.Test.YtbojefdbkegimaaS1
import Derived.Test.YtbojefdbkegimaaS2
import Derived.Test.YtbojefdbkegimaaS3
import Derived.Test.YtbojefdbkegimaaS4
import Derived.Test.YtbojefdbkegimaaS7
import Derived.Test.YtbojefdbkegimaaS8
import Derived.Test.YtbojefdbkegimaaS9
import Derived.Test.YtbojefdbkegimaaEqs
import Derived.Test.YtbojefdbkegimaaBs
import Derived.Test.YtbojefdbkegimaaF1
import Derived.Test.YtbojefdbkegimaaS12
namespace Go.Proofs.Ytbojefdbkegimaa
open Go.RowKit Go.Proofs.Tail
set_option linter.unusedSimpArgs false
set_option linter.unusedVariables false

set_option maxRecDepth 100000 in
set_option maxHeartbeats 32000000 in
theorem law_order (s t u : T) (w : World) : Calls Try.prog 5 #[.agg #[.int .i64 s.d, .int .i64 s.e, .int .i64 s.a, .int .i64 s.b, .int .i64 s.c], .agg #[.int .i64 t.d, .int .i64 t.e, .int .i64 t.a, .int .i64 t.b, .int .i64 t.c], .agg #[.int .i64 u.d, .int .i64 u.e, .int .i64 u.a, .int .i64 u.b, .int .i64 u.c]] w (Gives (.bool true) w) := by
  have N0 := Lib.hid (Bs.three w s t u)
  have HW := Lib.hid works_any
  have C1 := cmp_any s t
  have C2 : ∀ w, Calls Try.prog 28 #[.agg #[.int .i64 t.d, .int .i64 t.e, .int .i64 t.a, .int .i64 t.b, .int .i64 t.c], .agg #[.int .i64 s.d, .int .i64 s.e, .int .i64 s.a, .int .i64 s.b, .int .i64 s.c]] w (Gives (.int .i64 (-cmpP s t 3)) w) := by intro w; have := cmp_any t s w; rwa [cmp_anti s t] at this
  have C3 := cmp_any t u
  have C4 := cmp_any s u
  have D1 : T.eqB ⟨s.d, s.e, s.a, s.b, s.c⟩ ⟨t.d, t.e, t.a, t.b, t.c⟩ = decide (cmpP s t 3 = 0) := by
    rw [Bool.eq_iff_iff, decide_eq_true_eq, cmp_zero]; exact T.eqB_iff
  have D2 : cmpP s t 3 ≤ 0 → cmpP t u 3 ≤ 0 → cmpP s u 3 ≤ 0 := cmp_trans
  have D3 : leqB s t = true → cmpP s t 3 ≤ 0 := leq_cmp
  have D4 : leqB s t = true → leqB t s = true → cmpP s t 3 = 0 := fun h k => cmp_zero.2 (leq_anti h k)
  have D5 : leqB s t = true → leqB t u = true → leqB s u = true := leq_trans
  have R1 := cmp_range s t 3
  have C5 := leq_any s t
  have C6 := leq_any t s
  have C7 := leq_any t u
  have C8 := leq_any s u
  have C9 : ∀ w, Calls Try.prog 26 #[.agg #[.int .i64 s.d, .int .i64 s.e, .int .i64 s.a, .int .i64 s.b, .int .i64 s.c], .agg #[.int .i64 s.d, .int .i64 s.e, .int .i64 s.a, .int .i64 s.b, .int .i64 s.c]] w (Gives (.bool s.rightB) w) := by intro w; have := leq_any s s w; rwa [leq_self] at this
  have CA := right_any s
  have CB := join_any s t
  have CC := meet_any s t
  have D6 : alikeB s t = false → leqB s t = false := by
    intro h
    cases k : leqB s t with
    | false => rfl
    | true => rw [leq_alike' k] at h; cases h
  have CD : Wn (alikeB s t) <| ∀ w, Calls Try.prog 19 #[.agg #[.int .i64 (joinT s t).d, .int .i64 (joinT s t).e, .int .i64 (joinT s t).a, .int .i64 (joinT s t).b, .int .i64 (joinT s t).c]] w (Gives (.bool true) w) := by intro h w; have := right_any (joinT s t) w; rwa [join_right h] at this
  have CE : Wn (alikeB s t) <| ∀ w, Calls Try.prog 19 #[.agg #[.int .i64 (meetT s t).d, .int .i64 (meetT s t).e, .int .i64 (meetT s t).a, .int .i64 (meetT s t).b, .int .i64 (meetT s t).c]] w (Gives (.bool true) w) := by intro h w; have := right_any (meetT s t) w; rwa [meet_right h] at this
  have CF : Wn (alikeB s t) <| ∀ w, Calls Try.prog 26 #[.agg #[.int .i64 s.d, .int .i64 s.e, .int .i64 s.a, .int .i64 s.b, .int .i64 s.c], .agg #[.int .i64 (joinT s t).d, .int .i64 (joinT s t).e, .int .i64 (joinT s t).a, .int .i64 (joinT s t).b, .int .i64 (joinT s t).c]] w (Gives (.bool true) w) := by intro h w; have := leq_any s (joinT s t) w; rwa [(leq_join h).1] at this
  have CG : Wn (alikeB s t) <| ∀ w, Calls Try.prog 26 #[.agg #[.int .i64 t.d, .int .i64 t.e, .int .i64 t.a, .int .i64 t.b, .int .i64 t.c], .agg #[.int .i64 (joinT s t).d, .int .i64 (joinT s t).e, .int .i64 (joinT s t).a, .int .i64 (joinT s t).b, .int .i64 (joinT s t).c]] w (Gives (.bool true) w) := by intro h w; have := leq_any t (joinT s t) w; rwa [(leq_join h).2] at this
  have CH : Wn (alikeB s t) <| ∀ w, Calls Try.prog 26 #[.agg #[.int .i64 (meetT s t).d, .int .i64 (meetT s t).e, .int .i64 (meetT s t).a, .int .i64 (meetT s t).b, .int .i64 (meetT s t).c], .agg #[.int .i64 s.d, .int .i64 s.e, .int .i64 s.a, .int .i64 s.b, .int .i64 s.c]] w (Gives (.bool true) w) := by intro h w; have := leq_any (meetT s t) s w; rwa [(leq_meet h).1] at this
  have CI : Wn (alikeB s t) <| ∀ w, Calls Try.prog 26 #[.agg #[.int .i64 (meetT s t).d, .int .i64 (meetT s t).e, .int .i64 (meetT s t).a, .int .i64 (meetT s t).b, .int .i64 (meetT s t).c], .agg #[.int .i64 t.d, .int .i64 t.e, .int .i64 t.a, .int .i64 t.b, .int .i64 t.c]] w (Gives (.bool true) w) := by intro h w; have := leq_any (meetT s t) t w; rwa [(leq_meet h).2] at this
  have CJ : Wn (alikeB s t) <| ∀ w, Calls Try.prog 26 #[.agg #[.int .i64 (joinT s t).d, .int .i64 (joinT s t).e, .int .i64 (joinT s t).a, .int .i64 (joinT s t).b, .int .i64 (joinT s t).c], .agg #[.int .i64 u.d, .int .i64 u.e, .int .i64 u.a, .int .i64 u.b, .int .i64 u.c]] w (Gives (.bool (leqB s u && leqB t u)) w) := by intro h w; have := leq_any (joinT s t) u w; rwa [join_least u h] at this
  have CK : Wn (alikeB s t) <| ∀ w, Calls Try.prog 26 #[.agg #[.int .i64 u.d, .int .i64 u.e, .int .i64 u.a, .int .i64 u.b, .int .i64 u.c], .agg #[.int .i64 (meetT s t).d, .int .i64 (meetT s t).e, .int .i64 (meetT s t).a, .int .i64 (meetT s t).b, .int .i64 (meetT s t).c]] w (Gives (.bool (leqB u s && leqB u t)) w) := by intro h w; have := leq_any u (meetT s t) w; rwa [meet_greatest u h] at this
  have CL := leq_any u s
  have CM := leq_any u t
  generalize cmpP s t 3 = c at *
  generalize cmpP t u 3 = c2 at *
  generalize cmpP s u 3 = c3 at *
  generalize leqB s t = ab at *
  generalize leqB t s = ba at *
  generalize leqB t u = bc at *
  generalize leqB s u = ac at *
  generalize leqB u s = ca at *
  generalize leqB u t = cb at *
  generalize s.rightB = r at *
  generalize alikeB s t = ok at *
  generalize joinT s t = j at *
  generalize meetT s t = m at *
  have HC1 := Lib.hid C1
  have HC2 := Lib.hid C2
  have HC3 := Lib.hid C3
  have HC4 := Lib.hid C4
  have HD1 := Lib.hid D1
  have HD2 := Lib.hid D2
  have HD3 := Lib.hid D3
  have HD4 := Lib.hid D4
  have HD5 := Lib.hid D5
  have HD6 := Lib.hid D6
  have HR1 := Lib.hid R1
  have HC5 := Lib.hid C5
  have HC6 := Lib.hid C6
  have HC7 := Lib.hid C7
  have HC8 := Lib.hid C8
  have HC9 := Lib.hid C9
  have HCA := Lib.hid CA
  have HCB := Lib.hid CB
  have HCC := Lib.hid CC
  have HCD := Lib.hid CD
  have HCE := Lib.hid CE
  have HCF := Lib.hid CF
  have HCG := Lib.hid CG
  have HCH := Lib.hid CH
  have HCI := Lib.hid CI
  have HCJ := Lib.hid CJ
  have HCK := Lib.hid CK
  have HCL := Lib.hid CL
  have HCM := Lib.hid CM
  clear C1 C2 C3 C4 D1 D2 D3 D4 D5 D6 R1 C5 C6 C7 C8 C9 CA CB CC CD CE CF CG CH CI CJ CK CL CM
  go_enter Try.func5, Try.ntmps5
  go_upto_region 1 with fail
  go_cut [50] (fun b wx => b = .bool false ∧ Hid (Bs w wx [(w.heap.size + 1 + 1, u), (w.heap.size + 1, t), (w.heap.size, s)]))
  case first =>
    have hr := HR1.out
    have d1 := HD1.out
    have hd2 : (decide (c ≤ 0) = false) ∨ (decide (c ≤ 0) = true ∧ decide (c2 ≤ 0) = false) ∨ (decide (c ≤ 0) = true ∧ decide (c2 ≤ 0) = true ∧ decide (0 < c3) = false) := by
      by_cases h1 : c ≤ 0
      · by_cases h2 : c2 ≤ 0
        · have h3 := HD2.out h1 h2
          exact .inr (.inr ⟨decide_eq_true h1, decide_eq_true h2, decide_eq_false (by omega)⟩)
        · exact .inr (.inl ⟨decide_eq_true h1, decide_eq_false h2⟩)
      · exact .inl (decide_eq_false h1)
    clear HD2 HD3 HD4 HD5 HD6 HD1 HR1
    rcases hr with rfl | rfl | rfl <;> simp only [Int.reduceNeg, Int.reduceLE, decide_true, decide_false, Int.reduceEq, reduceCtorEq, true_and, false_and, or_false, false_or, Int.neg_neg, Int.neg_zero] at hd2 d1 HC1 HC2
    · skip
      rcases hd2 with hd2 | hd2
      · skip
        have hd3 := hd2
        generalize ((w.alloc (.cells #[.int .i64 s.d, .int .i64 s.e, .int .i64 s.a, .int .i64 s.b, .int .i64 s.c] 24)).alloc (.cells #[.int .i64 t.d, .int .i64 t.e, .int .i64 t.a, .int .i64 t.b, .int .i64 t.c] 24)).alloc (.cells #[.int .i64 u.d, .int .i64 u.e, .int .i64 u.a, .int .i64 u.b, .int .i64 u.c] 24) = wx at N0 ⊢
        have q0 := fun p : After wx => (N0.out.below p.below).at 2 rfl
        have q1 := fun p : After wx => (N0.out.below p.below).at 1 rfl
        have q2 := fun p : After wx => (N0.out.below p.below).at 0 rfl
        refine quiet_after (by kernel_rfl) (by kernel_rfl) ?_
        repeat (first | go_big_quiet_step ((first | (go_at_call 28; first | with_reducible exact calls_after (HC1.out _) | with_reducible exact calls_after (HC2.out _) | with_reducible exact calls_after (HC3.out _) | with_reducible exact calls_after (HC4.out _)))) | quiet_step ((first | (go_at_call 28; first | with_reducible exact calls_after (HC1.out _) | with_reducible exact calls_after (HC2.out _) | with_reducible exact calls_after (HC3.out _) | with_reducible exact calls_after (HC4.out _)))))
        refine wpQuiet_nil ?_
        intro wz hw'
        obtain ⟨p, rfl⟩ := hw'
        obtain ⟨w1, hbq⟩ := p
        dsimp only
        clear q0 q1 q2 
        have N1 := Lib.hid (N0.out.below hbq)
        clear hbq N0
        go_wp2
        go_meet
        exact ⟨rfl, N1⟩
      · skip
        obtain ⟨hd3, hd4⟩ := hd2
        generalize ((w.alloc (.cells #[.int .i64 s.d, .int .i64 s.e, .int .i64 s.a, .int .i64 s.b, .int .i64 s.c] 24)).alloc (.cells #[.int .i64 t.d, .int .i64 t.e, .int .i64 t.a, .int .i64 t.b, .int .i64 t.c] 24)).alloc (.cells #[.int .i64 u.d, .int .i64 u.e, .int .i64 u.a, .int .i64 u.b, .int .i64 u.c] 24) = wx at N0 ⊢
        have q0 := fun p : After wx => (N0.out.below p.below).at 2 rfl
        have q1 := fun p : After wx => (N0.out.below p.below).at 1 rfl
        have q2 := fun p : After wx => (N0.out.below p.below).at 0 rfl
        refine quiet_after (by kernel_rfl) (by kernel_rfl) ?_
        repeat (first | go_big_quiet_step ((first | (go_at_call 28; first | with_reducible exact calls_after (HC1.out _) | with_reducible exact calls_after (HC2.out _) | with_reducible exact calls_after (HC3.out _) | with_reducible exact calls_after (HC4.out _)))) | quiet_step ((first | (go_at_call 28; first | with_reducible exact calls_after (HC1.out _) | with_reducible exact calls_after (HC2.out _) | with_reducible exact calls_after (HC3.out _) | with_reducible exact calls_after (HC4.out _)))))
        refine wpQuiet_nil ?_
        intro wz hw'
        obtain ⟨p, rfl⟩ := hw'
        obtain ⟨w1, hbq⟩ := p
        dsimp only
        clear q0 q1 q2 
        have N1 := Lib.hid (N0.out.below hbq)
        clear hbq N0
        go_wp2
        go_meet
        exact ⟨rfl, N1⟩
    · skip
      rcases hd2 with hd2 | hd2
      · skip
        have hd3 := hd2
        generalize ((w.alloc (.cells #[.int .i64 s.d, .int .i64 s.e, .int .i64 s.a, .int .i64 s.b, .int .i64 s.c] 24)).alloc (.cells #[.int .i64 t.d, .int .i64 t.e, .int .i64 t.a, .int .i64 t.b, .int .i64 t.c] 24)).alloc (.cells #[.int .i64 u.d, .int .i64 u.e, .int .i64 u.a, .int .i64 u.b, .int .i64 u.c] 24) = wx at N0 ⊢
        have q0 := fun p : After wx => (N0.out.below p.below).at 2 rfl
        have q1 := fun p : After wx => (N0.out.below p.below).at 1 rfl
        have q2 := fun p : After wx => (N0.out.below p.below).at 0 rfl
        refine quiet_after (by kernel_rfl) (by kernel_rfl) ?_
        repeat (first | go_big_quiet_step ((first | (go_at_call 28; first | with_reducible exact calls_after (HC1.out _) | with_reducible exact calls_after (HC2.out _) | with_reducible exact calls_after (HC3.out _) | with_reducible exact calls_after (HC4.out _)))) | quiet_step ((first | (go_at_call 28; first | with_reducible exact calls_after (HC1.out _) | with_reducible exact calls_after (HC2.out _) | with_reducible exact calls_after (HC3.out _) | with_reducible exact calls_after (HC4.out _)))))
        refine wpQuiet_nil ?_
        intro wz hw'
        obtain ⟨p, rfl⟩ := hw'
        obtain ⟨w1, hbq⟩ := p
        dsimp only
        clear q0 q1 q2 
        have N1 := Lib.hid (N0.out.below hbq)
        clear hbq N0
        go_wp2
        go_meet
        exact ⟨rfl, N1⟩
      · skip
        obtain ⟨hd3, hd4⟩ := hd2
        generalize ((w.alloc (.cells #[.int .i64 s.d, .int .i64 s.e, .int .i64 s.a, .int .i64 s.b, .int .i64 s.c] 24)).alloc (.cells #[.int .i64 t.d, .int .i64 t.e, .int .i64 t.a, .int .i64 t.b, .int .i64 t.c] 24)).alloc (.cells #[.int .i64 u.d, .int .i64 u.e, .int .i64 u.a, .int .i64 u.b, .int .i64 u.c] 24) = wx at N0 ⊢
        have q0 := fun p : After wx => (N0.out.below p.below).at 2 rfl
        have q1 := fun p : After wx => (N0.out.below p.below).at 1 rfl
        have q2 := fun p : After wx => (N0.out.below p.below).at 0 rfl
        refine quiet_after (by kernel_rfl) (by kernel_rfl) ?_
        repeat (first | go_big_quiet_step ((first | (go_at_call 28; first | with_reducible exact calls_after (HC1.out _) | with_reducible exact calls_after (HC2.out _) | with_reducible exact calls_after (HC3.out _) | with_reducible exact calls_after (HC4.out _)))) | quiet_step ((first | (go_at_call 28; first | with_reducible exact calls_after (HC1.out _) | with_reducible exact calls_after (HC2.out _) | with_reducible exact calls_after (HC3.out _) | with_reducible exact calls_after (HC4.out _)))))
        refine wpQuiet_nil ?_
        intro wz hw'
        obtain ⟨p, rfl⟩ := hw'
        obtain ⟨w1, hbq⟩ := p
        dsimp only
        clear q0 q1 q2 
        have N1 := Lib.hid (N0.out.below hbq)
        clear hbq N0
        go_wp2
        go_meet
        exact ⟨rfl, N1⟩
    · skip
      generalize ((w.alloc (.cells #[.int .i64 s.d, .int .i64 s.e, .int .i64 s.a, .int .i64 s.b, .int .i64 s.c] 24)).alloc (.cells #[.int .i64 t.d, .int .i64 t.e, .int .i64 t.a, .int .i64 t.b, .int .i64 t.c] 24)).alloc (.cells #[.int .i64 u.d, .int .i64 u.e, .int .i64 u.a, .int .i64 u.b, .int .i64 u.c] 24) = wx at N0 ⊢
      have q0 := fun p : After wx => (N0.out.below p.below).at 2 rfl
      have q1 := fun p : After wx => (N0.out.below p.below).at 1 rfl
      have q2 := fun p : After wx => (N0.out.below p.below).at 0 rfl
      refine quiet_after (by kernel_rfl) (by kernel_rfl) ?_
      repeat (first | go_big_quiet_step ((first | (go_at_call 28; first | with_reducible exact calls_after (HC1.out _) | with_reducible exact calls_after (HC2.out _) | with_reducible exact calls_after (HC3.out _) | with_reducible exact calls_after (HC4.out _)))) | quiet_step ((first | (go_at_call 28; first | with_reducible exact calls_after (HC1.out _) | with_reducible exact calls_after (HC2.out _) | with_reducible exact calls_after (HC3.out _) | with_reducible exact calls_after (HC4.out _)))))
      refine wpQuiet_nil ?_
      intro wz hw'
      obtain ⟨p, rfl⟩ := hw'
      obtain ⟨w1, hbq⟩ := p
      dsimp only
      clear q0 q1 q2 
      have N1 := Lib.hid (N0.out.below hbq)
      clear hbq N0
      go_wp2
      go_meet
      exact ⟨rfl, N1⟩
  case rest =>
    obtain ⟨rfl, N1⟩ := hcut
    clear N0
    go_wp2_with fail
    generalize wc = wx at N1 ⊢
    have q0 := fun p : After wx => (N1.out.below p.below).at 2 rfl
    have q1 := fun p : After wx => (N1.out.below p.below).at 1 rfl
    have q2 := fun p : After wx => (N1.out.below p.below).at 0 rfl
    refine quiet_after (by kernel_rfl) (by kernel_rfl) ?_
    repeat (first | go_big_quiet_step ((first | (go_at_call 26; first | with_reducible exact calls_after (HC5.out _) | with_reducible exact calls_after (HC6.out _) | with_reducible exact calls_after (HC7.out _) | with_reducible exact calls_after (HC8.out _)))) | quiet_step ((first | (go_at_call 26; first | with_reducible exact calls_after (HC5.out _) | with_reducible exact calls_after (HC6.out _) | with_reducible exact calls_after (HC7.out _) | with_reducible exact calls_after (HC8.out _)))))
    refine wpQuiet_nil ?_
    intro wz hw'
    obtain ⟨p, rfl⟩ := hw'
    obtain ⟨w2, hbq⟩ := p
    dsimp only
    clear q0 q1 q2 
    have N2 := Lib.hid (N1.out.below hbq)
    clear hbq N1
    go_upto_region 4 with fail
    go_cut [98] (fun b wx => b = .bool false ∧ Hid (Bs w wx [(w.heap.size + 1 + 1, u), (w.heap.size + 1, t), (w.heap.size, s)]))
    case first =>
      cases ab
      · skip
        generalize w2 = wx at N2 ⊢
        have q0 := fun p : After wx => (N2.out.below p.below).at 2 rfl
        have q1 := fun p : After wx => (N2.out.below p.below).at 1 rfl
        refine quiet_after (by kernel_rfl) (by kernel_rfl) ?_
        repeat (first | go_big_quiet_step ((first | (go_at_call 28; first | with_reducible exact calls_after (HC1.out _)) | (go_at_call 26; first | with_reducible exact calls_after (HC9.out _)) | (go_at_call 19; first | with_reducible exact calls_after (HCA.out _)))) | quiet_step ((first | (go_at_call 28; first | with_reducible exact calls_after (HC1.out _)) | (go_at_call 26; first | with_reducible exact calls_after (HC9.out _)) | (go_at_call 19; first | with_reducible exact calls_after (HCA.out _)))))
        refine wpQuiet_nil ?_
        intro wz hw'
        obtain ⟨p, rfl⟩ := hw'
        obtain ⟨w3, hbq⟩ := p
        dsimp only
        clear q0 q1 
        have N3 := Lib.hid (N2.out.below hbq)
        clear hbq N2
        go_wp2
        go_meet
        exact ⟨rfl, N3⟩
      · skip
        have hdc : decide (0 < c) = false := by have := HD3.out rfl; exact decide_eq_false (by omega)
        cases ba
        · skip
          cases bc
          · skip
            generalize w2 = wx at N2 ⊢
            have q0 := fun p : After wx => (N2.out.below p.below).at 2 rfl
            have q1 := fun p : After wx => (N2.out.below p.below).at 1 rfl
            refine quiet_after (by kernel_rfl) (by kernel_rfl) ?_
            repeat (first | go_big_quiet_step ((first | (go_at_call 28; first | with_reducible exact calls_after (HC1.out _)) | (go_at_call 26; first | with_reducible exact calls_after (HC9.out _)) | (go_at_call 19; first | with_reducible exact calls_after (HCA.out _)))) | quiet_step ((first | (go_at_call 28; first | with_reducible exact calls_after (HC1.out _)) | (go_at_call 26; first | with_reducible exact calls_after (HC9.out _)) | (go_at_call 19; first | with_reducible exact calls_after (HCA.out _)))))
            refine wpQuiet_nil ?_
            intro wz hw'
            obtain ⟨p, rfl⟩ := hw'
            obtain ⟨w3, hbq⟩ := p
            dsimp only
            clear q0 q1 
            have N3 := Lib.hid (N2.out.below hbq)
            clear hbq N2
            go_wp2
            go_meet
            exact ⟨rfl, N3⟩
          · skip
            have Hac := Lib.hid (HD5.out rfl rfl)
            obtain rfl := Hac.out
            clear Hac
            generalize w2 = wx at N2 ⊢
            have q0 := fun p : After wx => (N2.out.below p.below).at 2 rfl
            have q1 := fun p : After wx => (N2.out.below p.below).at 1 rfl
            refine quiet_after (by kernel_rfl) (by kernel_rfl) ?_
            repeat (first | go_big_quiet_step ((first | (go_at_call 28; first | with_reducible exact calls_after (HC1.out _)) | (go_at_call 26; first | with_reducible exact calls_after (HC9.out _)) | (go_at_call 19; first | with_reducible exact calls_after (HCA.out _)))) | quiet_step ((first | (go_at_call 28; first | with_reducible exact calls_after (HC1.out _)) | (go_at_call 26; first | with_reducible exact calls_after (HC9.out _)) | (go_at_call 19; first | with_reducible exact calls_after (HCA.out _)))))
            refine wpQuiet_nil ?_
            intro wz hw'
            obtain ⟨p, rfl⟩ := hw'
            obtain ⟨w3, hbq⟩ := p
            dsimp only
            clear q0 q1 
            have N3 := Lib.hid (N2.out.below hbq)
            clear hbq N2
            go_wp2
            go_meet
            exact ⟨rfl, N3⟩
        · skip
          have Hc := Lib.hid (HD4.out rfl rfl)
          have e1 : T.eqB ⟨s.d, s.e, s.a, s.b, s.c⟩ ⟨t.d, t.e, t.a, t.b, t.c⟩ = true := by rw [HD1.out]; exact decide_eq_true Hc.out
          cases bc
          · skip
            generalize w2 = wx at N2 ⊢
            have q0 := fun p : After wx => (N2.out.below p.below).at 2 rfl
            have q1 := fun p : After wx => (N2.out.below p.below).at 1 rfl
            refine quiet_after (by kernel_rfl) (by kernel_rfl) ?_
            repeat (first | go_big_quiet_step ((first | (go_at_call 28; first | with_reducible exact calls_after (HC1.out _)) | (go_at_call 26; first | with_reducible exact calls_after (HC9.out _)) | (go_at_call 19; first | with_reducible exact calls_after (HCA.out _)))) | quiet_step ((first | (go_at_call 28; first | with_reducible exact calls_after (HC1.out _)) | (go_at_call 26; first | with_reducible exact calls_after (HC9.out _)) | (go_at_call 19; first | with_reducible exact calls_after (HCA.out _)))))
            refine wpQuiet_nil ?_
            intro wz hw'
            obtain ⟨p, rfl⟩ := hw'
            obtain ⟨w3, hbq⟩ := p
            dsimp only
            clear q0 q1 
            have N3 := Lib.hid (N2.out.below hbq)
            clear hbq N2
            go_wp2
            go_meet
            exact ⟨rfl, N3⟩
          · skip
            have Hac := Lib.hid (HD5.out rfl rfl)
            obtain rfl := Hac.out
            clear Hac
            generalize w2 = wx at N2 ⊢
            have q0 := fun p : After wx => (N2.out.below p.below).at 2 rfl
            have q1 := fun p : After wx => (N2.out.below p.below).at 1 rfl
            refine quiet_after (by kernel_rfl) (by kernel_rfl) ?_
            repeat (first | go_big_quiet_step ((first | (go_at_call 28; first | with_reducible exact calls_after (HC1.out _)) | (go_at_call 26; first | with_reducible exact calls_after (HC9.out _)) | (go_at_call 19; first | with_reducible exact calls_after (HCA.out _)))) | quiet_step ((first | (go_at_call 28; first | with_reducible exact calls_after (HC1.out _)) | (go_at_call 26; first | with_reducible exact calls_after (HC9.out _)) | (go_at_call 19; first | with_reducible exact calls_after (HCA.out _)))))
            refine wpQuiet_nil ?_
            intro wz hw'
            obtain ⟨p, rfl⟩ := hw'
            obtain ⟨w3, hbq⟩ := p
            dsimp only
            clear q0 q1 
            have N3 := Lib.hid (N2.out.below hbq)
            clear hbq N2
            go_wp2
            go_meet
            exact ⟨rfl, N3⟩
    case rest =>
      obtain ⟨rfl, N3⟩ := hcut
      clear N2
      have l0 := N3.out.at 2 rfl
      have l1 := N3.out.at 1 rfl
      go_wp2_with fail
      refine (HCB.out _).mono ?_
      rintro e4 w4 ⟨rfl, hb⟩
      clear l0 l1
      have N4 := Lib.hid (N3.out.call hb j)
      clear hb N3
      have l0 := N4.out.at 3 rfl
      have l1 := N4.out.at 2 rfl
      go_wp2_with fail
      refine (HCC.out _).mono ?_
      rintro e5 w5 ⟨rfl, hb⟩
      clear l0 l1
      have N5 := Lib.hid (N4.out.call hb m)
      clear hb N4
      cases ok
      · skip
        have Hab := Lib.hid (HD6.out rfl)
        obtain rfl := Hab.out
        clear Hab
        go_wp2_with fail
        refine (HW.out _).mono ?_
        rintro e6 w6 ⟨rfl, hb⟩
        have N6 := Lib.hid (N5.out.below hb)
        clear hb N5
        have HE := Lib.hid N6.out.b
        go_wp2
        go_ret
        exact .bool rfl HE.out
      · skip
        have KD := Lib.hid (HCD.out rfl)
        have KE := Lib.hid (HCE.out rfl)
        have KF := Lib.hid (HCF.out rfl)
        have KG := Lib.hid (HCG.out rfl)
        have KH := Lib.hid (HCH.out rfl)
        have KI := Lib.hid (HCI.out rfl)
        have KJ := Lib.hid (HCJ.out rfl)
        have KK := Lib.hid (HCK.out rfl)
        have l0 := N5.out.at 1 rfl
        go_wp2_with fail
        refine (KD.out _).mono ?_
        rintro e6 w6 ⟨rfl, hb⟩
        clear l0
        have N6 := Lib.hid (N5.out.below hb)
        clear hb N5
        have l0 := N6.out.at 0 rfl
        go_wp2_with fail
        refine (KE.out _).mono ?_
        rintro e7 w7 ⟨rfl, hb⟩
        clear l0
        have N7 := Lib.hid (N6.out.below hb)
        clear hb N6
        have l0 := N7.out.at 4 rfl
        have l1 := N7.out.at 1 rfl
        go_wp2_with fail
        refine (KF.out _).mono ?_
        rintro e8 w8 ⟨rfl, hb⟩
        clear l0 l1
        have N8 := Lib.hid (N7.out.below hb)
        clear hb N7
        have l0 := N8.out.at 3 rfl
        have l1 := N8.out.at 1 rfl
        go_wp2_with fail
        refine (KG.out _).mono ?_
        rintro e9 w9 ⟨rfl, hb⟩
        clear l0 l1
        have N9 := Lib.hid (N8.out.below hb)
        clear hb N8
        have l0 := N9.out.at 4 rfl
        have l1 := N9.out.at 0 rfl
        go_wp2_with fail
        refine (KH.out _).mono ?_
        rintro e10 w10 ⟨rfl, hb⟩
        clear l0 l1
        have N10 := Lib.hid (N9.out.below hb)
        clear hb N9
        have l0 := N10.out.at 3 rfl
        have l1 := N10.out.at 0 rfl
        go_wp2_with fail
        refine (KI.out _).mono ?_
        rintro e11 w11 ⟨rfl, hb⟩
        clear l0 l1
        have N11 := Lib.hid (N10.out.below hb)
        clear hb N10
        go_wp2_with fail
        cases ac
        · skip
          cases ca
          · skip
            generalize w11 = wx at N11 ⊢
            have q0 := fun p : After wx => (N11.out.below p.below).at 4 rfl
            have q1 := fun p : After wx => (N11.out.below p.below).at 3 rfl
            have q2 := fun p : After wx => (N11.out.below p.below).at 2 rfl
            have q3 := fun p : After wx => (N11.out.below p.below).at 1 rfl
            have q4 := fun p : After wx => (N11.out.below p.below).at 0 rfl
            refine quiet_after (by kernel_rfl) (by kernel_rfl) ?_
            repeat (first | go_big_quiet_step ((first | (go_at_call 26; first | with_reducible exact calls_after (KJ.out _) | with_reducible exact calls_after (KK.out _) | with_reducible exact calls_after (HCL.out _) | with_reducible exact calls_after (HCM.out _)) | (go_at_call 21; first | with_reducible exact calls_after (HW.out _)))) | quiet_step ((first | (go_at_call 26; first | with_reducible exact calls_after (KJ.out _) | with_reducible exact calls_after (KK.out _) | with_reducible exact calls_after (HCL.out _) | with_reducible exact calls_after (HCM.out _)) | (go_at_call 21; first | with_reducible exact calls_after (HW.out _)))))
            refine wpQuiet_nil ?_
            intro wz hw'
            obtain ⟨p, rfl⟩ := hw'
            obtain ⟨w12, hbq⟩ := p
            dsimp only
            clear q0 q1 q2 q3 q4 
            have N12 := Lib.hid (N11.out.below hbq)
            clear hbq N11
            have HE := Lib.hid N12.out.b
            go_wp2
            go_ret
            exact .bool rfl HE.out
          · skip
            cases cb
            · skip
              generalize w11 = wx at N11 ⊢
              have q0 := fun p : After wx => (N11.out.below p.below).at 4 rfl
              have q1 := fun p : After wx => (N11.out.below p.below).at 3 rfl
              have q2 := fun p : After wx => (N11.out.below p.below).at 2 rfl
              have q3 := fun p : After wx => (N11.out.below p.below).at 1 rfl
              have q4 := fun p : After wx => (N11.out.below p.below).at 0 rfl
              refine quiet_after (by kernel_rfl) (by kernel_rfl) ?_
              repeat (first | go_big_quiet_step ((first | (go_at_call 26; first | with_reducible exact calls_after (KJ.out _) | with_reducible exact calls_after (KK.out _) | with_reducible exact calls_after (HCL.out _) | with_reducible exact calls_after (HCM.out _)) | (go_at_call 21; first | with_reducible exact calls_after (HW.out _)))) | quiet_step ((first | (go_at_call 26; first | with_reducible exact calls_after (KJ.out _) | with_reducible exact calls_after (KK.out _) | with_reducible exact calls_after (HCL.out _) | with_reducible exact calls_after (HCM.out _)) | (go_at_call 21; first | with_reducible exact calls_after (HW.out _)))))
              refine wpQuiet_nil ?_
              intro wz hw'
              obtain ⟨p, rfl⟩ := hw'
              obtain ⟨w12, hbq⟩ := p
              dsimp only
              clear q0 q1 q2 q3 q4 
              have N12 := Lib.hid (N11.out.below hbq)
              clear hbq N11
              have HE := Lib.hid N12.out.b
              go_wp2
              go_ret
              exact .bool rfl HE.out
            · skip
              generalize w11 = wx at N11 ⊢
              have q0 := fun p : After wx => (N11.out.below p.below).at 4 rfl
              have q1 := fun p : After wx => (N11.out.below p.below).at 3 rfl
              have q2 := fun p : After wx => (N11.out.below p.below).at 2 rfl
              have q3 := fun p : After wx => (N11.out.below p.below).at 1 rfl
              have q4 := fun p : After wx => (N11.out.below p.below).at 0 rfl
              refine quiet_after (by kernel_rfl) (by kernel_rfl) ?_
              repeat (first | go_big_quiet_step ((first | (go_at_call 26; first | with_reducible exact calls_after (KJ.out _) | with_reducible exact calls_after (KK.out _) | with_reducible exact calls_after (HCL.out _) | with_reducible exact calls_after (HCM.out _)) | (go_at_call 21; first | with_reducible exact calls_after (HW.out _)))) | quiet_step ((first | (go_at_call 26; first | with_reducible exact calls_after (KJ.out _) | with_reducible exact calls_after (KK.out _) | with_reducible exact calls_after (HCL.out _) | with_reducible exact calls_after (HCM.out _)) | (go_at_call 21; first | with_reducible exact calls_after (HW.out _)))))
              refine wpQuiet_nil ?_
              intro wz hw'
              obtain ⟨p, rfl⟩ := hw'
              obtain ⟨w12, hbq⟩ := p
              dsimp only
              clear q0 q1 q2 q3 q4 
              have N12 := Lib.hid (N11.out.below hbq)
              clear hbq N11
              have HE := Lib.hid N12.out.b
              go_wp2
              go_ret
              exact .bool rfl HE.out
        · skip
          cases bc
          · skip
            cases ca
            · skip
              generalize w11 = wx at N11 ⊢
              have q0 := fun p : After wx => (N11.out.below p.below).at 4 rfl
              have q1 := fun p : After wx => (N11.out.below p.below).at 3 rfl
              have q2 := fun p : After wx => (N11.out.below p.below).at 2 rfl
              have q3 := fun p : After wx => (N11.out.below p.below).at 1 rfl
              have q4 := fun p : After wx => (N11.out.below p.below).at 0 rfl
              refine quiet_after (by kernel_rfl) (by kernel_rfl) ?_
              repeat (first | go_big_quiet_step ((first | (go_at_call 26; first | with_reducible exact calls_after (KJ.out _) | with_reducible exact calls_after (KK.out _) | with_reducible exact calls_after (HCL.out _) | with_reducible exact calls_after (HCM.out _)) | (go_at_call 21; first | with_reducible exact calls_after (HW.out _)))) | quiet_step ((first | (go_at_call 26; first | with_reducible exact calls_after (KJ.out _) | with_reducible exact calls_after (KK.out _) | with_reducible exact calls_after (HCL.out _) | with_reducible exact calls_after (HCM.out _)) | (go_at_call 21; first | with_reducible exact calls_after (HW.out _)))))
              refine wpQuiet_nil ?_
              intro wz hw'
              obtain ⟨p, rfl⟩ := hw'
              obtain ⟨w12, hbq⟩ := p
              dsimp only
              clear q0 q1 q2 q3 q4 
              have N12 := Lib.hid (N11.out.below hbq)
              clear hbq N11
              have HE := Lib.hid N12.out.b
              go_wp2
              go_ret
              exact .bool rfl HE.out
            · skip
              cases cb
              · skip
                generalize w11 = wx at N11 ⊢
                have q0 := fun p : After wx => (N11.out.below p.below).at 4 rfl
                have q1 := fun p : After wx => (N11.out.below p.below).at 3 rfl
                have q2 := fun p : After wx => (N11.out.below p.below).at 2 rfl
                have q3 := fun p : After wx => (N11.out.below p.below).at 1 rfl
                have q4 := fun p : After wx => (N11.out.below p.below).at 0 rfl
                refine quiet_after (by kernel_rfl) (by kernel_rfl) ?_
                repeat (first | go_big_quiet_step ((first | (go_at_call 26; first | with_reducible exact calls_after (KJ.out _) | with_reducible exact calls_after (KK.out _) | with_reducible exact calls_after (HCL.out _) | with_reducible exact calls_after (HCM.out _)) | (go_at_call 21; first | with_reducible exact calls_after (HW.out _)))) | quiet_step ((first | (go_at_call 26; first | with_reducible exact calls_after (KJ.out _) | with_reducible exact calls_after (KK.out _) | with_reducible exact calls_after (HCL.out _) | with_reducible exact calls_after (HCM.out _)) | (go_at_call 21; first | with_reducible exact calls_after (HW.out _)))))
                refine wpQuiet_nil ?_
                intro wz hw'
                obtain ⟨p, rfl⟩ := hw'
                obtain ⟨w12, hbq⟩ := p
                dsimp only
                clear q0 q1 q2 q3 q4 
                have N12 := Lib.hid (N11.out.below hbq)
                clear hbq N11
                have HE := Lib.hid N12.out.b
                go_wp2
                go_ret
                exact .bool rfl HE.out
              · skip
                generalize w11 = wx at N11 ⊢
                have q0 := fun p : After wx => (N11.out.below p.below).at 4 rfl
                have q1 := fun p : After wx => (N11.out.below p.below).at 3 rfl
                have q2 := fun p : After wx => (N11.out.below p.below).at 2 rfl
                have q3 := fun p : After wx => (N11.out.below p.below).at 1 rfl
                have q4 := fun p : After wx => (N11.out.below p.below).at 0 rfl
                refine quiet_after (by kernel_rfl) (by kernel_rfl) ?_
                repeat (first | go_big_quiet_step ((first | (go_at_call 26; first | with_reducible exact calls_after (KJ.out _) | with_reducible exact calls_after (KK.out _) | with_reducible exact calls_after (HCL.out _) | with_reducible exact calls_after (HCM.out _)) | (go_at_call 21; first | with_reducible exact calls_after (HW.out _)))) | quiet_step ((first | (go_at_call 26; first | with_reducible exact calls_after (KJ.out _) | with_reducible exact calls_after (KK.out _) | with_reducible exact calls_after (HCL.out _) | with_reducible exact calls_after (HCM.out _)) | (go_at_call 21; first | with_reducible exact calls_after (HW.out _)))))
                refine wpQuiet_nil ?_
                intro wz hw'
                obtain ⟨p, rfl⟩ := hw'
                obtain ⟨w12, hbq⟩ := p
                dsimp only
                clear q0 q1 q2 q3 q4 
                have N12 := Lib.hid (N11.out.below hbq)
                clear hbq N11
                have HE := Lib.hid N12.out.b
                go_wp2
                go_ret
                exact .bool rfl HE.out
          · skip
            cases ca
            · skip
              generalize w11 = wx at N11 ⊢
              have q0 := fun p : After wx => (N11.out.below p.below).at 4 rfl
              have q1 := fun p : After wx => (N11.out.below p.below).at 3 rfl
              have q2 := fun p : After wx => (N11.out.below p.below).at 2 rfl
              have q3 := fun p : After wx => (N11.out.below p.below).at 1 rfl
              have q4 := fun p : After wx => (N11.out.below p.below).at 0 rfl
              refine quiet_after (by kernel_rfl) (by kernel_rfl) ?_
              repeat (first | go_big_quiet_step ((first | (go_at_call 26; first | with_reducible exact calls_after (KJ.out _) | with_reducible exact calls_after (KK.out _) | with_reducible exact calls_after (HCL.out _) | with_reducible exact calls_after (HCM.out _)) | (go_at_call 21; first | with_reducible exact calls_after (HW.out _)))) | quiet_step ((first | (go_at_call 26; first | with_reducible exact calls_after (KJ.out _) | with_reducible exact calls_after (KK.out _) | with_reducible exact calls_after (HCL.out _) | with_reducible exact calls_after (HCM.out _)) | (go_at_call 21; first | with_reducible exact calls_after (HW.out _)))))
              refine wpQuiet_nil ?_
              intro wz hw'
              obtain ⟨p, rfl⟩ := hw'
              obtain ⟨w12, hbq⟩ := p
              dsimp only
              clear q0 q1 q2 q3 q4 
              have N12 := Lib.hid (N11.out.below hbq)
              clear hbq N11
              have HE := Lib.hid N12.out.b
              go_wp2
              go_ret
              exact .bool rfl HE.out
            · skip
              cases cb
              · skip
                generalize w11 = wx at N11 ⊢
                have q0 := fun p : After wx => (N11.out.below p.below).at 4 rfl
                have q1 := fun p : After wx => (N11.out.below p.below).at 3 rfl
                have q2 := fun p : After wx => (N11.out.below p.below).at 2 rfl
                have q3 := fun p : After wx => (N11.out.below p.below).at 1 rfl
                have q4 := fun p : After wx => (N11.out.below p.below).at 0 rfl
                refine quiet_after (by kernel_rfl) (by kernel_rfl) ?_
                repeat (first | go_big_quiet_step ((first | (go_at_call 26; first | with_reducible exact calls_after (KJ.out _) | with_reducible exact calls_after (KK.out _) | with_reducible exact calls_after (HCL.out _) | with_reducible exact calls_after (HCM.out _)) | (go_at_call 21; first | with_reducible exact calls_after (HW.out _)))) | quiet_step ((first | (go_at_call 26; first | with_reducible exact calls_after (KJ.out _) | with_reducible exact calls_after (KK.out _) | with_reducible exact calls_after (HCL.out _) | with_reducible exact calls_after (HCM.out _)) | (go_at_call 21; first | with_reducible exact calls_after (HW.out _)))))
                refine wpQuiet_nil ?_
                intro wz hw'
                obtain ⟨p, rfl⟩ := hw'
                obtain ⟨w12, hbq⟩ := p
                dsimp only
                clear q0 q1 q2 q3 q4 
                have N12 := Lib.hid (N11.out.below hbq)
                clear hbq N11
                have HE := Lib.hid N12.out.b
                go_wp2
                go_ret
                exact .bool rfl HE.out
              · skip
                generalize w11 = wx at N11 ⊢
                have q0 := fun p : After wx => (N11.out.below p.below).at 4 rfl
                have q1 := fun p : After wx => (N11.out.below p.below).at 3 rfl
                have q2 := fun p : After wx => (N11.out.below p.below).at 2 rfl
                have q3 := fun p : After wx => (N11.out.below p.below).at 1 rfl
                have q4 := fun p : After wx => (N11.out.below p.below).at 0 rfl
                refine quiet_after (by kernel_rfl) (by kernel_rfl) ?_
                repeat (first | go_big_quiet_step ((first | (go_at_call 26; first | with_reducible exact calls_after (KJ.out _) | with_reducible exact calls_after (KK.out _) | with_reducible exact calls_after (HCL.out _) | with_reducible exact calls_after (HCM.out _)) | (go_at_call 21; first | with_reducible exact calls_after (HW.out _)))) | quiet_step ((first | (go_at_call 26; first | with_reducible exact calls_after (KJ.out _) | with_reducible exact calls_after (KK.out _) | with_reducible exact calls_after (HCL.out _) | with_reducible exact calls_after (HCM.out _)) | (go_at_call 21; first | with_reducible exact calls_after (HW.out _)))))
                refine wpQuiet_nil ?_
                intro wz hw'
                obtain ⟨p, rfl⟩ := hw'
                obtain ⟨w12, hbq⟩ := p
                dsimp only
                clear q0 q1 q2 q3 q4 
                have N12 := Lib.hid (N11.out.below hbq)
                clear hbq N11
                have HE := Lib.hid N12.out.b
                go_wp2
                go_ret
                exact .bool rfl HE.out
end Go.Proofs.Ytbojefdbkegimaa
