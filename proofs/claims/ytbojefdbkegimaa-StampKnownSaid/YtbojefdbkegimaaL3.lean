/- The walk of StampRight. -/
import Derived.Test.YtbojefdbkegimaaRows
import Derived.Test.YtbojefdbkegimaaWords
import Derived.Test.YtbojefdbkegimaaByts
import Derived.Test.YtbojefdbkegimaaS1
import Derived.Test.YtbojefdbkegimaaS2
import Derived.Test.YtbojefdbkegimaaS3
import Derived.Test.YtbojefdbkegimaaS4
import Derived.Test.YtbojefdbkegimaaS6
import Derived.Test.YtbojefdbkegimaaS11
import Derived.Test.YtbojefdbkegimaaEqs
import Derived.Test.YtbojefdbkegimaaBs
import Derived.Test.YtbojefdbkegimaaF1
import Derived.Test.YtbojefdbkegimaaS12
namespace Go.Proofs.Ytbojefdbkegimaa
open Go.RowKit Go.Proofs.Tail
set_option linter.unusedSimpArgs false
set_option linter.unusedVariables false

theorem putL_len (t : T) : (putL t).length ≤ 6 := by
  unfold putL
  split
  · simp only [List.length_append, List.length_take, List.length_cons, List.length_nil]; omega
  · simp
set_option maxRecDepth 100000 in
set_option maxHeartbeats 32000000 in
theorem law_right (s : T) (w : World) (hs : -9223372036854775808 ≤ s.d ∧ s.d ≤ 9223372036854775807) : Calls Try.prog 3 #[.agg #[.int .i64 s.d, .int .i64 s.e, .int .i64 s.a, .int .i64 s.b, .int .i64 s.c]] w (Gives (.bool true) w) := by
  have N0 := Lib.hid ((Bs.nil w).box s _ rfl)
  have HW := Lib.hid works_any
  have C1 := fun w => into_any s w hs.1 hs.2
  have C2 := refinto_any s
  have C3 := out_any s
  have C4 := refout_any s
  have C5 := step_any s
  have C6 := refstep_any s
  have C7 := put_any s
  have C8 := refput_any s
  have C9 := right_any s
  have CA := refright_any s
  have CX := putL_len s
  generalize putL s = xs at *
  generalize putE s = code at *
  generalize s.rightB = r at *
  generalize intoB s = ok at *
  generalize stepB s = goes at *
  generalize outB s = p at *
  generalize intoT s = x at *
  generalize stepT s = u at *
  generalize outT s = c at *
  clear hs
  have HC1 := Lib.hid C1
  have HC2 := Lib.hid C2
  have HC3 := Lib.hid C3
  have HC4 := Lib.hid C4
  have HC5 := Lib.hid C5
  have HC6 := Lib.hid C6
  have HC7 := Lib.hid C7
  have HC8 := Lib.hid C8
  have HC9 := Lib.hid C9
  have HCA := Lib.hid CA
  have HCX := Lib.hid CX
  clear C1 C2 C3 C4 C5 C6 C7 C8 C9 CA CX
  go_enter Try.func3, Try.ntmps3
  have l0 := N0.out.at 0 rfl
  go_wp2_with fail
  refine (HC1.out _).mono ?_
  rintro e1 w1 ⟨rfl, hb⟩
  clear l0
  have N1 := Lib.hid (N0.out.call hb x)
  clear hb N0
  have l0 := N1.out.at 1 rfl
  go_wp2_with fail
  refine (HC2.out _).mono ?_
  rintro e2 w2 ⟨rfl, hb⟩
  clear l0
  have N2 := Lib.hid (N1.out.call hb x)
  clear hb N1
  have l0 := N2.out.at 2 rfl
  go_wp2_with fail
  refine (HC3.out _).mono ?_
  rintro e3 w3 ⟨rfl, hb⟩
  clear l0
  have N3 := Lib.hid (N2.out.call hb c)
  clear hb N2
  have l0 := N3.out.at 3 rfl
  go_wp2_with fail
  refine (HC4.out _).mono ?_
  rintro e4 w4 ⟨rfl, hb⟩
  clear l0
  have N4 := Lib.hid (N3.out.call hb c)
  clear hb N3
  have e1 := eq_self5 x
  have e2 := eq_self5 c
  have l0 := N4.out.at 3 rfl
  have l1 := N4.out.at 2 rfl
  have l2 := N4.out.at 1 rfl
  have l3 := N4.out.at 0 rfl
  have l4 := N4.out.at 4 rfl
  go_wp2_with fail
  clear e1 e2
  refine (HC5.out _).mono ?_
  rintro e5 w5 ⟨rfl, hb⟩
  clear l0 l1 l2 l3 l4
  have N5 := Lib.hid (N4.out.call hb u)
  clear hb N4
  have l0 := N5.out.at 5 rfl
  go_wp2_with fail
  refine (HC6.out _).mono ?_
  rintro e6 w6 ⟨rfl, hb⟩
  clear l0
  have N6 := Lib.hid (N5.out.call hb u)
  clear hb N5
  have l0 := N6.out.at 6 rfl
  go_wp2_with fail
  refine (HC7.out _).mono ?_
  rintro e7 w7 ⟨v1, rfl, ho, hb⟩
  clear l0
  obtain ⟨A1, c1, rfl, hr1⟩ := own_bytes ho (by have := HCX.out; omega)
  clear ho
  have N7 := Lib.hid (N6.out.below hb)
  clear N6
  have R1 := Lib.hid hr1
  clear hr1 hb
  have l0 := N7.out.at 6 rfl
  go_wp2_with fail
  refine (HC8.out _).mono ?_
  rintro e8 w8 ⟨v2, rfl, ho, hb⟩
  clear l0
  obtain ⟨A2, c2, rfl, hr2⟩ := own_bytes ho (by have := HCX.out; omega)
  clear ho
  have N8 := Lib.hid (N7.out.below hb)
  clear N7
  have R1' := Lib.hid (R1.out.below RByte.stays hb)
  have R2 := Lib.hid hr2
  clear hr2 hb R1
  go_upto_region 11 with fail
  have e1 := eq_self5 u
  generalize w8 = wy at R1' R2 N8 ⊢
  have z1 := fun p : After wy => run_convert_byts p.val 27 5 Try.underlying27 Try.underlying5 (R1'.out.below RByte.stays p.below) 9 Try.underlying9
  have z2 := fun p : After wy => run_convert_byts p.val 27 5 Try.underlying27 Try.underlying5 (R2.out.below RByte.stays p.below) 9 Try.underlying9
  generalize wy = wx at *
  have q0 := fun p : After wx => (N8.out.below p.below).at 6 rfl
  have q1 := fun p : After wx => (N8.out.below p.below).at 1 rfl
  have q2 := fun p : After wx => (N8.out.below p.below).at 0 rfl
  refine quiet_after (by kernel_rfl) (by kernel_rfl) ?_
  repeat (first | go_big_quiet_step ((first | (go_at_call 19; first | with_reducible exact calls_after (HC9.out _)) | (go_at_call 20; first | with_reducible exact calls_after (HCA.out _)) | (go_at_call 21; first | with_reducible exact calls_after (HW.out _)))) | quiet_step ((first | (go_at_call 19; first | with_reducible exact calls_after (HC9.out _)) | (go_at_call 20; first | with_reducible exact calls_after (HCA.out _)) | (go_at_call 21; first | with_reducible exact calls_after (HW.out _)))))
  refine wpQuiet_nil ?_
  intro wz hw'
  obtain ⟨p, rfl⟩ := hw'
  obtain ⟨w9, hbq⟩ := p
  dsimp only
  clear q0 q1 q2 z1 z2 e1
  have N9 := Lib.hid (N8.out.below hbq)
  clear hbq N8
  have HE := Lib.hid N9.out.b
  go_wp2
  go_ret
  exact .bool rfl HE.out
end Go.Proofs.Ytbojefdbkegimaa
