/- The walk of StampTwo. -/
import Derived.Test.YtbojefdbkegimaaRows
import Derived.Test.YtbojefdbkegimaaWords
import Derived.Test.YtbojefdbkegimaaS1
import Derived.Test.YtbojefdbkegimaaS2
import Derived.Test.YtbojefdbkegimaaEqs
import Derived.Test.YtbojefdbkegimaaS5
import Derived.Test.YtbojefdbkegimaaS7
import Derived.Test.YtbojefdbkegimaaS8
import Derived.Test.YtbojefdbkegimaaS9
import Derived.Test.YtbojefdbkegimaaS12
namespace Go.Proofs.Ytbojefdbkegimaa
open Go.RowKit Go.Proofs.Tail
set_option linter.unusedSimpArgs false
set_option linter.unusedVariables false
set_option maxRecDepth 100000 in
set_option maxHeartbeats 16000000 in
theorem law_two (s t : T) (w : World) : Calls Try.prog 4 #[.agg #[.int .i64 s.d, .int .i64 s.e, .int .i64 s.a, .int .i64 s.b, .int .i64 s.c], .agg #[.int .i64 t.d, .int .i64 t.e, .int .i64 t.a, .int .i64 t.b, .int .i64 t.c]] w (Gives (.bool true) w) := by
  have N0 := Lib.hid (Two.new w s t)
  have E := Lib.hid T.eqB_self
  have HJ := Lib.hid (join_any s t)
  have HM := Lib.hid (meet_any s t)
  have HJ' := Lib.hid (refjoin_any s t)
  have HM' := Lib.hid (refmeet_any s t)
  generalize joinT s t = j at HJ HJ'
  generalize meetT s t = m at HM HM'
  generalize alikeB s t = b at HJ HJ' HM HM'
  go_enter Try.func4, Try.ntmps4
  go_wp2_with fail
  refine (HJ.out _).mono ?_
  rintro e1 w1 ⟨rfl, hb1⟩
  have N1 := Lib.hid ((N0.out.below hb1).below (below_new w1 (.cells #[.int .i64 j.d, .int .i64 j.e, .int .i64 j.a, .int .i64 j.b, .int .i64 j.c] 24)))
  have J1 := Lib.hid (Bx.new w1 j _ rfl)
  clear hb1
  obtain ⟨⟨x0, x1, x2, x3, x4⟩, ⟨y0, y1, y2, y3, y4⟩⟩ := N1.out.cells
  go_wp2_with fail
  refine (HJ'.out _).mono ?_
  rintro e2 w2 ⟨rfl, hb1⟩
  clear x0 x1 x2 x3 x4 y0 y1 y2 y3 y4
  have N2 := Lib.hid ((N1.out.below hb1).below (below_new w2 (.cells #[.int .i64 j.d, .int .i64 j.e, .int .i64 j.a, .int .i64 j.b, .int .i64 j.c] 24)))
  have J2 := Lib.hid ((J1.out.below hb1).below (below_new w2 (.cells #[.int .i64 j.d, .int .i64 j.e, .int .i64 j.a, .int .i64 j.b, .int .i64 j.c] 24)))
  have K2 := Lib.hid (Bx.new w2 j _ rfl)
  clear hb1 J1 N1
  obtain ⟨⟨x0, x1, x2, x3, x4⟩, ⟨y0, y1, y2, y3, y4⟩⟩ := N2.out.cells
  go_wp2_with fail
  refine (HM.out _).mono ?_
  rintro e3 w3 ⟨rfl, hb1⟩
  clear x0 x1 x2 x3 x4 y0 y1 y2 y3 y4
  have N3 := Lib.hid ((N2.out.below hb1).below (below_new w3 (.cells #[.int .i64 m.d, .int .i64 m.e, .int .i64 m.a, .int .i64 m.b, .int .i64 m.c] 24)))
  have J3 := Lib.hid ((J2.out.below hb1).below (below_new w3 (.cells #[.int .i64 m.d, .int .i64 m.e, .int .i64 m.a, .int .i64 m.b, .int .i64 m.c] 24)))
  have K3 := Lib.hid ((K2.out.below hb1).below (below_new w3 (.cells #[.int .i64 m.d, .int .i64 m.e, .int .i64 m.a, .int .i64 m.b, .int .i64 m.c] 24)))
  have M3 := Lib.hid (Bx.new w3 m _ rfl)
  clear hb1 J2 K2 N2
  obtain ⟨⟨x0, x1, x2, x3, x4⟩, ⟨y0, y1, y2, y3, y4⟩⟩ := N3.out.cells
  go_wp2_with fail
  refine (HM'.out _).mono ?_
  rintro e4 w4 ⟨rfl, hb1⟩
  clear x0 x1 x2 x3 x4 y0 y1 y2 y3 y4
  have N4 := Lib.hid ((N3.out.below hb1).below (below_new w4 (.cells #[.int .i64 m.d, .int .i64 m.e, .int .i64 m.a, .int .i64 m.b, .int .i64 m.c] 24)))
  have J4 := Lib.hid ((J3.out.below hb1).below (below_new w4 (.cells #[.int .i64 m.d, .int .i64 m.e, .int .i64 m.a, .int .i64 m.b, .int .i64 m.c] 24)))
  have K4 := Lib.hid ((K3.out.below hb1).below (below_new w4 (.cells #[.int .i64 m.d, .int .i64 m.e, .int .i64 m.a, .int .i64 m.b, .int .i64 m.c] 24)))
  have M4 := Lib.hid ((M3.out.below hb1).below (below_new w4 (.cells #[.int .i64 m.d, .int .i64 m.e, .int .i64 m.a, .int .i64 m.b, .int .i64 m.c] 24)))
  have L4 := Lib.hid (Bx.new w4 m _ rfl)
  clear hb1 J3 K3 M3 N3
  have HL := Lib.hid (leq_any s t)
  have HL' := Lib.hid (refleq_any s t)
  have HC := Lib.hid (cmp_any s t)
  have HC' := Lib.hid (refcompare_any s t)
  have HW := Lib.hid works_any
  generalize leqB s t = lb at HL HL'
  generalize cmpP s t 3 = cb at HC HC'
  go_wp2_with fail
  generalize w4.alloc (.cells #[.int .i64 m.d, .int .i64 m.e, .int .i64 m.a, .int .i64 m.b, .int .i64 m.c] 24) = wx at N4 J4 K4 M4 L4 ⊢
  clear HJ HJ' HM HM' N0
  have ej : T.eqB ⟨j.d, j.e, j.a, j.b, j.c⟩ ⟨j.d, j.e, j.a, j.b, j.c⟩ = true := T.eqB_self j
  have em : T.eqB ⟨m.d, m.e, m.a, m.b, m.c⟩ ⟨m.d, m.e, m.a, m.b, m.c⟩ = true := T.eqB_self m
  have PX := fun p : After wx => (N4.out.x.below p.below).cells
  have PY := fun p : After wx => (N4.out.y.below p.below).cells
  have PJ := fun p : After wx => (J4.out.below p.below).cells
  have PK := fun p : After wx => (K4.out.below p.below).cells
  have PM := fun p : After wx => (M4.out.below p.below).cells
  have PL := fun p : After wx => (L4.out.below p.below).cells
  refine quiet_after (by kernel_rfl) (by kernel_rfl) ?_
  repeat (first | go_big_quiet_step (((first | (go_at_call 26; exact calls_after (HL.out _)) | (go_at_call 27; exact calls_after (HL'.out _)) | (go_at_call 28; exact calls_after (HC.out _)) | (go_at_call 29; exact calls_after (HC'.out _)) | (go_at_call 21; exact calls_after (HW.out _))))) | quiet_step (((first | (go_at_call 26; exact calls_after (HL.out _)) | (go_at_call 27; exact calls_after (HL'.out _)) | (go_at_call 28; exact calls_after (HC.out _)) | (go_at_call 29; exact calls_after (HC'.out _)) | (go_at_call 21; exact calls_after (HW.out _))))))
  refine wpQuiet_nil ?_
  intro w5 hw'
  obtain ⟨p, rfl⟩ := hw'
  obtain ⟨wq, hbq⟩ := p
  dsimp only
  have HE := Lib.hid (below_then N4.out.b hbq)
  clear PX PY PJ PK PM PL
  go_wp2
  go_ret
  exact .bool rfl HE.out
end Go.Proofs.Ytbojefdbkegimaa
