/- The walk of StampLattice. -/
import Derived.Test.YtbojefdbkegimaaRows
import Derived.Test.YtbojefdbkegimaaWords
import Derived.Test.YtbojefdbkegimaaS1
import Derived.Test.YtbojefdbkegimaaS2
import Derived.Test.YtbojefdbkegimaaEqs
import Derived.Test.YtbojefdbkegimaaBs
import Derived.Test.YtbojefdbkegimaaF1
import Derived.Test.YtbojefdbkegimaaS12
namespace Go.Proofs.Ytbojefdbkegimaa
open Go.RowKit Go.Proofs.Tail
set_option linter.unusedSimpArgs false
set_option linter.unusedVariables false
set_option maxRecDepth 100000 in
set_option maxHeartbeats 16000000 in
theorem law_lattice_no (s t u : T) (w : World) (h : (alikeB s t && alikeB t u) = false) : Calls Try.prog 7 #[.agg #[.int .i64 s.d, .int .i64 s.e, .int .i64 s.a, .int .i64 s.b, .int .i64 s.c], .agg #[.int .i64 t.d, .int .i64 t.e, .int .i64 t.a, .int .i64 t.b, .int .i64 t.c], .agg #[.int .i64 u.d, .int .i64 u.e, .int .i64 u.a, .int .i64 u.b, .int .i64 u.c]] w (Gives (.bool true) w) := by
  have N0 := Lib.hid (Bs.three w s t u)
  have HJ := Lib.hid (join_any s t)
  have HK := Lib.hid (join_any t u)
  have HW := Lib.hid works_any
  generalize joinT s t = j at HJ
  generalize joinT t u = k at HK
  generalize alikeB s t = b1 at HJ h
  generalize alikeB t u = b2 at HK h
  have l0 := N0.out.at 0 rfl
  have l1 := N0.out.at 1 rfl
  have l2 := N0.out.at 2 rfl
  have H := Lib.hid h
  clear h
  go_enter Try.func7, Try.ntmps7
  go_wp2_with fail
  refine (HJ.out _).mono ?_
  rintro e1 w1 ⟨rfl, hb1⟩
  clear l0 l1 l2
  have N1 := Lib.hid (N0.out.call hb1 j)
  clear hb1
  have l0 := N1.out.at 1 rfl
  have l1 := N1.out.at 2 rfl
  go_wp2_with fail
  refine (HK.out _).mono ?_
  rintro e2 w2 ⟨rfl, hb2⟩
  clear l0 l1
  have N2 := Lib.hid (N1.out.call hb2 k)
  clear hb2
  have H := H.out
  cases b1 <;> cases b2
  all_goals first | (simp at H; done) | skip
  all_goals
    clear H
    go_wp2_with fail
    refine (HW.out _).mono ?_
    rintro e3 w3 ⟨rfl, hb3⟩
    have HE := Lib.hid (N2.out.below hb3).b
    clear hb3
    go_wp2
    go_ret
    exact .bool rfl HE.out

set_option maxRecDepth 100000 in
set_option maxHeartbeats 16000000 in
theorem law_lattice_yes (s t u : T) (w : World) (h1 : alikeB s t = true) (h2 : alikeB t u = true) : Calls Try.prog 7 #[.agg #[.int .i64 s.d, .int .i64 s.e, .int .i64 s.a, .int .i64 s.b, .int .i64 s.c], .agg #[.int .i64 t.d, .int .i64 t.e, .int .i64 t.a, .int .i64 t.b, .int .i64 t.c], .agg #[.int .i64 u.d, .int .i64 u.e, .int .i64 u.a, .int .i64 u.b, .int .i64 u.c]] w (Gives (.bool true) w) := by
  have N0 := Lib.hid (Bs.three w s t u)
  have HW := Lib.hid works_any
  have h3 := alike_trans h1 h2
  have h1' : alikeB t s = true := by rw [alike_comm]; exact h1
  have h3' : alikeB u s = true := by rw [alike_comm]; exact h3
  have hj := alike_join h1 h2
  have hk := alike_join h2 h3'
  have hm := alike_join h1 h1'
  have ho := join_over h1 h2
  have hx := join_meet h1
  have C1 : ∀ w, Calls Try.prog 22 #[.agg #[.int .i64 s.d, .int .i64 s.e, .int .i64 s.a, .int .i64 s.b, .int .i64 s.c], .agg #[.int .i64 t.d, .int .i64 t.e, .int .i64 t.a, .int .i64 t.b, .int .i64 t.c]] w (Gives (.tuple #[.agg #[.int .i64 (joinT s t).d, .int .i64 (joinT s t).e, .int .i64 (joinT s t).a, .int .i64 (joinT s t).b, .int .i64 (joinT s t).c], .bool true]) w) := by intro w; have := join_any s t w; rwa [h1] at this
  have C2 : ∀ w, Calls Try.prog 22 #[.agg #[.int .i64 t.d, .int .i64 t.e, .int .i64 t.a, .int .i64 t.b, .int .i64 t.c], .agg #[.int .i64 u.d, .int .i64 u.e, .int .i64 u.a, .int .i64 u.b, .int .i64 u.c]] w (Gives (.tuple #[.agg #[.int .i64 (joinT t u).d, .int .i64 (joinT t u).e, .int .i64 (joinT t u).a, .int .i64 (joinT t u).b, .int .i64 (joinT t u).c], .bool true]) w) := by intro w; have := join_any t u w; rwa [h2] at this
  have C3 : ∀ w, Calls Try.prog 22 #[.agg #[.int .i64 t.d, .int .i64 t.e, .int .i64 t.a, .int .i64 t.b, .int .i64 t.c], .agg #[.int .i64 s.d, .int .i64 s.e, .int .i64 s.a, .int .i64 s.b, .int .i64 s.c]] w (Gives (.tuple #[.agg #[.int .i64 (joinT s t).d, .int .i64 (joinT s t).e, .int .i64 (joinT s t).a, .int .i64 (joinT s t).b, .int .i64 (joinT s t).c], .bool true]) w) := by intro w; have := join_any t s w; rwa [h1', ← join_comm s t] at this
  have C4 : ∀ w, Calls Try.prog 24 #[.agg #[.int .i64 s.d, .int .i64 s.e, .int .i64 s.a, .int .i64 s.b, .int .i64 s.c], .agg #[.int .i64 t.d, .int .i64 t.e, .int .i64 t.a, .int .i64 t.b, .int .i64 t.c]] w (Gives (.tuple #[.agg #[.int .i64 (meetT s t).d, .int .i64 (meetT s t).e, .int .i64 (meetT s t).a, .int .i64 (meetT s t).b, .int .i64 (meetT s t).c], .bool true]) w) := by intro w; have := meet_any s t w; rwa [h1] at this
  have C5 : ∀ w, Calls Try.prog 24 #[.agg #[.int .i64 t.d, .int .i64 t.e, .int .i64 t.a, .int .i64 t.b, .int .i64 t.c], .agg #[.int .i64 s.d, .int .i64 s.e, .int .i64 s.a, .int .i64 s.b, .int .i64 s.c]] w (Gives (.tuple #[.agg #[.int .i64 (meetT s t).d, .int .i64 (meetT s t).e, .int .i64 (meetT s t).a, .int .i64 (meetT s t).b, .int .i64 (meetT s t).c], .bool true]) w) := by intro w; have := meet_any t s w; rwa [h1', ← meet_comm s t] at this
  have C6 : ∀ w, Calls Try.prog 22 #[.agg #[.int .i64 s.d, .int .i64 s.e, .int .i64 s.a, .int .i64 s.b, .int .i64 s.c], .agg #[.int .i64 (meetT s t).d, .int .i64 (meetT s t).e, .int .i64 (meetT s t).a, .int .i64 (meetT s t).b, .int .i64 (meetT s t).c]] w (Gives (.tuple #[.agg #[.int .i64 s.d, .int .i64 s.e, .int .i64 s.a, .int .i64 s.b, .int .i64 s.c], .bool true]) w) := by intro w; have := join_any s (meetT s t) w; rwa [hm.2.2.2, hx.1] at this
  have C7 : ∀ w, Calls Try.prog 24 #[.agg #[.int .i64 s.d, .int .i64 s.e, .int .i64 s.a, .int .i64 s.b, .int .i64 s.c], .agg #[.int .i64 (joinT s t).d, .int .i64 (joinT s t).e, .int .i64 (joinT s t).a, .int .i64 (joinT s t).b, .int .i64 (joinT s t).c]] w (Gives (.tuple #[.agg #[.int .i64 s.d, .int .i64 s.e, .int .i64 s.a, .int .i64 s.b, .int .i64 s.c], .bool true]) w) := by intro w; have := meet_any s (joinT s t) w; rwa [hm.2.1, hx.2] at this
  have C8 : ∀ w, Calls Try.prog 24 #[.agg #[.int .i64 t.d, .int .i64 t.e, .int .i64 t.a, .int .i64 t.b, .int .i64 t.c], .agg #[.int .i64 u.d, .int .i64 u.e, .int .i64 u.a, .int .i64 u.b, .int .i64 u.c]] w (Gives (.tuple #[.agg #[.int .i64 (meetT t u).d, .int .i64 (meetT t u).e, .int .i64 (meetT t u).a, .int .i64 (meetT t u).b, .int .i64 (meetT t u).c], .bool true]) w) := by intro w; have := meet_any t u w; rwa [h2] at this
  have C9 : ∀ w, Calls Try.prog 22 #[.agg #[.int .i64 s.d, .int .i64 s.e, .int .i64 s.a, .int .i64 s.b, .int .i64 s.c], .agg #[.int .i64 u.d, .int .i64 u.e, .int .i64 u.a, .int .i64 u.b, .int .i64 u.c]] w (Gives (.tuple #[.agg #[.int .i64 (joinT s u).d, .int .i64 (joinT s u).e, .int .i64 (joinT s u).a, .int .i64 (joinT s u).b, .int .i64 (joinT s u).c], .bool true]) w) := by intro w; have := join_any s u w; rwa [h3] at this
  have CA : ∀ w, Calls Try.prog 22 #[.agg #[.int .i64 s.d, .int .i64 s.e, .int .i64 s.a, .int .i64 s.b, .int .i64 s.c], .agg #[.int .i64 (meetT t u).d, .int .i64 (meetT t u).e, .int .i64 (meetT t u).a, .int .i64 (meetT t u).b, .int .i64 (meetT t u).c]] w (Gives (.tuple #[.agg #[.int .i64 (joinT s (meetT t u)).d, .int .i64 (joinT s (meetT t u)).e, .int .i64 (joinT s (meetT t u)).a, .int .i64 (joinT s (meetT t u)).b, .int .i64 (joinT s (meetT t u)).c], .bool true]) w) := by intro w; have := join_any s (meetT t u) w; rwa [hk.2.2.2] at this
  have CB : ∀ w, Calls Try.prog 24 #[.agg #[.int .i64 (joinT s t).d, .int .i64 (joinT s t).e, .int .i64 (joinT s t).a, .int .i64 (joinT s t).b, .int .i64 (joinT s t).c], .agg #[.int .i64 (joinT s u).d, .int .i64 (joinT s u).e, .int .i64 (joinT s u).a, .int .i64 (joinT s u).b, .int .i64 (joinT s u).c]] w (Gives (.tuple #[.agg #[.int .i64 (joinT s (meetT t u)).d, .int .i64 (joinT s (meetT t u)).e, .int .i64 (joinT s (meetT t u)).a, .int .i64 (joinT s (meetT t u)).b, .int .i64 (joinT s (meetT t u)).c], .bool true]) w) := by intro w; have := meet_any (joinT s t) (joinT s u) w; rwa [alike_trans (alike_join h1 h1').1 (alike_join h3 h3').2.1, ← ho.1] at this
  have CC : ∀ w, Calls Try.prog 22 #[.agg #[.int .i64 (joinT s t).d, .int .i64 (joinT s t).e, .int .i64 (joinT s t).a, .int .i64 (joinT s t).b, .int .i64 (joinT s t).c], .agg #[.int .i64 u.d, .int .i64 u.e, .int .i64 u.a, .int .i64 u.b, .int .i64 u.c]] w (Gives (.tuple #[.agg #[.int .i64 (joinT s (joinT t u)).d, .int .i64 (joinT s (joinT t u)).e, .int .i64 (joinT s (joinT t u)).a, .int .i64 (joinT s (joinT t u)).b, .int .i64 (joinT s (joinT t u)).c], .bool true]) w) := by intro w; have := join_any (joinT s t) u w; rwa [hj.1, ho.2] at this
  have CD : ∀ w, Calls Try.prog 22 #[.agg #[.int .i64 s.d, .int .i64 s.e, .int .i64 s.a, .int .i64 s.b, .int .i64 s.c], .agg #[.int .i64 (joinT t u).d, .int .i64 (joinT t u).e, .int .i64 (joinT t u).a, .int .i64 (joinT t u).b, .int .i64 (joinT t u).c]] w (Gives (.tuple #[.agg #[.int .i64 (joinT s (joinT t u)).d, .int .i64 (joinT s (joinT t u)).e, .int .i64 (joinT s (joinT t u)).a, .int .i64 (joinT s (joinT t u)).b, .int .i64 (joinT s (joinT t u)).c], .bool true]) w) := by intro w; have := join_any s (joinT t u) w; rwa [hk.2.1] at this
  clear h1 h2 h3 h1' h3' hj hk hm ho hx
  generalize joinT s (joinT t u) = r at CC CD
  generalize joinT s (meetT t u) = p at CA CB
  generalize joinT s t = j at *
  generalize joinT t u = k at *
  generalize joinT s u = ac at *
  generalize meetT s t = m at *
  generalize meetT t u = bc at *

  have HC1 := Lib.hid C1
  have HC2 := Lib.hid C2
  have HC3 := Lib.hid C3
  have HC4 := Lib.hid C4
  have HC5 := Lib.hid C5
  have HC6 := Lib.hid C6
  have HC7 := Lib.hid C7
  have HC8 := Lib.hid C8
  have HC9 := Lib.hid C9
  have HCA := Lib.hid CA
  have HCB := Lib.hid CB
  have HCC := Lib.hid CC
  have HCD := Lib.hid CD
  clear C1 C2 C3 C4 C5 C6 C7 C8 C9 CA CB CC CD
  go_enter Try.func7, Try.ntmps7
  have l0 := N0.out.at 2 rfl
  have l1 := N0.out.at 1 rfl
  go_wp2_with fail
  refine (HC1.out _).mono ?_
  rintro e1 w1 ⟨rfl, hb⟩
  clear l0 l1
  have N1 := Lib.hid (N0.out.call hb j)
  clear hb N0
  have l0 := N1.out.at 2 rfl
  have l1 := N1.out.at 1 rfl
  go_wp2_with fail
  refine (HC2.out _).mono ?_
  rintro e2 w2 ⟨rfl, hb⟩
  clear l0 l1
  have N2 := Lib.hid (N1.out.call hb k)
  clear hb N1
  have l0 := N2.out.at 3 rfl
  have l1 := N2.out.at 4 rfl
  go_wp2_with fail
  refine (HC3.out _).mono ?_
  rintro e3 w3 ⟨rfl, hb⟩
  clear l0 l1
  have N3 := Lib.hid (N2.out.call hb j)
  clear hb N2
  have l0 := N3.out.at 5 rfl
  have l1 := N3.out.at 4 rfl
  go_wp2_with fail
  refine (HC4.out _).mono ?_
  rintro e4 w4 ⟨rfl, hb⟩
  clear l0 l1
  have N4 := Lib.hid (N3.out.call hb m)
  clear hb N3
  have l0 := N4.out.at 5 rfl
  have l1 := N4.out.at 6 rfl
  go_wp2_with fail
  refine (HC5.out _).mono ?_
  rintro e5 w5 ⟨rfl, hb⟩
  clear l0 l1
  have N5 := Lib.hid (N4.out.call hb m)
  clear hb N4
  have l0 := N5.out.at 7 rfl
  have l1 := N5.out.at 1 rfl
  go_wp2_with fail
  refine (HC6.out _).mono ?_
  rintro e6 w6 ⟨rfl, hb⟩
  clear l0 l1
  have N6 := Lib.hid (N5.out.call hb s)
  clear hb N5
  have l0 := N6.out.at 8 rfl
  have l1 := N6.out.at 5 rfl
  go_wp2_with fail
  refine (HC7.out _).mono ?_
  rintro e7 w7 ⟨rfl, hb⟩
  clear l0 l1
  have N7 := Lib.hid (N6.out.call hb s)
  clear hb N6
  have l0 := N7.out.at 6 rfl
  have l1 := N7.out.at 4 rfl
  have l2 := N7.out.at 3 rfl
  have l3 := N7.out.at 2 rfl
  have l4 := N7.out.at 1 rfl
  have l5 := N7.out.at 9 rfl
  have l6 := N7.out.at 0 rfl
  have l7 := N7.out.at 8 rfl
  have l8 := N7.out.at 7 rfl
  have e1 := eq_self5 j
  have e2 := eq_self5 m
  have e3 := eq_self5 s
  go_wp2_with fail
  refine (HC8.out _).mono ?_
  rintro e8 w8 ⟨rfl, hb⟩
  clear l0 l1 l2 l3 l4 l5 l6 l7 l8 e1 e2 e3
  have N8 := Lib.hid (N7.out.call hb bc)
  clear hb N7
  have l0 := N8.out.at 10 rfl
  have l1 := N8.out.at 8 rfl
  go_wp2_with fail
  refine (HC9.out _).mono ?_
  rintro e9 w9 ⟨rfl, hb⟩
  clear l0 l1
  have N9 := Lib.hid (N8.out.call hb ac)
  clear hb N8
  have l0 := N9.out.at 11 rfl
  have l1 := N9.out.at 1 rfl
  go_wp2_with fail
  refine (HCA.out _).mono ?_
  rintro e10 w10 ⟨rfl, hb⟩
  clear l0 l1
  have N10 := Lib.hid (N9.out.call hb p)
  clear hb N9
  have l0 := N10.out.at 9 rfl
  have l1 := N10.out.at 1 rfl
  go_wp2_with fail
  refine (HCB.out _).mono ?_
  rintro e11 w11 ⟨rfl, hb⟩
  clear l0 l1
  have N11 := Lib.hid (N10.out.call hb p)
  clear hb N10
  have l0 := N11.out.at 10 rfl
  have l1 := N11.out.at 11 rfl
  go_wp2_with fail
  refine (HCC.out _).mono ?_
  rintro e12 w12 ⟨rfl, hb⟩
  clear l0 l1
  have N12 := Lib.hid (N11.out.call hb r)
  clear hb N11
  have l0 := N12.out.at 13 rfl
  have l1 := N12.out.at 12 rfl
  go_wp2_with fail
  refine (HC2.out _).mono ?_
  rintro e13 w13 ⟨rfl, hb⟩
  clear l0 l1
  have N13 := Lib.hid (N12.out.call hb k)
  clear hb N12
  have l0 := N13.out.at 15 rfl
  have l1 := N13.out.at 11 rfl
  go_wp2_with fail
  refine (HCD.out _).mono ?_
  rintro e14 w14 ⟨rfl, hb⟩
  clear l0 l1
  have N14 := Lib.hid (N13.out.call hb r)
  clear hb N13
  have l0 := N14.out.at 4 rfl
  have l1 := N14.out.at 3 rfl
  have l2 := N14.out.at 2 rfl
  have l3 := N14.out.at 0 rfl
  have e1 := eq_self5 p
  have e2 := eq_self5 r
  go_wp2_with fail
  refine (HW.out _).mono ?_
  rintro e w' ⟨rfl, hb⟩
  have HE := Lib.hid (N14.out.below hb).b
  clear hb
  go_wp2
  go_ret
  exact .bool rfl HE.out
theorem law_lattice (s t u : T) (w : World) : Calls Try.prog 7 #[.agg #[.int .i64 s.d, .int .i64 s.e, .int .i64 s.a, .int .i64 s.b, .int .i64 s.c], .agg #[.int .i64 t.d, .int .i64 t.e, .int .i64 t.a, .int .i64 t.b, .int .i64 t.c], .agg #[.int .i64 u.d, .int .i64 u.e, .int .i64 u.a, .int .i64 u.b, .int .i64 u.c]] w (Gives (.bool true) w) := by
  cases h : (alikeB s t && alikeB t u) with
  | false => exact law_lattice_no s t u w h
  | true =>
    rw [Bool.and_eq_true] at h
    exact law_lattice_yes s t u w h.1 h.2
end Go.Proofs.Ytbojefdbkegimaa
