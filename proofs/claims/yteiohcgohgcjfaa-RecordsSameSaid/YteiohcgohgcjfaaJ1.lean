/- RecordsSame. -/
import Derived.Test.YteiohcgohgcjfaaRows
import Derived.Deep.RegionHeld3
import Derived.IntWalk
import Derived.Test.YteiohcgohgcjfaaWords
import Derived.Test.YteiohcgohgcjfaaByts
import Derived.Test.YteiohcgohgcjfaaStrs
import Derived.Test.YteiohcgohgcjfaaFrame
import Derived.Test.YteiohcgohgcjfaaElems
import Derived.Test.YteiohcgohgcjfaaS1
import Derived.Test.YteiohcgohgcjfaaS2
import Derived.Test.YteiohcgohgcjfaaEqs
import Derived.Test.YteiohcgohgcjfaaD1
import Derived.Test.YteiohcgohgcjfaaD5
import Derived.Test.YteiohcgohgcjfaaB0
import Derived.Test.YteiohcgohgcjfaaB1
import Derived.Test.YteiohcgohgcjfaaH2
import Derived.Test.YteiohcgohgcjfaaI1
import Derived.Test.YteiohcgohgcjfaaF1
namespace Go.Proofs.Yteiohcgohgcjfaa
open Go Go.RowKit Go.Proofs.Tail
set_option linter.unusedSimpArgs false
set_option linter.unusedVariables false
theorem refsame_box (a b : Mb) (w : World) (ha : Mg w a.m a.A a.c a.C a.d) (hb : Mg w b.m b.A b.c b.C b.d) : Calls Try.prog 16 #[.agg (a.m.cs a.A a.c a.C a.d).toArray, .agg (b.m.cs b.A b.c b.C b.d).toArray] w (Gives (.bool (sameB a.m b.m)) w) :=
  refsame_any a.m b.m a.A a.C b.A b.C a.c a.d b.c b.d w ha hb
theorem plain_box (a : Mb) (w : World) (ha : Mg w a.m a.A a.c a.C a.d) (hn : a.m.U.length ≤ 300) : Calls Try.prog 11 #[.agg a.cs] w (GivesPl a.m a.A a.c w) := plain_any a.m a.A a.C a.c a.d w ha hn
theorem few_U {m : Msg} (h : fewB m = true) : m.U.length ≤ 300 := by
  unfold fewB at h
  simp only [Bool.and_eq_true, decide_eq_true_eq] at h
  exact h.2
set_option maxRecDepth 100000 in
set_option maxHeartbeats 16000000 in
theorem law_same (m n : Msg) (A C E F : Option Addr) (c d e f : Nat) (w : World) (hm : Mg w m A c C d) (hn : Mg w n E e F f) :
    Calls Try.prog 6 #[.agg (m.cs A c C d).toArray, .agg (n.cs E e F f).toArray] w (Gives (.bool true) w) := by
  have Z1 := (Ms.nil w).put m A c C d hm w.heap.size rfl
  obtain ⟨w1, hw1⟩ : ∃ w1, w1 = w.alloc (.cells (m.cs A c C d).toArray 28) := ⟨_, rfl⟩
  rw [← hw1] at Z1
  have hs1 : w1.heap.size = w.heap.size + 1 := by rw [hw1]; simp
  have hb1 : Below w.heap.size w w1 := Z1.b
  have Z2 := Z1.put n E e F f (hn.below hb1) (w.heap.size + 1) hs1
  obtain ⟨w2, hw2⟩ : ∃ w2, w2 = w1.alloc (.cells (n.cs E e F f).toArray 28) := ⟨_, rfl⟩
  rw [← hw2] at Z2
  have N2 := Lib.hid Z2
  have e1 := hw1.symm
  have e2 := hw2.symm
  rw [Msg.cs_eq] at e1 e2
  rw [Msg.cs_eq, Msg.cs_eq]
  have HW := Lib.hid works_any
  clear Z1 Z2 hw1 hw2 hb1 hm hn
  cases hfm : fewB m with
  | false =>
    have HC := Lib.hid (few_box ⟨w.heap.size, m, A, c, C, d⟩ w2)
    rw [hfm] at HC
    have l0 := N2.out.at 1 rfl
    dsimp only [Mb.cs] at l0
    go_enter Try.func6, Try.ntmps6
    go_wp2_with fail
    refine HC.out.mono ?_
    rintro e w3 ⟨rfl, hb⟩
    have N3 := Lib.hid (N2.out.below hb)
    clear hb l0 HC
    go_wp2_with fail
    refine (HW.out _).mono ?_
    rintro e w4 ⟨rfl, hb⟩
    have N4 := Lib.hid (N3.out.below hb)
    clear hb
    go_wp2_with fail
    go_ret
    exact .bool rfl N4.out.b
  | true =>
    have HC := Lib.hid (few_box ⟨w.heap.size, m, A, c, C, d⟩ w2)
    rw [hfm] at HC
    cases hfn : fewB n with
    | false =>
      have HC2 := Lib.hid (few_box ⟨w.heap.size + 1, n, E, e, F, f⟩)
      rw [hfn] at HC2
      have l0 := N2.out.at 1 rfl
      dsimp only [Mb.cs] at l0
      go_enter Try.func6, Try.ntmps6
      go_wp2_with fail
      refine HC.out.mono ?_
      rintro e w3 ⟨rfl, hb⟩
      have N3 := Lib.hid (N2.out.below hb)
      clear hb l0 HC
      have l1 := N3.out.at 0 rfl
      dsimp only [Mb.cs] at l1
      go_wp2_with fail
      refine (HC2.out _).mono ?_
      rintro e w4 ⟨rfl, hb⟩
      have N4 := Lib.hid (N3.out.below hb)
      clear hb l1
      go_wp2_with fail
      refine (HW.out _).mono ?_
      rintro e w5 ⟨rfl, hb⟩
      have N5 := Lib.hid (N4.out.below hb)
      clear hb
      go_wp2_with fail
      go_ret
      exact .bool rfl N5.out.b
    | true =>
      have HC2 := Lib.hid (few_box ⟨w.heap.size + 1, n, E, e, F, f⟩)
      rw [hfn] at HC2
      have l0 := N2.out.at 1 rfl
      dsimp only [Mb.cs] at l0
      go_enter Try.func6, Try.ntmps6
      go_wp2_with fail
      refine HC.out.mono ?_
      rintro e w3 ⟨rfl, hb⟩
      have N3 := Lib.hid (N2.out.below hb)
      clear hb l0 HC
      have l1 := N3.out.at 0 rfl
      dsimp only [Mb.cs] at l1
      go_wp2_with fail
      refine (HC2.out _).mono ?_
      rintro e w4 ⟨rfl, hb⟩
      have N4 := Lib.hid (N3.out.below hb)
      clear hb l1
      have hum := few_U hfm
      have hun := few_U hfn
      have LA := Lib.hid (fun (W : World) (hW : Below w4.heap.size w4 W) => (N4.out.below hW).at 1 rfl)
      have LB := Lib.hid (fun (W : World) (hW : Below w4.heap.size w4 W) => (N4.out.below hW).at 0 rfl)
      have CS := Lib.hid (fun (W : World) (hW : Below w4.heap.size w4 W) => same_box ⟨w.heap.size, m, A, c, C, d⟩ ⟨w.heap.size + 1, n, E, e, F, f⟩ W ((N4.out.mg 1 rfl).below hW) ((N4.out.mg 0 rfl).below hW))
      have CM := Lib.hid (fun (W : World) (hW : Below w4.heap.size w4 W) => same_box ⟨w.heap.size, m, A, c, C, d⟩ ⟨w.heap.size, m, A, c, C, d⟩ W ((N4.out.mg 1 rfl).below hW) ((N4.out.mg 1 rfl).below hW))
      rw [show sameB m m = true from sameB_iff.2 rfl] at CM
      have PM := Lib.hid (fun (W : World) (hW : Below w4.heap.size w4 W) => plain_box ⟨w.heap.size, m, A, c, C, d⟩ W ((N4.out.mg 1 rfl).below hW) hum)
      have PN := Lib.hid (fun (W : World) (hW : Below w4.heap.size w4 W) => plain_box ⟨w.heap.size + 1, n, E, e, F, f⟩ W ((N4.out.mg 0 rfl).below hW) hun)
      have RS := Lib.hid (fun (W : World) (B3 B4 : Option Addr) (d3 d4 : Nat) (hM : Mg W m A c B3 d3) (hN : Mg W n E e B4 d4) => refsame_any m n A B3 E B4 c d3 e d4 W hM hN)
      have HBW := Lib.hid ((Below.refl w4.heap.size w4).drew)
      clear hum hun
      dsimp only [Mb.cs] at LA LB CS CM PM PN
      generalize hsb : sameB m n = sb at *
      clear hsb
      cases sb
      all_goals go_wp2_with fail
      all_goals go_region_held3 (fun W => (∀ o, W.cell? ⟨w.heap.size, o, none⟩ = (#[.int .u8 m.k, .int .i64 m.f, .int .i64 m.t, .int .i64 m.i, .int .i64 m.q, .int .i64 m.s.d, .int .i64 m.s.e, .int .i64 m.s.a, .int .i64 m.s.b, .int .i64 m.s.c, .slice A m.L.length c, .slice C m.U.length d] : Array Value)[o]?) ∧ (∀ o, W.cell? ⟨w.heap.size + 1, o, none⟩ = (#[.int .u8 n.k, .int .i64 n.f, .int .i64 n.t, .int .i64 n.i, .int .i64 n.q, .int .i64 n.s.d, .int .i64 n.s.e, .int .i64 n.s.a, .int .i64 n.s.b, .int .i64 n.s.c, .slice E n.L.length e, .slice F n.U.length f] : Array Value)[o]?))
        (exact ⟨LA.out _ HBW.out, LB.out _ HBW.out⟩)
        (first
          | (go_at_call 17; (first | (with_reducible refine (CS.out _ HBW.out).mono ?_) | (with_reducible refine (CM.out _ HBW.out).mono ?_)); rintro e wz ⟨rfl, hb⟩; replace HBW := Lib.hid (below_then HBW.out hb); (try replace MM := Lib.hid (MM.out.below hb)); (try replace MN := Lib.hid (MN.out.below hb)); clear hb)
          | (go_at_call 11; first
              | ((with_reducible refine (PM.out _ HBW.out).mono ?_); rintro e wz ⟨B3, d3, rfl, hm3, hb⟩; replace HBW := Lib.hid (below_then HBW.out hb); have MM := Lib.hid hm3; (try replace MN := Lib.hid (MN.out.below hb)); clear hb hm3)
              | ((with_reducible refine (PN.out _ HBW.out).mono ?_); rintro e wz ⟨B4, d4, rfl, hm4, hb⟩; replace HBW := Lib.hid (below_then HBW.out hb); have MN := Lib.hid hm4; (try replace MM := Lib.hid (MM.out.below hb)); clear hb hm4))
          | (go_at_call 16; (with_reducible refine (RS.out _ B3 B4 d3 d4 MM.out MN.out).mono ?_); rintro e wz ⟨rfl, hb⟩; replace HBW := Lib.hid (below_then HBW.out hb); clear hb)
          | (go_at_call 9; (with_reducible refine (HW.out _).mono ?_); rintro e wz ⟨rfl, hb⟩; replace HBW := Lib.hid (below_then HBW.out hb); clear hb))
      all_goals
        go_wp2_with fail
        go_ret
        exact .bool rfl (below_then N4.out.b HBW.out)
end Go.Proofs.Yteiohcgohgcjfaa
