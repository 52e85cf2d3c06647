/- Contract of may. -/
import Derived.Test.YteiohcgohgcjfaaRows
import Derived.IntWalk
import Derived.Test.YteiohcgohgcjfaaWords
import Derived.Test.YteiohcgohgcjfaaByts
import Derived.Test.YteiohcgohgcjfaaFrame
import Derived.Test.YteiohcgohgcjfaaElems
import Derived.Test.YteiohcgohgcjfaaS1
import Derived.Test.YteiohcgohgcjfaaS2
import Derived.Test.YteiohcgohgcjfaaEqs
import Derived.Test.YteiohcgohgcjfaaD1
import Derived.Test.YteiohcgohgcjfaaD2
import Derived.Test.YteiohcgohgcjfaaD3
import Derived.Test.YteiohcgohgcjfaaD4
import Derived.Test.YteiohcgohgcjfaaD5
namespace Go.Proofs.Yteiohcgohgcjfaa
open Go Go.RowKit Go.Proofs.Tail
set_option linter.unusedSimpArgs false
set_option linter.unusedVariables false
/-- A message of updates alone. -/
def bare (m : Msg) : Msg := ⟨m.k, 0, 0, 0, 0, T0, [], m.U⟩
def may1 (m : Msg) : Bool := [m.f, m.t, m.i].all nodeB && (decide (0 ≤ m.q) && (decide (m.q ≤ 4611686018427387904) && (m.s.rightB && (decide (m.L.length ≤ 65536) && decide (m.U.length = 0)))))
def may2 (m : Msg) : Bool := decide (m.U.length ≤ 65536) && (!(m.U.any wrongU) && sameB m (bare m))
/-- May a message be? -/
def mayB (m : Msg) : Bool := if m.k = 1 then may1 m else if m.k = 2 then may2 m else false
theorem Msg.box (w : World) (m : Msg) (A : Option Addr) (c : Nat) (B : Option Addr) (d : Nat) (w1 : World) (h : w1 = w.alloc (.cells (m.cs A c B d).toArray 28)) : Below w.heap.size w w1 ∧ Blk w1 w.heap.size (m.cs A c B d) 28 := by
  subst h
  exact ⟨below_new w _, Blk.new w _ _ _ rfl⟩
set_option maxRecDepth 100000 in
set_option maxHeartbeats 16000000 in
theorem may_one (m : Msg) (A B : Option Addr) (c d : Nat) (w : World) (hm : Mg w m A c B d) (hk : m.k = 1) : Calls Try.prog 23 #[.agg (m.cs A c B d).toArray] w (Gives (.bool (mayB m)) w) := by
  obtain ⟨w1, hw1⟩ : ∃ w1, w1 = w.alloc (.cells (m.cs A c B d).toArray 28) := ⟨_, rfl⟩
  obtain ⟨hb1, hx1⟩ := Msg.box w m A c B d w1 hw1
  have e1 := hw1.symm
  unfold Msg.cs at e1
  obtain ⟨w2, hw2⟩ : ∃ w2, w2 = w1.alloc (.cells #[.int .i64 m.f, .int .i64 m.t, .int .i64 m.i] 3) := ⟨_, rfl⟩
  have e2 := hw2.symm
  have hb2 : Below w1.heap.size w1 w2 := by rw [hw2]; exact below_new w1 _
  have hx2 := hx1.then hb2
  have HN := Lib.hid (nodes_any _ 3 3 _ w2 (by rw [hw2]; exact ints_three w1 w1.heap.size m.f m.t m.i rfl) (by omega))
  have HR := Lib.hid (fun W => right_any m.s W)
  have HB2 := Lib.hid (below_then hb1 hb2)
  have k0 : w1.cell? ⟨w.heap.size, 0, none⟩ = some (.int .u8 1) := by rw [← hk]; exact hx1.cell 0
  have a1 : w1.cell? ⟨w.heap.size, 1, none⟩ = some (.int .i64 m.f) := hx1.cell 1
  have a2 : w1.cell? ⟨w.heap.size, 2, none⟩ = some (.int .i64 m.t) := hx1.cell 2
  have a3 : w1.cell? ⟨w.heap.size, 3, none⟩ = some (.int .i64 m.i) := hx1.cell 3
  have b4 : w2.cell? ⟨w.heap.size, 4, none⟩ = some (.int .i64 m.q) := hx2.cell 4
  have b5 : w2.cell? ⟨w.heap.size, 5, none⟩ = some (.int .i64 m.s.d) := hx2.cell 5
  have b6 : w2.cell? ⟨w.heap.size, 6, none⟩ = some (.int .i64 m.s.e) := hx2.cell 6
  have b7 : w2.cell? ⟨w.heap.size, 7, none⟩ = some (.int .i64 m.s.a) := hx2.cell 7
  have b8 : w2.cell? ⟨w.heap.size, 8, none⟩ = some (.int .i64 m.s.b) := hx2.cell 8
  have b9 : w2.cell? ⟨w.heap.size, 9, none⟩ = some (.int .i64 m.s.c) := hx2.cell 9
  have b10 : w2.cell? ⟨w.heap.size, 10, none⟩ = some (.slice A m.L.length c) := hx2.cell 10
  have b11 : w2.cell? ⟨w.heap.size, 11, none⟩ = some (.slice B m.U.length d) := hx2.cell 11
  clear hm hb1 hx1 hb2 hx2 hw1 hw2
  unfold Msg.cs
  cases h1 : [m.f, m.t, m.i].all nodeB with
  | false =>
    have HQ := Lib.hid (show mayB m = false by unfold mayB; rw [if_pos hk]; unfold may1; rw [h1]; rfl)
    rw [h1] at HN
    clear h1 hk
    go_enter Try.func23, Try.ntmps23
    go_wp2_with fail
    with_reducible refine HN.out.mono ?_
    rintro e w3 ⟨rfl, rfl⟩
    go_wp2_with fail
    go_ret
    exact .bool HQ.out.symm HB2.out
  | true =>
    cases h2 : decide (0 ≤ m.q) with
    | false =>
      have HQ := Lib.hid (show mayB m = false by unfold mayB; rw [if_pos hk]; unfold may1; rw [h1]; rw [h2]; rfl)
      rw [h1] at HN
      clear h1 hk
      go_enter Try.func23, Try.ntmps23
      go_wp2_with fail
      with_reducible refine HN.out.mono ?_
      rintro e w3 ⟨rfl, rfl⟩
      go_wp2_with fail
      go_ret
      exact .bool HQ.out.symm HB2.out
    | true =>
      cases h3 : decide (m.q ≤ 4611686018427387904) with
      | false =>
        have HQ := Lib.hid (show mayB m = false by unfold mayB; rw [if_pos hk]; unfold may1; rw [h1]; rw [h2]; rw [h3]; rfl)
        rw [h1] at HN
        clear h1 hk
        go_enter Try.func23, Try.ntmps23
        go_wp2_with fail
        with_reducible refine HN.out.mono ?_
        rintro e w3 ⟨rfl, rfl⟩
        go_wp2_with fail
        go_ret
        exact .bool HQ.out.symm HB2.out
      | true =>
        cases h4 : m.s.rightB with
        | false =>
          have HQ := Lib.hid (show mayB m = false by unfold mayB; rw [if_pos hk]; unfold may1; rw [h1]; rw [h2]; rw [h3]; rw [h4]; rfl)
          rw [h1] at HN
          rw [h4] at HR
          clear h1 h4 hk
          go_enter Try.func23, Try.ntmps23
          go_wp2_with fail
          with_reducible refine HN.out.mono ?_
          rintro e w3 ⟨rfl, rfl⟩
          go_wp2_with fail
          with_reducible refine (HR.out _).mono ?_
          rintro e w4 ⟨rfl, hb⟩
          have HB4 := Lib.hid (below_then HB2.out hb)
          have r10 : w4.cell? ⟨w.heap.size, 10, none⟩ = some (.slice A m.L.length c) := below_cell hb b10
          have r11 : w4.cell? ⟨w.heap.size, 11, none⟩ = some (.slice B m.U.length d) := below_cell hb b11
          clear hb
          go_wp2_with fail
          go_ret
          exact .bool HQ.out.symm HB4.out
        | true =>
          cases h5 : decide (m.L.length ≤ 65536) with
          | false =>
            have HQ := Lib.hid (show mayB m = false by unfold mayB; rw [if_pos hk]; unfold may1; rw [h1]; rw [h2]; rw [h3]; rw [h4]; rw [h5]; rfl)
            rw [h1] at HN
            rw [h4] at HR
            have g5 : decide ((m.L.length : Int) ≤ 65536) = false := by rw [← h5]; exact decide_eq_decide.2 (by omega)
            clear h1 h4 hk
            go_enter Try.func23, Try.ntmps23
            go_wp2_with fail
            with_reducible refine HN.out.mono ?_
            rintro e w3 ⟨rfl, rfl⟩
            go_wp2_with fail
            with_reducible refine (HR.out _).mono ?_
            rintro e w4 ⟨rfl, hb⟩
            have HB4 := Lib.hid (below_then HB2.out hb)
            have r10 : w4.cell? ⟨w.heap.size, 10, none⟩ = some (.slice A m.L.length c) := below_cell hb b10
            have r11 : w4.cell? ⟨w.heap.size, 11, none⟩ = some (.slice B m.U.length d) := below_cell hb b11
            clear hb
            go_wp2_with fail
            go_ret
            exact .bool HQ.out.symm HB4.out
          | true =>
            cases h6 : decide (m.U.length = 0) with
            | false =>
              have HQ := Lib.hid (show mayB m = false by unfold mayB; rw [if_pos hk]; unfold may1; rw [h1]; rw [h2]; rw [h3]; rw [h4]; rw [h5]; rw [h6]; rfl)
              rw [h1] at HN
              rw [h4] at HR
              have g5 : decide ((m.L.length : Int) ≤ 65536) = true := by rw [← h5]; exact decide_eq_decide.2 (by omega)
              have g6 : ((m.U.length : Int) == 0) = false := by
                rw [← h6]
                by_cases hu : m.U.length = 0 <;> simp [hu]
              clear h1 h4 h6 hk
              go_enter Try.func23, Try.ntmps23
              go_wp2_with fail
              with_reducible refine HN.out.mono ?_
              rintro e w3 ⟨rfl, rfl⟩
              go_wp2_with fail
              with_reducible refine (HR.out _).mono ?_
              rintro e w4 ⟨rfl, hb⟩
              have HB4 := Lib.hid (below_then HB2.out hb)
              have r10 : w4.cell? ⟨w.heap.size, 10, none⟩ = some (.slice A m.L.length c) := below_cell hb b10
              have r11 : w4.cell? ⟨w.heap.size, 11, none⟩ = some (.slice B m.U.length d) := below_cell hb b11
              clear hb
              go_wp2_with fail
              go_ret
              exact .bool HQ.out.symm HB4.out
            | true =>
              have HQ := Lib.hid (show mayB m = true by unfold mayB; rw [if_pos hk]; unfold may1; rw [h1]; rw [h2]; rw [h3]; rw [h4]; rw [h5]; rw [h6]; rfl)
              rw [h1] at HN
              rw [h4] at HR
              have g5 : decide ((m.L.length : Int) ≤ 65536) = true := by rw [← h5]; exact decide_eq_decide.2 (by omega)
              have g6 : ((m.U.length : Int) == 0) = true := by
                rw [← h6]
                by_cases hu : m.U.length = 0 <;> simp [hu]
              clear h1 h4 h6 hk
              go_enter Try.func23, Try.ntmps23
              go_wp2_with fail
              with_reducible refine HN.out.mono ?_
              rintro e w3 ⟨rfl, rfl⟩
              go_wp2_with fail
              with_reducible refine (HR.out _).mono ?_
              rintro e w4 ⟨rfl, hb⟩
              have HB4 := Lib.hid (below_then HB2.out hb)
              have r10 : w4.cell? ⟨w.heap.size, 10, none⟩ = some (.slice A m.L.length c) := below_cell hb b10
              have r11 : w4.cell? ⟨w.heap.size, 11, none⟩ = some (.slice B m.U.length d) := below_cell hb b11
              clear hb
              go_wp2_with fail
              go_ret
              exact .bool HQ.out.symm HB4.out
set_option maxRecDepth 100000 in
set_option maxHeartbeats 16000000 in
theorem may_two (m : Msg) (A B : Option Addr) (c d : Nat) (w : World) (hm : Mg w m A c B d) (hk : m.k = 2) : Calls Try.prog 23 #[.agg (m.cs A c B d).toArray] w (Gives (.bool (mayB m)) w) := by
  obtain ⟨w1, hw1⟩ : ∃ w1, w1 = w.alloc (.cells (m.cs A c B d).toArray 28) := ⟨_, rfl⟩
  obtain ⟨hb1, hx1⟩ := Msg.box w m A c B d w1 hw1
  have e1 := hw1.symm
  unfold Msg.cs at e1
  have hmf : ∀ (fn : Fn) (first cap : Array Value) (w : World), (Instr.makeFunc fn first cap).run Try.prog w = .ok (.func fn first cap) w := fun _ _ _ _ => rfl
  have HM1 := Lib.hid (hm.below hb1)
  have HC := Lib.hid (containsf_any B _ d m.U w1 HM1.out.u)
  have HX1 := Lib.hid hx1
  have HB1 := Lib.hid hb1
  have k0 : w1.cell? ⟨w.heap.size, 0, none⟩ = some (.int .u8 2) := by rw [← hk]; exact hx1.cell 0
  have a11 : w1.cell? ⟨w.heap.size, 11, none⟩ = some (.slice B m.U.length d) := hx1.cell 11
  clear hm hb1 hx1 hw1
  have HU := Lib.hid (show mayB m = may2 m by unfold mayB; rw [if_neg (by omega), if_pos hk])
  have HK := Lib.hid hk
  clear hk
  unfold Msg.cs
  by_cases h1 : m.U.length ≤ 65536
  · have g1 : decide ((m.U.length : Int) ≤ 65536) = true := decide_eq_true (by omega)
    have HV := Lib.hid (show may2 m = (!(m.U.any wrongU) && sameB m (bare m)) by unfold may2; rw [decide_eq_true h1]; rfl)
    clear h1
    cases h2 : m.U.any wrongU with
    | true =>
      rw [h2] at HC HV
      clear h2
      go_enter Try.func23, Try.ntmps23
      go_wp2_with fail
      with_reducible refine HC.out.mono ?_
      rintro e w3 ⟨rfl, hb⟩
      have HB3 := Lib.hid (below_then HB1.out hb)
      clear hb
      go_wp2_with fail
      go_ret
      exact .bool (by rw [HU.out, HV.out]; rfl) HB3.out
    | false =>
      rw [h2] at HC HV
      clear h2
      go_enter Try.func23, Try.ntmps23
      go_wp2_with fail
      with_reducible refine HC.out.mono ?_
      rintro e w3 ⟨rfl, hb⟩
      have HB3 := Lib.hid (below_then HB1.out hb)
      have hx3 := HX1.out.then hb
      have hm3 := HM1.out.below hb
      have HS := Lib.hid (same_any m (bare m) A B none B c d 0 d w3 hm3 ⟨Rd.nil _ _ _, hm3.u⟩)
      unfold Msg.cs at HS
      simp only [bare, T0, List.length_nil] at HS
      have c0 : w3.cell? ⟨w.heap.size, 0, none⟩ = some (.int .u8 m.k) := hx3.cell 0
      have c1 : w3.cell? ⟨w.heap.size, 1, none⟩ = some (.int .i64 m.f) := hx3.cell 1
      have c2 : w3.cell? ⟨w.heap.size, 2, none⟩ = some (.int .i64 m.t) := hx3.cell 2
      have c3 : w3.cell? ⟨w.heap.size, 3, none⟩ = some (.int .i64 m.i) := hx3.cell 3
      have c4 : w3.cell? ⟨w.heap.size, 4, none⟩ = some (.int .i64 m.q) := hx3.cell 4
      have c5 : w3.cell? ⟨w.heap.size, 5, none⟩ = some (.int .i64 m.s.d) := hx3.cell 5
      have c6 : w3.cell? ⟨w.heap.size, 6, none⟩ = some (.int .i64 m.s.e) := hx3.cell 6
      have c7 : w3.cell? ⟨w.heap.size, 7, none⟩ = some (.int .i64 m.s.a) := hx3.cell 7
      have c8 : w3.cell? ⟨w.heap.size, 8, none⟩ = some (.int .i64 m.s.b) := hx3.cell 8
      have c9 : w3.cell? ⟨w.heap.size, 9, none⟩ = some (.int .i64 m.s.c) := hx3.cell 9
      have c10 : w3.cell? ⟨w.heap.size, 10, none⟩ = some (.slice A m.L.length c) := hx3.cell 10
      have c11 : w3.cell? ⟨w.heap.size, 11, none⟩ = some (.slice B m.U.length d) := hx3.cell 11
      rw [HK.out] at c0 HS
      clear hb a11 k0 hx3 hm3
      go_wp2_with fail
      with_reducible refine HS.out.mono ?_
      rintro e w4 ⟨rfl, hb⟩
      have HB4 := Lib.hid (below_then HB3.out hb)
      clear hb c0 c1 c2 c3 c4 c5 c6 c7 c8 c9 c10 c11
      go_wp2_with fail
      go_ret
      exact .bool (by rw [HU.out, HV.out]; unfold bare; rw [HK.out]; rfl) HB4.out
  · have g1 : decide ((m.U.length : Int) ≤ 65536) = false := decide_eq_false (by omega)
    have HV := Lib.hid (show may2 m = false by unfold may2; rw [decide_eq_false h1]; rfl)
    clear h1
    go_enter Try.func23, Try.ntmps23
    go_wp2_with fail
    go_ret
    exact .bool (by rw [HU.out, HV.out]) HB1.out
theorem may_none (m : Msg) (A B : Option Addr) (c d : Nat) (w : World) (hm : Mg w m A c B d) (h1 : m.k ≠ 1) (h2 : m.k ≠ 2) : Calls Try.prog 23 #[.agg (m.cs A c B d).toArray] w (Gives (.bool (mayB m)) w) := by
  obtain ⟨w1, hw1⟩ : ∃ w1, w1 = w.alloc (.cells (m.cs A c B d).toArray 28) := ⟨_, rfl⟩
  obtain ⟨hb1, hx1⟩ := Msg.box w m A c B d w1 hw1
  have e1 := hw1.symm
  unfold Msg.cs at e1
  have k0 : w1.cell? ⟨w.heap.size, 0, none⟩ = some (.int .u8 m.k) := hx1.cell 0
  have HB1 := Lib.hid hb1
  have HU := Lib.hid (show mayB m = false by unfold mayB; rw [if_neg h1, if_neg h2])
  have g1 : (m.k == 1) = false := by simpa using h1
  have g2 : (m.k == 2) = false := by simpa using h2
  clear hm hb1 hx1 hw1 h1 h2
  unfold Msg.cs
  go_enter Try.func23, Try.ntmps23
  go_wp2_with fail
  go_ret
  exact .bool HU.out.symm HB1.out
theorem may_any (m : Msg) (A B : Option Addr) (c d : Nat) (w : World) (hm : Mg w m A c B d) : Calls Try.prog 23 #[.agg (m.cs A c B d).toArray] w (Gives (.bool (mayB m)) w) := by
  by_cases h1 : m.k = 1
  · exact may_one m A B c d w hm h1
  · by_cases h2 : m.k = 2
    · exact may_two m A B c d w hm h2
    · exact may_none m A B c d w hm h1 h2
end Go.Proofs.Yteiohcgohgcjfaa
