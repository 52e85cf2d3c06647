/- Contract of works. -/
import Derived.Test.YtebpepjlhanopaaRows
import Derived.Test.YtebpepjlhanopaaWords
import Derived.Test.YtebpepjlhanopaaByts
import Derived.Test.YtebpepjlhanopaaFrame
import Derived.Test.YtebpepjlhanopaaElems
import Derived.Test.YtebpepjlhanopaaMapOwn
import Derived.Test.YtebpepjlhanopaaS1
import Derived.Test.YtebpepjlhanopaaS2
import Derived.Test.YtebpepjlhanopaaEqs
import Derived.Test.YtebpepjlhanopaaU1
import Derived.Test.YtebpepjlhanopaaA1
import Derived.Test.YtebpepjlhanopaaA2
import Derived.Test.YtebpepjlhanopaaP1
import Derived.Test.YtebpepjlhanopaaB1
import Derived.Test.YtebpepjlhanopaaM1
import Derived.Test.YtebpepjlhanopaaM2
import Derived.Test.YtebpepjlhanopaaM3
import Derived.Test.YtebpepjlhanopaaM7
import Derived.Test.YtebpepjlhanopaaM8
import Derived.Test.YtebpepjlhanopaaR1
import Derived.Test.YtebpepjlhanopaaR2
import Derived.Test.YtebpepjlhanopaaP4
import Derived.Test.YtebpepjlhanopaaL0b
namespace Go.Proofs.Ytebpepjlhanopaa
open Go Go.RowKit Go.Proofs.Tail Go.Sort
set_option linter.unusedSimpArgs false
set_option linter.unusedVariables false
def w3 : T := ⟨0, 3, 0, 0, 0⟩
def w4 : T := ⟨0, 4, 0, 0, 0⟩
def w5 : T := ⟨0, 5, 0, 0, 0⟩
def w1 : T := ⟨1, 1, 0, 0, 0⟩
theorem wk_e0 : addE 0 [] w3 2 = 0 := by decide
theorem wk_c0 : addC 0 [] w3 2 = [(w3, 2)] := by decide
theorem wk_e1 : addE 0 [(w3, 2)] w5 1 = 0 := by decide
theorem wk_c1 : addC 0 [(w3, 2)] w5 1 = [(w3, 2), (w5, 1)] := by decide
theorem wk_e2 : addE 0 [(w3, 2), (w5, 1)] w3 (-2) = 0 := by decide
theorem wk_c2 : addC 0 [(w3, 2), (w5, 1)] w3 (-2) = [(w5, 1)] := by decide
theorem wk_e3 : addE 0 [(w5, 1)] w4 (-1) = 0 := by decide
theorem wk_c3 : addC 0 [(w5, 1)] w4 (-1) = [(w4, -1), (w5, 1)] := by decide
theorem wk_e4 : addE 0 [(w4, -1), (w5, 1)] w5 2199023255552 = 3 := by decide
theorem wk_c4 : addC 0 [(w4, -1), (w5, 1)] w5 2199023255552 = [(w4, -1), (w5, 1)] := by unfold addC; rw [wk_e4]; rfl
theorem wk_e5 : addE 0 [(w4, -1), (w5, 1)] w1 1 = 50 := by decide
theorem wk_c5 : addC 0 [(w4, -1), (w5, 1)] w1 1 = [(w4, -1), (w5, 1)] := by unfold addC; rw [wk_e5]; rfl
theorem wk_k0 : Canon [] := ⟨by decide, by decide⟩
theorem wk_k1 : Canon [(w3, 2)] := ⟨by decide, by decide⟩
theorem wk_k2 : Canon [(w3, 2), (w5, 1)] := ⟨by decide, by decide⟩
theorem wk_k3 : Canon [(w5, 1)] := ⟨by decide, by decide⟩
theorem wk_k4 : Canon [(w4, -1), (w5, 1)] := ⟨by decide, by decide⟩
theorem wk_f2 : frontC [(w3, 2), (w5, 1)] = [w3] := by rw [front_eq wk_k2]; decide
theorem wk_f3 : frontC [(w5, 1)] = [w5] := by rw [front_eq wk_k3]; decide
theorem wk_f4 : frontC [(w4, -1), (w5, 1)] = [w5] := by rw [front_eq wk_k4]; decide
theorem cell_row {wr : World} {base : Nat} {A : Option Addr} {c : Nat} {x : T} (h : Rw wr base A c [x]) : ∃ b, A = some ⟨b, 0, none⟩ ∧ wr.cell? ⟨b, 1, none⟩ = some (.int .i64 x.e) := by
  obtain ⟨b, cap, e, _⟩ := own_form h.own (by simp)
  injection e with e1 _ e3
  subst e1 e3
  exact ⟨b, rfl, (own_tcell h.own (j := 0) (x := x) rfl).1.2.1⟩
theorem cell_row2 {wr : World} {base b c : Nat} {x : T} (h : Rw wr base (some ⟨b, 0, none⟩) c [x]) : wr.cell? ⟨b, 1, none⟩ = some (.int .i64 x.e) := (own_tcell h.own (j := 0) (x := x) rfl).1.2.1
set_option maxRecDepth 100000 in
set_option maxHeartbeats 16000000 in
theorem works_any (w : World) : Calls Try.prog 10 #[] w (Gives (.bool true) w) := by
  have CN := Lib.hid (new_law (w := w) (wr := w) (d := 0) (Nat.le_refl _) (by decide) (by decide))
  have CA0 := Lib.hid (show ∀ (wr : World) (P b : Nat), Cw w wr P b 0 0 [] → Calls Try.prog 11 #[.pointer (some ⟨P, 0, none⟩), .agg #[.int .i64 0, .int .i64 3, .int .i64 0, .int .i64 0, .int .i64 0], .int .i64 2] wr (fun e w' => e = .returned (.int .i64 0) ∧ Cw w w' P b 0 1 [(w3, 2)] ∧ Fr (fun k => k = b) wr w') from fun wr P b h => by
    have := add_law w3 2 h
    unfold AddW at this
    rw [wk_e0, wk_c0] at this
    exact this)
  have CA1 := Lib.hid (show ∀ (wr : World) (P b : Nat), Cw w wr P b 0 1 [(w3, 2)] → Calls Try.prog 11 #[.pointer (some ⟨P, 0, none⟩), .agg #[.int .i64 0, .int .i64 5, .int .i64 0, .int .i64 0, .int .i64 0], .int .i64 1] wr (fun e w' => e = .returned (.int .i64 0) ∧ Cw w w' P b 0 2 [(w3, 2), (w5, 1)] ∧ Fr (fun k => k = b) wr w') from fun wr P b h => by
    have := add_law w5 1 h
    unfold AddW at this
    rw [wk_e1, wk_c1] at this
    exact this)
  have CA2 := Lib.hid (show ∀ (wr : World) (P b : Nat), Cw w wr P b 0 2 [(w3, 2), (w5, 1)] → Calls Try.prog 11 #[.pointer (some ⟨P, 0, none⟩), .agg #[.int .i64 0, .int .i64 3, .int .i64 0, .int .i64 0, .int .i64 0], .int .i64 (-2)] wr (fun e w' => e = .returned (.int .i64 0) ∧ Cw w w' P b 0 3 [(w5, 1)] ∧ Fr (fun k => k = b) wr w') from fun wr P b h => by
    have := add_law w3 (-2) h
    unfold AddW at this
    rw [wk_e2, wk_c2] at this
    exact this)
  have CA3 := Lib.hid (show ∀ (wr : World) (P b : Nat), Cw w wr P b 0 3 [(w5, 1)] → Calls Try.prog 11 #[.pointer (some ⟨P, 0, none⟩), .agg #[.int .i64 0, .int .i64 4, .int .i64 0, .int .i64 0, .int .i64 0], .int .i64 (-1)] wr (fun e w' => e = .returned (.int .i64 0) ∧ Cw w w' P b 0 4 [(w4, -1), (w5, 1)] ∧ Fr (fun k => k = b) wr w') from fun wr P b h => by
    have := add_law w4 (-1) h
    unfold AddW at this
    rw [wk_e3, wk_c3] at this
    exact this)
  have CA4 := Lib.hid (show ∀ (wr : World) (P b : Nat), Cw w wr P b 0 4 [(w4, -1), (w5, 1)] → Calls Try.prog 11 #[.pointer (some ⟨P, 0, none⟩), .agg #[.int .i64 0, .int .i64 5, .int .i64 0, .int .i64 0, .int .i64 0], .int .i64 2199023255552] wr (fun e w' => e = .returned (.int .i64 3) ∧ Cw w w' P b 0 5 [(w4, -1), (w5, 1)] ∧ Fr (fun k => k = b) wr w') from fun wr P b h => by
    have := add_law w5 2199023255552 h
    unfold AddW at this
    rw [wk_e4, wk_c4] at this
    exact this)
  have CA5 := Lib.hid (show ∀ (wr : World) (P b : Nat), Cw w wr P b 0 5 [(w4, -1), (w5, 1)] → Calls Try.prog 11 #[.pointer (some ⟨P, 0, none⟩), .agg #[.int .i64 1, .int .i64 1, .int .i64 0, .int .i64 0, .int .i64 0], .int .i64 1] wr (fun e w' => e = .returned (.int .i64 50) ∧ Cw w w' P b 0 6 [(w4, -1), (w5, 1)] ∧ Fr (fun k => k = b) wr w') from fun wr P b h => by
    have := add_law w1 1 h
    unfold AddW at this
    rw [wk_e5, wk_c5] at this
    exact this)
  have CF2 := Lib.hid (show ∀ (wr : World) (P b : Nat), Cw w wr P b 0 2 [(w3, 2), (w5, 1)] → Calls Try.prog 15 #[.pointer (some ⟨P, 0, none⟩)] wr (fun e w' => ∃ A c, e = .returned (.slice A 1 c) ∧ Rw w' wr.heap.size A c [w3] ∧ Below wr.heap.size wr w') from fun wr P b h => (front_law h (by omega)).mono fun e w' h => by rw [wk_f2] at h; exact h.rw_ (by simp))
  have CF3 := Lib.hid (show ∀ (wr : World) (P b : Nat), Cw w wr P b 0 3 [(w5, 1)] → Calls Try.prog 15 #[.pointer (some ⟨P, 0, none⟩)] wr (fun e w' => ∃ A c, e = .returned (.slice A 1 c) ∧ Rw w' wr.heap.size A c [w5] ∧ Below wr.heap.size wr w') from fun wr P b h => (front_law h (by omega)).mono fun e w' h => by rw [wk_f3] at h; exact h.rw_ (by simp))
  have CF4 := Lib.hid (show ∀ (wr : World) (P b : Nat), Cw w wr P b 0 4 [(w4, -1), (w5, 1)] → Calls Try.prog 15 #[.pointer (some ⟨P, 0, none⟩)] wr (fun e w' => ∃ A c, e = .returned (.slice A 1 c) ∧ Rw w' wr.heap.size A c [w5] ∧ Below wr.heap.size wr w') from fun wr P b h => (front_law h (by omega)).mono fun e w' h => by rw [wk_f4] at h; exact h.rw_ (by simp))
  have CT2 := Lib.hid (show ∀ (wr : World) (P b : Nat), Cw w wr P b 0 2 [(w3, 2), (w5, 1)] → Calls Try.prog 12 #[.pointer (some ⟨P, 0, none⟩)] wr (fun e w' => ∃ A c, e = .returned (.slice A 2 c) ∧ Rw w' wr.heap.size A c [w3, w5] ∧ Below wr.heap.size wr w') from fun wr P b h => (times_law h (by omega)).mono fun e w' h => GivesTms.rw_ (xs := [w3, w5]) (by simp) h)
  have CT4 := Lib.hid (show ∀ (wr : World) (P b : Nat), Cw w wr P b 0 4 [(w4, -1), (w5, 1)] → Calls Try.prog 12 #[.pointer (some ⟨P, 0, none⟩)] wr (fun e w' => ∃ A c, e = .returned (.slice A 2 c) ∧ Rw w' wr.heap.size A c [w4, w5] ∧ Below wr.heap.size wr w') from fun wr P b h => (times_law h (by omega)).mono fun e w' h => GivesTms.rw_ (xs := [w4, w5]) (by simp) h)
  go_enter Try.func10, Try.ntmps10
  go_wp2_with fail
  refine CN.out.mono ?_
  rintro e wa ⟨P, b, rfl, hc, hp, hq, hb⟩
  have HC := Lib.hid hc
  have HB := Lib.hid hb
  clear hc hp hq hb CN
  go_wp2_with fail
  refine (CA0.out _ _ _ HC.out).mono ?_
  rintro e w10 ⟨rfl, hc, hf⟩
  replace HB := Lib.hid (fr_below HB.out hf HC.out.q)
  replace HC := Lib.hid hc
  clear hc hf
  go_wp2_with fail
  refine (CA1.out _ _ _ HC.out).mono ?_
  rintro e w11 ⟨rfl, hc, hf⟩
  replace HB := Lib.hid (fr_below HB.out hf HC.out.q)
  replace HC := Lib.hid hc
  clear hc hf
  go_wp2_with fail
  refine (CF2.out _ _ _ HC.out).mono ?_
  rintro e wRA ⟨A1, c1, rfl, hr, hb⟩
  have RA := Lib.hid (And.intro hr HC.out.lt.2)
  replace HB := Lib.hid (below_then HB.out hb)
  replace HC := Lib.hid (HC.out.below hb)
  clear hr hb
  go_wp2_with fail
  refine (CT2.out _ _ _ HC.out).mono ?_
  rintro e wRB ⟨A2, c2, rfl, hr, hb⟩
  replace RA := Lib.hid (And.intro (RA.out.1.below hb) RA.out.2)
  replace HB := Lib.hid (below_then HB.out hb)
  replace HC := Lib.hid (HC.out.below hb)
  clear hr hb
  go_wp2_with fail
  refine (CA2.out _ _ _ HC.out).mono ?_
  rintro e w12 ⟨rfl, hc, hf⟩
  replace RA := Lib.hid (And.intro (RA.out.1.fr hf RA.out.2) RA.out.2)
  replace HB := Lib.hid (fr_below HB.out hf HC.out.q)
  replace HC := Lib.hid hc
  clear hc hf
  go_wp2_with fail
  refine (CF3.out _ _ _ HC.out).mono ?_
  rintro e wRX ⟨A3, c3, rfl, hr, hb⟩
  have RX := Lib.hid (And.intro hr HC.out.lt.2)
  replace RA := Lib.hid (And.intro (RA.out.1.below hb) RA.out.2)
  replace HB := Lib.hid (below_then HB.out hb)
  replace HC := Lib.hid (HC.out.below hb)
  clear hr hb
  go_wp2_with fail
  refine (CA3.out _ _ _ HC.out).mono ?_
  rintro e w13 ⟨rfl, hc, hf⟩
  replace RA := Lib.hid (And.intro (RA.out.1.fr hf RA.out.2) RA.out.2)
  replace RX := Lib.hid (And.intro (RX.out.1.fr hf RX.out.2) RX.out.2)
  replace HB := Lib.hid (fr_below HB.out hf HC.out.q)
  replace HC := Lib.hid hc
  clear hc hf
  go_wp2_with fail
  refine (CF4.out _ _ _ HC.out).mono ?_
  rintro e wRY ⟨A4, c4, rfl, hr, hb⟩
  have RY := Lib.hid (And.intro hr HC.out.lt.2)
  replace RA := Lib.hid (And.intro (RA.out.1.below hb) RA.out.2)
  replace RX := Lib.hid (And.intro (RX.out.1.below hb) RX.out.2)
  replace HB := Lib.hid (below_then HB.out hb)
  replace HC := Lib.hid (HC.out.below hb)
  clear hr hb
  have CC := Lib.hid (show ∀ (wr : World), Cw w wr P b 0 4 [(w4, -1), (w5, 1)] → Calls Try.prog 13 #[.pointer (some ⟨P, 0, none⟩), .agg #[.int .i64 0, .int .i64 4, .int .i64 0, .int .i64 0, .int .i64 0]] wr (Gives (.int .i64 (-1)) wr) from fun wr h => count_law w4 h)
  obtain ⟨b1, rfl, a1⟩ := cell_row RA.out.1
  obtain ⟨b3, rfl, a3⟩ := cell_row RX.out.1
  obtain ⟨b4, rfl, a4⟩ := cell_row RY.out.1
  go_wp2_with fail
  refine (CC.out _ HC.out).mono ?_
  rintro e wc ⟨rfl, hb⟩
  replace RA := Lib.hid (And.intro (RA.out.1.below hb) RA.out.2)
  replace RX := Lib.hid (And.intro (RX.out.1.below hb) RX.out.2)
  replace RY := Lib.hid (And.intro (RY.out.1.below hb) RY.out.2)
  clear a1 a3 a4
  have a1 := cell_row2 RA.out.1
  have a3 := cell_row2 RX.out.1
  have a4 := cell_row2 RY.out.1
  replace HB := Lib.hid (below_then HB.out hb)
  replace HC := Lib.hid (HC.out.below hb)
  clear hb CC
  go_wp2_with fail
  refine (CT4.out _ _ _ HC.out).mono ?_
  rintro e wt ⟨A9, c9, rfl, _, hb⟩
  replace HB := Lib.hid (below_then HB.out hb)
  replace HC := Lib.hid (HC.out.below hb)
  clear hb a1 a3 a4 RA RX RY
  go_wp2_with fail
  refine (CA4.out _ _ _ HC.out).mono ?_
  rintro e wu ⟨rfl, hc, hf⟩
  replace HB := Lib.hid (fr_below HB.out hf HC.out.q)
  replace HC := Lib.hid hc
  clear hc hf
  go_wp2_with fail
  refine (CA5.out _ _ _ HC.out).mono ?_
  rintro e wv ⟨rfl, hc, hf⟩
  replace HB := Lib.hid (fr_below HB.out hf HC.out.q)
  clear hc hf
  go_wp2_with fail
  go_ret
  exact .bool rfl HB.out
end Go.Proofs.Ytebpepjlhanopaa
