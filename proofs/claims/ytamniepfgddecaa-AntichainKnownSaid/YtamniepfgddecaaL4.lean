/- The walk of AntichainOrder. -/
import Derived.Test.YtamniepfgddecaaRows
import Derived.Test.YtamniepfgddecaaWords
import Derived.Test.YtamniepfgddecaaByts
import Derived.Test.YtamniepfgddecaaFrame
import Derived.Test.YtamniepfgddecaaElems
import Derived.Test.YtamniepfgddecaaS1
import Derived.Test.YtamniepfgddecaaS2
import Derived.Test.YtamniepfgddecaaS4
import Derived.Test.YtamniepfgddecaaS7
import Derived.Test.YtamniepfgddecaaU1
import Derived.Test.YtamniepfgddecaaU4
import Derived.Test.YtamniepfgddecaaA1
import Derived.Test.YtamniepfgddecaaA2
import Derived.Test.YtamniepfgddecaaA3
import Derived.Test.YtamniepfgddecaaA4
import Derived.Test.YtamniepfgddecaaA5
import Derived.Test.YtamniepfgddecaaB1
import Derived.Test.YtamniepfgddecaaB3
import Derived.Test.YtamniepfgddecaaB4
import Derived.Test.YtamniepfgddecaaB5
import Derived.Test.YtamniepfgddecaaB6
import Derived.Test.YtamniepfgddecaaP1
import Derived.Test.YtamniepfgddecaaP3
import Derived.Test.YtamniepfgddecaaW1
import Derived.Test.YtamniepfgddecaaL0
import Derived.Test.YtamniepfgddecaaL3
import Derived.Test.YtamniepfgddecaaL5
namespace Go.Proofs.Ytamniepfgddecaa
open Go Go.RowKit Go.Proofs.Tail Go.Sort
set_option linter.unusedSimpArgs false
set_option linter.unusedVariables false
set_option maxRecDepth 100000 in
set_option maxHeartbeats 16000000 in
theorem law_order_any (A0 A1 A2 : Option Addr) (n0 c0 n1 c1 n2 c2 : Nat) (xs0 xs1 xs2 : List T) (t : T) (w : World) (hX0 : Tms w A0 n0 c0 xs0) (hX1 : Tms w A1 n1 c1 xs1) (hX2 : Tms w A2 n2 c2 xs2) :
    Calls Try.prog 6 #[.slice A0 n0 c0, .slice A1 n1 c1, .slice A2 n2 c2, .agg #[.int .i64 t.d, .int .i64 t.e, .int .i64 t.a, .int .i64 t.b, .int .i64 t.c]] w (Gives (.bool true) w) := by
  have HB00 := Lib.hid (below_new w (.cells #[.int .i64 t.d, .int .i64 t.e, .int .i64 t.a, .int .i64 t.b, .int .i64 t.c] 32))
  by_cases h0 : 12 < n0
  · have d0 : decide (12 < (n0 : Int)) = true := decide_eq_true (by omega)
    clear h0 hX0 hX1 hX2
    go_enter Try.func6, Try.ntmps6
    go_wp2_with fail
    refine (works_any _).mono ?_
    rintro e w1 ⟨rfl, hb⟩
    have HB1 := Lib.hid (below_then HB00.out hb)
    clear hb HB00
    go_wp2_with fail
    go_ret
    exact .bool rfl HB1.out
  have d0 : decide (12 < (n0 : Int)) = false := decide_eq_false (by omega)
  have l0 : n0 ≤ 12 := by omega
  clear h0
  by_cases h1 : 12 < n1
  · have d1 : decide (12 < (n1 : Int)) = true := decide_eq_true (by omega)
    clear h1 hX0 hX1 hX2
    go_enter Try.func6, Try.ntmps6
    go_wp2_with fail
    refine (works_any _).mono ?_
    rintro e w1 ⟨rfl, hb⟩
    have HB1 := Lib.hid (below_then HB00.out hb)
    clear hb HB00
    go_wp2_with fail
    go_ret
    exact .bool rfl HB1.out
  have d1 : decide (12 < (n1 : Int)) = false := decide_eq_false (by omega)
  have l1 : n1 ≤ 12 := by omega
  clear h1
  by_cases h2 : 12 < n2
  · have d2 : decide (12 < (n2 : Int)) = true := decide_eq_true (by omega)
    clear h2 hX0 hX1 hX2
    go_enter Try.func6, Try.ntmps6
    go_wp2_with fail
    refine (works_any _).mono ?_
    rintro e w1 ⟨rfl, hb⟩
    have HB1 := Lib.hid (below_then HB00.out hb)
    clear hb HB00
    go_wp2_with fail
    go_ret
    exact .bool rfl HB1.out
  have d2 : decide (12 < (n2 : Int)) = false := decide_eq_false (by omega)
  have l2 : n2 ≤ 12 := by omega
  clear h2
  have HX0 := Lib.hid (hX0.below At.stays HB00.out)
  have lx0 := hX0.len
  have HX1 := Lib.hid (hX1.below At.stays HB00.out)
  have lx1 := hX1.len
  have HX2 := Lib.hid (hX2.below At.stays HB00.out)
  have lx2 := hX2.len
  have BT := Lib.hid (Bx.new w t _ rfl)
  clear hX0 hX1 hX2
  have bb := (show ((ofT xs0).getD []).length ≤ 12 from Nat.le_trans of_len (by omega))
  obtain ⟨q1, m1, e1, is⟩ := Is.of (ofT xs0) (by omega)
  have k1 : m1 ≤ 12 := by rw [← is.len, ← is.row]; exact bb
  have I1 := Lib.hid is
  have L1 := Lib.hid is.len
  have HE1 := Lib.hid (show e1 = 50 ∨ e1 = 0 ∧ (ofT xs0) = some q1 from by
    cases e : (ofT xs0) with
    | none => rw [e] at is; exact .inl is.none.2.2
    | some l => rw [e] at is; obtain ⟨h, _, h2⟩ := is.some; rw [h]; exact .inr ⟨h2, rfl⟩)
  clear is bb
  have bb := (show ((ofT xs1).getD []).length ≤ 12 from Nat.le_trans of_len (by omega))
  obtain ⟨q2, m2, e2, is⟩ := Is.of (ofT xs1) (by omega)
  have k2 : m2 ≤ 12 := by rw [← is.len, ← is.row]; exact bb
  have I2 := Lib.hid is
  have L2 := Lib.hid is.len
  have HE2 := Lib.hid (show e2 = 50 ∨ e2 = 0 ∧ (ofT xs1) = some q2 from by
    cases e : (ofT xs1) with
    | none => rw [e] at is; exact .inl is.none.2.2
    | some l => rw [e] at is; obtain ⟨h, _, h2⟩ := is.some; rw [h]; exact .inr ⟨h2, rfl⟩)
  clear is bb
  have bb := (show ((ofT xs2).getD []).length ≤ 12 from Nat.le_trans of_len (by omega))
  obtain ⟨q3, m3, e3, is⟩ := Is.of (ofT xs2) (by omega)
  have k3 : m3 ≤ 12 := by rw [← is.len, ← is.row]; exact bb
  have I3 := Lib.hid is
  have L3 := Lib.hid is.len
  have HE3 := Lib.hid (show e3 = 50 ∨ e3 = 0 ∧ (ofT xs2) = some q3 from by
    cases e : (ofT xs2) with
    | none => rw [e] at is; exact .inl is.none.2.2
    | some l => rw [e] at is; obtain ⟨h, _, h2⟩ := is.some; rw [h]; exact .inr ⟨h2, rfl⟩)
  clear is bb
  have j1 := L1.out
  have j2 := L2.out
  have j3 := L3.out
  have bb := (show ((bothF q1 q2).getD []).length ≤ 24 from Nat.le_trans both_len (by omega))
  obtain ⟨q4, m4, e4, is⟩ := Is.of (bothF q1 q2) (by omega)
  have k4 : m4 ≤ 24 := by rw [← is.len, ← is.row]; exact bb
  have I4 := Lib.hid is
  have L4 := Lib.hid is.len
  have HE4 := Lib.hid (show e4 = 50 ∨ e4 = 0 ∧ (bothF q1 q2) = some q4 from by
    cases e : (bothF q1 q2) with
    | none => rw [e] at is; exact .inl is.none.2.2
    | some l => rw [e] at is; obtain ⟨h, _, h2⟩ := is.some; rw [h]; exact .inr ⟨h2, rfl⟩)
  clear is bb
  have bb := (show ((eitherF q1 q2).getD []).length ≤ 144 from Nat.le_trans either_len (Nat.le_trans (Nat.mul_le_mul (show q1.length ≤ 12 by omega) (show q2.length ≤ 12 by omega)) (by omega)))
  obtain ⟨q5, m5, e5, is⟩ := Is.of (eitherF q1 q2) (by omega)
  have k5 : m5 ≤ 144 := by rw [← is.len, ← is.row]; exact bb
  have I5 := Lib.hid is
  have L5 := Lib.hid is.len
  have HE5 := Lib.hid (show e5 = 50 ∨ e5 = 0 ∧ (eitherF q1 q2) = some q5 from by
    cases e : (eitherF q1 q2) with
    | none => rw [e] at is; exact .inl is.none.2.2
    | some l => rw [e] at is; obtain ⟨h, _, h2⟩ := is.some; rw [h]; exact .inr ⟨h2, rfl⟩)
  clear is bb
  have bb := (show ((bothF q1 q3).getD []).length ≤ 24 from Nat.le_trans both_len (by omega))
  obtain ⟨q6, m6, e6, is⟩ := Is.of (bothF q1 q3) (by omega)
  have k6 : m6 ≤ 24 := by rw [← is.len, ← is.row]; exact bb
  have I6 := Lib.hid is
  have L6 := Lib.hid is.len
  have HE6 := Lib.hid (show e6 = 50 ∨ e6 = 0 ∧ (bothF q1 q3) = some q6 from by
    cases e : (bothF q1 q3) with
    | none => rw [e] at is; exact .inl is.none.2.2
    | some l => rw [e] at is; obtain ⟨h, _, h2⟩ := is.some; rw [h]; exact .inr ⟨h2, rfl⟩)
  clear is bb
  have bb := (show ((bothF q2 q3).getD []).length ≤ 24 from Nat.le_trans both_len (by omega))
  obtain ⟨q7, m7, e7, is⟩ := Is.of (bothF q2 q3) (by omega)
  have k7 : m7 ≤ 24 := by rw [← is.len, ← is.row]; exact bb
  have I7 := Lib.hid is
  have L7 := Lib.hid is.len
  have HE7 := Lib.hid (show e7 = 50 ∨ e7 = 0 ∧ (bothF q2 q3) = some q7 from by
    cases e : (bothF q2 q3) with
    | none => rw [e] at is; exact .inl is.none.2.2
    | some l => rw [e] at is; obtain ⟨h, _, h2⟩ := is.some; rw [h]; exact .inr ⟨h2, rfl⟩)
  clear is bb
  clear j1 j2 j3 lx0 lx1 lx2 L4 L5 L6 L7
  go_enter Try.func6, Try.ntmps6
  obtain ⟨x0, x1, x2, x3, x4⟩ := BT.out.cells
  go_wp2_with fail
  refine ((of_any A0 n0 c0 xs0 _ HX0.out (by omega)).mono fun _ _ => I1.out.gives).mono ?_
  clear x0 x1 x2 x3 x4
  rintro e w1 ⟨Q1, p1, rfl, _, hr, hb⟩
  have H1 := Lib.hid hr
  clear hr
  have HX0' := Lib.hid (HX0.out.below At.stays hb)
  clear HX0
  have HX0 := HX0'
  clear HX0'
  have HX1' := Lib.hid (HX1.out.below At.stays hb)
  clear HX1
  have HX1 := HX1'
  clear HX1'
  have HX2' := Lib.hid (HX2.out.below At.stays hb)
  clear HX2
  have HX2 := HX2'
  clear HX2'
  have BT' := Lib.hid (BT.out.below hb)
  clear BT
  have BT := BT'
  clear BT'
  have HB1 := Lib.hid (below_then HB00.out hb)
  clear hb HB00
  obtain ⟨x0, x1, x2, x3, x4⟩ := BT.out.cells
  go_wp2_with fail
  refine ((of_any A1 n1 c1 xs1 _ HX1.out (by omega)).mono fun _ _ => I2.out.gives).mono ?_
  clear x0 x1 x2 x3 x4
  rintro e w2 ⟨Q2, p2, rfl, _, hr, hb⟩
  have H2 := Lib.hid hr
  clear hr
  have HX0' := Lib.hid (HX0.out.below At.stays hb)
  clear HX0
  have HX0 := HX0'
  clear HX0'
  have HX1' := Lib.hid (HX1.out.below At.stays hb)
  clear HX1
  have HX1 := HX1'
  clear HX1'
  have HX2' := Lib.hid (HX2.out.below At.stays hb)
  clear HX2
  have HX2 := HX2'
  clear HX2'
  have H1' := Lib.hid (H1.out.below At.stays hb)
  clear H1
  have H1 := H1'
  clear H1'
  have BT' := Lib.hid (BT.out.below hb)
  clear BT
  have BT := BT'
  clear BT'
  have HB2 := Lib.hid (below_then HB1.out hb)
  clear hb HB1
  obtain ⟨x0, x1, x2, x3, x4⟩ := BT.out.cells
  go_wp2_with fail
  refine ((of_any A2 n2 c2 xs2 _ HX2.out (by omega)).mono fun _ _ => I3.out.gives).mono ?_
  clear x0 x1 x2 x3 x4
  rintro e w3 ⟨Q3, p3, rfl, _, hr, hb⟩
  have H3 := Lib.hid hr
  clear hr
  have HX0' := Lib.hid (HX0.out.below At.stays hb)
  clear HX0
  have HX0 := HX0'
  clear HX0'
  have HX1' := Lib.hid (HX1.out.below At.stays hb)
  clear HX1
  have HX1 := HX1'
  clear HX1'
  have HX2' := Lib.hid (HX2.out.below At.stays hb)
  clear HX2
  have HX2 := HX2'
  clear HX2'
  have H1' := Lib.hid (H1.out.below At.stays hb)
  clear H1
  have H1 := H1'
  clear H1'
  have H2' := Lib.hid (H2.out.below At.stays hb)
  clear H2
  have H2 := H2'
  clear H2'
  have BT' := Lib.hid (BT.out.below hb)
  clear BT
  have BT := BT'
  clear BT'
  have HB3 := Lib.hid (below_then HB2.out hb)
  clear hb HB2
  obtain ⟨x0, x1, x2, x3, x4⟩ := BT.out.cells
  go_wp2_with fail
  refine ((both_any Q1 Q2 m1 p1 m2 p2 q1 q2 _ H1.out H2.out (by omega) (by omega)).mono fun _ _ => I4.out.gives).mono ?_
  clear x0 x1 x2 x3 x4
  rintro e w4 ⟨Q4, p4, rfl, _, hr, hb⟩
  have H4 := Lib.hid hr
  clear hr
  have HX0' := Lib.hid (HX0.out.below At.stays hb)
  clear HX0
  have HX0 := HX0'
  clear HX0'
  have HX1' := Lib.hid (HX1.out.below At.stays hb)
  clear HX1
  have HX1 := HX1'
  clear HX1'
  have HX2' := Lib.hid (HX2.out.below At.stays hb)
  clear HX2
  have HX2 := HX2'
  clear HX2'
  have H1' := Lib.hid (H1.out.below At.stays hb)
  clear H1
  have H1 := H1'
  clear H1'
  have H2' := Lib.hid (H2.out.below At.stays hb)
  clear H2
  have H2 := H2'
  clear H2'
  have H3' := Lib.hid (H3.out.below At.stays hb)
  clear H3
  have H3 := H3'
  clear H3'
  have BT' := Lib.hid (BT.out.below hb)
  clear BT
  have BT := BT'
  clear BT'
  have HB4 := Lib.hid (below_then HB3.out hb)
  clear hb HB3
  obtain ⟨x0, x1, x2, x3, x4⟩ := BT.out.cells
  go_wp2_with fail
  refine ((either_any Q1 Q2 m1 p1 m2 p2 q1 q2 _ H1.out H2.out (by omega) (by omega)).mono fun _ _ => I5.out.gives).mono ?_
  clear x0 x1 x2 x3 x4
  rintro e w5 ⟨Q5, p5, rfl, _, hr, hb⟩
  have H5 := Lib.hid hr
  clear hr
  have HX0' := Lib.hid (HX0.out.below At.stays hb)
  clear HX0
  have HX0 := HX0'
  clear HX0'
  have HX1' := Lib.hid (HX1.out.below At.stays hb)
  clear HX1
  have HX1 := HX1'
  clear HX1'
  have HX2' := Lib.hid (HX2.out.below At.stays hb)
  clear HX2
  have HX2 := HX2'
  clear HX2'
  have H1' := Lib.hid (H1.out.below At.stays hb)
  clear H1
  have H1 := H1'
  clear H1'
  have H2' := Lib.hid (H2.out.below At.stays hb)
  clear H2
  have H2 := H2'
  clear H2'
  have H3' := Lib.hid (H3.out.below At.stays hb)
  clear H3
  have H3 := H3'
  clear H3'
  have H4' := Lib.hid (H4.out.below At.stays hb)
  clear H4
  have H4 := H4'
  clear H4'
  have BT' := Lib.hid (BT.out.below hb)
  clear BT
  have BT := BT'
  clear BT'
  have HB5 := Lib.hid (below_then HB4.out hb)
  clear hb HB4
  obtain ⟨x0, x1, x2, x3, x4⟩ := BT.out.cells
  go_wp2_with fail
  refine ((both_any Q1 Q3 m1 p1 m3 p3 q1 q3 _ H1.out H3.out (by omega) (by omega)).mono fun _ _ => I6.out.gives).mono ?_
  clear x0 x1 x2 x3 x4
  rintro e w6 ⟨Q6, p6, rfl, _, hr, hb⟩
  have H6 := Lib.hid hr
  clear hr
  have HX0' := Lib.hid (HX0.out.below At.stays hb)
  clear HX0
  have HX0 := HX0'
  clear HX0'
  have HX1' := Lib.hid (HX1.out.below At.stays hb)
  clear HX1
  have HX1 := HX1'
  clear HX1'
  have HX2' := Lib.hid (HX2.out.below At.stays hb)
  clear HX2
  have HX2 := HX2'
  clear HX2'
  have H1' := Lib.hid (H1.out.below At.stays hb)
  clear H1
  have H1 := H1'
  clear H1'
  have H2' := Lib.hid (H2.out.below At.stays hb)
  clear H2
  have H2 := H2'
  clear H2'
  have H3' := Lib.hid (H3.out.below At.stays hb)
  clear H3
  have H3 := H3'
  clear H3'
  have H4' := Lib.hid (H4.out.below At.stays hb)
  clear H4
  have H4 := H4'
  clear H4'
  have H5' := Lib.hid (H5.out.below At.stays hb)
  clear H5
  have H5 := H5'
  clear H5'
  have BT' := Lib.hid (BT.out.below hb)
  clear BT
  have BT := BT'
  clear BT'
  have HB6 := Lib.hid (below_then HB5.out hb)
  clear hb HB5
  obtain ⟨x0, x1, x2, x3, x4⟩ := BT.out.cells
  go_wp2_with fail
  refine ((both_any Q2 Q3 m2 p2 m3 p3 q2 q3 _ H2.out H3.out (by omega) (by omega)).mono fun _ _ => I7.out.gives).mono ?_
  clear x0 x1 x2 x3 x4
  rintro e w7 ⟨Q7, p7, rfl, _, hr, hb⟩
  have H7 := Lib.hid hr
  clear hr
  have HX0' := Lib.hid (HX0.out.below At.stays hb)
  clear HX0
  have HX0 := HX0'
  clear HX0'
  have HX1' := Lib.hid (HX1.out.below At.stays hb)
  clear HX1
  have HX1 := HX1'
  clear HX1'
  have HX2' := Lib.hid (HX2.out.below At.stays hb)
  clear HX2
  have HX2 := HX2'
  clear HX2'
  have H1' := Lib.hid (H1.out.below At.stays hb)
  clear H1
  have H1 := H1'
  clear H1'
  have H2' := Lib.hid (H2.out.below At.stays hb)
  clear H2
  have H2 := H2'
  clear H2'
  have H3' := Lib.hid (H3.out.below At.stays hb)
  clear H3
  have H3 := H3'
  clear H3'
  have H4' := Lib.hid (H4.out.below At.stays hb)
  clear H4
  have H4 := H4'
  clear H4'
  have H5' := Lib.hid (H5.out.below At.stays hb)
  clear H5
  have H5 := H5'
  clear H5'
  have H6' := Lib.hid (H6.out.below At.stays hb)
  clear H6
  have H6 := H6'
  clear H6'
  have BT' := Lib.hid (BT.out.below hb)
  clear BT
  have BT := BT'
  clear BT'
  have HB7 := Lib.hid (below_then HB6.out hb)
  clear hb HB6
  obtain ⟨x0, x1, x2, x3, x4⟩ := BT.out.cells
  rcases HE1.out with h | ⟨h, hx⟩
  · subst h
    go_wp2_with fail
    refine (works_any _).mono ?_
    clear x0 x1 x2 x3 x4
    rintro e w8 ⟨rfl, hb⟩
    have HX0' := Lib.hid (HX0.out.below At.stays hb)
    clear HX0
    have HX0 := HX0'
    clear HX0'
    have HX1' := Lib.hid (HX1.out.below At.stays hb)
    clear HX1
    have HX1 := HX1'
    clear HX1'
    have HX2' := Lib.hid (HX2.out.below At.stays hb)
    clear HX2
    have HX2 := HX2'
    clear HX2'
    have H1' := Lib.hid (H1.out.below At.stays hb)
    clear H1
    have H1 := H1'
    clear H1'
    have H2' := Lib.hid (H2.out.below At.stays hb)
    clear H2
    have H2 := H2'
    clear H2'
    have H3' := Lib.hid (H3.out.below At.stays hb)
    clear H3
    have H3 := H3'
    clear H3'
    have H4' := Lib.hid (H4.out.below At.stays hb)
    clear H4
    have H4 := H4'
    clear H4'
    have H5' := Lib.hid (H5.out.below At.stays hb)
    clear H5
    have H5 := H5'
    clear H5'
    have H6' := Lib.hid (H6.out.below At.stays hb)
    clear H6
    have H6 := H6'
    clear H6'
    have H7' := Lib.hid (H7.out.below At.stays hb)
    clear H7
    have H7 := H7'
    clear H7'
    have BT' := Lib.hid (BT.out.below hb)
    clear BT
    have BT := BT'
    clear BT'
    have HB8 := Lib.hid (below_then HB7.out hb)
    clear hb HB7
    obtain ⟨x0, x1, x2, x3, x4⟩ := BT.out.cells
    go_wp2_with fail
    go_ret
    exact .bool rfl HB8.out
  subst h
  rcases HE2.out with h | ⟨h, hy⟩
  · subst h
    clear hx
    go_wp2_with fail
    refine (works_any _).mono ?_
    clear x0 x1 x2 x3 x4
    rintro e w8 ⟨rfl, hb⟩
    have HX0' := Lib.hid (HX0.out.below At.stays hb)
    clear HX0
    have HX0 := HX0'
    clear HX0'
    have HX1' := Lib.hid (HX1.out.below At.stays hb)
    clear HX1
    have HX1 := HX1'
    clear HX1'
    have HX2' := Lib.hid (HX2.out.below At.stays hb)
    clear HX2
    have HX2 := HX2'
    clear HX2'
    have H1' := Lib.hid (H1.out.below At.stays hb)
    clear H1
    have H1 := H1'
    clear H1'
    have H2' := Lib.hid (H2.out.below At.stays hb)
    clear H2
    have H2 := H2'
    clear H2'
    have H3' := Lib.hid (H3.out.below At.stays hb)
    clear H3
    have H3 := H3'
    clear H3'
    have H4' := Lib.hid (H4.out.below At.stays hb)
    clear H4
    have H4 := H4'
    clear H4'
    have H5' := Lib.hid (H5.out.below At.stays hb)
    clear H5
    have H5 := H5'
    clear H5'
    have H6' := Lib.hid (H6.out.below At.stays hb)
    clear H6
    have H6 := H6'
    clear H6'
    have H7' := Lib.hid (H7.out.below At.stays hb)
    clear H7
    have H7 := H7'
    clear H7'
    have BT' := Lib.hid (BT.out.below hb)
    clear BT
    have BT := BT'
    clear BT'
    have HB8 := Lib.hid (below_then HB7.out hb)
    clear hb HB7
    obtain ⟨x0, x1, x2, x3, x4⟩ := BT.out.cells
    go_wp2_with fail
    go_ret
    exact .bool rfl HB8.out
  subst h
  rcases HE3.out with h | ⟨h, hz⟩
  · subst h
    clear hx hy
    go_wp2_with fail
    refine (works_any _).mono ?_
    clear x0 x1 x2 x3 x4
    rintro e w8 ⟨rfl, hb⟩
    have HX0' := Lib.hid (HX0.out.below At.stays hb)
    clear HX0
    have HX0 := HX0'
    clear HX0'
    have HX1' := Lib.hid (HX1.out.below At.stays hb)
    clear HX1
    have HX1 := HX1'
    clear HX1'
    have HX2' := Lib.hid (HX2.out.below At.stays hb)
    clear HX2
    have HX2 := HX2'
    clear HX2'
    have H1' := Lib.hid (H1.out.below At.stays hb)
    clear H1
    have H1 := H1'
    clear H1'
    have H2' := Lib.hid (H2.out.below At.stays hb)
    clear H2
    have H2 := H2'
    clear H2'
    have H3' := Lib.hid (H3.out.below At.stays hb)
    clear H3
    have H3 := H3'
    clear H3'
    have H4' := Lib.hid (H4.out.below At.stays hb)
    clear H4
    have H4 := H4'
    clear H4'
    have H5' := Lib.hid (H5.out.below At.stays hb)
    clear H5
    have H5 := H5'
    clear H5'
    have H6' := Lib.hid (H6.out.below At.stays hb)
    clear H6
    have H6 := H6'
    clear H6'
    have H7' := Lib.hid (H7.out.below At.stays hb)
    clear H7
    have H7 := H7'
    clear H7'
    have BT' := Lib.hid (BT.out.below hb)
    clear BT
    have BT := BT'
    clear BT'
    have HB8 := Lib.hid (below_then HB7.out hb)
    clear hb HB7
    obtain ⟨x0, x1, x2, x3, x4⟩ := BT.out.cells
    go_wp2_with fail
    go_ret
    exact .bool rfl HB8.out
  subst h
  rcases HE4.out with h | ⟨h, hp⟩
  · subst h
    clear hx hy hz
    go_wp2_with fail
    refine (works_any _).mono ?_
    clear x0 x1 x2 x3 x4
    rintro e w8 ⟨rfl, hb⟩
    have HX0' := Lib.hid (HX0.out.below At.stays hb)
    clear HX0
    have HX0 := HX0'
    clear HX0'
    have HX1' := Lib.hid (HX1.out.below At.stays hb)
    clear HX1
    have HX1 := HX1'
    clear HX1'
    have HX2' := Lib.hid (HX2.out.below At.stays hb)
    clear HX2
    have HX2 := HX2'
    clear HX2'
    have H1' := Lib.hid (H1.out.below At.stays hb)
    clear H1
    have H1 := H1'
    clear H1'
    have H2' := Lib.hid (H2.out.below At.stays hb)
    clear H2
    have H2 := H2'
    clear H2'
    have H3' := Lib.hid (H3.out.below At.stays hb)
    clear H3
    have H3 := H3'
    clear H3'
    have H4' := Lib.hid (H4.out.below At.stays hb)
    clear H4
    have H4 := H4'
    clear H4'
    have H5' := Lib.hid (H5.out.below At.stays hb)
    clear H5
    have H5 := H5'
    clear H5'
    have H6' := Lib.hid (H6.out.below At.stays hb)
    clear H6
    have H6 := H6'
    clear H6'
    have H7' := Lib.hid (H7.out.below At.stays hb)
    clear H7
    have H7 := H7'
    clear H7'
    have BT' := Lib.hid (BT.out.below hb)
    clear BT
    have BT := BT'
    clear BT'
    have HB8 := Lib.hid (below_then HB7.out hb)
    clear hb HB7
    obtain ⟨x0, x1, x2, x3, x4⟩ := BT.out.cells
    go_wp2_with fail
    go_ret
    exact .bool rfl HB8.out
  subst h
  rcases HE6.out with h | ⟨h, h2⟩
  · subst h
    clear hx hy hz hp
    go_wp2_with fail
    refine (works_any _).mono ?_
    clear x0 x1 x2 x3 x4
    rintro e w8 ⟨rfl, hb⟩
    have HX0' := Lib.hid (HX0.out.below At.stays hb)
    clear HX0
    have HX0 := HX0'
    clear HX0'
    have HX1' := Lib.hid (HX1.out.below At.stays hb)
    clear HX1
    have HX1 := HX1'
    clear HX1'
    have HX2' := Lib.hid (HX2.out.below At.stays hb)
    clear HX2
    have HX2 := HX2'
    clear HX2'
    have H1' := Lib.hid (H1.out.below At.stays hb)
    clear H1
    have H1 := H1'
    clear H1'
    have H2' := Lib.hid (H2.out.below At.stays hb)
    clear H2
    have H2 := H2'
    clear H2'
    have H3' := Lib.hid (H3.out.below At.stays hb)
    clear H3
    have H3 := H3'
    clear H3'
    have H4' := Lib.hid (H4.out.below At.stays hb)
    clear H4
    have H4 := H4'
    clear H4'
    have H5' := Lib.hid (H5.out.below At.stays hb)
    clear H5
    have H5 := H5'
    clear H5'
    have H6' := Lib.hid (H6.out.below At.stays hb)
    clear H6
    have H6 := H6'
    clear H6'
    have H7' := Lib.hid (H7.out.below At.stays hb)
    clear H7
    have H7 := H7'
    clear H7'
    have BT' := Lib.hid (BT.out.below hb)
    clear BT
    have BT := BT'
    clear BT'
    have HB8 := Lib.hid (below_then HB7.out hb)
    clear hb HB7
    obtain ⟨x0, x1, x2, x3, x4⟩ := BT.out.cells
    go_wp2_with fail
    go_ret
    exact .bool rfl HB8.out
  subst h
  rcases HE7.out with h | ⟨h, h3⟩
  · subst h
    clear hx hy hz hp h2
    go_wp2_with fail
    refine (works_any _).mono ?_
    clear x0 x1 x2 x3 x4
    rintro e w8 ⟨rfl, hb⟩
    have HX0' := Lib.hid (HX0.out.below At.stays hb)
    clear HX0
    have HX0 := HX0'
    clear HX0'
    have HX1' := Lib.hid (HX1.out.below At.stays hb)
    clear HX1
    have HX1 := HX1'
    clear HX1'
    have HX2' := Lib.hid (HX2.out.below At.stays hb)
    clear HX2
    have HX2 := HX2'
    clear HX2'
    have H1' := Lib.hid (H1.out.below At.stays hb)
    clear H1
    have H1 := H1'
    clear H1'
    have H2' := Lib.hid (H2.out.below At.stays hb)
    clear H2
    have H2 := H2'
    clear H2'
    have H3' := Lib.hid (H3.out.below At.stays hb)
    clear H3
    have H3 := H3'
    clear H3'
    have H4' := Lib.hid (H4.out.below At.stays hb)
    clear H4
    have H4 := H4'
    clear H4'
    have H5' := Lib.hid (H5.out.below At.stays hb)
    clear H5
    have H5 := H5'
    clear H5'
    have H6' := Lib.hid (H6.out.below At.stays hb)
    clear H6
    have H6 := H6'
    clear H6'
    have H7' := Lib.hid (H7.out.below At.stays hb)
    clear H7
    have H7 := H7'
    clear H7'
    have BT' := Lib.hid (BT.out.below hb)
    clear BT
    have BT := BT'
    clear BT'
    have HB8 := Lib.hid (below_then HB7.out hb)
    clear hb HB7
    obtain ⟨x0, x1, x2, x3, x4⟩ := BT.out.cells
    go_wp2_with fail
    go_ret
    exact .bool rfl HB8.out
  subst h
  have hxy := both_some hp
  have hxz := both_some h2
  have hyz := both_some h3
  rcases HE5.out with h | ⟨h, ho⟩
  · exfalso
    obtain ⟨_, ho, _⟩ := either_good hxy
    have := I5.out.err
    rw [ho] at this
    simp [errT] at this
    omega
  subst h
  have OO := Lib.hid (law_ord hxy hxz hyz hp ho)
  have ON := Lib.hid (fun (h1 : q1 ≠ []) (h2 : t.d = (q1.headD T0).d) => law_ord_in hxy hp ho h1 h2)
  clear hx hy hz hp h2 h3 hxy hyz hxz ho HE1 HE2 HE3 HE4 HE5 HE6 HE7 I1 I2 I3 I4 I5 I6 I7 HX0 HX1 HX2 H6 H7
  go_wp2_with fail
  refine (within_any Q1 Q2 m1 p1 m2 p2 q1 q2 _ H1.out H2.out (by omega) (by omega)).mono ?_
  clear x0 x1 x2 x3 x4
  rintro e w8 ⟨rfl, hb⟩
  have H1' := Lib.hid (H1.out.below At.stays hb)
  clear H1
  have H1 := H1'
  clear H1'
  have H2' := Lib.hid (H2.out.below At.stays hb)
  clear H2
  have H2 := H2'
  clear H2'
  have H3' := Lib.hid (H3.out.below At.stays hb)
  clear H3
  have H3 := H3'
  clear H3'
  have H4' := Lib.hid (H4.out.below At.stays hb)
  clear H4
  have H4 := H4'
  clear H4'
  have H5' := Lib.hid (H5.out.below At.stays hb)
  clear H5
  have H5 := H5'
  clear H5'
  have BT' := Lib.hid (BT.out.below hb)
  clear BT
  have BT := BT'
  clear BT'
  have HB8 := Lib.hid (below_then HB7.out hb)
  clear hb HB7
  obtain ⟨x0, x1, x2, x3, x4⟩ := BT.out.cells
  go_wp2_with fail
  refine (within_any Q2 Q1 m2 p2 m1 p1 q2 q1 _ H2.out H1.out (by omega) (by omega)).mono ?_
  clear x0 x1 x2 x3 x4
  rintro e w9 ⟨rfl, hb⟩
  have H1' := Lib.hid (H1.out.below At.stays hb)
  clear H1
  have H1 := H1'
  clear H1'
  have H2' := Lib.hid (H2.out.below At.stays hb)
  clear H2
  have H2 := H2'
  clear H2'
  have H3' := Lib.hid (H3.out.below At.stays hb)
  clear H3
  have H3 := H3'
  clear H3'
  have H4' := Lib.hid (H4.out.below At.stays hb)
  clear H4
  have H4 := H4'
  clear H4'
  have H5' := Lib.hid (H5.out.below At.stays hb)
  clear H5
  have H5 := H5'
  clear H5'
  have BT' := Lib.hid (BT.out.below hb)
  clear BT
  have BT := BT'
  clear BT'
  have HB9 := Lib.hid (below_then HB8.out hb)
  clear hb HB8
  obtain ⟨x0, x1, x2, x3, x4⟩ := BT.out.cells
  go_wp2_with fail
  refine (within_any Q2 Q3 m2 p2 m3 p3 q2 q3 _ H2.out H3.out (by omega) (by omega)).mono ?_
  clear x0 x1 x2 x3 x4
  rintro e w10 ⟨rfl, hb⟩
  have H1' := Lib.hid (H1.out.below At.stays hb)
  clear H1
  have H1 := H1'
  clear H1'
  have H2' := Lib.hid (H2.out.below At.stays hb)
  clear H2
  have H2 := H2'
  clear H2'
  have H3' := Lib.hid (H3.out.below At.stays hb)
  clear H3
  have H3 := H3'
  clear H3'
  have H4' := Lib.hid (H4.out.below At.stays hb)
  clear H4
  have H4 := H4'
  clear H4'
  have H5' := Lib.hid (H5.out.below At.stays hb)
  clear H5
  have H5 := H5'
  clear H5'
  have BT' := Lib.hid (BT.out.below hb)
  clear BT
  have BT := BT'
  clear BT'
  have HB10 := Lib.hid (below_then HB9.out hb)
  clear hb HB9
  obtain ⟨x0, x1, x2, x3, x4⟩ := BT.out.cells
  go_wp2_with fail
  refine (within_any Q1 Q3 m1 p1 m3 p3 q1 q3 _ H1.out H3.out (by omega) (by omega)).mono ?_
  clear x0 x1 x2 x3 x4
  rintro e w11 ⟨rfl, hb⟩
  have H1' := Lib.hid (H1.out.below At.stays hb)
  clear H1
  have H1 := H1'
  clear H1'
  have H2' := Lib.hid (H2.out.below At.stays hb)
  clear H2
  have H2 := H2'
  clear H2'
  have H3' := Lib.hid (H3.out.below At.stays hb)
  clear H3
  have H3 := H3'
  clear H3'
  have H4' := Lib.hid (H4.out.below At.stays hb)
  clear H4
  have H4 := H4'
  clear H4'
  have H5' := Lib.hid (H5.out.below At.stays hb)
  clear H5
  have H5 := H5'
  clear H5'
  have BT' := Lib.hid (BT.out.below hb)
  clear BT
  have BT := BT'
  clear BT'
  have HB11 := Lib.hid (below_then HB10.out hb)
  clear hb HB10
  obtain ⟨x0, x1, x2, x3, x4⟩ := BT.out.cells
  have Exy : ∃ b, withinF q1 q2 = b := ⟨_, rfl⟩
  obtain ⟨xy, Exy⟩ := Exy
  have Eyx : ∃ b, withinF q2 q1 = b := ⟨_, rfl⟩
  obtain ⟨yx, Eyx⟩ := Eyx
  have Eyz : ∃ b, withinF q2 q3 = b := ⟨_, rfl⟩
  obtain ⟨yz, Eyz⟩ := Eyz
  have Exz : ∃ b, withinF q1 q3 = b := ⟨_, rfl⟩
  obtain ⟨xz, Exz⟩ := Exz
  rw [Exy, Eyx, Eyz, Exz]
  have FA := Lib.hid (show xy = true → yx = true → q1 = q2 from fun h1 h2 => OO.out.anti (Exy.trans h1) (Eyx.trans h2))
  have FT := Lib.hid (show xy = true → yz = true → xz = true from fun h1 h2 => Exz.symm.trans (OO.out.trans (Exy.trans h1) (Eyz.trans h2)))
  have C11 := Lib.hid (show ∀ W : World, Tms W Q1 m1 p1 q1 → Tms W Q1 m1 p1 q1 → Calls Try.prog 24 #[.slice Q1 m1 p1, .slice Q1 m1 p1] W (Gives (.bool true) W) from fun W h1 h2 => by have := within_any Q1 Q1 m1 p1 m1 p1 q1 q1 W h1 h2 (by omega) (by omega); rw [OO.out.xx] at this; exact this)
  have C41 := Lib.hid (show ∀ W : World, Tms W Q4 m4 p4 q4 → Tms W Q1 m1 p1 q1 → Calls Try.prog 24 #[.slice Q4 m4 p4, .slice Q1 m1 p1] W (Gives (.bool true) W) from fun W h1 h2 => by have := within_any Q4 Q1 m4 p4 m1 p1 q4 q1 W h1 h2 (by omega) (by omega); rw [OO.out.px] at this; exact this)
  have C42 := Lib.hid (show ∀ W : World, Tms W Q4 m4 p4 q4 → Tms W Q2 m2 p2 q2 → Calls Try.prog 24 #[.slice Q4 m4 p4, .slice Q2 m2 p2] W (Gives (.bool true) W) from fun W h1 h2 => by have := within_any Q4 Q2 m4 p4 m2 p2 q4 q2 W h1 h2 (by omega) (by omega); rw [OO.out.py] at this; exact this)
  have C15 := Lib.hid (show ∀ W : World, Tms W Q1 m1 p1 q1 → Tms W Q5 m5 p5 q5 → Calls Try.prog 24 #[.slice Q1 m1 p1, .slice Q5 m5 p5] W (Gives (.bool true) W) from fun W h1 h2 => by have := within_any Q1 Q5 m1 p1 m5 p5 q1 q5 W h1 h2 (by omega) (by omega); rw [OO.out.xq] at this; exact this)
  have C25 := Lib.hid (show ∀ W : World, Tms W Q2 m2 p2 q2 → Tms W Q5 m5 p5 q5 → Calls Try.prog 24 #[.slice Q2 m2 p2, .slice Q5 m5 p5] W (Gives (.bool true) W) from fun W h1 h2 => by have := within_any Q2 Q5 m2 p2 m5 p5 q2 q5 W h1 h2 (by omega) (by omega); rw [OO.out.yq] at this; exact this)
  obtain ⟨zx, Ezx⟩ : ∃ b, withinF q3 q1 = b := ⟨_, rfl⟩
  obtain ⟨zy, Ezy⟩ : ∃ b, withinF q3 q2 = b := ⟨_, rfl⟩
  have C34 := Lib.hid (show ∀ W : World, Tms W Q3 m3 p3 q3 → Tms W Q4 m4 p4 q4 → Calls Try.prog 24 #[.slice Q3 m3 p3, .slice Q4 m4 p4] W (Gives (.bool (zx && zy)) W) from fun W h1 h2 => by have := within_any Q3 Q4 m3 p3 m4 p4 q3 q4 W h1 h2 (by omega) (by omega); rw [OO.out.zp, Ezx, Ezy] at this; exact this)
  have C31 := Lib.hid (show ∀ W : World, Tms W Q3 m3 p3 q3 → Tms W Q1 m1 p1 q1 → Calls Try.prog 24 #[.slice Q3 m3 p3, .slice Q1 m1 p1] W (Gives (.bool zx) W) from fun W h1 h2 => by have := within_any Q3 Q1 m3 p3 m1 p1 q3 q1 W h1 h2 (by omega) (by omega); rw [Ezx] at this; exact this)
  have C32 := Lib.hid (show ∀ W : World, Tms W Q3 m3 p3 q3 → Tms W Q2 m2 p2 q2 → Calls Try.prog 24 #[.slice Q3 m3 p3, .slice Q2 m2 p2] W (Gives (.bool zy) W) from fun W h1 h2 => by have := within_any Q3 Q2 m3 p3 m2 p2 q3 q2 W h1 h2 (by omega) (by omega); rw [Ezy] at this; exact this)
  have C53 := Lib.hid (show ∀ W : World, Tms W Q5 m5 p5 q5 → Tms W Q3 m3 p3 q3 → Calls Try.prog 24 #[.slice Q5 m5 p5, .slice Q3 m3 p3] W (Gives (.bool (xz && yz)) W) from fun W h1 h2 => by have := within_any Q5 Q3 m5 p5 m3 p3 q5 q3 W h1 h2 (by omega) (by omega); rw [OO.out.qz, Exz, Eyz] at this; exact this)
  have FX := Lib.hid (show xy = true → withinF q1 q2 = true from fun h => Exy.trans h)
  clear Exy Eyx Eyz Exz Ezx Ezy OO
  go_upto_region 13 with fail
  go_cut [146] (fun b wx => b = .bool false ∧ Hid (Below w11.heap.size w11 wx))
  case first =>
    clear HB11
    have HL0 := Lib.hid (Below.refl w11.heap.size w11)
    go_wp2_with fail
    refine (C11.out _ H1.out H1.out).mono ?_
    clear x0 x1 x2 x3 x4
    rintro e w12 ⟨rfl, hb⟩
    have H1' := Lib.hid (H1.out.below At.stays hb)
    clear H1
    have H1 := H1'
    clear H1'
    have H2' := Lib.hid (H2.out.below At.stays hb)
    clear H2
    have H2 := H2'
    clear H2'
    have H3' := Lib.hid (H3.out.below At.stays hb)
    clear H3
    have H3 := H3'
    clear H3'
    have H4' := Lib.hid (H4.out.below At.stays hb)
    clear H4
    have H4 := H4'
    clear H4'
    have H5' := Lib.hid (H5.out.below At.stays hb)
    clear H5
    have H5 := H5'
    clear H5'
    have BT' := Lib.hid (BT.out.below hb)
    clear BT
    have BT := BT'
    clear BT'
    have HB12 := Lib.hid (below_then HL0.out hb)
    clear hb HL0
    obtain ⟨x0, x1, x2, x3, x4⟩ := BT.out.cells
    cases xy with
    | false =>
      go_wp2_with fail
      go_meet
      exact ⟨rfl, HB12⟩
    | true =>
      cases yx with
      | false =>
        cases yz with
        | false =>
          go_wp2_with fail
          go_meet
          exact ⟨rfl, HB12⟩
        | true =>
          have hxz : xz = true := by first | exact FT.out rfl rfl | exact FT.out trivial | simpa using FT.out
          subst hxz
          go_wp2_with fail
          go_meet
          exact ⟨rfl, HB12⟩
      | true =>
        have he := FA.out rfl rfl
        have CQ := Lib.hid (same_any Q1 Q2 m1 p1 m2 p2 q1 q2 _ H1.out H2.out)
        rw [decide_eq_true he] at CQ
        clear he
        go_wp2_with fail
        refine (CQ.out).mono ?_
        clear x0 x1 x2 x3 x4
        rintro e w13 ⟨rfl, hb⟩
        have H1' := Lib.hid (H1.out.below At.stays hb)
        clear H1
        have H1 := H1'
        clear H1'
        have H2' := Lib.hid (H2.out.below At.stays hb)
        clear H2
        have H2 := H2'
        clear H2'
        have H3' := Lib.hid (H3.out.below At.stays hb)
        clear H3
        have H3 := H3'
        clear H3'
        have H4' := Lib.hid (H4.out.below At.stays hb)
        clear H4
        have H4 := H4'
        clear H4'
        have H5' := Lib.hid (H5.out.below At.stays hb)
        clear H5
        have H5 := H5'
        clear H5'
        have BT' := Lib.hid (BT.out.below hb)
        clear BT
        have BT := BT'
        clear BT'
        have HB13 := Lib.hid (below_then HB12.out hb)
        clear hb HB12
        obtain ⟨x0, x1, x2, x3, x4⟩ := BT.out.cells
        cases yz with
        | false =>
          go_wp2_with fail
          go_meet
          exact ⟨rfl, HB13⟩
        | true =>
          have hxz : xz = true := by first | exact FT.out rfl rfl | exact FT.out trivial | simpa using FT.out
          subst hxz
          go_wp2_with fail
          go_meet
          exact ⟨rfl, HB13⟩
  case rest =>
    as_aux_lemma =>
      obtain ⟨rfl, HCU⟩ := hcut
      have hb := HCU.out
      clear HCU
      clear x0 x1 x2 x3 x4
      obtain ⟨w12, hwq⟩ : ∃ q, q = wc := ⟨_, rfl⟩
      subst hwq
      have H1' := Lib.hid (H1.out.below At.stays hb)
      clear H1
      have H1 := H1'
      clear H1'
      have H2' := Lib.hid (H2.out.below At.stays hb)
      clear H2
      have H2 := H2'
      clear H2'
      have H3' := Lib.hid (H3.out.below At.stays hb)
      clear H3
      have H3 := H3'
      clear H3'
      have H4' := Lib.hid (H4.out.below At.stays hb)
      clear H4
      have H4 := H4'
      clear H4'
      have H5' := Lib.hid (H5.out.below At.stays hb)
      clear H5
      have H5 := H5'
      clear H5'
      have BT' := Lib.hid (BT.out.below hb)
      clear BT
      have BT := BT'
      clear BT'
      have HB12 := Lib.hid (below_then HB11.out hb)
      clear hb HB11
      obtain ⟨x0, x1, x2, x3, x4⟩ := BT.out.cells
      go_wp2_with fail
      refine (C41.out _ H4.out H1.out).mono ?_
      clear x0 x1 x2 x3 x4
      rintro e w13 ⟨rfl, hb⟩
      have H1' := Lib.hid (H1.out.below At.stays hb)
      clear H1
      have H1 := H1'
      clear H1'
      have H2' := Lib.hid (H2.out.below At.stays hb)
      clear H2
      have H2 := H2'
      clear H2'
      have H3' := Lib.hid (H3.out.below At.stays hb)
      clear H3
      have H3 := H3'
      clear H3'
      have H4' := Lib.hid (H4.out.below At.stays hb)
      clear H4
      have H4 := H4'
      clear H4'
      have H5' := Lib.hid (H5.out.below At.stays hb)
      clear H5
      have H5 := H5'
      clear H5'
      have BT' := Lib.hid (BT.out.below hb)
      clear BT
      have BT := BT'
      clear BT'
      have HB13 := Lib.hid (below_then HB12.out hb)
      clear hb HB12
      obtain ⟨x0, x1, x2, x3, x4⟩ := BT.out.cells
      go_wp2_with fail
      refine (C42.out _ H4.out H2.out).mono ?_
      clear x0 x1 x2 x3 x4
      rintro e w14 ⟨rfl, hb⟩
      have H1' := Lib.hid (H1.out.below At.stays hb)
      clear H1
      have H1 := H1'
      clear H1'
      have H2' := Lib.hid (H2.out.below At.stays hb)
      clear H2
      have H2 := H2'
      clear H2'
      have H3' := Lib.hid (H3.out.below At.stays hb)
      clear H3
      have H3 := H3'
      clear H3'
      have H4' := Lib.hid (H4.out.below At.stays hb)
      clear H4
      have H4 := H4'
      clear H4'
      have H5' := Lib.hid (H5.out.below At.stays hb)
      clear H5
      have H5 := H5'
      clear H5'
      have BT' := Lib.hid (BT.out.below hb)
      clear BT
      have BT := BT'
      clear BT'
      have HB14 := Lib.hid (below_then HB13.out hb)
      clear hb HB13
      obtain ⟨x0, x1, x2, x3, x4⟩ := BT.out.cells
      go_wp2_with fail
      refine (C15.out _ H1.out H5.out).mono ?_
      clear x0 x1 x2 x3 x4
      rintro e w15 ⟨rfl, hb⟩
      have H1' := Lib.hid (H1.out.below At.stays hb)
      clear H1
      have H1 := H1'
      clear H1'
      have H2' := Lib.hid (H2.out.below At.stays hb)
      clear H2
      have H2 := H2'
      clear H2'
      have H3' := Lib.hid (H3.out.below At.stays hb)
      clear H3
      have H3 := H3'
      clear H3'
      have H4' := Lib.hid (H4.out.below At.stays hb)
      clear H4
      have H4 := H4'
      clear H4'
      have H5' := Lib.hid (H5.out.below At.stays hb)
      clear H5
      have H5 := H5'
      clear H5'
      have BT' := Lib.hid (BT.out.below hb)
      clear BT
      have BT := BT'
      clear BT'
      have HB15 := Lib.hid (below_then HB14.out hb)
      clear hb HB14
      obtain ⟨x0, x1, x2, x3, x4⟩ := BT.out.cells
      go_wp2_with fail
      refine (C25.out _ H2.out H5.out).mono ?_
      clear x0 x1 x2 x3 x4
      rintro e w16 ⟨rfl, hb⟩
      have H1' := Lib.hid (H1.out.below At.stays hb)
      clear H1
      have H1 := H1'
      clear H1'
      have H2' := Lib.hid (H2.out.below At.stays hb)
      clear H2
      have H2 := H2'
      clear H2'
      have H3' := Lib.hid (H3.out.below At.stays hb)
      clear H3
      have H3 := H3'
      clear H3'
      have H4' := Lib.hid (H4.out.below At.stays hb)
      clear H4
      have H4 := H4'
      clear H4'
      have H5' := Lib.hid (H5.out.below At.stays hb)
      clear H5
      have H5 := H5'
      clear H5'
      have BT' := Lib.hid (BT.out.below hb)
      clear BT
      have BT := BT'
      clear BT'
      have HB16 := Lib.hid (below_then HB15.out hb)
      clear hb HB15
      obtain ⟨x0, x1, x2, x3, x4⟩ := BT.out.cells
      clear C11 C41 C42 C15 C25 FA FT
      go_upto_region 17 with fail
      go_cut [190] (fun b wx => b = .bool false ∧ Hid (Below w16.heap.size w16 wx))
      case first =>
        clear HB16
        have HL0 := Lib.hid (Below.refl w16.heap.size w16)
        go_wp2_with fail
        refine (C34.out _ H3.out H4.out).mono ?_
        clear x0 x1 x2 x3 x4
        rintro e w17 ⟨rfl, hb⟩
        have H1' := Lib.hid (H1.out.below At.stays hb)
        clear H1
        have H1 := H1'
        clear H1'
        have H2' := Lib.hid (H2.out.below At.stays hb)
        clear H2
        have H2 := H2'
        clear H2'
        have H3' := Lib.hid (H3.out.below At.stays hb)
        clear H3
        have H3 := H3'
        clear H3'
        have H4' := Lib.hid (H4.out.below At.stays hb)
        clear H4
        have H4 := H4'
        clear H4'
        have H5' := Lib.hid (H5.out.below At.stays hb)
        clear H5
        have H5 := H5'
        clear H5'
        have BT' := Lib.hid (BT.out.below hb)
        clear BT
        have BT := BT'
        clear BT'
        have HB17 := Lib.hid (below_then HL0.out hb)
        clear hb HL0
        obtain ⟨x0, x1, x2, x3, x4⟩ := BT.out.cells
        go_wp2_with fail
        refine (C31.out _ H3.out H1.out).mono ?_
        clear x0 x1 x2 x3 x4
        rintro e w18 ⟨rfl, hb⟩
        have H1' := Lib.hid (H1.out.below At.stays hb)
        clear H1
        have H1 := H1'
        clear H1'
        have H2' := Lib.hid (H2.out.below At.stays hb)
        clear H2
        have H2 := H2'
        clear H2'
        have H3' := Lib.hid (H3.out.below At.stays hb)
        clear H3
        have H3 := H3'
        clear H3'
        have H4' := Lib.hid (H4.out.below At.stays hb)
        clear H4
        have H4 := H4'
        clear H4'
        have H5' := Lib.hid (H5.out.below At.stays hb)
        clear H5
        have H5 := H5'
        clear H5'
        have BT' := Lib.hid (BT.out.below hb)
        clear BT
        have BT := BT'
        clear BT'
        have HB18 := Lib.hid (below_then HB17.out hb)
        clear hb HB17
        obtain ⟨x0, x1, x2, x3, x4⟩ := BT.out.cells
        cases zx with
        | false =>
          go_wp2_with fail
          refine (C53.out _ H5.out H3.out).mono ?_
          clear x0 x1 x2 x3 x4
          rintro e w19 ⟨rfl, hb⟩
          have H1' := Lib.hid (H1.out.below At.stays hb)
          clear H1
          have H1 := H1'
          clear H1'
          have H2' := Lib.hid (H2.out.below At.stays hb)
          clear H2
          have H2 := H2'
          clear H2'
          have H3' := Lib.hid (H3.out.below At.stays hb)
          clear H3
          have H3 := H3'
          clear H3'
          have H4' := Lib.hid (H4.out.below At.stays hb)
          clear H4
          have H4 := H4'
          clear H4'
          have H5' := Lib.hid (H5.out.below At.stays hb)
          clear H5
          have H5 := H5'
          clear H5'
          have BT' := Lib.hid (BT.out.below hb)
          clear BT
          have BT := BT'
          clear BT'
          have HB19 := Lib.hid (below_then HB18.out hb)
          clear hb HB18
          obtain ⟨x0, x1, x2, x3, x4⟩ := BT.out.cells
          cases xz with
          | false =>
            go_wp2_with fail
            go_meet
            exact ⟨rfl, HB19⟩
          | true =>
            go_wp2_with fail
            go_meet
            exact ⟨rfl, HB19⟩
        | true =>
          go_wp2_with fail
          refine (C32.out _ H3.out H2.out).mono ?_
          clear x0 x1 x2 x3 x4
          rintro e w19 ⟨rfl, hb⟩
          have H1' := Lib.hid (H1.out.below At.stays hb)
          clear H1
          have H1 := H1'
          clear H1'
          have H2' := Lib.hid (H2.out.below At.stays hb)
          clear H2
          have H2 := H2'
          clear H2'
          have H3' := Lib.hid (H3.out.below At.stays hb)
          clear H3
          have H3 := H3'
          clear H3'
          have H4' := Lib.hid (H4.out.below At.stays hb)
          clear H4
          have H4 := H4'
          clear H4'
          have H5' := Lib.hid (H5.out.below At.stays hb)
          clear H5
          have H5 := H5'
          clear H5'
          have BT' := Lib.hid (BT.out.below hb)
          clear BT
          have BT := BT'
          clear BT'
          have HB19 := Lib.hid (below_then HB18.out hb)
          clear hb HB18
          obtain ⟨x0, x1, x2, x3, x4⟩ := BT.out.cells
          go_wp2_with fail
          refine (C53.out _ H5.out H3.out).mono ?_
          clear x0 x1 x2 x3 x4
          rintro e w20 ⟨rfl, hb⟩
          have H1' := Lib.hid (H1.out.below At.stays hb)
          clear H1
          have H1 := H1'
          clear H1'
          have H2' := Lib.hid (H2.out.below At.stays hb)
          clear H2
          have H2 := H2'
          clear H2'
          have H3' := Lib.hid (H3.out.below At.stays hb)
          clear H3
          have H3 := H3'
          clear H3'
          have H4' := Lib.hid (H4.out.below At.stays hb)
          clear H4
          have H4 := H4'
          clear H4'
          have H5' := Lib.hid (H5.out.below At.stays hb)
          clear H5
          have H5 := H5'
          clear H5'
          have BT' := Lib.hid (BT.out.below hb)
          clear BT
          have BT := BT'
          clear BT'
          have HB20 := Lib.hid (below_then HB19.out hb)
          clear hb HB19
          obtain ⟨x0, x1, x2, x3, x4⟩ := BT.out.cells
          cases xz with
          | false =>
            go_wp2_with fail
            go_meet
            exact ⟨rfl, HB20⟩
          | true =>
            go_wp2_with fail
            go_meet
            exact ⟨rfl, HB20⟩
      case rest =>
        as_aux_lemma =>
          obtain ⟨rfl, HCU⟩ := hcut
          have hb := HCU.out
          clear HCU
          clear x0 x1 x2 x3 x4
          obtain ⟨w17, hwq⟩ : ∃ q, q = wc := ⟨_, rfl⟩
          subst hwq
          have H1' := Lib.hid (H1.out.below At.stays hb)
          clear H1
          have H1 := H1'
          clear H1'
          have H2' := Lib.hid (H2.out.below At.stays hb)
          clear H2
          have H2 := H2'
          clear H2'
          have H3' := Lib.hid (H3.out.below At.stays hb)
          clear H3
          have H3 := H3'
          clear H3'
          have H4' := Lib.hid (H4.out.below At.stays hb)
          clear H4
          have H4 := H4'
          clear H4'
          have H5' := Lib.hid (H5.out.below At.stays hb)
          clear H5
          have H5 := H5'
          clear H5'
          have BT' := Lib.hid (BT.out.below hb)
          clear BT
          have BT := BT'
          clear BT'
          have HB17 := Lib.hid (below_then HB16.out hb)
          clear hb HB16
          obtain ⟨x0, x1, x2, x3, x4⟩ := BT.out.cells
          clear C34 C31 C32 C53 H3
          have i1 := L1.out
          have i2 := L2.out
          have hb1 := H1.out.big
          have hb2 := H2.out.big
          by_cases z1 : m1 = 0
          · have e1 : ((m1 : Int) == 0) = true := by simpa using z1
            have e1' : (m1 == 0) = true := by simpa using z1
            clear x0 x1 x2 x3 x4
            go_wp2_with fail
            refine quiet_after (by kernel_rfl) (by kernel_rfl) ?_
            repeat (first | go_big_quiet_step (fail) | quiet_step (fail))
            refine wpQuiet_nil ?_
            intro wz hw'
            obtain ⟨p, rfl⟩ := hw'
            obtain ⟨w18, hb⟩ := p
            dsimp only
            have H1' := Lib.hid (H1.out.below At.stays hb)
            clear H1
            have H1 := H1'
            clear H1'
            have H2' := Lib.hid (H2.out.below At.stays hb)
            clear H2
            have H2 := H2'
            clear H2'
            have H4' := Lib.hid (H4.out.below At.stays hb)
            clear H4
            have H4 := H4'
            clear H4'
            have H5' := Lib.hid (H5.out.below At.stays hb)
            clear H5
            have H5 := H5'
            clear H5'
            have BT' := Lib.hid (BT.out.below hb)
            clear BT
            have BT := BT'
            clear BT'
            have HB18 := Lib.hid (below_then HB17.out hb)
            clear hb HB17
            obtain ⟨x0, x1, x2, x3, x4⟩ := BT.out.cells
            go_wp2_with fail
            refine (works_any _).mono ?_
            clear x0 x1 x2 x3 x4
            rintro e w19 ⟨rfl, hb⟩
            have H1' := Lib.hid (H1.out.below At.stays hb)
            clear H1
            have H1 := H1'
            clear H1'
            have H2' := Lib.hid (H2.out.below At.stays hb)
            clear H2
            have H2 := H2'
            clear H2'
            have H4' := Lib.hid (H4.out.below At.stays hb)
            clear H4
            have H4 := H4'
            clear H4'
            have H5' := Lib.hid (H5.out.below At.stays hb)
            clear H5
            have H5 := H5'
            clear H5'
            have BT' := Lib.hid (BT.out.below hb)
            clear BT
            have BT := BT'
            clear BT'
            have HB19 := Lib.hid (below_then HB18.out hb)
            clear hb HB18
            obtain ⟨x0, x1, x2, x3, x4⟩ := BT.out.cells
            go_wp2_with fail
            go_ret
            exact .bool rfl HB19.out
          have e1 : ((m1 : Int) == 0) = false := by simp; omega
          have e1' : (m1 == 0) = false := by simp; omega
          by_cases z2 : m2 = 0
          · have e2 : ((m2 : Int) == 0) = true := by simpa using z2
            have e2' : (m2 == 0) = true := by simpa using z2
            clear x0 x1 x2 x3 x4
            go_wp2_with fail
            refine quiet_after (by kernel_rfl) (by kernel_rfl) ?_
            repeat (first | go_big_quiet_step (fail) | quiet_step (fail))
            refine wpQuiet_nil ?_
            intro wz hw'
            obtain ⟨p, rfl⟩ := hw'
            obtain ⟨w18, hb⟩ := p
            dsimp only
            have H1' := Lib.hid (H1.out.below At.stays hb)
            clear H1
            have H1 := H1'
            clear H1'
            have H2' := Lib.hid (H2.out.below At.stays hb)
            clear H2
            have H2 := H2'
            clear H2'
            have H4' := Lib.hid (H4.out.below At.stays hb)
            clear H4
            have H4 := H4'
            clear H4'
            have H5' := Lib.hid (H5.out.below At.stays hb)
            clear H5
            have H5 := H5'
            clear H5'
            have BT' := Lib.hid (BT.out.below hb)
            clear BT
            have BT := BT'
            clear BT'
            have HB18 := Lib.hid (below_then HB17.out hb)
            clear hb HB17
            obtain ⟨x0, x1, x2, x3, x4⟩ := BT.out.cells
            go_wp2_with fail
            refine (works_any _).mono ?_
            clear x0 x1 x2 x3 x4
            rintro e w19 ⟨rfl, hb⟩
            have H1' := Lib.hid (H1.out.below At.stays hb)
            clear H1
            have H1 := H1'
            clear H1'
            have H2' := Lib.hid (H2.out.below At.stays hb)
            clear H2
            have H2 := H2'
            clear H2'
            have H4' := Lib.hid (H4.out.below At.stays hb)
            clear H4
            have H4 := H4'
            clear H4'
            have H5' := Lib.hid (H5.out.below At.stays hb)
            clear H5
            have H5 := H5'
            clear H5'
            have BT' := Lib.hid (BT.out.below hb)
            clear BT
            have BT := BT'
            clear BT'
            have HB19 := Lib.hid (below_then HB18.out hb)
            clear hb HB18
            obtain ⟨x0, x1, x2, x3, x4⟩ := BT.out.cells
            go_wp2_with fail
            go_ret
            exact .bool rfl HB19.out
          have e2 : ((m2 : Int) == 0) = false := by simp; omega
          have e2' : (m2 == 0) = false := by simp; omega
          obtain ⟨bq, oq, rfl, hcq⟩ := H1.out.at_ (by omega)
          obtain ⟨s0, h0⟩ : ∃ s0, q1[0]? = some s0 := ⟨_, List.getElem?_eq_getElem (by omega)⟩
          have h00 := (hcq 0 s0 h0).c0
          rw [Nat.zero_mul, Nat.add_zero] at h00
          have hsd : (q1.headD T0) = s0 := by cases q1 with | nil => simp at h0 | cons a l => simpa using h0
          have hne : q1 ≠ [] := by rintro rfl; simp at h0
          have hi1 : (0 : Int) < m1 := by omega
          have ON2 := Lib.hid (fun (h : t.d = s0.d) => ON.out hne (by rw [hsd]; exact h))
          have y0 := fun p : After w17 => cell_after h00 p
          have x0' := fun p : After w17 => cell_after x0 p
          clear hcq h0 h00 hsd hne ON
          clear x0 x1 x2 x3 x4
          by_cases gd : t.d = s0.d
          · have NN := Lib.hid (ON2.out gd)
            rw [← gd] at y0
            clear gd ON2
            go_wp2_with fail
            refine quiet_after (by kernel_rfl) (by kernel_rfl) ?_
            repeat (first | go_big_quiet_step (fail) | quiet_step (fail))
            refine wpQuiet_nil ?_
            intro wz hw'
            obtain ⟨p, rfl⟩ := hw'
            obtain ⟨w18, hb⟩ := p
            dsimp only
            clear y0 x0'
            have H1' := Lib.hid (H1.out.below At.stays hb)
            clear H1
            have H1 := H1'
            clear H1'
            have H2' := Lib.hid (H2.out.below At.stays hb)
            clear H2
            have H2 := H2'
            clear H2'
            have H4' := Lib.hid (H4.out.below At.stays hb)
            clear H4
            have H4 := H4'
            clear H4'
            have H5' := Lib.hid (H5.out.below At.stays hb)
            clear H5
            have H5 := H5'
            clear H5'
            have BT' := Lib.hid (BT.out.below hb)
            clear BT
            have BT := BT'
            clear BT'
            have HB18 := Lib.hid (below_then HB17.out hb)
            clear hb HB17
            obtain ⟨x0, x1, x2, x3, x4⟩ := BT.out.cells
            obtain ⟨inb, Ein⟩ : ∃ b, holdsF q1 t = b := ⟨_, rfl⟩
            obtain ⟨too, Etoo⟩ : ∃ b, holdsF q2 t = b := ⟨_, rfl⟩
            have D1 := Lib.hid (show ∀ W : World, Tms W (some ⟨bq, oq, none⟩) m1 p1 q1 → Calls Try.prog 16 #[.slice (some ⟨bq, oq, none⟩) m1 p1, .agg #[.int .i64 t.d, .int .i64 t.e, .int .i64 t.a, .int .i64 t.b, .int .i64 t.c]] W (Gives (.bool inb) W) from fun W h1 => by have := holds_any (some ⟨bq, oq, none⟩) m1 p1 q1 t W h1 (by omega); rw [Ein] at this; exact this)
            have D2 := Lib.hid (show ∀ W : World, Tms W Q2 m2 p2 q2 → Calls Try.prog 16 #[.slice Q2 m2 p2, .agg #[.int .i64 t.d, .int .i64 t.e, .int .i64 t.a, .int .i64 t.b, .int .i64 t.c]] W (Gives (.bool too) W) from fun W h1 => by have := holds_any Q2 m2 p2 q2 t W h1 (by omega); rw [Etoo] at this; exact this)
            have D4 := Lib.hid (show ∀ W : World, Tms W Q4 m4 p4 q4 → Calls Try.prog 16 #[.slice Q4 m4 p4, .agg #[.int .i64 t.d, .int .i64 t.e, .int .i64 t.a, .int .i64 t.b, .int .i64 t.c]] W (Gives (.bool (inb && too)) W) from fun W h1 => by have := holds_any Q4 m4 p4 q4 t W h1 (by omega); rw [NN.out.1, Ein, Etoo] at this; exact this)
            have D5 := Lib.hid (show ∀ W : World, Tms W Q5 m5 p5 q5 → Calls Try.prog 16 #[.slice Q5 m5 p5, .agg #[.int .i64 t.d, .int .i64 t.e, .int .i64 t.a, .int .i64 t.b, .int .i64 t.c]] W (Gives (.bool (inb || too)) W) from fun W h1 => by have := holds_any Q5 m5 p5 q5 t W h1 (by omega); rw [NN.out.2.1, Ein, Etoo] at this; exact this)
            have FI := Lib.hid (show xy = true → inb = true → too = true from fun h1 h2 => Etoo.symm.trans (NN.out.2.2 (FX.out h1) (Ein.trans h2)))
            clear Ein Etoo NN FX
            have D1' := Lib.hid (fun p : After w18 => D1.out p.val (H1.out.below At.stays p.below))
            have D2' := Lib.hid (fun p : After w18 => D2.out p.val (H2.out.below At.stays p.below))
            have v0 := fun p : After w18 => cell_after x0 p
            have v1 := fun p : After w18 => cell_after x1 p
            have v2 := fun p : After w18 => cell_after x2 p
            have v3 := fun p : After w18 => cell_after x3 p
            have v4 := fun p : After w18 => cell_after x4 p
            clear x0 x1 x2 x3 x4
            go_wp2_with fail
            refine quiet_after (by kernel_rfl) (by kernel_rfl) ?_
            repeat (first | go_big_quiet_step ((go_at_call 16; first | with_reducible exact calls_after (D1'.out _) | with_reducible exact calls_after (D2'.out _))) | quiet_step ((go_at_call 16; first | with_reducible exact calls_after (D1'.out _) | with_reducible exact calls_after (D2'.out _))))
            refine wpQuiet_nil ?_
            intro wz hw'
            obtain ⟨p, rfl⟩ := hw'
            obtain ⟨w19, hb⟩ := p
            dsimp only
            clear v0 v1 v2 v3 v4 D1' D2' D1 D2
            have H1' := Lib.hid (H1.out.below At.stays hb)
            clear H1
            have H1 := H1'
            clear H1'
            have H2' := Lib.hid (H2.out.below At.stays hb)
            clear H2
            have H2 := H2'
            clear H2'
            have H4' := Lib.hid (H4.out.below At.stays hb)
            clear H4
            have H4 := H4'
            clear H4'
            have H5' := Lib.hid (H5.out.below At.stays hb)
            clear H5
            have H5 := H5'
            clear H5'
            have BT' := Lib.hid (BT.out.below hb)
            clear BT
            have BT := BT'
            clear BT'
            have HB19 := Lib.hid (below_then HB18.out hb)
            clear hb HB18
            obtain ⟨x0, x1, x2, x3, x4⟩ := BT.out.cells
            go_wp2_with fail
            refine (D4.out _ H4.out).mono ?_
            clear x0 x1 x2 x3 x4
            rintro e w20 ⟨rfl, hb⟩
            have H1' := Lib.hid (H1.out.below At.stays hb)
            clear H1
            have H1 := H1'
            clear H1'
            have H2' := Lib.hid (H2.out.below At.stays hb)
            clear H2
            have H2 := H2'
            clear H2'
            have H4' := Lib.hid (H4.out.below At.stays hb)
            clear H4
            have H4 := H4'
            clear H4'
            have H5' := Lib.hid (H5.out.below At.stays hb)
            clear H5
            have H5 := H5'
            clear H5'
            have BT' := Lib.hid (BT.out.below hb)
            clear BT
            have BT := BT'
            clear BT'
            have HB20 := Lib.hid (below_then HB19.out hb)
            clear hb HB19
            obtain ⟨x0, x1, x2, x3, x4⟩ := BT.out.cells
            cases inb with
            | false =>
              go_wp2_with fail
              refine (D5.out _ H5.out).mono ?_
              clear x0 x1 x2 x3 x4
              rintro e w21 ⟨rfl, hb⟩
              have H1' := Lib.hid (H1.out.below At.stays hb)
              clear H1
              have H1 := H1'
              clear H1'
              have H2' := Lib.hid (H2.out.below At.stays hb)
              clear H2
              have H2 := H2'
              clear H2'
              have H4' := Lib.hid (H4.out.below At.stays hb)
              clear H4
              have H4 := H4'
              clear H4'
              have H5' := Lib.hid (H5.out.below At.stays hb)
              clear H5
              have H5 := H5'
              clear H5'
              have BT' := Lib.hid (BT.out.below hb)
              clear BT
              have BT := BT'
              clear BT'
              have HB21 := Lib.hid (below_then HB20.out hb)
              clear hb HB20
              obtain ⟨x0, x1, x2, x3, x4⟩ := BT.out.cells
              cases xy with
              | false =>
                go_wp2_with fail
                refine (works_any _).mono ?_
                clear x0 x1 x2 x3 x4
                rintro e w22 ⟨rfl, hb⟩
                have H1' := Lib.hid (H1.out.below At.stays hb)
                clear H1
                have H1 := H1'
                clear H1'
                have H2' := Lib.hid (H2.out.below At.stays hb)
                clear H2
                have H2 := H2'
                clear H2'
                have H4' := Lib.hid (H4.out.below At.stays hb)
                clear H4
                have H4 := H4'
                clear H4'
                have H5' := Lib.hid (H5.out.below At.stays hb)
                clear H5
                have H5 := H5'
                clear H5'
                have BT' := Lib.hid (BT.out.below hb)
                clear BT
                have BT := BT'
                clear BT'
                have HB22 := Lib.hid (below_then HB21.out hb)
                clear hb HB21
                obtain ⟨x0, x1, x2, x3, x4⟩ := BT.out.cells
                go_wp2_with fail
                go_ret
                exact .bool rfl HB22.out
              | true =>
                go_wp2_with fail
                refine (works_any _).mono ?_
                clear x0 x1 x2 x3 x4
                rintro e w22 ⟨rfl, hb⟩
                have H1' := Lib.hid (H1.out.below At.stays hb)
                clear H1
                have H1 := H1'
                clear H1'
                have H2' := Lib.hid (H2.out.below At.stays hb)
                clear H2
                have H2 := H2'
                clear H2'
                have H4' := Lib.hid (H4.out.below At.stays hb)
                clear H4
                have H4 := H4'
                clear H4'
                have H5' := Lib.hid (H5.out.below At.stays hb)
                clear H5
                have H5 := H5'
                clear H5'
                have BT' := Lib.hid (BT.out.below hb)
                clear BT
                have BT := BT'
                clear BT'
                have HB22 := Lib.hid (below_then HB21.out hb)
                clear hb HB21
                obtain ⟨x0, x1, x2, x3, x4⟩ := BT.out.cells
                go_wp2_with fail
                go_ret
                exact .bool rfl HB22.out
            | true =>
              go_wp2_with fail
              refine (D5.out _ H5.out).mono ?_
              clear x0 x1 x2 x3 x4
              rintro e w21 ⟨rfl, hb⟩
              have H1' := Lib.hid (H1.out.below At.stays hb)
              clear H1
              have H1 := H1'
              clear H1'
              have H2' := Lib.hid (H2.out.below At.stays hb)
              clear H2
              have H2 := H2'
              clear H2'
              have H4' := Lib.hid (H4.out.below At.stays hb)
              clear H4
              have H4 := H4'
              clear H4'
              have H5' := Lib.hid (H5.out.below At.stays hb)
              clear H5
              have H5 := H5'
              clear H5'
              have BT' := Lib.hid (BT.out.below hb)
              clear BT
              have BT := BT'
              clear BT'
              have HB21 := Lib.hid (below_then HB20.out hb)
              clear hb HB20
              obtain ⟨x0, x1, x2, x3, x4⟩ := BT.out.cells
              cases xy with
              | false =>
                go_wp2_with fail
                refine (works_any _).mono ?_
                clear x0 x1 x2 x3 x4
                rintro e w22 ⟨rfl, hb⟩
                have H1' := Lib.hid (H1.out.below At.stays hb)
                clear H1
                have H1 := H1'
                clear H1'
                have H2' := Lib.hid (H2.out.below At.stays hb)
                clear H2
                have H2 := H2'
                clear H2'
                have H4' := Lib.hid (H4.out.below At.stays hb)
                clear H4
                have H4 := H4'
                clear H4'
                have H5' := Lib.hid (H5.out.below At.stays hb)
                clear H5
                have H5 := H5'
                clear H5'
                have BT' := Lib.hid (BT.out.below hb)
                clear BT
                have BT := BT'
                clear BT'
                have HB22 := Lib.hid (below_then HB21.out hb)
                clear hb HB21
                obtain ⟨x0, x1, x2, x3, x4⟩ := BT.out.cells
                go_wp2_with fail
                go_ret
                exact .bool rfl HB22.out
              | true =>
                have hto : too = true := by first | exact FI.out rfl rfl | exact FI.out trivial | simpa using FI.out
                subst hto
                go_wp2_with fail
                refine (works_any _).mono ?_
                clear x0 x1 x2 x3 x4
                rintro e w22 ⟨rfl, hb⟩
                have H1' := Lib.hid (H1.out.below At.stays hb)
                clear H1
                have H1 := H1'
                clear H1'
                have H2' := Lib.hid (H2.out.below At.stays hb)
                clear H2
                have H2 := H2'
                clear H2'
                have H4' := Lib.hid (H4.out.below At.stays hb)
                clear H4
                have H4 := H4'
                clear H4'
                have H5' := Lib.hid (H5.out.below At.stays hb)
                clear H5
                have H5 := H5'
                clear H5'
                have BT' := Lib.hid (BT.out.below hb)
                clear BT
                have BT := BT'
                clear BT'
                have HB22 := Lib.hid (below_then HB21.out hb)
                clear hb HB21
                obtain ⟨x0, x1, x2, x3, x4⟩ := BT.out.cells
                go_wp2_with fail
                go_ret
                exact .bool rfl HB22.out
          · have gd' : (t.d != s0.d) = true := by simpa using gd
            clear gd ON2
            go_wp2_with fail
            refine quiet_after (by kernel_rfl) (by kernel_rfl) ?_
            repeat (first | go_big_quiet_step (fail) | quiet_step (fail))
            refine wpQuiet_nil ?_
            intro wz hw'
            obtain ⟨p, rfl⟩ := hw'
            obtain ⟨w18, hb⟩ := p
            dsimp only
            clear y0 x0'
            have H1' := Lib.hid (H1.out.below At.stays hb)
            clear H1
            have H1 := H1'
            clear H1'
            have H2' := Lib.hid (H2.out.below At.stays hb)
            clear H2
            have H2 := H2'
            clear H2'
            have H4' := Lib.hid (H4.out.below At.stays hb)
            clear H4
            have H4 := H4'
            clear H4'
            have H5' := Lib.hid (H5.out.below At.stays hb)
            clear H5
            have H5 := H5'
            clear H5'
            have BT' := Lib.hid (BT.out.below hb)
            clear BT
            have BT := BT'
            clear BT'
            have HB18 := Lib.hid (below_then HB17.out hb)
            clear hb HB17
            obtain ⟨x0, x1, x2, x3, x4⟩ := BT.out.cells
            go_wp2_with fail
            refine (works_any _).mono ?_
            clear x0 x1 x2 x3 x4
            rintro e w19 ⟨rfl, hb⟩
            have H1' := Lib.hid (H1.out.below At.stays hb)
            clear H1
            have H1 := H1'
            clear H1'
            have H2' := Lib.hid (H2.out.below At.stays hb)
            clear H2
            have H2 := H2'
            clear H2'
            have H4' := Lib.hid (H4.out.below At.stays hb)
            clear H4
            have H4 := H4'
            clear H4'
            have H5' := Lib.hid (H5.out.below At.stays hb)
            clear H5
            have H5 := H5'
            clear H5'
            have BT' := Lib.hid (BT.out.below hb)
            clear BT
            have BT := BT'
            clear BT'
            have HB19 := Lib.hid (below_then HB18.out hb)
            clear hb HB18
            obtain ⟨x0, x1, x2, x3, x4⟩ := BT.out.cells
            go_wp2_with fail
            go_ret
            exact .bool rfl HB19.out
end Go.Proofs.Ytamniepfgddecaa
