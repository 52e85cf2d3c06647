/- The walk of AntichainLattice. -/
import Derived.Test.YtamniepfgddecaaRows
import Derived.Test.YtamniepfgddecaaWords
import Derived.Test.YtamniepfgddecaaByts
import Derived.Test.YtamniepfgddecaaFrame
import Derived.Test.YtamniepfgddecaaElems
import Derived.Test.YtamniepfgddecaaS1
import Derived.Test.YtamniepfgddecaaS2
import Derived.Test.YtamniepfgddecaaS4
import Derived.Test.YtamniepfgddecaaS7
import Derived.Test.YtamniepfgddecaaU1
import Derived.Test.YtamniepfgddecaaU4
import Derived.Test.YtamniepfgddecaaA1
import Derived.Test.YtamniepfgddecaaA2
import Derived.Test.YtamniepfgddecaaA3
import Derived.Test.YtamniepfgddecaaA4
import Derived.Test.YtamniepfgddecaaA5
import Derived.Test.YtamniepfgddecaaB1
import Derived.Test.YtamniepfgddecaaB3
import Derived.Test.YtamniepfgddecaaB4
import Derived.Test.YtamniepfgddecaaB5
import Derived.Test.YtamniepfgddecaaB6
import Derived.Test.YtamniepfgddecaaP1
import Derived.Test.YtamniepfgddecaaP3
import Derived.Test.YtamniepfgddecaaW1
import Derived.Test.YtamniepfgddecaaL0
import Derived.Test.YtamniepfgddecaaL3
namespace Go.Proofs.Ytamniepfgddecaa
open Go Go.RowKit Go.Proofs.Tail Go.Sort
set_option linter.unusedSimpArgs false
set_option linter.unusedVariables false
theorem of_len {us : List T} : ((ofT us).getD []).length ≤ us.length := by
  cases e : ofT us with
  | none => simp
  | some l => have := ofT_length e; simpa using this
theorem Is.again {r : Option (List T)} {q : List T} {m : Nat} {er : Int} (h : Is r q m er) {r' : Option (List T)} (e : r' = Option.some q) : Is r' q m 0 := by subst e; exact ⟨rfl, h.len, rfl, h.le⟩
theorem Is.new {r : Option (List T)} {q : List T} (e : r = Option.some q) {b : Nat} (hb : (r.getD []).length ≤ b) (h : b ≤ 1000000) : ∃ m, Is r q m 0 ∧ m ≤ b := by subst e; exact ⟨q.length, ⟨rfl, rfl, rfl, Nat.le_trans hb h⟩, hb⟩
theorem same_self (B D : Option Addr) (m c c' : Nat) (us : List T) (W : World) (h1 : Tms W B m c us) (h2 : Tms W D m c' us) : Calls Try.prog 13 #[.slice B m c, .slice D m c'] W (Gives (.bool true) W) := by
  have := refsame_any B D m c m c' us us W h1 h2; simpa only [decide_true] using this
set_option maxRecDepth 100000 in
set_option maxHeartbeats 16000000 in
theorem law_lattice_any (A0 A1 A2 : Option Addr) (n0 c0 n1 c1 n2 c2 : Nat) (xs0 xs1 xs2 : List T) (w : World) (hX0 : Tms w A0 n0 c0 xs0) (hX1 : Tms w A1 n1 c1 xs1) (hX2 : Tms w A2 n2 c2 xs2) :
    Calls Try.prog 7 #[.slice A0 n0 c0, .slice A1 n1 c1, .slice A2 n2 c2] w (Gives (.bool true) w) := by
  by_cases h0 : 8 < n0
  · have d0 : decide (8 < (n0 : Int)) = true := decide_eq_true (by omega)
    clear h0 hX0 hX1 hX2
    go_enter Try.func7, Try.ntmps7
    go_wp2_with fail
    refine (works_any _).mono ?_
    rintro e w1 ⟨rfl, hb⟩
    have HB1 := Lib.hid (hb)
    clear hb
    go_wp2_with fail
    go_ret
    exact .bool rfl HB1.out
  have d0 : decide (8 < (n0 : Int)) = false := decide_eq_false (by omega)
  have l0 : n0 ≤ 8 := by omega
  clear h0
  by_cases h1 : 8 < n1
  · have d1 : decide (8 < (n1 : Int)) = true := decide_eq_true (by omega)
    clear h1 hX0 hX1 hX2
    go_enter Try.func7, Try.ntmps7
    go_wp2_with fail
    refine (works_any _).mono ?_
    rintro e w1 ⟨rfl, hb⟩
    have HB1 := Lib.hid (hb)
    clear hb
    go_wp2_with fail
    go_ret
    exact .bool rfl HB1.out
  have d1 : decide (8 < (n1 : Int)) = false := decide_eq_false (by omega)
  have l1 : n1 ≤ 8 := by omega
  clear h1
  by_cases h2 : 8 < n2
  · have d2 : decide (8 < (n2 : Int)) = true := decide_eq_true (by omega)
    clear h2 hX0 hX1 hX2
    go_enter Try.func7, Try.ntmps7
    go_wp2_with fail
    refine (works_any _).mono ?_
    rintro e w1 ⟨rfl, hb⟩
    have HB1 := Lib.hid (hb)
    clear hb
    go_wp2_with fail
    go_ret
    exact .bool rfl HB1.out
  have d2 : decide (8 < (n2 : Int)) = false := decide_eq_false (by omega)
  have l2 : n2 ≤ 8 := by omega
  clear h2
  have HX0 := Lib.hid hX0
  have lx0 := hX0.len
  have HX1 := Lib.hid hX1
  have lx1 := hX1.len
  have HX2 := Lib.hid hX2
  have lx2 := hX2.len
  clear hX0 hX1 hX2
  have bb := (show ((ofT xs0).getD []).length ≤ 8 from Nat.le_trans of_len (by omega))
  obtain ⟨q1, m1, e1, is⟩ := Is.of (ofT xs0) (by omega)
  have k1 : m1 ≤ 8 := by rw [← is.len, ← is.row]; exact bb
  have I1 := Lib.hid is
  have L1 := Lib.hid is.len
  have HE1 := Lib.hid (show e1 = 50 ∨ e1 = 0 ∧ (ofT xs0) = some q1 from by
    cases e : (ofT xs0) with
    | none => rw [e] at is; exact .inl is.none.2.2
    | some l => rw [e] at is; obtain ⟨h, _, h2⟩ := is.some; rw [h]; exact .inr ⟨h2, rfl⟩)
  clear is bb
  have bb := (show ((ofT xs1).getD []).length ≤ 8 from Nat.le_trans of_len (by omega))
  obtain ⟨q2, m2, e2, is⟩ := Is.of (ofT xs1) (by omega)
  have k2 : m2 ≤ 8 := by rw [← is.len, ← is.row]; exact bb
  have I2 := Lib.hid is
  have L2 := Lib.hid is.len
  have HE2 := Lib.hid (show e2 = 50 ∨ e2 = 0 ∧ (ofT xs1) = some q2 from by
    cases e : (ofT xs1) with
    | none => rw [e] at is; exact .inl is.none.2.2
    | some l => rw [e] at is; obtain ⟨h, _, h2⟩ := is.some; rw [h]; exact .inr ⟨h2, rfl⟩)
  clear is bb
  have bb := (show ((ofT xs2).getD []).length ≤ 8 from Nat.le_trans of_len (by omega))
  obtain ⟨q3, m3, e3, is⟩ := Is.of (ofT xs2) (by omega)
  have k3 : m3 ≤ 8 := by rw [← is.len, ← is.row]; exact bb
  have I3 := Lib.hid is
  have L3 := Lib.hid is.len
  have HE3 := Lib.hid (show e3 = 50 ∨ e3 = 0 ∧ (ofT xs2) = some q3 from by
    cases e : (ofT xs2) with
    | none => rw [e] at is; exact .inl is.none.2.2
    | some l => rw [e] at is; obtain ⟨h, _, h2⟩ := is.some; rw [h]; exact .inr ⟨h2, rfl⟩)
  clear is bb
  have j1 := L1.out
  have j2 := L2.out
  have j3 := L3.out
  have bb := (show ((bothF q1 q2).getD []).length ≤ 16 from Nat.le_trans both_len (by omega))
  obtain ⟨q4, m4, e4, is⟩ := Is.of (bothF q1 q2) (by omega)
  have k4 : m4 ≤ 16 := by rw [← is.len, ← is.row]; exact bb
  have I4 := Lib.hid is
  have L4 := Lib.hid is.len
  have HE4 := Lib.hid (show e4 = 50 ∨ e4 = 0 ∧ (bothF q1 q2) = some q4 from by
    cases e : (bothF q1 q2) with
    | none => rw [e] at is; exact .inl is.none.2.2
    | some l => rw [e] at is; obtain ⟨h, _, h2⟩ := is.some; rw [h]; exact .inr ⟨h2, rfl⟩)
  clear is bb
  have bb := (show ((eitherF q2 q3).getD []).length ≤ 64 from Nat.le_trans either_len (Nat.le_trans (Nat.mul_le_mul (show q2.length ≤ 8 by omega) (show q3.length ≤ 8 by omega)) (by omega)))
  obtain ⟨q5, m5, e5, is⟩ := Is.of (eitherF q2 q3) (by omega)
  have k5 : m5 ≤ 64 := by rw [← is.len, ← is.row]; exact bb
  have I5 := Lib.hid is
  have L5 := Lib.hid is.len
  have HE5 := Lib.hid (show e5 = 50 ∨ e5 = 0 ∧ (eitherF q2 q3) = some q5 from by
    cases e : (eitherF q2 q3) with
    | none => rw [e] at is; exact .inl is.none.2.2
    | some l => rw [e] at is; obtain ⟨h, _, h2⟩ := is.some; rw [h]; exact .inr ⟨h2, rfl⟩)
  clear is bb
  have bb := (show ((bothF q1 q3).getD []).length ≤ 16 from Nat.le_trans both_len (by omega))
  obtain ⟨q6, m6, e6, is⟩ := Is.of (bothF q1 q3) (by omega)
  have k6 : m6 ≤ 16 := by rw [← is.len, ← is.row]; exact bb
  have I6 := Lib.hid is
  have L6 := Lib.hid is.len
  have HE6 := Lib.hid (show e6 = 50 ∨ e6 = 0 ∧ (bothF q1 q3) = some q6 from by
    cases e : (bothF q1 q3) with
    | none => rw [e] at is; exact .inl is.none.2.2
    | some l => rw [e] at is; obtain ⟨h, _, h2⟩ := is.some; rw [h]; exact .inr ⟨h2, rfl⟩)
  clear is bb
  clear j1 j2 j3 lx0 lx1 lx2 L4 L5 L6
  go_enter Try.func7, Try.ntmps7
  go_wp2_with fail
  refine ((of_any A0 n0 c0 xs0 _ HX0.out (by omega)).mono fun _ _ => I1.out.gives).mono ?_
  rintro e w1 ⟨Q1, p1, rfl, _, hr, hb⟩
  have H1 := Lib.hid hr
  clear hr
  have HX0' := Lib.hid (HX0.out.below At.stays hb)
  clear HX0
  have HX0 := HX0'
  clear HX0'
  have HX1' := Lib.hid (HX1.out.below At.stays hb)
  clear HX1
  have HX1 := HX1'
  clear HX1'
  have HX2' := Lib.hid (HX2.out.below At.stays hb)
  clear HX2
  have HX2 := HX2'
  clear HX2'
  have HB1 := Lib.hid (hb)
  clear hb
  go_wp2_with fail
  refine ((of_any A1 n1 c1 xs1 _ HX1.out (by omega)).mono fun _ _ => I2.out.gives).mono ?_
  rintro e w2 ⟨Q2, p2, rfl, _, hr, hb⟩
  have H2 := Lib.hid hr
  clear hr
  have HX0' := Lib.hid (HX0.out.below At.stays hb)
  clear HX0
  have HX0 := HX0'
  clear HX0'
  have HX1' := Lib.hid (HX1.out.below At.stays hb)
  clear HX1
  have HX1 := HX1'
  clear HX1'
  have HX2' := Lib.hid (HX2.out.below At.stays hb)
  clear HX2
  have HX2 := HX2'
  clear HX2'
  have H1' := Lib.hid (H1.out.below At.stays hb)
  clear H1
  have H1 := H1'
  clear H1'
  have HB2 := Lib.hid (below_then HB1.out hb)
  clear hb HB1
  go_wp2_with fail
  refine ((of_any A2 n2 c2 xs2 _ HX2.out (by omega)).mono fun _ _ => I3.out.gives).mono ?_
  rintro e w3 ⟨Q3, p3, rfl, _, hr, hb⟩
  have H3 := Lib.hid hr
  clear hr
  have HX0' := Lib.hid (HX0.out.below At.stays hb)
  clear HX0
  have HX0 := HX0'
  clear HX0'
  have HX1' := Lib.hid (HX1.out.below At.stays hb)
  clear HX1
  have HX1 := HX1'
  clear HX1'
  have HX2' := Lib.hid (HX2.out.below At.stays hb)
  clear HX2
  have HX2 := HX2'
  clear HX2'
  have H1' := Lib.hid (H1.out.below At.stays hb)
  clear H1
  have H1 := H1'
  clear H1'
  have H2' := Lib.hid (H2.out.below At.stays hb)
  clear H2
  have H2 := H2'
  clear H2'
  have HB3 := Lib.hid (below_then HB2.out hb)
  clear hb HB2
  go_wp2_with fail
  refine ((both_any Q1 Q2 m1 p1 m2 p2 q1 q2 _ H1.out H2.out (by omega) (by omega)).mono fun _ _ => I4.out.gives).mono ?_
  rintro e w4 ⟨Q4, p4, rfl, _, hr, hb⟩
  have H4 := Lib.hid hr
  clear hr
  have HX0' := Lib.hid (HX0.out.below At.stays hb)
  clear HX0
  have HX0 := HX0'
  clear HX0'
  have HX1' := Lib.hid (HX1.out.below At.stays hb)
  clear HX1
  have HX1 := HX1'
  clear HX1'
  have HX2' := Lib.hid (HX2.out.below At.stays hb)
  clear HX2
  have HX2 := HX2'
  clear HX2'
  have H1' := Lib.hid (H1.out.below At.stays hb)
  clear H1
  have H1 := H1'
  clear H1'
  have H2' := Lib.hid (H2.out.below At.stays hb)
  clear H2
  have H2 := H2'
  clear H2'
  have H3' := Lib.hid (H3.out.below At.stays hb)
  clear H3
  have H3 := H3'
  clear H3'
  have HB4 := Lib.hid (below_then HB3.out hb)
  clear hb HB3
  go_wp2_with fail
  refine ((either_any Q2 Q3 m2 p2 m3 p3 q2 q3 _ H2.out H3.out (by omega) (by omega)).mono fun _ _ => I5.out.gives).mono ?_
  rintro e w5 ⟨Q5, p5, rfl, _, hr, hb⟩
  have H5 := Lib.hid hr
  clear hr
  have HX0' := Lib.hid (HX0.out.below At.stays hb)
  clear HX0
  have HX0 := HX0'
  clear HX0'
  have HX1' := Lib.hid (HX1.out.below At.stays hb)
  clear HX1
  have HX1 := HX1'
  clear HX1'
  have HX2' := Lib.hid (HX2.out.below At.stays hb)
  clear HX2
  have HX2 := HX2'
  clear HX2'
  have H1' := Lib.hid (H1.out.below At.stays hb)
  clear H1
  have H1 := H1'
  clear H1'
  have H2' := Lib.hid (H2.out.below At.stays hb)
  clear H2
  have H2 := H2'
  clear H2'
  have H3' := Lib.hid (H3.out.below At.stays hb)
  clear H3
  have H3 := H3'
  clear H3'
  have H4' := Lib.hid (H4.out.below At.stays hb)
  clear H4
  have H4 := H4'
  clear H4'
  have HB5 := Lib.hid (below_then HB4.out hb)
  clear hb HB4
  go_wp2_with fail
  refine ((both_any Q1 Q3 m1 p1 m3 p3 q1 q3 _ H1.out H3.out (by omega) (by omega)).mono fun _ _ => I6.out.gives).mono ?_
  rintro e w6 ⟨Q6, p6, rfl, _, hr, hb⟩
  have H6 := Lib.hid hr
  clear hr
  have HX0' := Lib.hid (HX0.out.below At.stays hb)
  clear HX0
  have HX0 := HX0'
  clear HX0'
  have HX1' := Lib.hid (HX1.out.below At.stays hb)
  clear HX1
  have HX1 := HX1'
  clear HX1'
  have HX2' := Lib.hid (HX2.out.below At.stays hb)
  clear HX2
  have HX2 := HX2'
  clear HX2'
  have H1' := Lib.hid (H1.out.below At.stays hb)
  clear H1
  have H1 := H1'
  clear H1'
  have H2' := Lib.hid (H2.out.below At.stays hb)
  clear H2
  have H2 := H2'
  clear H2'
  have H3' := Lib.hid (H3.out.below At.stays hb)
  clear H3
  have H3 := H3'
  clear H3'
  have H4' := Lib.hid (H4.out.below At.stays hb)
  clear H4
  have H4 := H4'
  clear H4'
  have H5' := Lib.hid (H5.out.below At.stays hb)
  clear H5
  have H5 := H5'
  clear H5'
  have HB6 := Lib.hid (below_then HB5.out hb)
  clear hb HB5
  rcases HE1.out with h | ⟨h, hx⟩
  · subst h
    go_wp2_with fail
    refine (works_any _).mono ?_
    rintro e w7 ⟨rfl, hb⟩
    have HX0' := Lib.hid (HX0.out.below At.stays hb)
    clear HX0
    have HX0 := HX0'
    clear HX0'
    have HX1' := Lib.hid (HX1.out.below At.stays hb)
    clear HX1
    have HX1 := HX1'
    clear HX1'
    have HX2' := Lib.hid (HX2.out.below At.stays hb)
    clear HX2
    have HX2 := HX2'
    clear HX2'
    have H1' := Lib.hid (H1.out.below At.stays hb)
    clear H1
    have H1 := H1'
    clear H1'
    have H2' := Lib.hid (H2.out.below At.stays hb)
    clear H2
    have H2 := H2'
    clear H2'
    have H3' := Lib.hid (H3.out.below At.stays hb)
    clear H3
    have H3 := H3'
    clear H3'
    have H4' := Lib.hid (H4.out.below At.stays hb)
    clear H4
    have H4 := H4'
    clear H4'
    have H5' := Lib.hid (H5.out.below At.stays hb)
    clear H5
    have H5 := H5'
    clear H5'
    have H6' := Lib.hid (H6.out.below At.stays hb)
    clear H6
    have H6 := H6'
    clear H6'
    have HB7 := Lib.hid (below_then HB6.out hb)
    clear hb HB6
    go_wp2_with fail
    go_ret
    exact .bool rfl HB7.out
  subst h
  rcases HE2.out with h | ⟨h, hy⟩
  · subst h
    clear hx
    go_wp2_with fail
    refine (works_any _).mono ?_
    rintro e w7 ⟨rfl, hb⟩
    have HX0' := Lib.hid (HX0.out.below At.stays hb)
    clear HX0
    have HX0 := HX0'
    clear HX0'
    have HX1' := Lib.hid (HX1.out.below At.stays hb)
    clear HX1
    have HX1 := HX1'
    clear HX1'
    have HX2' := Lib.hid (HX2.out.below At.stays hb)
    clear HX2
    have HX2 := HX2'
    clear HX2'
    have H1' := Lib.hid (H1.out.below At.stays hb)
    clear H1
    have H1 := H1'
    clear H1'
    have H2' := Lib.hid (H2.out.below At.stays hb)
    clear H2
    have H2 := H2'
    clear H2'
    have H3' := Lib.hid (H3.out.below At.stays hb)
    clear H3
    have H3 := H3'
    clear H3'
    have H4' := Lib.hid (H4.out.below At.stays hb)
    clear H4
    have H4 := H4'
    clear H4'
    have H5' := Lib.hid (H5.out.below At.stays hb)
    clear H5
    have H5 := H5'
    clear H5'
    have H6' := Lib.hid (H6.out.below At.stays hb)
    clear H6
    have H6 := H6'
    clear H6'
    have HB7 := Lib.hid (below_then HB6.out hb)
    clear hb HB6
    go_wp2_with fail
    go_ret
    exact .bool rfl HB7.out
  subst h
  rcases HE3.out with h | ⟨h, hz⟩
  · subst h
    clear hx hy
    go_wp2_with fail
    refine (works_any _).mono ?_
    rintro e w7 ⟨rfl, hb⟩
    have HX0' := Lib.hid (HX0.out.below At.stays hb)
    clear HX0
    have HX0 := HX0'
    clear HX0'
    have HX1' := Lib.hid (HX1.out.below At.stays hb)
    clear HX1
    have HX1 := HX1'
    clear HX1'
    have HX2' := Lib.hid (HX2.out.below At.stays hb)
    clear HX2
    have HX2 := HX2'
    clear HX2'
    have H1' := Lib.hid (H1.out.below At.stays hb)
    clear H1
    have H1 := H1'
    clear H1'
    have H2' := Lib.hid (H2.out.below At.stays hb)
    clear H2
    have H2 := H2'
    clear H2'
    have H3' := Lib.hid (H3.out.below At.stays hb)
    clear H3
    have H3 := H3'
    clear H3'
    have H4' := Lib.hid (H4.out.below At.stays hb)
    clear H4
    have H4 := H4'
    clear H4'
    have H5' := Lib.hid (H5.out.below At.stays hb)
    clear H5
    have H5 := H5'
    clear H5'
    have H6' := Lib.hid (H6.out.below At.stays hb)
    clear H6
    have H6 := H6'
    clear H6'
    have HB7 := Lib.hid (below_then HB6.out hb)
    clear hb HB6
    go_wp2_with fail
    go_ret
    exact .bool rfl HB7.out
  subst h
  rcases HE4.out with h | ⟨h, hp⟩
  · subst h
    clear hx hy hz
    go_wp2_with fail
    refine (works_any _).mono ?_
    rintro e w7 ⟨rfl, hb⟩
    have HX0' := Lib.hid (HX0.out.below At.stays hb)
    clear HX0
    have HX0 := HX0'
    clear HX0'
    have HX1' := Lib.hid (HX1.out.below At.stays hb)
    clear HX1
    have HX1 := HX1'
    clear HX1'
    have HX2' := Lib.hid (HX2.out.below At.stays hb)
    clear HX2
    have HX2 := HX2'
    clear HX2'
    have H1' := Lib.hid (H1.out.below At.stays hb)
    clear H1
    have H1 := H1'
    clear H1'
    have H2' := Lib.hid (H2.out.below At.stays hb)
    clear H2
    have H2 := H2'
    clear H2'
    have H3' := Lib.hid (H3.out.below At.stays hb)
    clear H3
    have H3 := H3'
    clear H3'
    have H4' := Lib.hid (H4.out.below At.stays hb)
    clear H4
    have H4 := H4'
    clear H4'
    have H5' := Lib.hid (H5.out.below At.stays hb)
    clear H5
    have H5 := H5'
    clear H5'
    have H6' := Lib.hid (H6.out.below At.stays hb)
    clear H6
    have H6 := H6'
    clear H6'
    have HB7 := Lib.hid (below_then HB6.out hb)
    clear hb HB6
    go_wp2_with fail
    go_ret
    exact .bool rfl HB7.out
  subst h
  rcases HE5.out with h | ⟨h, h1⟩
  · subst h
    clear hx hy hz hp
    go_wp2_with fail
    refine (works_any _).mono ?_
    rintro e w7 ⟨rfl, hb⟩
    have HX0' := Lib.hid (HX0.out.below At.stays hb)
    clear HX0
    have HX0 := HX0'
    clear HX0'
    have HX1' := Lib.hid (HX1.out.below At.stays hb)
    clear HX1
    have HX1 := HX1'
    clear HX1'
    have HX2' := Lib.hid (HX2.out.below At.stays hb)
    clear HX2
    have HX2 := HX2'
    clear HX2'
    have H1' := Lib.hid (H1.out.below At.stays hb)
    clear H1
    have H1 := H1'
    clear H1'
    have H2' := Lib.hid (H2.out.below At.stays hb)
    clear H2
    have H2 := H2'
    clear H2'
    have H3' := Lib.hid (H3.out.below At.stays hb)
    clear H3
    have H3 := H3'
    clear H3'
    have H4' := Lib.hid (H4.out.below At.stays hb)
    clear H4
    have H4 := H4'
    clear H4'
    have H5' := Lib.hid (H5.out.below At.stays hb)
    clear H5
    have H5 := H5'
    clear H5'
    have H6' := Lib.hid (H6.out.below At.stays hb)
    clear H6
    have H6 := H6'
    clear H6'
    have HB7 := Lib.hid (below_then HB6.out hb)
    clear hb HB6
    go_wp2_with fail
    go_ret
    exact .bool rfl HB7.out
  subst h
  rcases HE6.out with h | ⟨h, h2⟩
  · subst h
    clear hx hy hz hp h1
    go_wp2_with fail
    refine (works_any _).mono ?_
    rintro e w7 ⟨rfl, hb⟩
    have HX0' := Lib.hid (HX0.out.below At.stays hb)
    clear HX0
    have HX0 := HX0'
    clear HX0'
    have HX1' := Lib.hid (HX1.out.below At.stays hb)
    clear HX1
    have HX1 := HX1'
    clear HX1'
    have HX2' := Lib.hid (HX2.out.below At.stays hb)
    clear HX2
    have HX2 := HX2'
    clear HX2'
    have H1' := Lib.hid (H1.out.below At.stays hb)
    clear H1
    have H1 := H1'
    clear H1'
    have H2' := Lib.hid (H2.out.below At.stays hb)
    clear H2
    have H2 := H2'
    clear H2'
    have H3' := Lib.hid (H3.out.below At.stays hb)
    clear H3
    have H3 := H3'
    clear H3'
    have H4' := Lib.hid (H4.out.below At.stays hb)
    clear H4
    have H4 := H4'
    clear H4'
    have H5' := Lib.hid (H5.out.below At.stays hb)
    clear H5
    have H5 := H5'
    clear H5'
    have H6' := Lib.hid (H6.out.below At.stays hb)
    clear H6
    have H6 := H6'
    clear H6'
    have HB7 := Lib.hid (below_then HB6.out hb)
    clear hb HB6
    go_wp2_with fail
    go_ret
    exact .bool rfl HB7.out
  subst h
  have hxy := both_some hp
  have hyz := either_some h1
  have hxz := both_some h2
  obtain ⟨q7, ho, _⟩ := either_good hxy
  obtain ⟨g1, g2, q8, g3, g4⟩ := law_lattice hxy hxz hyz hp ho h1 h2
  have i1 := L1.out
  have i2 := L2.out
  obtain ⟨m7, is7, k7⟩ := Is.new ho (Nat.le_trans either_len (Nat.le_trans (Nat.mul_le_mul (show q1.length ≤ 8 by omega) (show q2.length ≤ 8 by omega)) (show 8 * 8 ≤ 64 by omega))) (by omega)
  have i5 := I5.out.len
  obtain ⟨m8, is8, k8⟩ := Is.new g3 (Nat.le_trans both_len (show q1.length + q5.length ≤ 72 by omega)) (by omega)
  have J4 := Lib.hid (I4.out.again (both_comm.trans hp))
  have J7 := Lib.hid is7
  have J7' := Lib.hid (is7.again (either_comm.trans ho))
  have J1 := Lib.hid (I1.out.again g1)
  have J1' := Lib.hid (I1.out.again g2)
  have J8 := Lib.hid is8
  have J8' := Lib.hid (is8.again g4)
  clear hx hy hz hp h1 h2 hxy hyz hxz ho g1 g2 g3 g4 i1 i2 i5 is7 is8 HE1 HE2 HE3 HE4 HE5 HE6 I1 I2 I3 I4 I5 I6 L1 L2 L3
  go_wp2_with fail
  refine ((both_any Q2 Q1 m2 p2 m1 p1 q2 q1 _ H2.out H1.out (by omega) (by omega)).mono fun _ _ => J4.out.gives).mono ?_
  rintro e w7 ⟨R4, r4, rfl, _, hr, hb⟩
  have K4 := Lib.hid hr
  clear hr
  have HX0' := Lib.hid (HX0.out.below At.stays hb)
  clear HX0
  have HX0 := HX0'
  clear HX0'
  have HX1' := Lib.hid (HX1.out.below At.stays hb)
  clear HX1
  have HX1 := HX1'
  clear HX1'
  have HX2' := Lib.hid (HX2.out.below At.stays hb)
  clear HX2
  have HX2 := HX2'
  clear HX2'
  have H1' := Lib.hid (H1.out.below At.stays hb)
  clear H1
  have H1 := H1'
  clear H1'
  have H2' := Lib.hid (H2.out.below At.stays hb)
  clear H2
  have H2 := H2'
  clear H2'
  have H3' := Lib.hid (H3.out.below At.stays hb)
  clear H3
  have H3 := H3'
  clear H3'
  have H4' := Lib.hid (H4.out.below At.stays hb)
  clear H4
  have H4 := H4'
  clear H4'
  have H5' := Lib.hid (H5.out.below At.stays hb)
  clear H5
  have H5 := H5'
  clear H5'
  have H6' := Lib.hid (H6.out.below At.stays hb)
  clear H6
  have H6 := H6'
  clear H6'
  have HB7 := Lib.hid (below_then HB6.out hb)
  clear hb HB6
  go_wp2_with fail
  refine ((either_any Q1 Q2 m1 p1 m2 p2 q1 q2 _ H1.out H2.out (by omega) (by omega)).mono fun _ _ => J7.out.gives).mono ?_
  rintro e w8 ⟨R7, r7, rfl, _, hr, hb⟩
  have K7 := Lib.hid hr
  clear hr
  have HX0' := Lib.hid (HX0.out.below At.stays hb)
  clear HX0
  have HX0 := HX0'
  clear HX0'
  have HX1' := Lib.hid (HX1.out.below At.stays hb)
  clear HX1
  have HX1 := HX1'
  clear HX1'
  have HX2' := Lib.hid (HX2.out.below At.stays hb)
  clear HX2
  have HX2 := HX2'
  clear HX2'
  have H1' := Lib.hid (H1.out.below At.stays hb)
  clear H1
  have H1 := H1'
  clear H1'
  have H2' := Lib.hid (H2.out.below At.stays hb)
  clear H2
  have H2 := H2'
  clear H2'
  have H3' := Lib.hid (H3.out.below At.stays hb)
  clear H3
  have H3 := H3'
  clear H3'
  have H4' := Lib.hid (H4.out.below At.stays hb)
  clear H4
  have H4 := H4'
  clear H4'
  have H5' := Lib.hid (H5.out.below At.stays hb)
  clear H5
  have H5 := H5'
  clear H5'
  have H6' := Lib.hid (H6.out.below At.stays hb)
  clear H6
  have H6 := H6'
  clear H6'
  have K4' := Lib.hid (K4.out.below At.stays hb)
  clear K4
  have K4 := K4'
  clear K4'
  have HB8 := Lib.hid (below_then HB7.out hb)
  clear hb HB7
  go_wp2_with fail
  refine ((either_any Q2 Q1 m2 p2 m1 p1 q2 q1 _ H2.out H1.out (by omega) (by omega)).mono fun _ _ => J7'.out.gives).mono ?_
  rintro e w9 ⟨R7b, r7b, rfl, _, hr, hb⟩
  have K7b := Lib.hid hr
  clear hr
  have HX0' := Lib.hid (HX0.out.below At.stays hb)
  clear HX0
  have HX0 := HX0'
  clear HX0'
  have HX1' := Lib.hid (HX1.out.below At.stays hb)
  clear HX1
  have HX1 := HX1'
  clear HX1'
  have HX2' := Lib.hid (HX2.out.below At.stays hb)
  clear HX2
  have HX2 := HX2'
  clear HX2'
  have H1' := Lib.hid (H1.out.below At.stays hb)
  clear H1
  have H1 := H1'
  clear H1'
  have H2' := Lib.hid (H2.out.below At.stays hb)
  clear H2
  have H2 := H2'
  clear H2'
  have H3' := Lib.hid (H3.out.below At.stays hb)
  clear H3
  have H3 := H3'
  clear H3'
  have H4' := Lib.hid (H4.out.below At.stays hb)
  clear H4
  have H4 := H4'
  clear H4'
  have H5' := Lib.hid (H5.out.below At.stays hb)
  clear H5
  have H5 := H5'
  clear H5'
  have H6' := Lib.hid (H6.out.below At.stays hb)
  clear H6
  have H6 := H6'
  clear H6'
  have K4' := Lib.hid (K4.out.below At.stays hb)
  clear K4
  have K4 := K4'
  clear K4'
  have K7' := Lib.hid (K7.out.below At.stays hb)
  clear K7
  have K7 := K7'
  clear K7'
  have HB9 := Lib.hid (below_then HB8.out hb)
  clear hb HB8
  go_wp2_with fail
  refine (same_self Q4 R4 m4 p4 r4 q4 _ H4.out K4.out).mono ?_
  rintro e w10 ⟨rfl, hb⟩
  have HX0' := Lib.hid (HX0.out.below At.stays hb)
  clear HX0
  have HX0 := HX0'
  clear HX0'
  have HX1' := Lib.hid (HX1.out.below At.stays hb)
  clear HX1
  have HX1 := HX1'
  clear HX1'
  have HX2' := Lib.hid (HX2.out.below At.stays hb)
  clear HX2
  have HX2 := HX2'
  clear HX2'
  have H1' := Lib.hid (H1.out.below At.stays hb)
  clear H1
  have H1 := H1'
  clear H1'
  have H2' := Lib.hid (H2.out.below At.stays hb)
  clear H2
  have H2 := H2'
  clear H2'
  have H3' := Lib.hid (H3.out.below At.stays hb)
  clear H3
  have H3 := H3'
  clear H3'
  have H4' := Lib.hid (H4.out.below At.stays hb)
  clear H4
  have H4 := H4'
  clear H4'
  have H5' := Lib.hid (H5.out.below At.stays hb)
  clear H5
  have H5 := H5'
  clear H5'
  have H6' := Lib.hid (H6.out.below At.stays hb)
  clear H6
  have H6 := H6'
  clear H6'
  have K4' := Lib.hid (K4.out.below At.stays hb)
  clear K4
  have K4 := K4'
  clear K4'
  have K7' := Lib.hid (K7.out.below At.stays hb)
  clear K7
  have K7 := K7'
  clear K7'
  have K7b' := Lib.hid (K7b.out.below At.stays hb)
  clear K7b
  have K7b := K7b'
  clear K7b'
  have HB10 := Lib.hid (below_then HB9.out hb)
  clear hb HB9
  go_wp2_with fail
  refine (same_self R7 R7b m7 r7 r7b q7 _ K7.out K7b.out).mono ?_
  rintro e w11 ⟨rfl, hb⟩
  have HX0' := Lib.hid (HX0.out.below At.stays hb)
  clear HX0
  have HX0 := HX0'
  clear HX0'
  have HX1' := Lib.hid (HX1.out.below At.stays hb)
  clear HX1
  have HX1 := HX1'
  clear HX1'
  have HX2' := Lib.hid (HX2.out.below At.stays hb)
  clear HX2
  have HX2 := HX2'
  clear HX2'
  have H1' := Lib.hid (H1.out.below At.stays hb)
  clear H1
  have H1 := H1'
  clear H1'
  have H2' := Lib.hid (H2.out.below At.stays hb)
  clear H2
  have H2 := H2'
  clear H2'
  have H3' := Lib.hid (H3.out.below At.stays hb)
  clear H3
  have H3 := H3'
  clear H3'
  have H4' := Lib.hid (H4.out.below At.stays hb)
  clear H4
  have H4 := H4'
  clear H4'
  have H5' := Lib.hid (H5.out.below At.stays hb)
  clear H5
  have H5 := H5'
  clear H5'
  have H6' := Lib.hid (H6.out.below At.stays hb)
  clear H6
  have H6 := H6'
  clear H6'
  have K4' := Lib.hid (K4.out.below At.stays hb)
  clear K4
  have K4 := K4'
  clear K4'
  have K7' := Lib.hid (K7.out.below At.stays hb)
  clear K7
  have K7 := K7'
  clear K7'
  have K7b' := Lib.hid (K7b.out.below At.stays hb)
  clear K7b
  have K7b := K7b'
  clear K7b'
  have HB11 := Lib.hid (below_then HB10.out hb)
  clear hb HB10
  go_wp2_with fail
  refine ((both_any Q1 R7 m1 p1 m7 r7 q1 q7 _ H1.out K7.out (by omega) (by omega)).mono fun _ _ => J1.out.gives).mono ?_
  rintro e w12 ⟨R1, r1, rfl, _, hr, hb⟩
  have K1 := Lib.hid hr
  clear hr
  have HX0' := Lib.hid (HX0.out.below At.stays hb)
  clear HX0
  have HX0 := HX0'
  clear HX0'
  have HX1' := Lib.hid (HX1.out.below At.stays hb)
  clear HX1
  have HX1 := HX1'
  clear HX1'
  have HX2' := Lib.hid (HX2.out.below At.stays hb)
  clear HX2
  have HX2 := HX2'
  clear HX2'
  have H1' := Lib.hid (H1.out.below At.stays hb)
  clear H1
  have H1 := H1'
  clear H1'
  have H2' := Lib.hid (H2.out.below At.stays hb)
  clear H2
  have H2 := H2'
  clear H2'
  have H3' := Lib.hid (H3.out.below At.stays hb)
  clear H3
  have H3 := H3'
  clear H3'
  have H4' := Lib.hid (H4.out.below At.stays hb)
  clear H4
  have H4 := H4'
  clear H4'
  have H5' := Lib.hid (H5.out.below At.stays hb)
  clear H5
  have H5 := H5'
  clear H5'
  have H6' := Lib.hid (H6.out.below At.stays hb)
  clear H6
  have H6 := H6'
  clear H6'
  have K4' := Lib.hid (K4.out.below At.stays hb)
  clear K4
  have K4 := K4'
  clear K4'
  have K7' := Lib.hid (K7.out.below At.stays hb)
  clear K7
  have K7 := K7'
  clear K7'
  have K7b' := Lib.hid (K7b.out.below At.stays hb)
  clear K7b
  have K7b := K7b'
  clear K7b'
  have HB12 := Lib.hid (below_then HB11.out hb)
  clear hb HB11
  go_wp2_with fail
  refine ((either_any Q1 Q4 m1 p1 m4 p4 q1 q4 _ H1.out H4.out (by omega) (by omega)).mono fun _ _ => J1'.out.gives).mono ?_
  rintro e w13 ⟨R1b, r1b, rfl, _, hr, hb⟩
  have K1b := Lib.hid hr
  clear hr
  have HX0' := Lib.hid (HX0.out.below At.stays hb)
  clear HX0
  have HX0 := HX0'
  clear HX0'
  have HX1' := Lib.hid (HX1.out.below At.stays hb)
  clear HX1
  have HX1 := HX1'
  clear HX1'
  have HX2' := Lib.hid (HX2.out.below At.stays hb)
  clear HX2
  have HX2 := HX2'
  clear HX2'
  have H1' := Lib.hid (H1.out.below At.stays hb)
  clear H1
  have H1 := H1'
  clear H1'
  have H2' := Lib.hid (H2.out.below At.stays hb)
  clear H2
  have H2 := H2'
  clear H2'
  have H3' := Lib.hid (H3.out.below At.stays hb)
  clear H3
  have H3 := H3'
  clear H3'
  have H4' := Lib.hid (H4.out.below At.stays hb)
  clear H4
  have H4 := H4'
  clear H4'
  have H5' := Lib.hid (H5.out.below At.stays hb)
  clear H5
  have H5 := H5'
  clear H5'
  have H6' := Lib.hid (H6.out.below At.stays hb)
  clear H6
  have H6 := H6'
  clear H6'
  have K4' := Lib.hid (K4.out.below At.stays hb)
  clear K4
  have K4 := K4'
  clear K4'
  have K7' := Lib.hid (K7.out.below At.stays hb)
  clear K7
  have K7 := K7'
  clear K7'
  have K7b' := Lib.hid (K7b.out.below At.stays hb)
  clear K7b
  have K7b := K7b'
  clear K7b'
  have K1' := Lib.hid (K1.out.below At.stays hb)
  clear K1
  have K1 := K1'
  clear K1'
  have HB13 := Lib.hid (below_then HB12.out hb)
  clear hb HB12
  go_wp2_with fail
  refine ((both_any Q1 Q5 m1 p1 m5 p5 q1 q5 _ H1.out H5.out (by omega) (by omega)).mono fun _ _ => J8.out.gives).mono ?_
  rintro e w14 ⟨R8, r8, rfl, _, hr, hb⟩
  have K8 := Lib.hid hr
  clear hr
  have HX0' := Lib.hid (HX0.out.below At.stays hb)
  clear HX0
  have HX0 := HX0'
  clear HX0'
  have HX1' := Lib.hid (HX1.out.below At.stays hb)
  clear HX1
  have HX1 := HX1'
  clear HX1'
  have HX2' := Lib.hid (HX2.out.below At.stays hb)
  clear HX2
  have HX2 := HX2'
  clear HX2'
  have H1' := Lib.hid (H1.out.below At.stays hb)
  clear H1
  have H1 := H1'
  clear H1'
  have H2' := Lib.hid (H2.out.below At.stays hb)
  clear H2
  have H2 := H2'
  clear H2'
  have H3' := Lib.hid (H3.out.below At.stays hb)
  clear H3
  have H3 := H3'
  clear H3'
  have H4' := Lib.hid (H4.out.below At.stays hb)
  clear H4
  have H4 := H4'
  clear H4'
  have H5' := Lib.hid (H5.out.below At.stays hb)
  clear H5
  have H5 := H5'
  clear H5'
  have H6' := Lib.hid (H6.out.below At.stays hb)
  clear H6
  have H6 := H6'
  clear H6'
  have K4' := Lib.hid (K4.out.below At.stays hb)
  clear K4
  have K4 := K4'
  clear K4'
  have K7' := Lib.hid (K7.out.below At.stays hb)
  clear K7
  have K7 := K7'
  clear K7'
  have K7b' := Lib.hid (K7b.out.below At.stays hb)
  clear K7b
  have K7b := K7b'
  clear K7b'
  have K1' := Lib.hid (K1.out.below At.stays hb)
  clear K1
  have K1 := K1'
  clear K1'
  have K1b' := Lib.hid (K1b.out.below At.stays hb)
  clear K1b
  have K1b := K1b'
  clear K1b'
  have HB14 := Lib.hid (below_then HB13.out hb)
  clear hb HB13
  go_wp2_with fail
  refine ((either_any Q4 Q6 m4 p4 m6 p6 q4 q6 _ H4.out H6.out (by omega) (by omega)).mono fun _ _ => J8'.out.gives).mono ?_
  rintro e w15 ⟨R8b, r8b, rfl, _, hr, hb⟩
  have K8b := Lib.hid hr
  clear hr
  have HX0' := Lib.hid (HX0.out.below At.stays hb)
  clear HX0
  have HX0 := HX0'
  clear HX0'
  have HX1' := Lib.hid (HX1.out.below At.stays hb)
  clear HX1
  have HX1 := HX1'
  clear HX1'
  have HX2' := Lib.hid (HX2.out.below At.stays hb)
  clear HX2
  have HX2 := HX2'
  clear HX2'
  have H1' := Lib.hid (H1.out.below At.stays hb)
  clear H1
  have H1 := H1'
  clear H1'
  have H2' := Lib.hid (H2.out.below At.stays hb)
  clear H2
  have H2 := H2'
  clear H2'
  have H3' := Lib.hid (H3.out.below At.stays hb)
  clear H3
  have H3 := H3'
  clear H3'
  have H4' := Lib.hid (H4.out.below At.stays hb)
  clear H4
  have H4 := H4'
  clear H4'
  have H5' := Lib.hid (H5.out.below At.stays hb)
  clear H5
  have H5 := H5'
  clear H5'
  have H6' := Lib.hid (H6.out.below At.stays hb)
  clear H6
  have H6 := H6'
  clear H6'
  have K4' := Lib.hid (K4.out.below At.stays hb)
  clear K4
  have K4 := K4'
  clear K4'
  have K7' := Lib.hid (K7.out.below At.stays hb)
  clear K7
  have K7 := K7'
  clear K7'
  have K7b' := Lib.hid (K7b.out.below At.stays hb)
  clear K7b
  have K7b := K7b'
  clear K7b'
  have K1' := Lib.hid (K1.out.below At.stays hb)
  clear K1
  have K1 := K1'
  clear K1'
  have K1b' := Lib.hid (K1b.out.below At.stays hb)
  clear K1b
  have K1b := K1b'
  clear K1b'
  have K8' := Lib.hid (K8.out.below At.stays hb)
  clear K8
  have K8 := K8'
  clear K8'
  have HB15 := Lib.hid (below_then HB14.out hb)
  clear hb HB14
  go_wp2_with fail
  refine (same_self R1 Q1 m1 r1 p1 q1 _ K1.out H1.out).mono ?_
  rintro e w16 ⟨rfl, hb⟩
  have HX0' := Lib.hid (HX0.out.below At.stays hb)
  clear HX0
  have HX0 := HX0'
  clear HX0'
  have HX1' := Lib.hid (HX1.out.below At.stays hb)
  clear HX1
  have HX1 := HX1'
  clear HX1'
  have HX2' := Lib.hid (HX2.out.below At.stays hb)
  clear HX2
  have HX2 := HX2'
  clear HX2'
  have H1' := Lib.hid (H1.out.below At.stays hb)
  clear H1
  have H1 := H1'
  clear H1'
  have H2' := Lib.hid (H2.out.below At.stays hb)
  clear H2
  have H2 := H2'
  clear H2'
  have H3' := Lib.hid (H3.out.below At.stays hb)
  clear H3
  have H3 := H3'
  clear H3'
  have H4' := Lib.hid (H4.out.below At.stays hb)
  clear H4
  have H4 := H4'
  clear H4'
  have H5' := Lib.hid (H5.out.below At.stays hb)
  clear H5
  have H5 := H5'
  clear H5'
  have H6' := Lib.hid (H6.out.below At.stays hb)
  clear H6
  have H6 := H6'
  clear H6'
  have K4' := Lib.hid (K4.out.below At.stays hb)
  clear K4
  have K4 := K4'
  clear K4'
  have K7' := Lib.hid (K7.out.below At.stays hb)
  clear K7
  have K7 := K7'
  clear K7'
  have K7b' := Lib.hid (K7b.out.below At.stays hb)
  clear K7b
  have K7b := K7b'
  clear K7b'
  have K1' := Lib.hid (K1.out.below At.stays hb)
  clear K1
  have K1 := K1'
  clear K1'
  have K1b' := Lib.hid (K1b.out.below At.stays hb)
  clear K1b
  have K1b := K1b'
  clear K1b'
  have K8' := Lib.hid (K8.out.below At.stays hb)
  clear K8
  have K8 := K8'
  clear K8'
  have K8b' := Lib.hid (K8b.out.below At.stays hb)
  clear K8b
  have K8b := K8b'
  clear K8b'
  have HB16 := Lib.hid (below_then HB15.out hb)
  clear hb HB15
  go_wp2_with fail
  refine (same_self R1b Q1 m1 r1b p1 q1 _ K1b.out H1.out).mono ?_
  rintro e w17 ⟨rfl, hb⟩
  have HX0' := Lib.hid (HX0.out.below At.stays hb)
  clear HX0
  have HX0 := HX0'
  clear HX0'
  have HX1' := Lib.hid (HX1.out.below At.stays hb)
  clear HX1
  have HX1 := HX1'
  clear HX1'
  have HX2' := Lib.hid (HX2.out.below At.stays hb)
  clear HX2
  have HX2 := HX2'
  clear HX2'
  have H1' := Lib.hid (H1.out.below At.stays hb)
  clear H1
  have H1 := H1'
  clear H1'
  have H2' := Lib.hid (H2.out.below At.stays hb)
  clear H2
  have H2 := H2'
  clear H2'
  have H3' := Lib.hid (H3.out.below At.stays hb)
  clear H3
  have H3 := H3'
  clear H3'
  have H4' := Lib.hid (H4.out.below At.stays hb)
  clear H4
  have H4 := H4'
  clear H4'
  have H5' := Lib.hid (H5.out.below At.stays hb)
  clear H5
  have H5 := H5'
  clear H5'
  have H6' := Lib.hid (H6.out.below At.stays hb)
  clear H6
  have H6 := H6'
  clear H6'
  have K4' := Lib.hid (K4.out.below At.stays hb)
  clear K4
  have K4 := K4'
  clear K4'
  have K7' := Lib.hid (K7.out.below At.stays hb)
  clear K7
  have K7 := K7'
  clear K7'
  have K7b' := Lib.hid (K7b.out.below At.stays hb)
  clear K7b
  have K7b := K7b'
  clear K7b'
  have K1' := Lib.hid (K1.out.below At.stays hb)
  clear K1
  have K1 := K1'
  clear K1'
  have K1b' := Lib.hid (K1b.out.below At.stays hb)
  clear K1b
  have K1b := K1b'
  clear K1b'
  have K8' := Lib.hid (K8.out.below At.stays hb)
  clear K8
  have K8 := K8'
  clear K8'
  have K8b' := Lib.hid (K8b.out.below At.stays hb)
  clear K8b
  have K8b := K8b'
  clear K8b'
  have HB17 := Lib.hid (below_then HB16.out hb)
  clear hb HB16
  go_wp2_with fail
  refine (same_self R8 R8b m8 r8 r8b q8 _ K8.out K8b.out).mono ?_
  rintro e w18 ⟨rfl, hb⟩
  have HX0' := Lib.hid (HX0.out.below At.stays hb)
  clear HX0
  have HX0 := HX0'
  clear HX0'
  have HX1' := Lib.hid (HX1.out.below At.stays hb)
  clear HX1
  have HX1 := HX1'
  clear HX1'
  have HX2' := Lib.hid (HX2.out.below At.stays hb)
  clear HX2
  have HX2 := HX2'
  clear HX2'
  have H1' := Lib.hid (H1.out.below At.stays hb)
  clear H1
  have H1 := H1'
  clear H1'
  have H2' := Lib.hid (H2.out.below At.stays hb)
  clear H2
  have H2 := H2'
  clear H2'
  have H3' := Lib.hid (H3.out.below At.stays hb)
  clear H3
  have H3 := H3'
  clear H3'
  have H4' := Lib.hid (H4.out.below At.stays hb)
  clear H4
  have H4 := H4'
  clear H4'
  have H5' := Lib.hid (H5.out.below At.stays hb)
  clear H5
  have H5 := H5'
  clear H5'
  have H6' := Lib.hid (H6.out.below At.stays hb)
  clear H6
  have H6 := H6'
  clear H6'
  have K4' := Lib.hid (K4.out.below At.stays hb)
  clear K4
  have K4 := K4'
  clear K4'
  have K7' := Lib.hid (K7.out.below At.stays hb)
  clear K7
  have K7 := K7'
  clear K7'
  have K7b' := Lib.hid (K7b.out.below At.stays hb)
  clear K7b
  have K7b := K7b'
  clear K7b'
  have K1' := Lib.hid (K1.out.below At.stays hb)
  clear K1
  have K1 := K1'
  clear K1'
  have K1b' := Lib.hid (K1b.out.below At.stays hb)
  clear K1b
  have K1b := K1b'
  clear K1b'
  have K8' := Lib.hid (K8.out.below At.stays hb)
  clear K8
  have K8 := K8'
  clear K8'
  have K8b' := Lib.hid (K8b.out.below At.stays hb)
  clear K8b
  have K8b := K8b'
  clear K8b'
  have HB18 := Lib.hid (below_then HB17.out hb)
  clear hb HB17
  go_wp2_with fail
  refine (works_any _).mono ?_
  rintro e w19 ⟨rfl, hb⟩
  have HX0' := Lib.hid (HX0.out.below At.stays hb)
  clear HX0
  have HX0 := HX0'
  clear HX0'
  have HX1' := Lib.hid (HX1.out.below At.stays hb)
  clear HX1
  have HX1 := HX1'
  clear HX1'
  have HX2' := Lib.hid (HX2.out.below At.stays hb)
  clear HX2
  have HX2 := HX2'
  clear HX2'
  have H1' := Lib.hid (H1.out.below At.stays hb)
  clear H1
  have H1 := H1'
  clear H1'
  have H2' := Lib.hid (H2.out.below At.stays hb)
  clear H2
  have H2 := H2'
  clear H2'
  have H3' := Lib.hid (H3.out.below At.stays hb)
  clear H3
  have H3 := H3'
  clear H3'
  have H4' := Lib.hid (H4.out.below At.stays hb)
  clear H4
  have H4 := H4'
  clear H4'
  have H5' := Lib.hid (H5.out.below At.stays hb)
  clear H5
  have H5 := H5'
  clear H5'
  have H6' := Lib.hid (H6.out.below At.stays hb)
  clear H6
  have H6 := H6'
  clear H6'
  have K4' := Lib.hid (K4.out.below At.stays hb)
  clear K4
  have K4 := K4'
  clear K4'
  have K7' := Lib.hid (K7.out.below At.stays hb)
  clear K7
  have K7 := K7'
  clear K7'
  have K7b' := Lib.hid (K7b.out.below At.stays hb)
  clear K7b
  have K7b := K7b'
  clear K7b'
  have K1' := Lib.hid (K1.out.below At.stays hb)
  clear K1
  have K1 := K1'
  clear K1'
  have K1b' := Lib.hid (K1b.out.below At.stays hb)
  clear K1b
  have K1b := K1b'
  clear K1b'
  have K8' := Lib.hid (K8.out.below At.stays hb)
  clear K8
  have K8 := K8'
  clear K8'
  have K8b' := Lib.hid (K8b.out.below At.stays hb)
  clear K8b
  have K8b := K8b'
  clear K8b'
  have HB19 := Lib.hid (below_then HB18.out hb)
  clear hb HB18
  go_wp2_with fail
  go_ret
  exact .bool rfl HB19.out
end Go.Proofs.Ytamniepfgddecaa
