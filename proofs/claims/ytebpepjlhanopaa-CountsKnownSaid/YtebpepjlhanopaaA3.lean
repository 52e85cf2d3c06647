/- Contracts of antichain.Right, holds, Holds, alike, Within. -/
import Derived.Test.YtebpepjlhanopaaRows
import Derived.Test.YtebpepjlhanopaaWords
import Derived.Test.YtebpepjlhanopaaByts
import Derived.Test.YtebpepjlhanopaaFrame
import Derived.Test.YtebpepjlhanopaaElems
import Derived.Test.YtebpepjlhanopaaS1
import Derived.Test.YtebpepjlhanopaaS2
import Derived.Test.YtebpepjlhanopaaS4
import Derived.Test.YtebpepjlhanopaaU1
import Derived.Test.YtebpepjlhanopaaU3
import Derived.Test.YtebpepjlhanopaaU4
import Derived.Test.YtebpepjlhanopaaA1
import Derived.Test.YtebpepjlhanopaaA2
namespace Go.Proofs.Ytebpepjlhanopaa
open Go Go.RowKit Go.Proofs.Tail Go.Sort
set_option linter.unusedSimpArgs false
set_option linter.unusedVariables false
/-- A frontier. -/
def rightF (ts : List T) : Bool := decide (ofT ts = some ts)
def inF (ts : List T) (t : T) : Bool := !ts.any (barT t)
def holdsF (ts : List T) (t : T) : Bool := rightF ts && (t.rightB && inF ts t)
def alikeF (xs ys : List T) : Bool := rightF xs && (rightF ys && (xs.isEmpty || (ys.isEmpty || (xs.headD T0).d == (ys.headD T0).d)))
def withinF (xs ys : List T) : Bool := alikeF xs ys && !ys.any (inF xs)
theorem sortT_nil : sortT [] = [] := by simp [sortT]
theorem ofT_nil : ofT [] = some [] := by unfold ofT anyBad; simp [sortT_nil, minS]
theorem ofT_length {ts l : List T} (h : ofT ts = some l) : l.length ≤ ts.length := by
  unfold ofT at h
  split at h
  · cases h
  · injection h with h
    have := minS_length [] (sortT ts)
    rw [h, sortT_length] at this
    simpa using this
set_option maxHeartbeats 8000000 in
theorem right_any' (A : Option Addr) (n c : Nat) (ts : List T) (w : World) (hX : Tms w A n c ts) (hlim : n ≤ 1000000) :
    Calls Try.prog 22 #[.slice A n c] w (Gives (.bool (rightF ts)) w) := by
  have LX := Lib.hid hX.len
  have HX := Lib.hid hX
  rcases Nat.eq_zero_or_pos n with h0 | h0
  · subst h0
    have HN := Lib.hid (show rightF ts = true by
      obtain rfl : ts = [] := List.eq_nil_of_length_eq_zero LX.out
      unfold rightF; rw [ofT_nil]; simp)
    clear hX
    go_enter Try.func22, Try.ntmps22
    go_wp2_with fail
    go_ret
    exact .bool HN.out.symm (Below.refl _ _)
  · have hne : ((n : Int) == 0) = false := by simp; omega
    have hne' : (n == 0) = false := by simp; omega
    have C1 := Lib.hid (of_any A n c ts w hX hlim)
    clear hX
    go_enter Try.func22, Try.ntmps22
    go_wp2_with fail
    refine C1.out.mono ?_
    rintro e w1 ⟨v, rfl, ho, hb⟩
    have HB := Lib.hid hb
    have HX1 := Lib.hid (HX.out.below At.stays hb)
    cases e : ofT ts with
    | none =>
      have HN := Lib.hid (show rightF ts = false by unfold rightF; rw [e]; simp)
      rw [e] at ho
      obtain ⟨A1, c1, ev, _⟩ := own_tms (n := 0) ho (by omega)
      subst ev
      have he : errT (none : Option (List T)) = 50 := rfl
      clear ho hb e C1
      go_wp2_with fail
      go_ret
      exact .bool HN.out.symm HB.out
    | some l =>
      have hl := ofT_length e
      have HN := Lib.hid (show rightF ts = decide (ts = l) by unfold rightF; rw [e]; by_cases h : l = ts <;> simp [h, eq_comm])
      rw [e] at ho
      obtain ⟨A1, c1, ev, hr⟩ := own_tms (n := l.length) ho (by have := LX.out; omega)
      subst ev
      have he : errT (some l) = 0 := rfl
      have C2 := Lib.hid (same_any A A1 n c l.length c1 ts l w1 HX1.out hr)
      simp only [Option.getD_some]
      generalize l.length = m at *
      clear ho hb e C1 hr
      go_wp2_with fail
      refine C2.out.mono ?_
      rintro e w2 ⟨rfl, hb⟩
      have HB2 := Lib.hid (below_then HB.out hb)
      clear hb C2
      go_wp2_with fail
      go_ret
      exact .bool HN.out.symm HB2.out
theorem enters3 : ∀ args W, (callFunc 57 args).run Try.prog W = .ok (.enter 57 args) W := enters_of Try.func57 (by kernel_rfl) rfl
theorem enters4 : ∀ args W, (callFunc 42 args).run Try.prog W = .ok (.enter 42 args) W := enters_of Try.func42 (by kernel_rfl) rfl
set_option maxHeartbeats 8000000 in
theorem in_any (A : Option Addr) (n c : Nat) (ts : List T) (t : T) (w : World) (hX : Tms w A n c ts) :
    Calls Try.prog 38 #[.slice A n c, .agg #[.int .i64 t.d, .int .i64 t.e, .int .i64 t.a, .int .i64 t.b, .int .i64 t.c]] w (Gives (.bool (inF ts t)) w) := by
  have HW := below_new w (.cells #[.int .i64 t.d, .int .i64 t.e, .int .i64 t.a, .int .i64 t.b, .int .i64 t.c] 28)
  have C1 := Lib.hid (contains_any A n c _ _ (barT t) ts (w.alloc (.cells #[.int .i64 t.d, .int .i64 t.e, .int .i64 t.a, .int .i64 t.b, .int .i64 t.c] 28)) (hX.below At.stays HW) enters3 fun x hx W hb => bar_any w.heap.size x t W ((Bx.new w t _ rfl).below hb))
  have HB := Lib.hid HW
  clear hX HW
  go_enter Try.func38, Try.ntmps38
  go_wp2_with fail
  refine C1.out.mono ?_
  rintro e w1 ⟨rfl, hb⟩
  have HB1 := Lib.hid (below_then HB.out hb)
  clear hb C1
  go_wp2_with fail
  go_ret
  exact .bool rfl HB1.out
set_option maxHeartbeats 8000000 in
theorem holds_any (A : Option Addr) (n c : Nat) (ts : List T) (t : T) (w : World) (hX : Tms w A n c ts) (hlim : n ≤ 1000000) :
    Calls Try.prog 21 #[.slice A n c, .agg #[.int .i64 t.d, .int .i64 t.e, .int .i64 t.a, .int .i64 t.b, .int .i64 t.c]] w (Gives (.bool (holdsF ts t)) w) := by
  have HW := below_new w (.cells #[.int .i64 t.d, .int .i64 t.e, .int .i64 t.a, .int .i64 t.b, .int .i64 t.c] 28)
  have HX := Lib.hid (hX.below At.stays HW)
  have C1 := Lib.hid (right_any' A n c ts (w.alloc (.cells #[.int .i64 t.d, .int .i64 t.e, .int .i64 t.a, .int .i64 t.b, .int .i64 t.c] 28)) HX.out hlim)
  have HB := Lib.hid HW
  have HBX := Lib.hid (Bx.new w t _ rfl)
  clear hX HW
  go_enter Try.func21, Try.ntmps21
  go_wp2_with fail
  refine C1.out.mono ?_
  rintro e w1 ⟨rfl, hb⟩
  have HB1 := Lib.hid (below_then HB.out hb)
  have HX1 := Lib.hid (HX.out.below At.stays hb)
  have HBX1 := Lib.hid (HBX.out.below hb)
  obtain ⟨x0, x1, x2, x3, x4⟩ := HBX1.out.cells
  clear hb C1 HB HX HBX
  cases h1 : rightF ts with
  | false =>
    have HQ := Lib.hid (show holdsF ts t = false by unfold holdsF; rw [h1]; rfl)
    clear h1 x0 x1 x2 x3 x4
    go_wp2_with fail
    go_ret
    exact .bool HQ.out.symm HB1.out
  | true =>
    have HQ := Lib.hid (show holdsF ts t = (t.rightB && inF ts t) by unfold holdsF; rw [h1]; rfl)
    clear h1
    have C2 := Lib.hid (right_any t w1)
    go_wp2_with fail
    refine C2.out.mono ?_
    rintro e w2 ⟨rfl, hb⟩
    have HB2 := Lib.hid (below_then HB1.out hb)
    have HX2 := Lib.hid (HX1.out.below At.stays hb)
    have HBX2 := Lib.hid (HBX1.out.below hb)
    clear x0 x1 x2 x3 x4
    obtain ⟨x0, x1, x2, x3, x4⟩ := HBX2.out.cells
    clear hb C2 HB1 HX1 HBX1
    cases h2 : t.rightB with
    | false =>
      have HQ2 := Lib.hid (show holdsF ts t = false by rw [HQ.out, h2]; rfl)
      clear h2 x0 x1 x2 x3 x4
      go_wp2_with fail
      go_ret
      exact .bool HQ2.out.symm HB2.out
    | true =>
      have HQ2 := Lib.hid (show holdsF ts t = inF ts t by rw [HQ.out, h2]; rfl)
      clear h2
      have C3 := Lib.hid (in_any A n c ts t w2 HX2.out)
      go_wp2_with fail
      refine C3.out.mono ?_
      rintro e w3 ⟨rfl, hb⟩
      have HB3 := Lib.hid (below_then HB2.out hb)
      clear hb C3 HB2 HX2 HBX2 x0 x1 x2 x3 x4
      go_wp2_with fail
      go_ret
      exact .bool HQ2.out.symm HB3.out
end Go.Proofs.Ytebpepjlhanopaa
