/- Contracts of the functions that antichain.Of, holds, Within hand on. -/
import Derived.Test.YtebpepjlhanopaaRows
import Derived.Test.YtebpepjlhanopaaWords
import Derived.Test.YtebpepjlhanopaaByts
import Derived.Test.YtebpepjlhanopaaFrame
import Derived.Test.YtebpepjlhanopaaElems
import Derived.Test.YtebpepjlhanopaaS1
import Derived.Test.YtebpepjlhanopaaS2
import Derived.Test.YtebpepjlhanopaaS4
import Derived.Test.YtebpepjlhanopaaU1
import Derived.Test.YtebpepjlhanopaaU3
namespace Go.Proofs.Ytebpepjlhanopaa
open Go Go.RowKit Go.Proofs.Tail Go.Sort
set_option linter.unusedSimpArgs false
set_option linter.unusedVariables false
/-- Not right, or of another depth. -/
def badT (d : Int) (t : T) : Bool := !t.rightB || t.d != d
set_option maxRecDepth 100000 in
set_option maxHeartbeats 8000000 in
theorem bad_any (B : Nat) (A : Option Addr) (n c : Nat) (x t0 : T) (ts : List T) (w : World) (hB : Blk w B [.slice A n c] 33) (hX : Tms w A n c (t0 :: ts)) :
    Calls Try.prog 50 #[.agg #[.int .i64 x.d, .int .i64 x.e, .int .i64 x.a, .int .i64 x.b, .int .i64 x.c], .pointer (some ⟨B, 0, none⟩)] w (Gives (.bool (badT t0.d x)) w) := by
  have hn : 0 < n := by rw [← hX.len]; simp
  have hbig := hX.big
  obtain ⟨b, off, rfl, hc⟩ := hX.at_ hn
  have hc0 := hc 0 t0 rfl
  rw [Nat.zero_mul, Nat.add_zero] at hc0
  have HW := below_new w (.cells #[.int .i64 x.d, .int .i64 x.e, .int .i64 x.a, .int .i64 x.b, .int .i64 x.c] 28)
  have x0 := Bx.new w x _ rfl
  have b0 := fun p : After (w.alloc (.cells #[.int .i64 x.d, .int .i64 x.e, .int .i64 x.a, .int .i64 x.b, .int .i64 x.c] 28)) => (hB.then (below_then HW p.below)).cell 0
  have d0 := fun p : After (w.alloc (.cells #[.int .i64 x.d, .int .i64 x.e, .int .i64 x.a, .int .i64 x.b, .int .i64 x.c] 28)) => below_cell (below_then HW p.below) hc0.c0
  have y0 := fun p : After (w.alloc (.cells #[.int .i64 x.d, .int .i64 x.e, .int .i64 x.a, .int .i64 x.b, .int .i64 x.c] 28)) => (x0.below p.below).cells.1
  have y1 := fun p : After (w.alloc (.cells #[.int .i64 x.d, .int .i64 x.e, .int .i64 x.a, .int .i64 x.b, .int .i64 x.c] 28)) => (x0.below p.below).cells.2.1
  have y2 := fun p : After (w.alloc (.cells #[.int .i64 x.d, .int .i64 x.e, .int .i64 x.a, .int .i64 x.b, .int .i64 x.c] 28)) => (x0.below p.below).cells.2.2.1
  have y3 := fun p : After (w.alloc (.cells #[.int .i64 x.d, .int .i64 x.e, .int .i64 x.a, .int .i64 x.b, .int .i64 x.c] 28)) => (x0.below p.below).cells.2.2.2.1
  have y4 := fun p : After (w.alloc (.cells #[.int .i64 x.d, .int .i64 x.e, .int .i64 x.a, .int .i64 x.b, .int .i64 x.c] 28)) => (x0.below p.below).cells.2.2.2.2
  have HR := Lib.hid (fun W => right_any x W)
  have HB := Lib.hid HW
  have hn' : (0 : Int) < n := by omega
  clear hB hX hc hc0 HW x0
  cases hr : x.rightB with
  | false =>
    rw [hr] at HR
    have HQ := Lib.hid (show badT t0.d x = true by unfold badT; rw [hr]; rfl)
    clear hr
    go_enter Try.func50, Try.ntmps50
    go_wp2_with fail
    refine quiet_after (by kernel_rfl) (by kernel_rfl) ?_
    repeat (first | go_big_quiet_step ((go_at_call 25; with_reducible exact calls_after (HR.out _))) | quiet_step ((go_at_call 25; with_reducible exact calls_after (HR.out _))))
    refine wpQuiet_nil ?_
    intro wz hw'
    obtain ⟨p, rfl⟩ := hw'
    obtain ⟨w5, hbq⟩ := p
    dsimp only
    have HB5 := Lib.hid (below_then HB.out hbq)
    clear b0 d0 y0 y1 y2 y3 y4 hbq
    go_wp2_with fail
    go_ret
    exact .bool HQ.out.symm HB5.out
  | true =>
    rw [hr] at HR
    have HQ := Lib.hid (show badT t0.d x = !(x.d == t0.d) by unfold badT; rw [hr]; rfl)
    clear hr
    go_enter Try.func50, Try.ntmps50
    go_wp2_with fail
    refine quiet_after (by kernel_rfl) (by kernel_rfl) ?_
    repeat (first | go_big_quiet_step ((go_at_call 25; with_reducible exact calls_after (HR.out _))) | quiet_step ((go_at_call 25; with_reducible exact calls_after (HR.out _))))
    refine wpQuiet_nil ?_
    intro wz hw'
    obtain ⟨p, rfl⟩ := hw'
    obtain ⟨w5, hbq⟩ := p
    dsimp only
    have HB5 := Lib.hid (below_then HB.out hbq)
    clear b0 d0 y0 y1 y2 y3 y4 hbq
    go_wp2_with fail
    go_ret
    exact .bool (by rw [HQ.out]; rfl) HB5.out
set_option maxHeartbeats 8000000 in
theorem least_any (B : Nat) (s t : T) (w : World) (hB : Bx w B t) :
    Calls Try.prog 52 #[.agg #[.int .i64 s.d, .int .i64 s.e, .int .i64 s.a, .int .i64 s.b, .int .i64 s.c], .pointer (some ⟨B, 0, none⟩)] w (Gives (.bool (leqB s t)) w) := by
  have HW := below_new w (.cells #[.int .i64 s.d, .int .i64 s.e, .int .i64 s.a, .int .i64 s.b, .int .i64 s.c] 28)
  obtain ⟨x0, x1, x2, x3, x4⟩ := (Bx.new w s _ rfl).cells
  obtain ⟨y0, y1, y2, y3, y4⟩ := (hB.below HW).cells
  have HB := Lib.hid HW
  have HL := Lib.hid (fun W => leq_any s t W)
  clear hB HW
  go_enter Try.func52, Try.ntmps52
  go_wp2_with fail
  refine (HL.out _).mono ?_
  rintro e w1 ⟨rfl, hb⟩
  have HB1 := Lib.hid (below_then HB.out hb)
  clear hb x0 x1 x2 x3 x4 y0 y1 y2 y3 y4
  go_wp2_with fail
  go_ret
  exact .bool rfl HB1.out
/-- A time bars another one: of another depth, or at or behind it. -/
def barT (t s : T) : Bool := s.d != t.d || leqB s t
set_option maxRecDepth 100000 in
set_option maxHeartbeats 8000000 in
theorem bar_any (B : Nat) (s t : T) (w : World) (hB : Bx w B t) :
    Calls Try.prog 57 #[.agg #[.int .i64 s.d, .int .i64 s.e, .int .i64 s.a, .int .i64 s.b, .int .i64 s.c], .pointer (some ⟨B, 0, none⟩)] w (Gives (.bool (barT t s)) w) := by
  by_cases hd : s.d = t.d
  · obtain ⟨sd, se, sa, sb, sc⟩ := s
    dsimp only at hd
    subst hd
    have HW := below_new w (.cells #[.int .i64 t.d, .int .i64 se, .int .i64 sa, .int .i64 sb, .int .i64 sc] 28)
    obtain ⟨x0, x1, x2, x3, x4⟩ := (Bx.new w ⟨t.d, se, sa, sb, sc⟩ _ rfl).cells
    obtain ⟨y0, y1, y2, y3, y4⟩ := (hB.below HW).cells
    have HB := Lib.hid HW
    have HL := Lib.hid (fun W => leq_any ⟨t.d, se, sa, sb, sc⟩ t W)
    have HQ := Lib.hid (show barT t ⟨t.d, se, sa, sb, sc⟩ = leqB ⟨t.d, se, sa, sb, sc⟩ t by unfold barT; simp)
    clear hB HW
    go_enter Try.func57, Try.ntmps57
    go_wp2_with fail
    refine (HL.out _).mono ?_
    rintro e w1 ⟨rfl, hb⟩
    have HB1 := Lib.hid (below_then HB.out hb)
    clear hb x0 x1 x2 x3 x4 y0 y1 y2 y3 y4
    go_wp2_with fail
    go_ret
    exact .bool HQ.out.symm HB1.out
  · have h1 : (s.d != t.d) = true := by simpa using hd
    have HQ := Lib.hid (show barT t s = true by unfold barT; simp [hd])
    have HW := below_new w (.cells #[.int .i64 s.d, .int .i64 s.e, .int .i64 s.a, .int .i64 s.b, .int .i64 s.c] 28)
    obtain ⟨x0, x1, x2, x3, x4⟩ := (Bx.new w s _ rfl).cells
    obtain ⟨y0, y1, y2, y3, y4⟩ := (hB.below HW).cells
    have HB := Lib.hid HW
    have HL := Lib.hid (fun W => leq_any s t W)
    clear hB HW
    go_enter Try.func57, Try.ntmps57
    go_wp2_with fail
    go_ret
    exact .bool HQ.out.symm HB.out
end Go.Proofs.Ytebpepjlhanopaa
