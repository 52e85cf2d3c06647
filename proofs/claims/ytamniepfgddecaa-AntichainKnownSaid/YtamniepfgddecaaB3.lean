/- Contracts of the reference's Holds. -/
import Derived.Test.YtamniepfgddecaaRows
import Derived.Test.YtamniepfgddecaaWords
import Derived.Test.YtamniepfgddecaaByts
import Derived.Test.YtamniepfgddecaaFrame
import Derived.Test.YtamniepfgddecaaElems
import Derived.Test.YtamniepfgddecaaS1
import Derived.Test.YtamniepfgddecaaS2
import Derived.Test.YtamniepfgddecaaS4
import Derived.Test.YtamniepfgddecaaS7
import Derived.Test.YtamniepfgddecaaU1
import Derived.Test.YtamniepfgddecaaA1
import Derived.Test.YtamniepfgddecaaA2
import Derived.Test.YtamniepfgddecaaA3
import Derived.Test.YtamniepfgddecaaA4
import Derived.Test.YtamniepfgddecaaF1
import Derived.Test.YtamniepfgddecaaP1
import Derived.Test.YtamniepfgddecaaB1
import Derived.Test.YtamniepfgddecaaB2
namespace Go.Proofs.Ytamniepfgddecaa
open Go Go.RowKit Go.Proofs.Tail Go.Sort
set_option linter.unusedSimpArgs false
set_option linter.unusedVariables false
theorem holdsF_no {ts : List T} {t x : T} (hx : x ∈ ts) (hb : barT t x = true) : holdsF ts t = false := by
  unfold holdsF inF
  rw [List.any_eq_true.2 ⟨x, hx, hb⟩]
  simp
theorem holdsF_yes {ts : List T} {t : T} {n : Nat} (h1 : rightF ts = true) (h2 : t.rightB = true) (hl : ts.length ≤ n) (h : ∀ j x, j < n → ts[j]? = some x → barT t x = false) : holdsF ts t = true := by
  unfold holdsF inF
  rw [h1, h2, List.any_eq_false.2 (fun x hx => by
    obtain ⟨j, hj, e⟩ := List.getElem_of_mem hx
    rw [h j x (by omega) (by rw [← e, List.getElem?_eq_getElem hj])]; simp)]
  rfl
set_option maxRecDepth 100000 in
set_option maxHeartbeats 16000000 in
theorem refholds_any (A : Option Addr) (n c : Nat) (ts : List T) (t : T) (w : World) (hX : Tms w A n c ts) (hlim : n ≤ 1000000) :
    Calls Try.prog 17 #[.slice A n c, .agg #[.int .i64 t.d, .int .i64 t.e, .int .i64 t.a, .int .i64 t.b, .int .i64 t.c]] w (Gives (.bool (holdsF ts t)) w) := by
  have HW := below_new w (.cells #[.int .i64 t.d, .int .i64 t.e, .int .i64 t.a, .int .i64 t.b, .int .i64 t.c] 32)
  have HX := Lib.hid (hX.below At.stays HW)
  have LX := Lib.hid hX.len
  have C1 := Lib.hid (refright_all A n c ts (w.alloc (.cells #[.int .i64 t.d, .int .i64 t.e, .int .i64 t.a, .int .i64 t.b, .int .i64 t.c] 32)) HX.out hlim)
  have HB := Lib.hid HW
  have HBX := Lib.hid (Bx.new w t _ rfl)
  clear hX HW
  go_enter Try.func17, Try.ntmps17
  go_wp2_with fail
  refine C1.out.mono ?_
  rintro e w1 ⟨rfl, hb⟩
  have HB1 := Lib.hid (below_then HB.out hb)
  have HX1 := Lib.hid (HX.out.below At.stays hb)
  have HBX1 := Lib.hid (HBX.out.below hb)
  obtain ⟨x0, x1, x2, x3, x4⟩ := HBX1.out.cells
  clear hb C1 HB HX HBX
  cases h1 : rightF ts with
  | false =>
    have HQ := Lib.hid (show holdsF ts t = false by unfold holdsF; rw [h1]; rfl)
    clear h1 x0 x1 x2 x3 x4
    go_wp2_with fail
    go_ret
    exact .bool HQ.out.symm HB1.out
  | true =>
    have HR1 := Lib.hid h1
    clear h1
    have C2 := Lib.hid (refright_any t w1)
    go_wp2_with fail
    refine C2.out.mono ?_
    rintro e w2 ⟨rfl, hb⟩
    have HB := Lib.hid (below_then HB1.out hb)
    have HX2 := Lib.hid (HX1.out.below At.stays hb)
    have HBX2 := Lib.hid (HBX1.out.below hb)
    clear x0 x1 x2 x3 x4 hb C2 HB1 HX1 HBX1
    cases h2 : t.rightB with
    | false =>
      have HQ2 := Lib.hid (show holdsF ts t = false by unfold holdsF; rw [h2]; simp)
      clear h2
      go_wp2_with fail
      go_ret
      exact .bool HQ2.out.symm HB.out
    | true =>
      have HR2 := Lib.hid h2
      clear h2
      have N0 := Lib.hid (show ∀ j x, j < 0 → ts[j]? = some x → barT t x = false from fun j x h => absurd h (Nat.not_lt_zero _))
      have B0 := Lib.hid (Below.refl w2.heap.size w2)
      go_wp2_with fail
      go_loopw [5] (fun i wr => ∃ k : Nat, k ≤ n ∧ i = .int .i64 k ∧ Hid (∀ j x, j < k → ts[j]? = some x → barT t x = false) ∧ Hid (Below w2.heap.size w2 wr)) (fun i _ => n - (intOf i).toNat)
      case atStart => exact ⟨0, Nat.zero_le _, rfl, N0, B0⟩
      case round =>
        clear N0 B0
        obtain ⟨k, hk, rfl, HN, HB2⟩ := hrel
        have HB3 := Lib.hid (below_then HB.out HB2.out)
        clear HB
        have HB := HB3
        clear HB3
        by_cases hlt : k < n
        · have hd : decide ((k : Int) < n) = true := decide_eq_true (by omega)
          have hd' : decide (k < n) = true := decide_eq_true (by omega)
          obtain ⟨b, off, x, rfl, hx, hc⟩ := (HX2.out.below At.stays HB2.out).elem hlt
          have hbx := HBX2.out.below HB2.out
          have HXE := Lib.hid hx
          have CL := Lib.hid (fun W => refleq_any x t W)
          have z0 := fun p : After wr => cell_after hc.c0 p
          have z1 := fun p : After wr => cell_after hc.c1 p
          have z2 := fun p : After wr => cell_after hc.c2 p
          have z3 := fun p : After wr => cell_after hc.c3 p
          have z4 := fun p : After wr => cell_after hc.c4 p
          have y1 := fun p : After wr => (hbx.below p.below).cells.2.1
          have y2 := fun p : After wr => (hbx.below p.below).cells.2.2.1
          have y3 := fun p : After wr => (hbx.below p.below).cells.2.2.2.1
          have y4 := fun p : After wr => (hbx.below p.below).cells.2.2.2.2
          clear hx
          by_cases gd : x.d = t.d
          · have y0 := fun p : After wr => (hbx.below p.below).cells.1
            have hc0 := hc.c0
            rw [gd] at hc0
            clear z0
            have z0 := fun p : After wr => cell_after hc0 p
            have HE := Lib.hid gd
            have CL := Lib.hid (show ∀ W, Calls Try.prog 35 #[.agg #[.int .i64 t.d, .int .i64 x.e, .int .i64 x.a, .int .i64 x.b, .int .i64 x.c], .agg #[.int .i64 t.d, .int .i64 t.e, .int .i64 t.a, .int .i64 t.b, .int .i64 t.c]] W (Gives (.bool (leqB x t)) W) from fun W => by have h9 := refleq_any x t W; rw [gd] at h9; exact h9)
            clear hbx hc hc0 gd
            cases gl : leqB x t with
            | true =>
              have HQ := Lib.hid (show holdsF ts t = false from holdsF_no (List.mem_of_getElem? HXE.out) (by unfold barT; rw [gl]; simp))
              rw [gl] at CL
              clear gl
              go_wp2_with fail
              refine quiet_after (by kernel_rfl) (by kernel_rfl) ?_
              repeat (first | go_big_quiet_step ((first | (go_at_call 35; with_reducible exact calls_after (CL.out _)))) | quiet_step ((first | (go_at_call 35; with_reducible exact calls_after (CL.out _)))))
              refine wpQuiet_nil ?_
              intro wz hw'
              obtain ⟨p, rfl⟩ := hw'
              obtain ⟨w5, hbq⟩ := p
              dsimp only
              have HB5 := Lib.hid (below_then HB.out hbq)
              clear hbq HB z0 z1 z2 z3 z4 y0 y1 y2 y3 y4 CL HN
              go_wp2_with fail
              go_ret
              exact .bool HQ.out.symm HB5.out
            | false =>
              have HNN := Lib.hid (show ∀ j z, j < k + 1 → ts[j]? = some z → barT t z = false from fun j z hj hz => by
                rcases Nat.eq_or_lt_of_le (Nat.le_of_lt_succ hj) with e | e
                · subst e; rw [HXE.out] at hz; injection hz with hz; subst hz; unfold barT; rw [gl, HE.out]; simp
                · exact HN.out j z e hz)
              rw [gl] at CL
              clear gl
              go_wp2_with fail
              refine quiet_after (by kernel_rfl) (by kernel_rfl) ?_
              repeat (first | go_big_quiet_step ((first | (go_at_call 35; with_reducible exact calls_after (CL.out _)))) | quiet_step ((first | (go_at_call 35; with_reducible exact calls_after (CL.out _)))))
              refine wpQuiet_nil ?_
              intro wz hw'
              obtain ⟨p, rfl⟩ := hw'
              obtain ⟨w5, hbq⟩ := p
              dsimp only
              have HB5 := Lib.hid (below_then HB2.out hbq)
              clear hbq HB z0 z1 z2 z3 z4 y0 y1 y2 y3 y4 CL HN
              go_wp2_with fail
              go_roundw
              case rel => exact ⟨k + 1, by omega, by go_num, HNN, HB5⟩
              case measure => simp [intOf]; omega
          · have y0 := fun p : After wr => (hbx.below p.below).cells.1
            have gd' : (x.d != t.d) = true := by simpa using gd
            have HQ := Lib.hid (show holdsF ts t = false from holdsF_no (List.mem_of_getElem? HXE.out) (by unfold barT; simp [gd]))
            clear hbx hc
            go_wp2_with fail
            refine quiet_after (by kernel_rfl) (by kernel_rfl) ?_
            repeat (first | go_big_quiet_step ((first | (go_at_call 35; with_reducible exact calls_after (CL.out _)))) | quiet_step ((first | (go_at_call 35; with_reducible exact calls_after (CL.out _)))))
            refine wpQuiet_nil ?_
            intro wz hw'
            obtain ⟨p, rfl⟩ := hw'
            obtain ⟨w5, hbq⟩ := p
            dsimp only
            have HB5 := Lib.hid (below_then HB.out hbq)
            clear hbq HB z0 z1 z2 z3 z4 y0 y1 y2 y3 y4 CL HN
            go_wp2_with fail
            go_ret
            exact .bool HQ.out.symm HB5.out
        · have hkn : k = n := by omega
          subst hkn
          have hd : decide ((k : Int) < k) = false := decide_eq_false (by omega)
          have hd' : decide (k < k) = false := decide_eq_false (by omega)
          have HQ := Lib.hid (show holdsF ts t = true from holdsF_yes HR1.out HR2.out (by rw [LX.out]; exact Nat.le_refl _) HN.out)
          clear HN
          go_wp2_with fail
          go_ret
          exact .bool HQ.out.symm HB.out
end Go.Proofs.Ytamniepfgddecaa
