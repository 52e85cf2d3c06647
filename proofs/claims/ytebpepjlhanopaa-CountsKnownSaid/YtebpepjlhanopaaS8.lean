/- Contracts of the two Compare's. -/
import Derived.Test.YtebpepjlhanopaaRows
import Derived.Test.YtebpepjlhanopaaWords
import Derived.Test.YtebpepjlhanopaaS1
import Derived.Test.YtebpepjlhanopaaS2
import Derived.Test.YtebpepjlhanopaaS7
namespace Go.Proofs.Ytebpepjlhanopaa
open Go.RowKit Go.Proofs.Tail
set_option linter.unusedSimpArgs false
set_option linter.unusedVariables false
def T.lp (t : T) (k : Nat) : Int := if k = 0 then t.a else if k = 1 then t.b else t.c
def cmpP (s t : T) : Nat → Int
  | 0 => orI (sgn s.d t.d) (sgn s.e t.e)
  | k + 1 => orI (cmpP s t k) (sgn (s.lp k) (t.lp k))
structure Two (w wx : World) (s t : T) : Prop where
  x : Bx wx w.heap.size s
  y : Bx wx (w.heap.size + 1) t
  b : Below w.heap.size w wx
theorem Two.new (w : World) (s t : T) : Two w ((w.alloc (.cells #[.int .i64 s.d, .int .i64 s.e, .int .i64 s.a, .int .i64 s.b, .int .i64 s.c] 28)).alloc (.cells #[.int .i64 t.d, .int .i64 t.e, .int .i64 t.a, .int .i64 t.b, .int .i64 t.c] 28)) s t := ⟨(Bx.new w s _ rfl).below (below_new _ (.cells #[.int .i64 t.d, .int .i64 t.e, .int .i64 t.a, .int .i64 t.b, .int .i64 t.c] 28)), Bx.new (w.alloc (.cells #[.int .i64 s.d, .int .i64 s.e, .int .i64 s.a, .int .i64 s.b, .int .i64 s.c] 28)) t (w.heap.size + 1) (by simp), below_alloc (below_new w (.cells #[.int .i64 s.d, .int .i64 s.e, .int .i64 s.a, .int .i64 s.b, .int .i64 s.c] 28)) (.cells #[.int .i64 t.d, .int .i64 t.e, .int .i64 t.a, .int .i64 t.b, .int .i64 t.c] 28)⟩
theorem Two.below {w wx wy : World} {s t : T} (h : Two w wx s t) (hb : Below wx.heap.size wx wy) : Two w wy s t := ⟨h.x.below hb, h.y.below hb, below_then h.b hb⟩
theorem Two.drew {w wx : World} {s t : T} (h : Two w wx s t) : Two w wx.drew s t := ⟨⟨h.x.h⟩, ⟨h.y.h⟩, h.b.drew⟩
theorem Two.cells {w wx : World} {s t : T} (h : Two w wx s t) :
    (wx.cell? ⟨w.heap.size, 0, none⟩ = some (.int .i64 s.d) ∧ wx.cell? ⟨w.heap.size, 1, none⟩ = some (.int .i64 s.e) ∧ wx.cell? ⟨w.heap.size, 2, none⟩ = some (.int .i64 s.a) ∧ wx.cell? ⟨w.heap.size, 3, none⟩ = some (.int .i64 s.b) ∧ wx.cell? ⟨w.heap.size, 4, none⟩ = some (.int .i64 s.c)) ∧
    (wx.cell? ⟨w.heap.size + 1, 0, none⟩ = some (.int .i64 t.d) ∧ wx.cell? ⟨w.heap.size + 1, 1, none⟩ = some (.int .i64 t.e) ∧ wx.cell? ⟨w.heap.size + 1, 2, none⟩ = some (.int .i64 t.a) ∧ wx.cell? ⟨w.heap.size + 1, 3, none⟩ = some (.int .i64 t.b) ∧ wx.cell? ⟨w.heap.size + 1, 4, none⟩ = some (.int .i64 t.c)) := ⟨h.x.cells, h.y.cells⟩
theorem tells_same {f : FuncId} {args : Array Value} {w : World} {v : Value} (h : Calls Try.prog f args w (Tells v w)) : Calls Try.prog f args w fun e w' => e = .returned v ∧ w' = w :=
  h.mono fun _ _ k => ⟨k.1, k.2.symm⟩
theorem Two.drewN {w wx : World} {s t : T} (h : Two w wx s t) (n : Nat) : Two w (wx.drewN n) s t := ⟨⟨by rw [World.heap_drewN]; exact h.x.h⟩, ⟨by rw [World.heap_drewN]; exact h.y.h⟩, below_drewN h.b n⟩
set_option maxRecDepth 100000 in
set_option maxHeartbeats 8000000 in
theorem refcompare_any (s t : T) (w : World) : Calls Try.prog 55 #[.agg #[.int .i64 s.d, .int .i64 s.e, .int .i64 s.a, .int .i64 s.b, .int .i64 s.c], .agg #[.int .i64 t.d, .int .i64 t.e, .int .i64 t.a, .int .i64 t.b, .int .i64 t.c]] w (Gives (.int .i64 (cmpP s t 3)) w) := by
  have N0 := Lib.hid (Two.new w s t)
  have HS := Lib.hid sign_any
  go_enter Try.func55, Try.ntmps55
  go_wp2_with fail
  refine (HS.out _ _ _).mono ?_
  rintro e1 w1 ⟨rfl, rfl⟩
  by_cases g : sgn s.d t.d = 0
  · have G := Lib.hid (show cmpP s t 0 = sgn s.e t.e by unfold cmpP orI; rw [if_pos g])
    have t0 : (sgn s.d t.d == 0) = true := by simpa using g
    clear g
    go_wp2_with fail
    refine (HS.out _ _ _).mono ?_
    rintro e1 w1 ⟨rfl, rfl⟩
    go_wp2_with fail
    go_loopw [5, 6] (fun c i wr => ∃ k : Nat, k ≤ 3 ∧ i = .int .i64 k ∧ c = .int .i64 (cmpP s t k) ∧ Hid (Two w wr s t)) (fun _ i _ => 3 - (intOf i).toNat)
    case atStart => exact ⟨0, by omega, rfl, by rw [G.out], N0⟩
    case round =>
      obtain ⟨k, hk, rfl, rfl, N1⟩ := hrel
      obtain ⟨⟨x0, x1, x2, x3, x4⟩, ⟨y0, y1, y2, y3, y4⟩⟩ := N1.out.cells
      by_cases h3 : k = 3
      · subst h3
        go_wp2
        go_ret
        exact .int rfl N1.out.b
      by_cases hz : cmpP s t k = 0
      · have tz : (cmpP s t k == 0) = true := by simpa using hz
        have HZ := Lib.hid hz
        clear hz
        obtain rfl | rfl | rfl : k = 0 ∨ k = 1 ∨ k = 2 := by omega
        · go_wp2_with fail
          go_quiet ((go_at_call 65; refine Calls.quiet_of_same (tells_same (HS.out _ _ _))))
          go_wp2_with fail
          go_roundw
          case rel => exact ⟨1, by omega, rfl, by rw [show cmpP s t 1 = sgn (s.lp 0) (t.lp 0) by rw [cmpP]; unfold orI; rw [if_pos HZ.out]]; rfl, Lib.hid (by repeat (first | exact N1.out | refine Two.drew ?_ | refine Two.drewN ?_ _))⟩
          case measure => simp [intOf]
        · go_wp2_with fail
          go_quiet ((go_at_call 65; refine Calls.quiet_of_same (tells_same (HS.out _ _ _))))
          go_wp2_with fail
          go_roundw
          case rel => exact ⟨2, by omega, rfl, by rw [show cmpP s t 2 = sgn (s.lp 1) (t.lp 1) by rw [cmpP]; unfold orI; rw [if_pos HZ.out]]; rfl, Lib.hid (by repeat (first | exact N1.out | refine Two.drew ?_ | refine Two.drewN ?_ _))⟩
          case measure => simp [intOf]
        · go_wp2_with fail
          go_quiet ((go_at_call 65; refine Calls.quiet_of_same (tells_same (HS.out _ _ _))))
          go_wp2_with fail
          go_roundw
          case rel => exact ⟨3, by omega, rfl, by rw [show cmpP s t 3 = sgn (s.lp 2) (t.lp 2) by rw [cmpP]; unfold orI; rw [if_pos HZ.out]]; rfl, Lib.hid (by repeat (first | exact N1.out | refine Two.drew ?_ | refine Two.drewN ?_ _))⟩
          case measure => simp [intOf]
      · have tz : (cmpP s t k == 0) = false := by simpa using hz
        have HZ := Lib.hid (show cmpP s t (k + 1) = cmpP s t k by rw [cmpP]; unfold orI; rw [if_neg hz])
        clear hz
        go_wp2_with fail
        go_roundw
        case rel => exact ⟨k + 1, by omega, by go_num, by rw [HZ.out], N1⟩
        case measure => simp [intOf]; omega
  · have G := Lib.hid (show cmpP s t 0 = sgn s.d t.d by unfold cmpP orI; rw [if_neg g])
    have t0 : (sgn s.d t.d == 0) = false := by simpa using g
    clear g
    go_wp2_with fail
    go_loopw [5, 6] (fun c i wr => ∃ k : Nat, k ≤ 3 ∧ i = .int .i64 k ∧ c = .int .i64 (cmpP s t k) ∧ Hid (Two w wr s t)) (fun _ i _ => 3 - (intOf i).toNat)
    case atStart => exact ⟨0, by omega, rfl, by rw [G.out], N0⟩
    case round =>
      obtain ⟨k, hk, rfl, rfl, N1⟩ := hrel
      obtain ⟨⟨x0, x1, x2, x3, x4⟩, ⟨y0, y1, y2, y3, y4⟩⟩ := N1.out.cells
      by_cases h3 : k = 3
      · subst h3
        go_wp2
        go_ret
        exact .int rfl N1.out.b
      by_cases hz : cmpP s t k = 0
      · have tz : (cmpP s t k == 0) = true := by simpa using hz
        have HZ := Lib.hid hz
        clear hz
        obtain rfl | rfl | rfl : k = 0 ∨ k = 1 ∨ k = 2 := by omega
        · go_wp2_with fail
          go_quiet ((go_at_call 65; refine Calls.quiet_of_same (tells_same (HS.out _ _ _))))
          go_wp2_with fail
          go_roundw
          case rel => exact ⟨1, by omega, rfl, by rw [show cmpP s t 1 = sgn (s.lp 0) (t.lp 0) by rw [cmpP]; unfold orI; rw [if_pos HZ.out]]; rfl, Lib.hid (by repeat (first | exact N1.out | refine Two.drew ?_ | refine Two.drewN ?_ _))⟩
          case measure => simp [intOf]
        · go_wp2_with fail
          go_quiet ((go_at_call 65; refine Calls.quiet_of_same (tells_same (HS.out _ _ _))))
          go_wp2_with fail
          go_roundw
          case rel => exact ⟨2, by omega, rfl, by rw [show cmpP s t 2 = sgn (s.lp 1) (t.lp 1) by rw [cmpP]; unfold orI; rw [if_pos HZ.out]]; rfl, Lib.hid (by repeat (first | exact N1.out | refine Two.drew ?_ | refine Two.drewN ?_ _))⟩
          case measure => simp [intOf]
        · go_wp2_with fail
          go_quiet ((go_at_call 65; refine Calls.quiet_of_same (tells_same (HS.out _ _ _))))
          go_wp2_with fail
          go_roundw
          case rel => exact ⟨3, by omega, rfl, by rw [show cmpP s t 3 = sgn (s.lp 2) (t.lp 2) by rw [cmpP]; unfold orI; rw [if_pos HZ.out]]; rfl, Lib.hid (by repeat (first | exact N1.out | refine Two.drew ?_ | refine Two.drewN ?_ _))⟩
          case measure => simp [intOf]
      · have tz : (cmpP s t k == 0) = false := by simpa using hz
        have HZ := Lib.hid (show cmpP s t (k + 1) = cmpP s t k by rw [cmpP]; unfold orI; rw [if_neg hz])
        clear hz
        go_wp2_with fail
        go_roundw
        case rel => exact ⟨k + 1, by omega, by go_num, by rw [HZ.out], N1⟩
        case measure => simp [intOf]; omega
end Go.Proofs.Ytebpepjlhanopaa
