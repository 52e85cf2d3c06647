/- Contracts of the reference's both, Join and Meet. -/
import Derived.Test.YtamniepfgddecaaRows
import Derived.Test.YtamniepfgddecaaWords
import Derived.Test.YtamniepfgddecaaS1
import Derived.Test.YtamniepfgddecaaS2
import Derived.Laws.ResultCell
namespace Go.Proofs.Ytamniepfgddecaa
open Go.RowKit Go.Proofs.Tail
set_option linter.unusedSimpArgs false
set_option linter.unusedVariables false
/-- Four boxes: two arguments, the result's, and the one that is written. -/
structure Four (w wx : World) (U : Nat) (s t u : T) : Prop where
  x : Bx wx w.heap.size s
  y : Bx wx (w.heap.size + 1) t
  z : Bx wx (w.heap.size + 1 + 1) T0
  u : Bx wx U u
  lt : w.heap.size + 1 + 1 < U
  b : Below w.heap.size w wx
theorem Four.drew {w wx : World} {U : Nat} {s t u : T} (h : Four w wx U s t u) : Four w wx.drew U s t u := ⟨⟨h.x.h⟩, ⟨h.y.h⟩, ⟨h.z.h⟩, ⟨h.u.h⟩, h.lt, h.b.drew⟩
theorem Four.set {w wx : World} {U : Nat} {s t u : T} (h : Four w wx U s t u) (o : Nat) (v : Value) (u' : T) (h' : (#[.int .i64 u.d, .int .i64 u.e, .int .i64 u.a, .int .i64 u.b, .int .i64 u.c] : Array Value).setIfInBounds o v = #[.int .i64 u'.d, .int .i64 u'.e, .int .i64 u'.a, .int .i64 u'.b, .int .i64 u'.c]) : Four w (wx.setCell ⟨U, o, none⟩ v) U s t u' :=
  have hl := h.lt
  ⟨h.x.other _ _ (by dsimp only; omega), h.y.other _ _ (by dsimp only; omega), h.z.other _ _ (by dsimp only; omega), h.u.set o v u' h', hl, h.b.setCell (by dsimp only; omega) _⟩
theorem Four.facts {w wx : World} {U : Nat} {s t u : T} (h : Four w wx U s t u) :
    (wx.cell? ⟨w.heap.size, 0, none⟩ = some (.int .i64 s.d) ∧ wx.cell? ⟨w.heap.size, 1, none⟩ = some (.int .i64 s.e) ∧ wx.cell? ⟨w.heap.size, 2, none⟩ = some (.int .i64 s.a) ∧ wx.cell? ⟨w.heap.size, 3, none⟩ = some (.int .i64 s.b) ∧ wx.cell? ⟨w.heap.size, 4, none⟩ = some (.int .i64 s.c)) ∧
    (wx.cell? ⟨w.heap.size + 1, 0, none⟩ = some (.int .i64 t.d) ∧ wx.cell? ⟨w.heap.size + 1, 1, none⟩ = some (.int .i64 t.e) ∧ wx.cell? ⟨w.heap.size + 1, 2, none⟩ = some (.int .i64 t.a) ∧ wx.cell? ⟨w.heap.size + 1, 3, none⟩ = some (.int .i64 t.b) ∧ wx.cell? ⟨w.heap.size + 1, 4, none⟩ = some (.int .i64 t.c)) ∧
    (wx.cell? ⟨w.heap.size + 1 + 1, 0, none⟩ = some (.int .i64 0) ∧ wx.cell? ⟨w.heap.size + 1 + 1, 1, none⟩ = some (.int .i64 0) ∧ wx.cell? ⟨w.heap.size + 1 + 1, 2, none⟩ = some (.int .i64 0) ∧ wx.cell? ⟨w.heap.size + 1 + 1, 3, none⟩ = some (.int .i64 0) ∧ wx.cell? ⟨w.heap.size + 1 + 1, 4, none⟩ = some (.int .i64 0)) ∧
    (wx.cell? ⟨U, 0, none⟩ = some (.int .i64 u.d) ∧ wx.cell? ⟨U, 1, none⟩ = some (.int .i64 u.e) ∧ wx.cell? ⟨U, 2, none⟩ = some (.int .i64 u.a) ∧ wx.cell? ⟨U, 3, none⟩ = some (.int .i64 u.b) ∧ wx.cell? ⟨U, 4, none⟩ = some (.int .i64 u.c)) ∧
    (∀ o, wx.frozen? ⟨U, o, none⟩ = false) ∧ (∀ o, wx.frozen? ⟨w.heap.size + 1 + 1, o, none⟩ = false) := ⟨h.x.cells, h.y.cells, h.z.cells, h.u.cells, h.u.frozen, h.z.frozen⟩
theorem Four.new {w wx : World} {s t : T} (h : Now w wx s t) (u : T) : Four w (wx.alloc (.cells #[.int .i64 u.d, .int .i64 u.e, .int .i64 u.a, .int .i64 u.b, .int .i64 u.c] 32)) wx.heap.size s t u :=
  ⟨h.x.below (below_new _ _), h.y.below (below_new _ _), h.z.below (below_new _ _), Bx.new wx u _ rfl, h.z.lt, below_alloc h.b _⟩
theorem alike_not {s t : T} (h : ¬ (s.d = t.d ∧ s.right ∧ t.right)) : alikeB s t = false ∧ joinT s t = T0 ∧ meetT s t = T0 := by
  have h' : alikeB s t = false := decide_eq_false h
  exact ⟨h', by unfold joinT; rw [h']; rfl, by unfold meetT; rw [h']; rfl⟩
theorem alike_of {s t : T} (h : s.d = t.d ∧ s.right ∧ t.right) : alikeB s t = true ∧ joinT s t = partJ s t 3 ∧ meetT s t = partM s t 3 := by
  have h' : alikeB s t = true := decide_eq_true h
  exact ⟨h', by unfold joinT; rw [h']; rfl, by unfold meetT; rw [h']; rfl⟩
set_option maxRecDepth 100000 in
set_option maxHeartbeats 8000000 in
theorem both_true (s t : T) (w : World) : Calls Try.prog 54 #[.agg #[.int .i64 s.d, .int .i64 s.e, .int .i64 s.a, .int .i64 s.b, .int .i64 s.c], .agg #[.int .i64 t.d, .int .i64 t.e, .int .i64 t.a, .int .i64 t.b, .int .i64 t.c], .bool true] w (Gives (.tuple #[.agg #[.int .i64 (joinT s t).d, .int .i64 (joinT s t).e, .int .i64 (joinT s t).a, .int .i64 (joinT s t).b, .int .i64 (joinT s t).c], .bool (alikeB s t)]) w) := by
  have N0 : Hid (Now w (((w.alloc (.cells #[.int .i64 s.d, .int .i64 s.e, .int .i64 s.a, .int .i64 s.b, .int .i64 s.c] 32)).alloc (.cells #[.int .i64 t.d, .int .i64 t.e, .int .i64 t.a, .int .i64 t.b, .int .i64 t.c] 32)).alloc (.cells #[.int .i64 T0.d, .int .i64 T0.e, .int .i64 T0.a, .int .i64 T0.b, .int .i64 T0.c] 32)) s t) := Lib.hid ⟨((Bx.new w s _ rfl).below (below_new _ (.cells #[.int .i64 t.d, .int .i64 t.e, .int .i64 t.a, .int .i64 t.b, .int .i64 t.c] 32))).below (below_new _ (.cells #[.int .i64 T0.d, .int .i64 T0.e, .int .i64 T0.a, .int .i64 T0.b, .int .i64 T0.c] 32)), (Bx.new (w.alloc (.cells #[.int .i64 s.d, .int .i64 s.e, .int .i64 s.a, .int .i64 s.b, .int .i64 s.c] 32)) t (w.heap.size + 1) (by simp)).below (below_new _ (.cells #[.int .i64 T0.d, .int .i64 T0.e, .int .i64 T0.a, .int .i64 T0.b, .int .i64 T0.c] 32)), Bx.new ((w.alloc (.cells #[.int .i64 s.d, .int .i64 s.e, .int .i64 s.a, .int .i64 s.b, .int .i64 s.c] 32)).alloc (.cells #[.int .i64 t.d, .int .i64 t.e, .int .i64 t.a, .int .i64 t.b, .int .i64 t.c] 32)) T0 (w.heap.size + 2) (by simp), below_alloc (below_alloc (below_new w (.cells #[.int .i64 s.d, .int .i64 s.e, .int .i64 s.a, .int .i64 s.b, .int .i64 s.c] 32)) (.cells #[.int .i64 t.d, .int .i64 t.e, .int .i64 t.a, .int .i64 t.b, .int .i64 t.c] 32)) (.cells #[.int .i64 T0.d, .int .i64 T0.e, .int .i64 T0.a, .int .i64 T0.b, .int .i64 T0.c] 32)⟩
  have H1 := Lib.hid (refright_any s)
  have H2 := Lib.hid (refright_any t)
  by_cases r : s.right
  · rw [rightB_of r] at H1
    by_cases r2 : t.right
    · rw [rightB_of r2] at H2
      by_cases hd : s.d = t.d
      · obtain ⟨q1, q2, q3⟩ := alike_of ⟨hd, r, r2⟩
        have HQ := Lib.hid (show joinT s t = partJ s t 3 by assumption)
        rw [q1]
        clear q1 q2 q3 r r2
        have hne : (s.d != t.d) = false := by simpa using hd
        clear hd
        go_enter Try.func54, Try.ntmps54
        go_wp2_with fail
        refine (H1.out _).mono ?_
        rintro e1 w1 ⟨rfl, hb1⟩
        have N1 := Lib.hid (N0.out.below hb1)
        clear hb1
        obtain ⟨⟨x0, x1, x2, x3, x4⟩, ⟨y0, y1, y2, y3, y4⟩, ⟨z0, z1, z2, z3, z4⟩, fx, fz⟩ := N1.out.facts
        go_wp2_with fail
        refine (H2.out _).mono ?_
        rintro e2 w2 ⟨rfl, hb2⟩
        clear x0 x1 x2 x3 x4 y0 y1 y2 y3 y4 z0 z1 z2 z3 z4 fx fz
        have N2 := Lib.hid (N1.out.below hb2)
        have F2 := Lib.hid (Four.new N2.out s)
        clear hb2
        obtain ⟨⟨x0, x1, x2, x3, x4⟩, ⟨y0, y1, y2, y3, y4⟩, ⟨z0, z1, z2, z3, z4⟩, fx, fz⟩ := N2.out.facts
        obtain ⟨k0, k1, k2, k3, k4⟩ := F2.out.y.cells
        obtain ⟨j0, j1, j2, j3, j4⟩ := F2.out.x.cells
        clear z0 z1 z2 z3 z4 fx fz
        go_wp2_with fail
        all_goals
          first
          | have F3 : Hid (Four w (w2.alloc (.cells #[.int .i64 s.d, .int .i64 t.e, .int .i64 s.a, .int .i64 s.b, .int .i64 s.c] 32)) w2.heap.size s t (partJ s t 0)) := Lib.hid (by have h := Four.new N2.out (partJ s t 0); rw [show (partJ s t 0).e = t.e by simp [partJ]; (first | omega | (simp only [Bool.not_eq_true', decide_eq_false_iff_not, Bool.not_eq_false', decide_eq_true_eq, Bool.not_not, bne_iff_ne, beq_iff_eq] at *; omega))] at h; exact h)
          | have F3 : Hid (Four w (w2.alloc (.cells #[.int .i64 s.d, .int .i64 s.e, .int .i64 s.a, .int .i64 s.b, .int .i64 s.c] 32)) w2.heap.size s t (partJ s t 0)) := Lib.hid (by have h := Four.new N2.out (partJ s t 0); rw [show (partJ s t 0).e = s.e by simp [partJ]; (first | omega | (simp only [Bool.not_eq_true', decide_eq_false_iff_not, Bool.not_eq_false', decide_eq_true_eq, Bool.not_not, bne_iff_ne, beq_iff_eq] at *; omega))] at h; exact h)
          clear x0 x1 x2 x3 x4 y0 y1 y2 y3 y4 j0 j1 j2 j3 j4 k0 k1 k2 k3 k4
          go_loopw [9] (fun i wr => ∃ k : Nat, k ≤ 3 ∧ i = .int .i64 k ∧ Hid (Four w wr w2.heap.size s t (partJ s t k))) (fun i _ => 3 - (intOf i).toNat)
          case atStart => exact ⟨0, by omega, rfl, F3⟩
          case round =>
            obtain ⟨k, hk, rfl, N3⟩ := hrel
            obtain ⟨⟨x0, x1, x2, x3, x4⟩, ⟨y0, y1, y2, y3, y4⟩, ⟨z0, z1, z2, z3, z4⟩, ⟨u0, u1, u2, u3, u4⟩, fx, fz⟩ := N3.out.facts
            obtain rfl | rfl | rfl | rfl : k = 0 ∨ k = 1 ∨ k = 2 ∨ k = 3 := by omega
            · go_wp2_with fail
              go_region
              go_wp2
              all_goals
                go_roundw
                case rel => first | exact ⟨1, by omega, rfl, Lib.hid (Four.drew (N3.out.set 2 _ (partJ s t 1) (by simp [partJ]; (first | omega | (simp only [Bool.not_eq_true', decide_eq_false_iff_not, Bool.not_eq_false', decide_eq_true_eq, Bool.not_not, bne_iff_ne, beq_iff_eq] at *; omega)))))⟩ | exact ⟨1, by omega, rfl, Lib.hid (Four.set (Four.drew N3.out) 2 _ (partJ s t 1) (by simp [partJ]; (first | omega | (simp only [Bool.not_eq_true', decide_eq_false_iff_not, Bool.not_eq_false', decide_eq_true_eq, Bool.not_not, bne_iff_ne, beq_iff_eq] at *; omega))))⟩ | exact ⟨1, by omega, rfl, Lib.hid (Four.drew (by have h := N3.out; rw [show partJ s t 1 = partJ s t 0 by simp [partJ]; (first | omega | (simp only [Bool.not_eq_true', decide_eq_false_iff_not, Bool.not_eq_false', decide_eq_true_eq, Bool.not_not, bne_iff_ne, beq_iff_eq] at *; omega))]; exact h))⟩
                case measure => simp [intOf]
            · go_wp2_with fail
              go_region
              go_wp2
              all_goals
                go_roundw
                case rel => first | exact ⟨2, by omega, rfl, Lib.hid (Four.drew (N3.out.set 3 _ (partJ s t 2) (by simp [partJ]; (first | omega | (simp only [Bool.not_eq_true', decide_eq_false_iff_not, Bool.not_eq_false', decide_eq_true_eq, Bool.not_not, bne_iff_ne, beq_iff_eq] at *; omega)))))⟩ | exact ⟨2, by omega, rfl, Lib.hid (Four.set (Four.drew N3.out) 3 _ (partJ s t 2) (by simp [partJ]; (first | omega | (simp only [Bool.not_eq_true', decide_eq_false_iff_not, Bool.not_eq_false', decide_eq_true_eq, Bool.not_not, bne_iff_ne, beq_iff_eq] at *; omega))))⟩ | exact ⟨2, by omega, rfl, Lib.hid (Four.drew (by have h := N3.out; rw [show partJ s t 2 = partJ s t 1 by simp [partJ]; (first | omega | (simp only [Bool.not_eq_true', decide_eq_false_iff_not, Bool.not_eq_false', decide_eq_true_eq, Bool.not_not, bne_iff_ne, beq_iff_eq] at *; omega))]; exact h))⟩
                case measure => simp [intOf]
            · go_wp2_with fail
              go_region
              go_wp2
              all_goals
                go_roundw
                case rel => first | exact ⟨3, by omega, rfl, Lib.hid (Four.drew (N3.out.set 4 _ (partJ s t 3) (by simp [partJ]; (first | omega | (simp only [Bool.not_eq_true', decide_eq_false_iff_not, Bool.not_eq_false', decide_eq_true_eq, Bool.not_not, bne_iff_ne, beq_iff_eq] at *; omega)))))⟩ | exact ⟨3, by omega, rfl, Lib.hid (Four.set (Four.drew N3.out) 4 _ (partJ s t 3) (by simp [partJ]; (first | omega | (simp only [Bool.not_eq_true', decide_eq_false_iff_not, Bool.not_eq_false', decide_eq_true_eq, Bool.not_not, bne_iff_ne, beq_iff_eq] at *; omega))))⟩ | exact ⟨3, by omega, rfl, Lib.hid (Four.drew (by have h := N3.out; rw [show partJ s t 3 = partJ s t 2 by simp [partJ]; (first | omega | (simp only [Bool.not_eq_true', decide_eq_false_iff_not, Bool.not_eq_false', decide_eq_true_eq, Bool.not_not, bne_iff_ne, beq_iff_eq] at *; omega))]; exact h))⟩
                case measure => simp [intOf]
            · go_wp2_with fail
              rw [HQ.out]
              (try simp only [Exit.inBlock, Exit.then])
              refine bodyPost_ret (v := .tuple #[.agg #[.int .i64 (partJ s t 3).d, .int .i64 (partJ s t 3).e, .int .i64 (partJ s t 3).a, .int .i64 (partJ s t 3).b, .int .i64 (partJ s t 3).c], .bool true]) ?_ rfl ⟨rfl, ?_⟩
              · rw [results_cell_tmp rfl]; go_simp
              · (repeat' with_reducible (first | exact N3.out.b | refine Below.setCell ?_ (by dsimp only; omega) _ | refine Below.drew ?_))
      · obtain ⟨q1, q2, q3⟩ := alike_not (s := s) (t := t) (fun h => hd h.1)
        have HQ := Lib.hid (show joinT s t = T0 by assumption)
        rw [q1, HQ.out]
        clear q1 q2 q3 r r2
        have hne : (s.d != t.d) = true := by simpa using hd
        clear hd
        go_enter Try.func54, Try.ntmps54
        go_wp2_with fail
        refine (H1.out _).mono ?_
        rintro e1 w1 ⟨rfl, hb1⟩
        have N1 := Lib.hid (N0.out.below hb1)
        clear hb1
        obtain ⟨⟨x0, x1, x2, x3, x4⟩, ⟨y0, y1, y2, y3, y4⟩, ⟨z0, z1, z2, z3, z4⟩, fx, fz⟩ := N1.out.facts
        go_wp2_with fail
        refine (H2.out _).mono ?_
        rintro e2 w2 ⟨rfl, hb2⟩
        clear x0 x1 x2 x3 x4 y0 y1 y2 y3 y4 z0 z1 z2 z3 z4 fx fz
        have N2 := Lib.hid (N1.out.below hb2)
        clear hb2
        obtain ⟨⟨x0, x1, x2, x3, x4⟩, ⟨y0, y1, y2, y3, y4⟩, ⟨z0, z1, z2, z3, z4⟩, fx, fz⟩ := N2.out.facts
        go_wp2
        (try simp only [Exit.inBlock, Exit.then])
        refine bodyPost_ret (v := .tuple #[.agg #[.int .i64 0, .int .i64 0, .int .i64 0, .int .i64 0, .int .i64 0], .bool false]) ?_ rfl ⟨rfl, ?_⟩
        · rw [results_cell_tmp rfl]; go_simp
        · (repeat' with_reducible (first | exact N2.out.b | refine Below.setCell ?_ (by dsimp only; omega) _ | refine Below.drew ?_))
    · obtain ⟨q1, q2, q3⟩ := alike_not (s := s) (t := t) (fun h => r2 h.2.2)
      rw [rightB_not r2] at H2
      have HQ := Lib.hid (show joinT s t = T0 by assumption)
      rw [q1, HQ.out]
      clear q1 q2 q3 r r2
      go_enter Try.func54, Try.ntmps54
      go_wp2_with fail
      refine (H1.out _).mono ?_
      rintro e1 w1 ⟨rfl, hb1⟩
      have N1 := Lib.hid (N0.out.below hb1)
      clear hb1
      obtain ⟨⟨x0, x1, x2, x3, x4⟩, ⟨y0, y1, y2, y3, y4⟩, ⟨z0, z1, z2, z3, z4⟩, fx, fz⟩ := N1.out.facts
      go_wp2_with fail
      refine (H2.out _).mono ?_
      rintro e2 w2 ⟨rfl, hb2⟩
      clear x0 x1 x2 x3 x4 y0 y1 y2 y3 y4 z0 z1 z2 z3 z4 fx fz
      have N2 := Lib.hid (N1.out.below hb2)
      clear hb2
      obtain ⟨⟨x0, x1, x2, x3, x4⟩, ⟨y0, y1, y2, y3, y4⟩, ⟨z0, z1, z2, z3, z4⟩, fx, fz⟩ := N2.out.facts
      go_wp2
      (try simp only [Exit.inBlock, Exit.then])
      refine bodyPost_ret (v := .tuple #[.agg #[.int .i64 0, .int .i64 0, .int .i64 0, .int .i64 0, .int .i64 0], .bool false]) ?_ rfl ⟨rfl, ?_⟩
      · rw [results_cell_tmp rfl]; go_simp
      · (repeat' with_reducible (first | exact N2.out.b | refine Below.setCell ?_ (by dsimp only; omega) _ | refine Below.drew ?_))
  · obtain ⟨q1, q2, q3⟩ := alike_not (s := s) (t := t) (fun h => r h.2.1)
    rw [rightB_not r] at H1
    have HQ := Lib.hid (show joinT s t = T0 by assumption)
    rw [q1, HQ.out]
    clear q1 q2 q3 r
    go_enter Try.func54, Try.ntmps54
    go_wp2_with fail
    refine (H1.out _).mono ?_
    rintro e1 w1 ⟨rfl, hb1⟩
    have N1 := Lib.hid (N0.out.below hb1)
    clear hb1
    obtain ⟨⟨x0, x1, x2, x3, x4⟩, ⟨y0, y1, y2, y3, y4⟩, ⟨z0, z1, z2, z3, z4⟩, fx, fz⟩ := N1.out.facts
    go_wp2
    (try simp only [Exit.inBlock, Exit.then])
    refine bodyPost_ret (v := .tuple #[.agg #[.int .i64 0, .int .i64 0, .int .i64 0, .int .i64 0, .int .i64 0], .bool false]) ?_ rfl ⟨rfl, ?_⟩
    · rw [results_cell_tmp rfl]; go_simp
    · (repeat' with_reducible (first | exact N1.out.b | refine Below.setCell ?_ (by dsimp only; omega) _ | refine Below.drew ?_))
set_option maxHeartbeats 4000000 in
theorem refjoin_any (s t : T) (w : World) : Calls Try.prog 42 #[.agg #[.int .i64 s.d, .int .i64 s.e, .int .i64 s.a, .int .i64 s.b, .int .i64 s.c], .agg #[.int .i64 t.d, .int .i64 t.e, .int .i64 t.a, .int .i64 t.b, .int .i64 t.c]] w (Gives (.tuple #[.agg #[.int .i64 (joinT s t).d, .int .i64 (joinT s t).e, .int .i64 (joinT s t).a, .int .i64 (joinT s t).b, .int .i64 (joinT s t).c], .bool (alikeB s t)]) w) := by
  have N0 : Hid (Now w (((w.alloc (.cells #[.int .i64 s.d, .int .i64 s.e, .int .i64 s.a, .int .i64 s.b, .int .i64 s.c] 32)).alloc (.cells #[.int .i64 t.d, .int .i64 t.e, .int .i64 t.a, .int .i64 t.b, .int .i64 t.c] 32)).alloc (.cells #[.int .i64 T0.d, .int .i64 T0.e, .int .i64 T0.a, .int .i64 T0.b, .int .i64 T0.c] 32)) s t) := Lib.hid ⟨((Bx.new w s _ rfl).below (below_new _ (.cells #[.int .i64 t.d, .int .i64 t.e, .int .i64 t.a, .int .i64 t.b, .int .i64 t.c] 32))).below (below_new _ (.cells #[.int .i64 T0.d, .int .i64 T0.e, .int .i64 T0.a, .int .i64 T0.b, .int .i64 T0.c] 32)), (Bx.new (w.alloc (.cells #[.int .i64 s.d, .int .i64 s.e, .int .i64 s.a, .int .i64 s.b, .int .i64 s.c] 32)) t (w.heap.size + 1) (by simp)).below (below_new _ (.cells #[.int .i64 T0.d, .int .i64 T0.e, .int .i64 T0.a, .int .i64 T0.b, .int .i64 T0.c] 32)), Bx.new ((w.alloc (.cells #[.int .i64 s.d, .int .i64 s.e, .int .i64 s.a, .int .i64 s.b, .int .i64 s.c] 32)).alloc (.cells #[.int .i64 t.d, .int .i64 t.e, .int .i64 t.a, .int .i64 t.b, .int .i64 t.c] 32)) T0 (w.heap.size + 2) (by simp), below_alloc (below_alloc (below_new w (.cells #[.int .i64 s.d, .int .i64 s.e, .int .i64 s.a, .int .i64 s.b, .int .i64 s.c] 32)) (.cells #[.int .i64 t.d, .int .i64 t.e, .int .i64 t.a, .int .i64 t.b, .int .i64 t.c] 32)) (.cells #[.int .i64 T0.d, .int .i64 T0.e, .int .i64 T0.a, .int .i64 T0.b, .int .i64 T0.c] 32)⟩
  have HJ := Lib.hid (both_true s t)
  generalize joinT s t = j at HJ ⊢
  generalize alikeB s t = b at HJ ⊢
  go_enter Try.func42, Try.ntmps42
  go_wp2_with fail
  refine (HJ.out _).mono ?_
  rintro e1 w1 ⟨rfl, hb1⟩
  have N1 := Lib.hid (N0.out.below hb1)
  clear hb1
  obtain ⟨⟨x0, x1, x2, x3, x4⟩, ⟨y0, y1, y2, y3, y4⟩, ⟨z0, z1, z2, z3, z4⟩, fx, fz⟩ := N1.out.facts
  go_wp2
  (try simp only [Exit.inBlock, Exit.then])
  refine bodyPost_ret (v := .tuple #[.agg #[.int .i64 j.d, .int .i64 j.e, .int .i64 j.a, .int .i64 j.b, .int .i64 j.c], .bool b]) ?_ rfl ⟨rfl, ?_⟩
  · rw [results_cell_tmp rfl]; go_simp
  · (repeat' with_reducible (first | exact N1.out.b | refine Below.setCell ?_ (by dsimp only; omega) _ | refine Below.drew ?_))
end Go.Proofs.Ytamniepfgddecaa
