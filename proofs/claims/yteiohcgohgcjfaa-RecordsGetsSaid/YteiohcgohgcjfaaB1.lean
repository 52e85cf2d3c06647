/- RecordsBack. -/
import Derived.Test.YteiohcgohgcjfaaRows
import Derived.Lib.ConvBytes
import Derived.IntWalk
import Derived.Test.YteiohcgohgcjfaaWords
import Derived.Test.YteiohcgohgcjfaaByts
import Derived.Test.YteiohcgohgcjfaaStrs
import Derived.Test.YteiohcgohgcjfaaFrame
import Derived.Test.YteiohcgohgcjfaaElems
import Derived.Test.YteiohcgohgcjfaaS1
import Derived.Test.YteiohcgohgcjfaaS2
import Derived.Test.YteiohcgohgcjfaaEqs
import Derived.Test.YteiohcgohgcjfaaS11
import Derived.Test.YteiohcgohgcjfaaD1
import Derived.Test.YteiohcgohgcjfaaD5
import Derived.Test.YteiohcgohgcjfaaD6
import Derived.Test.YteiohcgohgcjfaaD7
import Derived.Test.YteiohcgohgcjfaaD9
import Derived.Test.YteiohcgohgcjfaaE1
import Derived.Test.YteiohcgohgcjfaaE9
import Derived.Test.YteiohcgohgcjfaaPA
import Derived.Test.YteiohcgohgcjfaaC1
import Derived.Test.YteiohcgohgcjfaaB0
import Derived.Test.YteiohcgohgcjfaaF1
namespace Go.Proofs.Yteiohcgohgcjfaa
open Go Go.RowKit Go.Proofs.Tail
set_option linter.unusedSimpArgs false
set_option linter.unusedVariables false
theorem info8 : (Try.prog.info? 5).map (fun i => (i.zero, i.size, i.bytes)) = some (some (.int .u8 0), 1, 1) := by kernel_rfl
theorem may_k {m : Msg} (h : mayB m = true) : 0 ≤ m.k ∧ m.k < 256 := by
  unfold mayB at h
  split at h
  · omega
  · split at h
    · omega
    · cases h
/-- Put, as a law wants it. -/
theorem put_may (m : Msg) (A C : Option Addr) (c d : Nat) (w : World) (hm : Mg w m A c C d) (h : mayB m = true) (hl : (msgL m).length ≤ 10000) : Calls Try.prog 13 #[.agg (Mb.cs ⟨0, m, A, c, C, d⟩)] w
    (fun e w' => ∃ A1 c1, e = .returned (.tuple #[.slice A1 (msgL m).length c1, .int .i64 0]) ∧ Byts w' A1 (msgL m).length c1 (msgL m) ∧ Below w.heap.size w w') := by
  have hp := mput_any m A C c d w hm (may_k h)
  rw [if_pos h, if_pos h] at hp
  refine hp.mono ?_
  rintro e w1 ⟨v, rfl, ho, hb⟩
  obtain ⟨A1, c1, rfl, hy⟩ := own_bytes ho (by omega)
  exact ⟨A1, c1, rfl, hy, hb⟩
theorem put_not (m : Msg) (A C : Option Addr) (c d : Nat) (w : World) (hm : Mg w m A c C d) (hk : 0 ≤ m.k ∧ m.k < 256) (h : mayB m = false) : Calls Try.prog 13 #[.agg (Mb.cs ⟨0, m, A, c, C, d⟩)] w
    (fun e w' => ∃ A1 c1, e = .returned (.tuple #[.slice A1 0 c1, .int .i64 2]) ∧ Below w.heap.size w w') := by
  have hp := mput_any m A C c d w hm hk
  rw [if_neg (by rw [h]; decide), if_neg (by rw [h]; decide)] at hp
  refine hp.mono ?_
  rintro e w1 ⟨v, rfl, ho, hb⟩
  obtain ⟨A1, c1, rfl, hy⟩ := own_bytes ho (by simp)
  exact ⟨A1, c1, rfl, hb⟩
/-- Get, as a law wants it: a box for what is told. -/
theorem get_some (A : Option Addr) (c : Nat) (xs : List Int) (m : Msg) (w : World) (hX : Byts w A xs.length c xs) (hin : InB xs) (h : getM xs = some m) : Calls Try.prog 14 #[.slice A xs.length c] w
    (fun e w' => ∃ A1 c1 B1 d1, e = .returned (.tuple #[.agg (Mb.cs ⟨0, m, A1, c1, B1, d1⟩), .int .i64 0]) ∧ Mg w' m A1 c1 B1 d1 ∧ Below w.heap.size w w') := by
  refine (get_any' A c xs w hX hin).mono ?_
  rintro e w1 ⟨_, h2, hb⟩
  obtain ⟨A1, c1, B1, d1, rfl, hm⟩ := h2 m h
  exact ⟨A1, c1, B1, d1, rfl, hm, hb⟩
theorem get_non (A : Option Addr) (c : Nat) (xs : List Int) (w : World) (hX : Byts w A xs.length c xs) (hin : InB xs) (h : getM xs = none) : Calls Try.prog 14 #[.slice A xs.length c] w
    (fun e w' => e = .returned (.tuple #[.agg #[.int .u8 0, .int .i64 0, .int .i64 0, .int .i64 0, .int .i64 0, .int .i64 0, .int .i64 0, .int .i64 0, .int .i64 0, .int .i64 0, .slice none 0 0, .slice none 0 0], .int .i64 210]) ∧ Below w.heap.size w w') := by
  refine (get_any' A c xs w hX hin).mono ?_
  rintro e w1 ⟨h1, _, hb⟩
  exact ⟨h1 h, hb⟩
theorem same_box (a b : Mb) (w : World) (ha : Mg w a.m a.A a.c a.C a.d) (hb : Mg w b.m b.A b.c b.C b.d) : Calls Try.prog 17 #[.agg a.cs, .agg b.cs] w (Gives (.bool (sameB a.m b.m)) w) :=
  same_any a.m b.m a.A a.C b.A b.C a.c a.d b.c b.d w ha hb
theorem few_box (a : Mb) (w : World) : Calls Try.prog 8 #[.agg a.cs] w (Gives (.bool (fewB a.m)) w) := few_any a.m a.A a.c a.C a.d w
theorem of_slice {A : Option Addr} {n c k : Nat} (hk : k + 1 = n) (hc : n ≤ c) (W : World) : (Instr.slice 36 (.slice A n c) none (some (.int .i64 ((n : Int) - 1))) none).run Try.prog W = .ok (.slice A k c) W := by
  rw [show ((n : Int) - 1) = k by omega]
  exact bslice_to (by omega) hc W
set_option maxRecDepth 100000 in
set_option maxHeartbeats 16000000 in
theorem law_back (m n : Msg) (A C E F G : Option Addr) (c d e f g : Nat) (bs : List Int) (w : World) (hm : Mg w m A c C d) (hn : Mg w n E e F f) (hk : 0 ≤ m.k ∧ m.k < 256) (hk' : 0 ≤ n.k ∧ n.k < 256) (fm : m.fit) (fn : n.fit) (hY : Byts w G bs.length g bs) (hin : InB bs) :
    Calls Try.prog 5 #[.agg (m.cs A c C d).toArray, .agg (n.cs E e F f).toArray, .slice G bs.length g] w (Gives (.bool true) w) := by
  have Z1 := (Ms.nil w).put m A c C d hm w.heap.size rfl
  obtain ⟨w1, hw1⟩ : ∃ w1, w1 = w.alloc (.cells (m.cs A c C d).toArray 28) := ⟨_, rfl⟩
  rw [← hw1] at Z1
  have hs1 : w1.heap.size = w.heap.size + 1 := by rw [hw1]; simp
  have hb1 : Below w.heap.size w w1 := Z1.b
  have Z2 := Z1.put n E e F f (hn.below hb1) (w.heap.size + 1) hs1
  obtain ⟨w2, hw2⟩ : ∃ w2, w2 = w1.alloc (.cells (n.cs E e F f).toArray 28) := ⟨_, rfl⟩
  rw [← hw2] at Z2
  have N2 := Lib.hid Z2
  have HY := Lib.hid (hY.below RByte.stays Z2.b)
  have e1 := hw1.symm
  have e2 := hw2.symm
  rw [Msg.cs_eq] at e1 e2
  rw [Msg.cs_eq, Msg.cs_eq]
  have HW := Lib.hid works_any
  clear Z1 Z2 hw1 hw2 hb1 hm hn hY
  cases hfm : fewB m with
  | false =>
    go_enter Try.func5, Try.ntmps5
    have HC := Lib.hid (few_box ⟨w.heap.size, m, A, c, C, d⟩ w2)
    rw [hfm] at HC
    have l0 := N2.out.at 1 rfl
    dsimp only [Mb.cs] at l0
    go_wp2_with fail
    refine HC.out.mono ?_
    rintro e w3 ⟨rfl, hb⟩
    clear HC
    clear l0
    have N3 := Lib.hid (N2.out.below hb)
    have HY := Lib.hid (HY.out.below RByte.stays hb)
    clear hb N2
    go_wp2_with fail
    refine (HW.out _).mono ?_
    rintro e w4 ⟨rfl, hb⟩
    have N4 := Lib.hid (N3.out.below hb)
    have HY := Lib.hid (HY.out.below RByte.stays hb)
    clear hb N3
    go_wp2_with fail
    go_ret
    exact .bool rfl N4.out.b
  | true =>
    cases hfn : fewB n with
    | false =>
      go_enter Try.func5, Try.ntmps5
      have HC := Lib.hid (few_box ⟨w.heap.size, m, A, c, C, d⟩ w2)
      rw [hfm] at HC
      have l0 := N2.out.at 1 rfl
      dsimp only [Mb.cs] at l0
      go_wp2_with fail
      refine HC.out.mono ?_
      rintro e w3 ⟨rfl, hb⟩
      clear HC
      clear l0
      have N3 := Lib.hid (N2.out.below hb)
      have HY := Lib.hid (HY.out.below RByte.stays hb)
      clear hb N2
      have HC := Lib.hid (few_box ⟨w.heap.size + 1, n, E, e, F, f⟩ w3)
      rw [hfn] at HC
      have l0 := N3.out.at 0 rfl
      dsimp only [Mb.cs] at l0
      go_wp2_with fail
      refine HC.out.mono ?_
      rintro e w4 ⟨rfl, hb⟩
      clear HC
      clear l0
      have N4 := Lib.hid (N3.out.below hb)
      have HY := Lib.hid (HY.out.below RByte.stays hb)
      clear hb N3
      go_wp2_with fail
      refine (HW.out _).mono ?_
      rintro e w5 ⟨rfl, hb⟩
      have N5 := Lib.hid (N4.out.below hb)
      have HY := Lib.hid (HY.out.below RByte.stays hb)
      clear hb N4
      go_wp2_with fail
      go_ret
      exact .bool rfl N5.out.b
    | true =>
      by_cases hbl : 6000 < bs.length
      · skip
        have g1 : decide ((6000 : Int) < bs.length) = true := decide_eq_true (by omega)
        have g2 : decide (6000 < bs.length) = true := decide_eq_true hbl
        go_enter Try.func5, Try.ntmps5
        have HC := Lib.hid (few_box ⟨w.heap.size, m, A, c, C, d⟩ w2)
        rw [hfm] at HC
        have l0 := N2.out.at 1 rfl
        dsimp only [Mb.cs] at l0
        go_wp2_with fail
        refine HC.out.mono ?_
        rintro e w3 ⟨rfl, hb⟩
        clear HC
        clear l0
        have N3 := Lib.hid (N2.out.below hb)
        have HY := Lib.hid (HY.out.below RByte.stays hb)
        clear hb N2
        have HC := Lib.hid (few_box ⟨w.heap.size + 1, n, E, e, F, f⟩ w3)
        rw [hfn] at HC
        have l0 := N3.out.at 0 rfl
        dsimp only [Mb.cs] at l0
        go_wp2_with fail
        refine HC.out.mono ?_
        rintro e w4 ⟨rfl, hb⟩
        clear HC
        clear l0
        have N4 := Lib.hid (N3.out.below hb)
        have HY := Lib.hid (HY.out.below RByte.stays hb)
        clear hb N3
        go_wp2_with fail
        refine (HW.out _).mono ?_
        rintro e w5 ⟨rfl, hb⟩
        have N5 := Lib.hid (N4.out.below hb)
        have HY := Lib.hid (HY.out.below RByte.stays hb)
        clear hb N4
        go_wp2_with fail
        go_ret
        exact .bool rfl N5.out.b
      have g1 : decide ((6000 : Int) < bs.length) = false := decide_eq_false (by omega)
      have g2 : decide (6000 < bs.length) = false := decide_eq_false hbl
      go_enter Try.func5, Try.ntmps5
      have HC := Lib.hid (few_box ⟨w.heap.size, m, A, c, C, d⟩ w2)
      rw [hfm] at HC
      have l0 := N2.out.at 1 rfl
      dsimp only [Mb.cs] at l0
      go_wp2_with fail
      refine HC.out.mono ?_
      rintro e w3 ⟨rfl, hb⟩
      clear HC
      clear l0
      have N3 := Lib.hid (N2.out.below hb)
      have HY := Lib.hid (HY.out.below RByte.stays hb)
      clear hb N2
      have HC := Lib.hid (few_box ⟨w.heap.size + 1, n, E, e, F, f⟩ w3)
      rw [hfn] at HC
      have l0 := N3.out.at 0 rfl
      dsimp only [Mb.cs] at l0
      go_wp2_with fail
      refine HC.out.mono ?_
      rintro e w4 ⟨rfl, hb⟩
      clear HC
      clear l0
      have N4 := Lib.hid (N3.out.below hb)
      have HY := Lib.hid (HY.out.below RByte.stays hb)
      clear hb N3
      cases hmm : mayB m with
      | false =>
        have HC := Lib.hid (put_not m A C c d w4 (N4.out.mg 1 rfl) hk hmm)
        have l0 := N4.out.at 1 rfl
        dsimp only [Mb.cs] at l0
        go_wp2_with fail
        refine HC.out.mono ?_
        rintro e w5 ⟨A0, c0, rfl, hb⟩
        clear HC
        clear l0
        have N5 := Lib.hid (N4.out.below hb)
        have HY := Lib.hid (HY.out.below RByte.stays hb)
        clear hb N4
        cases hg : getM bs with
        | none =>
          have HC := Lib.hid (get_non G g bs w5 HY.out hin hg)
          go_wp2_with fail
          refine HC.out.mono ?_
          rintro e w6 ⟨rfl, hb⟩
          clear HC
          have N6 := Lib.hid (N5.out.below hb)
          have HY := Lib.hid (HY.out.below RByte.stays hb)
          clear hb N5
          have hb := below_new w6 (.cells #[.int .u8 0, .int .i64 0, .int .i64 0, .int .i64 0, .int .i64 0, .int .i64 0, .int .i64 0, .int .i64 0, .int .i64 0, .int .i64 0, .slice none 0 0, .slice none 0 0] 28)
          have N7 := Lib.hid (N6.out.below hb)
          have HY := Lib.hid (HY.out.below RByte.stays hb)
          clear hb N6
          go_wp2_with fail
          refine (HW.out _).mono ?_
          rintro e w8 ⟨rfl, hb⟩
          have N8 := Lib.hid (N7.out.below hb)
          have HY := Lib.hid (HY.out.below RByte.stays hb)
          clear hb N7
          go_wp2_with fail
          go_ret
          exact .bool rfl N8.out.b
        | some y =>
          obtain ⟨hy1, hy2, hy3⟩ := get_back hin hg
          have HC := Lib.hid (get_some G g bs y w5 HY.out hin hg)
          go_wp2_with fail
          refine HC.out.mono ?_
          rintro e w6 ⟨Ay, cy, By, dy, rfl, hm, hb⟩
          clear HC
          have N6 := Lib.hid (N5.out.below hb)
          have HY := Lib.hid (HY.out.below RByte.stays hb)
          clear hb N5
          obtain ⟨w7, hw7⟩ : ∃ w7, w7 = w6.alloc (.cells (Mb.cs ⟨0, y, Ay, cy, By, dy⟩) 28) := ⟨_, rfl⟩
          have hb : Below w6.heap.size w6 w7 := by rw [hw7]; exact below_new _ _
          have N7 := Lib.hid (show Ms w w7 (⟨w6.heap.size, y, Ay, cy, By, dy⟩ :: _) from by rw [hw7]; exact N6.out.put y Ay cy By dy hm _ rfl)
          have HY := Lib.hid (HY.out.below RByte.stays hb)
          have e7 := hw7.symm
          dsimp only [Mb.cs] at e7
          clear hm hb hw7
          have HC := Lib.hid (put_may y Ay By cy dy w7 (N7.out.mg 0 rfl) hy2 (by rw [hy1]; omega))
          rw [hy1] at HC
          have l0 := N7.out.at 0 rfl
          dsimp only [Mb.cs] at l0
          go_wp2_with fail
          refine HC.out.mono ?_
          rintro e w8 ⟨Az, cz, rfl, hz, hb⟩
          clear HC
          have HZ := Lib.hid hz
          clear hz
          clear l0
          have N8 := Lib.hid (N7.out.below hb)
          have HY := Lib.hid (HY.out.below RByte.stays hb)
          clear hb N7
          have q1 := run_convert_byts (P := Try.prog) w8 36 5 Try.underlying36 Try.underlying5 HZ.out 9 Try.underlying9
          have q2 := run_convert_byts (P := Try.prog) w8 36 5 Try.underlying36 Try.underlying5 HY.out 9 Try.underlying9
          go_wp2_with fail
          refine (HW.out _).mono ?_
          rintro e w9 ⟨rfl, hb⟩
          clear q1 q2
          have N9 := Lib.hid (N8.out.below hb)
          have HY := Lib.hid (HY.out.below RByte.stays hb)
          clear hb N8
          go_wp2_with fail
          go_ret
          exact .bool rfl N9.out.b
      | true =>
        obtain ⟨X, hX⟩ : ∃ X, X = msgL m := ⟨_, rfl⟩
        have hXl : X.length ≤ 10000 := by rw [hX]; exact few_len hfm
        obtain ⟨k, hXk⟩ : ∃ k, k + 1 = X.length := ⟨X.length - 1, by have := msgL_pos m; rw [← hX] at this; omega⟩
        have hXin : InB X := by rw [hX]; exact msgL_in m
        have hX0 : ((X.length : Int) == 0) = false := by rw [beq_eq_false_iff_ne]; omega
        have HXE := Lib.hid hX
        have HXK := Lib.hid hXk
        clear hX hXk
        have HC := Lib.hid (put_may m A C c d w4 (N4.out.mg 1 rfl) hmm (by rw [← HXE.out]; exact hXl))
        rw [← HXE.out] at HC
        have l0 := N4.out.at 1 rfl
        dsimp only [Mb.cs] at l0
        go_wp2_with fail
        refine HC.out.mono ?_
        rintro e w5 ⟨A1, c1, rfl, hx, hb⟩
        clear HC
        have HX := Lib.hid hx
        clear hx
        clear l0
        have N5 := Lib.hid (N4.out.below hb)
        have HY := Lib.hid (HY.out.below RByte.stays hb)
        clear hb N4
        have HC := Lib.hid (get_some A1 c1 X m w5 HX.out hXin (by rw [HXE.out]; exact get_of hmm fm))
        go_wp2_with fail
        refine HC.out.mono ?_
        rintro e w6 ⟨Ay, cy, By, dy, rfl, hm, hb⟩
        clear HC
        have N6 := Lib.hid (N5.out.below hb)
        have HY := Lib.hid (HY.out.below RByte.stays hb)
        have HX := Lib.hid (HX.out.below RByte.stays hb)
        clear hb N5
        obtain ⟨w7, hw7⟩ : ∃ w7, w7 = w6.alloc (.cells (Mb.cs ⟨0, m, Ay, cy, By, dy⟩) 28) := ⟨_, rfl⟩
        have hb : Below w6.heap.size w6 w7 := by rw [hw7]; exact below_new _ _
        have N7 := Lib.hid (show Ms w w7 (⟨w6.heap.size, m, Ay, cy, By, dy⟩ :: _) from by rw [hw7]; exact N6.out.put m Ay cy By dy hm _ rfl)
        have HY := Lib.hid (HY.out.below RByte.stays hb)
        have HX := Lib.hid (HX.out.below RByte.stays hb)
        have e7 := hw7.symm
        dsimp only [Mb.cs] at e7
        clear hm hb hw7
        have sl := fun W => of_slice (A := A1) (c := c1) HXK.out HX.out.cap W
        have hwk : wrap64 ((X.length : Int) - 1) = (X.length : Int) - 1 := IntWalk.wrap64_in _ ⟨by have := HXK.out; omega, by have := HXK.out; omega⟩
        have HC := Lib.hid (show Calls Try.prog 14 #[.slice A1 k c1] w7 _ from by
          have hlk : (X.take k).length = k := by rw [List.length_take]; have := HXK.out; omega
          have hb2 : Byts w7 A1 (X.take k).length c1 (X.take k) := by rw [hlk]; exact byts_take (m := k) (c' := c1) HX.out (by have := HXK.out; omega) (by have := HX.out.cap; have := HXK.out; omega)
          have := get_non A1 c1 (X.take k) w7 hb2 (InB.take hXin k) (by rw [HXE.out]; exact get_fewer hmm fm (by rw [← HXE.out]; have := HXK.out; omega))
          rw [hlk] at this
          exact this)
        go_wp2_with fail
        refine HC.out.mono ?_
        rintro e w8 ⟨rfl, hb⟩
        clear HC sl
        have N8 := Lib.hid (N7.out.below hb)
        have HY := Lib.hid (HY.out.below RByte.stays hb)
        have HX := Lib.hid (HX.out.below RByte.stays hb)
        clear hb N7
        have hb := below_new w8 (.cells #[.int .u8 0, .int .i64 0, .int .i64 0, .int .i64 0, .int .i64 0, .int .i64 0, .int .i64 0, .int .i64 0, .int .i64 0, .int .i64 0, .slice none 0 0, .slice none 0 0] 28)
        have N9 := Lib.hid (N8.out.below hb)
        have HY := Lib.hid (HY.out.below RByte.stays hb)
        have HX := Lib.hid (HX.out.below RByte.stays hb)
        clear hb N8
        have q1 := run_convert_byts (P := Try.prog) (w8.alloc (.cells #[.int .u8 0, .int .i64 0, .int .i64 0, .int .i64 0, .int .i64 0, .int .i64 0, .int .i64 0, .int .i64 0, .int .i64 0, .int .i64 0, .slice none 0 0, .slice none 0 0] 28)) 36 5 Try.underlying36 Try.underlying5 HX.out 9 Try.underlying9
        have hcv := Go.Lib.run_convert_string_bytes (P := Try.prog) (w8.alloc (.cells #[.int .u8 0, .int .i64 0, .int .i64 0, .int .i64 0, .int .i64 0, .int .i64 0, .int .i64 0, .int .i64 0, .int .i64 0, .int .i64 0, .slice none 0 0, .slice none 0 0] 28)) 9 36 5 (strOfNums X) Try.underlying9 Try.underlying36 Try.underlying5
        go_wp2_with (at_builtin; (refine conv_append_lit (w8.alloc (.cells #[.int .u8 0, .int .i64 0, .int .i64 0, .int .i64 0, .int .i64 0, .int .i64 0, .int .i64 0, .int .i64 0, .int .i64 0, .int .i64 0, .slice none 0 0, .slice none 0 0] 28)) (strOfNums X) 0 (w8.heap.size + 1) _ (by simp) (by simp [Go.Lib.bytesWorld_size]) rfl (.tmp 66) (.tmp 67) 36 5 rfl Try.underlying36 info8 rfl rfl (by rw [strOfNums_size]; omega) ?_; rintro A2 c2 w10 hy2 hb))
        have hY2 : Byts w10 A2 (X ++ [0]).length c2 (X ++ [0]) := by rw [nums_str hXin] at hy2; rw [List.length_append, ← strOfNums_size X]; exact hy2
        clear hy2 hcv q1
        have N10 := Lib.hid (N9.out.below hb)
        have HY := Lib.hid (HY.out.below RByte.stays hb)
        have HX := Lib.hid (HX.out.below RByte.stays hb)
        clear hb N9
        have HC := Lib.hid (show Calls Try.prog 14 #[.slice A2 ((strOfNums X).size + 1) c2] w10 _ from by
          have := get_non A2 c2 (X ++ [0]) w10 hY2 (InB.app hXin (by unfold InB; decide)) (by rw [HXE.out]; exact get_more hmm fm 0 [])
          rw [show (X ++ [(0 : Int)]).length = (strOfNums X).size + 1 by rw [strOfNums_size]; simp] at this
          exact this)
        clear hY2
        go_wp2_with fail
        refine HC.out.mono ?_
        rintro e w11 ⟨rfl, hb⟩
        clear HC
        have N11 := Lib.hid (N10.out.below hb)
        have HY := Lib.hid (HY.out.below RByte.stays hb)
        have HX := Lib.hid (HX.out.below RByte.stays hb)
        clear hb N10
        have hb := below_new w11 (.cells #[.int .u8 0, .int .i64 0, .int .i64 0, .int .i64 0, .int .i64 0, .int .i64 0, .int .i64 0, .int .i64 0, .int .i64 0, .int .i64 0, .slice none 0 0, .slice none 0 0] 28)
        have N12 := Lib.hid (N11.out.below hb)
        have HY := Lib.hid (HY.out.below RByte.stays hb)
        have HX := Lib.hid (HX.out.below RByte.stays hb)
        clear hb N11
        have HC := Lib.hid (same_box ⟨w.heap.size, m, A, c, C, d⟩ ⟨w6.heap.size, m, Ay, cy, By, dy⟩ (w11.alloc (.cells #[.int .u8 0, .int .i64 0, .int .i64 0, .int .i64 0, .int .i64 0, .int .i64 0, .int .i64 0, .int .i64 0, .int .i64 0, .int .i64 0, .slice none 0 0, .slice none 0 0] 28)) (N12.out.mg 2 rfl) (N12.out.mg 0 rfl))
        rw [show sameB m m = true from sameB_iff.2 rfl] at HC
        have l0 := N12.out.at 2 rfl
        dsimp only [Mb.cs] at l0
        have l1 := N12.out.at 0 rfl
        dsimp only [Mb.cs] at l1
        go_wp2_with fail
        refine HC.out.mono ?_
        rintro e w13 ⟨rfl, hb⟩
        clear HC
        clear l0 l1
        have N13 := Lib.hid (N12.out.below hb)
        have HY := Lib.hid (HY.out.below RByte.stays hb)
        have HX := Lib.hid (HX.out.below RByte.stays hb)
        clear hb N12
        cases hmn : mayB n with
        | false =>
          have HC := Lib.hid (put_not n E F e f w13 (N13.out.mg 1 rfl) hk' hmn)
          have l0 := N13.out.at 1 rfl
          dsimp only [Mb.cs] at l0
          go_wp2_with fail
          refine HC.out.mono ?_
          rintro e w14 ⟨A0, c0, rfl, hb⟩
          clear HC
          clear l0
          have N14 := Lib.hid (N13.out.below hb)
          have HY := Lib.hid (HY.out.below RByte.stays hb)
          have HX := Lib.hid (HX.out.below RByte.stays hb)
          clear hb N13
          go_wp2_with fail
          refine quiet_after (by kernel_rfl) (by kernel_rfl) ?_
          repeat (first | go_big_quiet_step (fail) | quiet_step (fail))
          refine wpQuiet_nil ?_
          intro wz hw'
          obtain ⟨p, rfl⟩ := hw'
          obtain ⟨w15, hb⟩ := p
          dsimp only
          have N15 := Lib.hid (N14.out.below hb)
          have HY := Lib.hid (HY.out.below RByte.stays hb)
          have HX := Lib.hid (HX.out.below RByte.stays hb)
          clear hb N14
          cases hg : getM bs with
          | none =>
            have HC := Lib.hid (get_non G g bs w15 HY.out hin hg)
            go_wp2_with fail
            refine HC.out.mono ?_
            rintro e w16 ⟨rfl, hb⟩
            clear HC
            have N16 := Lib.hid (N15.out.below hb)
            have HY := Lib.hid (HY.out.below RByte.stays hb)
            have HX := Lib.hid (HX.out.below RByte.stays hb)
            clear hb N15
            have hb := below_new w16 (.cells #[.int .u8 0, .int .i64 0, .int .i64 0, .int .i64 0, .int .i64 0, .int .i64 0, .int .i64 0, .int .i64 0, .int .i64 0, .int .i64 0, .slice none 0 0, .slice none 0 0] 28)
            have N17 := Lib.hid (N16.out.below hb)
            have HY := Lib.hid (HY.out.below RByte.stays hb)
            have HX := Lib.hid (HX.out.below RByte.stays hb)
            clear hb N16
            go_wp2_with fail
            refine (HW.out _).mono ?_
            rintro e w18 ⟨rfl, hb⟩
            have N18 := Lib.hid (N17.out.below hb)
            have HY := Lib.hid (HY.out.below RByte.stays hb)
            have HX := Lib.hid (HX.out.below RByte.stays hb)
            clear hb N17
            go_wp2_with fail
            go_ret
            exact .bool rfl N18.out.b
          | some y =>
            obtain ⟨hy1, hy2, hy3⟩ := get_back hin hg
            have HC := Lib.hid (get_some G g bs y w15 HY.out hin hg)
            go_wp2_with fail
            refine HC.out.mono ?_
            rintro e w16 ⟨Ay, cy, By, dy, rfl, hm, hb⟩
            clear HC
            have N16 := Lib.hid (N15.out.below hb)
            have HY := Lib.hid (HY.out.below RByte.stays hb)
            have HX := Lib.hid (HX.out.below RByte.stays hb)
            clear hb N15
            obtain ⟨w17, hw17⟩ : ∃ w17, w17 = w16.alloc (.cells (Mb.cs ⟨0, y, Ay, cy, By, dy⟩) 28) := ⟨_, rfl⟩
            have hb : Below w16.heap.size w16 w17 := by rw [hw17]; exact below_new _ _
            have N17 := Lib.hid (show Ms w w17 (⟨w16.heap.size, y, Ay, cy, By, dy⟩ :: _) from by rw [hw17]; exact N16.out.put y Ay cy By dy hm _ rfl)
            have HY := Lib.hid (HY.out.below RByte.stays hb)
            have HX := Lib.hid (HX.out.below RByte.stays hb)
            have e17 := hw17.symm
            dsimp only [Mb.cs] at e17
            clear hm hb hw17
            have HC := Lib.hid (put_may y Ay By cy dy w17 (N17.out.mg 0 rfl) hy2 (by rw [hy1]; omega))
            rw [hy1] at HC
            have l0 := N17.out.at 0 rfl
            dsimp only [Mb.cs] at l0
            go_wp2_with fail
            refine HC.out.mono ?_
            rintro e w18 ⟨Az, cz, rfl, hz, hb⟩
            clear HC
            have HZ := Lib.hid hz
            clear hz
            clear l0
            have N18 := Lib.hid (N17.out.below hb)
            have HY := Lib.hid (HY.out.below RByte.stays hb)
            have HX := Lib.hid (HX.out.below RByte.stays hb)
            clear hb N17
            have q1 := run_convert_byts (P := Try.prog) w18 36 5 Try.underlying36 Try.underlying5 HZ.out 9 Try.underlying9
            have q2 := run_convert_byts (P := Try.prog) w18 36 5 Try.underlying36 Try.underlying5 HY.out 9 Try.underlying9
            go_wp2_with fail
            refine (HW.out _).mono ?_
            rintro e w19 ⟨rfl, hb⟩
            clear q1 q2
            have N19 := Lib.hid (N18.out.below hb)
            have HY := Lib.hid (HY.out.below RByte.stays hb)
            have HX := Lib.hid (HX.out.below RByte.stays hb)
            clear hb N18
            go_wp2_with fail
            go_ret
            exact .bool rfl N19.out.b
        | true =>
          have HC := Lib.hid (put_may n E F e f w13 (N13.out.mg 1 rfl) hmn (few_len hfn))
          have l0 := N13.out.at 1 rfl
          dsimp only [Mb.cs] at l0
          go_wp2_with fail
          refine HC.out.mono ?_
          rintro e w14 ⟨A5, c5, rfl, hx, hb⟩
          clear HC
          have HP := Lib.hid hx
          clear hx
          clear l0
          have N14 := Lib.hid (N13.out.below hb)
          have HY := Lib.hid (HY.out.below RByte.stays hb)
          have HX := Lib.hid (HX.out.below RByte.stays hb)
          clear hb N13
          have z1 := fun p : After w14 => run_convert_byts (P := Try.prog) p.val 36 5 Try.underlying36 Try.underlying5 (HX.out.below RByte.stays p.below) 9 Try.underlying9
          have z2 := fun p : After w14 => run_convert_byts (P := Try.prog) p.val 36 5 Try.underlying36 Try.underlying5 (HP.out.below RByte.stays p.below) 9 Try.underlying9
          have q0 := fun p : After w14 => (N14.out.below p.below).at 2 rfl
          have q1 := fun p : After w14 => (N14.out.below p.below).at 1 rfl
          dsimp only [Mb.cs] at q0 q1
          have HC := Lib.hid (fun p : After w14 => same_box ⟨w.heap.size, m, A, c, C, d⟩ ⟨w.heap.size + 1, n, E, e, F, f⟩ p.val ((N14.out.below p.below).mg 2 rfl) ((N14.out.below p.below).mg 1 rfl))
          have hsb : ((strOfNums X).toList == (strOfNums (msgL n)).toList) = sameB m n := by
            rw [str_beq hXin (msgL_in n)]
            by_cases h : m = n
            · rw [sameB_iff.2 h, decide_eq_true (by rw [HXE.out, h])]
            · rw [decide_eq_false (fun h9 => h (msgL_inj hmm fm hmn fn (by rw [← HXE.out]; exact h9)))]
              exact (Bool.eq_false_iff.2 (fun h9 => h (sameB_iff.1 h9))).symm
          go_wp2_with fail
          refine quiet_after (by kernel_rfl) (by kernel_rfl) ?_
          repeat (first | go_big_quiet_step ((go_at_call 17; with_reducible exact calls_after (HC.out _))) | quiet_step ((go_at_call 17; with_reducible exact calls_after (HC.out _))))
          refine wpQuiet_nil ?_
          intro wz hw'
          obtain ⟨p, rfl⟩ := hw'
          obtain ⟨w15, hb⟩ := p
          dsimp only
          clear z1 z2 q0 q1 HC
          have N15 := Lib.hid (N14.out.below hb)
          have HY := Lib.hid (HY.out.below RByte.stays hb)
          have HX := Lib.hid (HX.out.below RByte.stays hb)
          have HP := Lib.hid (HP.out.below RByte.stays hb)
          clear hb N14
          cases hg : getM bs with
          | none =>
            have HC := Lib.hid (get_non G g bs w15 HY.out hin hg)
            go_wp2_with fail
            refine HC.out.mono ?_
            rintro e w16 ⟨rfl, hb⟩
            clear HC
            have N16 := Lib.hid (N15.out.below hb)
            have HY := Lib.hid (HY.out.below RByte.stays hb)
            have HX := Lib.hid (HX.out.below RByte.stays hb)
            have HP := Lib.hid (HP.out.below RByte.stays hb)
            clear hb N15
            have hb := below_new w16 (.cells #[.int .u8 0, .int .i64 0, .int .i64 0, .int .i64 0, .int .i64 0, .int .i64 0, .int .i64 0, .int .i64 0, .int .i64 0, .int .i64 0, .slice none 0 0, .slice none 0 0] 28)
            have N17 := Lib.hid (N16.out.below hb)
            have HY := Lib.hid (HY.out.below RByte.stays hb)
            have HX := Lib.hid (HX.out.below RByte.stays hb)
            have HP := Lib.hid (HP.out.below RByte.stays hb)
            clear hb N16
            go_wp2_with fail
            refine (HW.out _).mono ?_
            rintro e w18 ⟨rfl, hb⟩
            have N18 := Lib.hid (N17.out.below hb)
            have HY := Lib.hid (HY.out.below RByte.stays hb)
            have HX := Lib.hid (HX.out.below RByte.stays hb)
            have HP := Lib.hid (HP.out.below RByte.stays hb)
            clear hb N17
            go_wp2_with fail
            go_ret
            exact .bool rfl N18.out.b
          | some y =>
            obtain ⟨hy1, hy2, hy3⟩ := get_back hin hg
            have HC := Lib.hid (get_some G g bs y w15 HY.out hin hg)
            go_wp2_with fail
            refine HC.out.mono ?_
            rintro e w16 ⟨Ay, cy, By, dy, rfl, hm, hb⟩
            clear HC
            have N16 := Lib.hid (N15.out.below hb)
            have HY := Lib.hid (HY.out.below RByte.stays hb)
            have HX := Lib.hid (HX.out.below RByte.stays hb)
            have HP := Lib.hid (HP.out.below RByte.stays hb)
            clear hb N15
            obtain ⟨w17, hw17⟩ : ∃ w17, w17 = w16.alloc (.cells (Mb.cs ⟨0, y, Ay, cy, By, dy⟩) 28) := ⟨_, rfl⟩
            have hb : Below w16.heap.size w16 w17 := by rw [hw17]; exact below_new _ _
            have N17 := Lib.hid (show Ms w w17 (⟨w16.heap.size, y, Ay, cy, By, dy⟩ :: _) from by rw [hw17]; exact N16.out.put y Ay cy By dy hm _ rfl)
            have HY := Lib.hid (HY.out.below RByte.stays hb)
            have HX := Lib.hid (HX.out.below RByte.stays hb)
            have HP := Lib.hid (HP.out.below RByte.stays hb)
            have e17 := hw17.symm
            dsimp only [Mb.cs] at e17
            clear hm hb hw17
            have HC := Lib.hid (put_may y Ay By cy dy w17 (N17.out.mg 0 rfl) hy2 (by rw [hy1]; omega))
            rw [hy1] at HC
            have l0 := N17.out.at 0 rfl
            dsimp only [Mb.cs] at l0
            go_wp2_with fail
            refine HC.out.mono ?_
            rintro e w18 ⟨Az, cz, rfl, hz, hb⟩
            clear HC
            have HZ := Lib.hid hz
            clear hz
            clear l0
            have N18 := Lib.hid (N17.out.below hb)
            have HY := Lib.hid (HY.out.below RByte.stays hb)
            have HX := Lib.hid (HX.out.below RByte.stays hb)
            have HP := Lib.hid (HP.out.below RByte.stays hb)
            clear hb N17
            have q1 := run_convert_byts (P := Try.prog) w18 36 5 Try.underlying36 Try.underlying5 HZ.out 9 Try.underlying9
            have q2 := run_convert_byts (P := Try.prog) w18 36 5 Try.underlying36 Try.underlying5 HY.out 9 Try.underlying9
            go_wp2_with fail
            refine (HW.out _).mono ?_
            rintro e w19 ⟨rfl, hb⟩
            clear q1 q2
            have N19 := Lib.hid (N18.out.below hb)
            have HY := Lib.hid (HY.out.below RByte.stays hb)
            have HX := Lib.hid (HX.out.below RByte.stays hb)
            have HP := Lib.hid (HP.out.below RByte.stays hb)
            clear hb N18
            go_wp2_with fail
            go_ret
            exact .bool rfl N19.out.b
end Go.Proofs.Yteiohcgohgcjfaa
