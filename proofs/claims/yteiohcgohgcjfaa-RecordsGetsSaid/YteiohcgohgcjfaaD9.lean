/- Contract of Put. -/
import Derived.Test.YteiohcgohgcjfaaRows
import Derived.IntWalk
import Derived.Test.YteiohcgohgcjfaaWords
import Derived.Test.YteiohcgohgcjfaaByts
import Derived.Test.YteiohcgohgcjfaaStrs
import Derived.Test.YteiohcgohgcjfaaFrame
import Derived.Test.YteiohcgohgcjfaaElems
import Derived.Test.YteiohcgohgcjfaaS1
import Derived.Test.YteiohcgohgcjfaaS2
import Derived.Test.YteiohcgohgcjfaaEqs
import Derived.Test.YteiohcgohgcjfaaS11
import Derived.Test.YteiohcgohgcjfaaA1
import Derived.Test.YteiohcgohgcjfaaA2
import Derived.Test.YteiohcgohgcjfaaA3
import Derived.Test.YteiohcgohgcjfaaD1
import Derived.Test.YteiohcgohgcjfaaD3
import Derived.Test.YteiohcgohgcjfaaD4
import Derived.Test.YteiohcgohgcjfaaD5
import Derived.Test.YteiohcgohgcjfaaD6
import Derived.Test.YteiohcgohgcjfaaD7
import Derived.Test.YteiohcgohgcjfaaD8
namespace Go.Proofs.Yteiohcgohgcjfaa
open Go Go.RowKit Go.Proofs.Tail
set_option linter.unusedSimpArgs false
set_option linter.unusedVariables false
/-- A message's bytes. -/
def msgL (m : Msg) : List Int :=
  if m.k = 1 then be m.k 1 ++ (be m.f 1 ++ be m.t 1 ++ be m.i 1) ++ be m.q 8 ++ putL m.s ++ be m.L.length 4 ++ m.L.flatMap recL
  else be m.k 1 ++ be m.U.length 4 ++ m.U.flatMap updL
/-- While a message is written: its box at B lies below the Writer at P. -/
structure Wm (w0 : World) (m : Msg) (A : Option Addr) (c : Nat) (B : Option Addr) (d : Nat) (P : Nat) (xs : List Int) (w : World) : Prop where
  wr : ∃ v, Wr w P v xs
  bx : Blk w w0.heap.size (m.cs A c B d) 28
  lt : w0.heap.size < P
  b : Below w0.heap.size w0 w
theorem Wm.step {w0 : World} {m : Msg} {A B : Option Addr} {c d P : Nat} {xs ys : List Int} {w w' : World} (h : Wm w0 m A c B d P xs w) {e : Ending} (h2 : Wrt P ys w e w') : e = .returned (.tuple #[]) ∧ Wm w0 m A c B d P ys w' :=
  ⟨h2.1, h2.2.1, h.bx.below h2.2.2 h.lt, h.lt, h.b.trans (h2.2.2.mono (Nat.le_of_lt h.lt))⟩
theorem mayB_one {m : Msg} (h : mayB m = true) (hk : m.k = 1) : (0 ≤ m.f ∧ m.f < 32) ∧ (0 ≤ m.t ∧ m.t < 32) ∧ (0 ≤ m.i ∧ m.i < 32) ∧ 0 ≤ m.q ∧ m.q ≤ 4611686018427387904 ∧ m.s.right ∧ m.L.length ≤ 65536 ∧ m.U = [] := by
  unfold mayB at h
  rw [if_pos hk] at h
  unfold may1 at h
  simp only [Bool.and_eq_true, decide_eq_true_eq, List.all_cons, List.all_nil, nodeB] at h
  obtain ⟨⟨h1, h2, h3, _⟩, h4, h5, h6, h7, h8⟩ := h
  exact ⟨h1, h2, h3, h4, h5, right_iff.1 h6, h7, List.eq_nil_of_length_eq_zero h8⟩
theorem mayB_two {m : Msg} (h : mayB m = true) (hk : m.k ≠ 1) : m.k = 2 ∧ m.U.length ≤ 65536 ∧ (∀ u ∈ m.U, (0 ≤ u.n ∧ u.n < 32) ∧ u.s.right) ∧ m = bare m := by
  unfold mayB at h
  rw [if_neg hk] at h
  by_cases h2 : m.k = 2
  · rw [if_pos h2] at h
    unfold may2 at h
    simp only [Bool.and_eq_true, decide_eq_true_eq, Bool.not_eq_true'] at h
    obtain ⟨h3, h4, h5⟩ := h
    refine ⟨h2, h3, fun u hu => ?_, sameB_iff.1 h5⟩
    have := List.any_eq_false.1 h4 u hu
    unfold wrongU at this
    simp only [Bool.or_eq_true, Bool.not_eq_true', not_or, Bool.not_eq_false] at this
    have h6 := this.1
    unfold nodeB at h6
    exact ⟨by simpa using h6, right_iff.1 this.2⟩
  · rw [if_neg h2] at h; cases h
theorem idx3_0 (x y z : Int) (W : World) : (Instr.index 22 (.agg #[.int .i64 x, .int .i64 y, .int .i64 z]) (.int .i64 0)).run Try.prog W = .ok (.int .i64 x) W := by
  have u := Try.underlying22
  have u3 := Try.underlying3
  have a3 := Try.isAgg3
  have z3 := Try.sizeOf3
  unfold Instr.index
  go_simp
  try (unfold part; go_simp)
theorem idx3_1 (x y z : Int) (W : World) : (Instr.index 22 (.agg #[.int .i64 x, .int .i64 y, .int .i64 z]) (.int .i64 1)).run Try.prog W = .ok (.int .i64 y) W := by
  have u := Try.underlying22
  have u3 := Try.underlying3
  have a3 := Try.isAgg3
  have z3 := Try.sizeOf3
  unfold Instr.index
  go_simp
  try (unfold part; go_simp)
theorem idx3_2 (x y z : Int) (W : World) : (Instr.index 22 (.agg #[.int .i64 x, .int .i64 y, .int .i64 z]) (.int .i64 2)).run Try.prog W = .ok (.int .i64 z) W := by
  have u := Try.underlying22
  have u3 := Try.underlying3
  have a3 := Try.isAgg3
  have z3 := Try.sizeOf3
  unfold Instr.index
  go_simp
  try (unfold part; go_simp)
set_option maxRecDepth 100000 in
set_option maxHeartbeats 16000000 in
theorem mput_any (m : Msg) (A B : Option Addr) (c d : Nat) (w : World) (hm : Mg w m A c B d) (hk8 : 0 ≤ m.k ∧ m.k < 256) : Calls Try.prog 13 #[.agg (m.cs A c B d).toArray] w (GivesRow (if mayB m = true then msgL m else []) (if mayB m = true then 0 else 2) w) := by
  have hmf : ∀ (fn : Fn) (first cap : Array Value) (w : World), (Instr.makeFunc fn first cap).run Try.prog w = .ok (.func fn first cap) w := fun _ _ _ _ => rfl
  obtain ⟨w1, hw1⟩ : ∃ w1, w1 = w.alloc (.cells (m.cs A c B d).toArray 28) := ⟨_, rfl⟩
  obtain ⟨hb1, hx1⟩ := Msg.box w m A c B d w1 hw1
  have e1 := hw1.symm
  have HM := Lib.hid (may_any m A B c d w1 (hm.below hb1))
  have HX := Lib.hid hx1
  have HB1 := Lib.hid hb1
  have HMG := Lib.hid hm
  have HK8 := Lib.hid hk8
  have b0 : w1.cell? ⟨w.heap.size, 0, none⟩ = some (.int .u8 m.k) := hx1.cell 0
  have b1 : w1.cell? ⟨w.heap.size, 1, none⟩ = some (.int .i64 m.f) := hx1.cell 1
  have b2 : w1.cell? ⟨w.heap.size, 2, none⟩ = some (.int .i64 m.t) := hx1.cell 2
  have b3 : w1.cell? ⟨w.heap.size, 3, none⟩ = some (.int .i64 m.i) := hx1.cell 3
  have b4 : w1.cell? ⟨w.heap.size, 4, none⟩ = some (.int .i64 m.q) := hx1.cell 4
  have b5 : w1.cell? ⟨w.heap.size, 5, none⟩ = some (.int .i64 m.s.d) := hx1.cell 5
  have b6 : w1.cell? ⟨w.heap.size, 6, none⟩ = some (.int .i64 m.s.e) := hx1.cell 6
  have b7 : w1.cell? ⟨w.heap.size, 7, none⟩ = some (.int .i64 m.s.a) := hx1.cell 7
  have b8 : w1.cell? ⟨w.heap.size, 8, none⟩ = some (.int .i64 m.s.b) := hx1.cell 8
  have b9 : w1.cell? ⟨w.heap.size, 9, none⟩ = some (.int .i64 m.s.c) := hx1.cell 9
  have b10 : w1.cell? ⟨w.heap.size, 10, none⟩ = some (.slice A m.L.length c) := hx1.cell 10
  have b11 : w1.cell? ⟨w.heap.size, 11, none⟩ = some (.slice B m.U.length d) := hx1.cell 11
  unfold Msg.cs at e1 HM
  unfold Msg.cs
  clear hm hb1 hx1 hw1 hk8
  cases hmay : mayB m with
  | false =>
    rw [hmay] at HM
    rw [if_neg (by simp), if_neg (by simp)]
    clear hmay
    go_enter Try.func13, Try.ntmps13
    go_wp2_with fail
    with_reducible refine HM.out.mono ?_
    rintro e w2 ⟨rfl, hb⟩
    have HB2 := Lib.hid (below_then HB1.out hb)
    clear hb b0 b1 b2 b3 b4 b5 b6 b7 b8 b9 b10 b11
    go_wp2_with fail
    go_ret2
    exact ⟨_, rfl, World.ownsRow_nil _ _ _ _, HB2.out⟩
  | true =>
    rw [hmay] at HM
    have HMAY := Lib.hid hmay
    rw [if_pos rfl, if_pos rfl]
    clear hmay
    go_enter Try.func13, Try.ntmps13
    go_wp2_with fail
    with_reducible refine HM.out.mono ?_
    rintro e w2 ⟨rfl, hb⟩
    have hb2 := below_then HB1.out hb
    have hx2 := HX.out.then hb
    have hb3 := below_new w2 (.cells #[.slice none 0 0] 64)
    have W0 := Lib.hid (show Wm w m A c B d w2.heap.size [] (w2.alloc (.cells #[.slice none 0 0] 64)) from ⟨⟨_, Wr.new w2 _ rfl⟩, hx2.then hb3, hx2.lt, below_then hb2 hb3⟩)
    obtain ⟨w3, hw3⟩ : ∃ w3, w3 = w2.alloc (.cells #[.slice none 0 0] 64) := ⟨_, rfl⟩
    have e3 := hw3.symm
    rw [← hw3] at W0
    have c0 : w3.cell? ⟨w.heap.size, 0, none⟩ = some (.int .u8 m.k) := W0.out.bx.cell 0
    clear hb hb2 hx2 hb3 hw3 b0 b1 b2 b3 b4 b5 b6 b7 b8 b9 b10 b11 HX HB1 HM e1
    go_wp2_with fail
    clear e3
    generalize w2.heap.size = P at *
    obtain ⟨v, hv⟩ := W0.out.wr
    have H1 := Lib.hid (wbyte_any P v [] m.k w3 hv HK8.out.1 HK8.out.2 (by simp))
    have HV := Lib.hid hv
    clear hv
    refine H1.out.mono ?_
    rintro e w4 h1
    obtain ⟨rfl, h2⟩ := W0.out.step (wrt_of HV.out h1)
    have W1 := Lib.hid h2
    have d0 : w4.cell? ⟨w.heap.size, 0, none⟩ = some (.int .u8 m.k) := h2.bx.cell 0
    have d1 : w4.cell? ⟨w.heap.size, 1, none⟩ = some (.int .i64 m.f) := h2.bx.cell 1
    have d2 : w4.cell? ⟨w.heap.size, 2, none⟩ = some (.int .i64 m.t) := h2.bx.cell 2
    have d3 : w4.cell? ⟨w.heap.size, 3, none⟩ = some (.int .i64 m.i) := h2.bx.cell 3
    have d11 : w4.cell? ⟨w.heap.size, 11, none⟩ = some (.slice B m.U.length d) := h2.bx.cell 11
    clear h1 h2 H1 HV W0 c0
    by_cases hk : m.k = 1
    · obtain ⟨r1, r2, r3, r4, r5, r6, r7, r8⟩ := mayB_one HMAY.out hk
      have HRR := Lib.hid (And.intro r1 (And.intro r2 (And.intro r3 (And.intro r4 (And.intro r5 r7)))))
      have q1 : (m.k == 1) = true := by simpa using hk
      have u1 : IntKind.u8.wrap m.f = m.f := by simp [IntKind.wrap, IntKind.bits, IntKind.signed]; omega
      have u2 : IntKind.u8.wrap m.t = m.t := by simp [IntKind.wrap, IntKind.bits, IntKind.signed]; omega
      have u3 : IntKind.u8.wrap m.i = m.i := by simp [IntKind.wrap, IntKind.bits, IntKind.signed]; omega
      have u4 : IntKind.u64.wrap m.q = m.q := by simp [IntKind.wrap, IntKind.bits, IntKind.signed]; omega
      have HMS := Lib.hid (show msgL m = be m.k 1 ++ (be m.f 1 ++ be m.t 1 ++ be m.i 1) ++ be m.q 8 ++ putL m.s ++ be m.L.length 4 ++ m.L.flatMap recL by unfold msgL; rw [if_pos hk])
      clear r1 r2 r3 r4 r5 r6 r7 r8 hk d11
      have L0 : Hid (Wm w m A c B d P (be m.k 1 ++ ([m.f, m.t, m.i].take 0).flatMap (be · 1)) w4) := Lib.hid (by simpa using W1.out)
      clear W1
      go_wp2_with fail
      clear d0 d1 d2 d3 q1
      go_loopw [23] (fun i wr => ∃ k4 : Nat, k4 ≤ 3 ∧ i = .int .i64 k4 ∧ Hid (Wm w m A c B d P (be m.k 1 ++ ([m.f, m.t, m.i].take k4).flatMap (be · 1)) wr)) (fun i _ => 3 - (intOf i).toNat)
      case atStart => exact ⟨0, by omega, rfl, L0⟩
      case round =>
        clear L0
        obtain ⟨k4, hk4, rfl, L0⟩ := hrel
        by_cases h3 : k4 < 3
        · obtain ⟨v, hv⟩ := L0.out.wr
          have HV := Lib.hid hv
          match k4, h3 with
          | 0, _ =>
            have hix := idx3_0 m.f m.t m.i
            have H1 := Lib.hid (wbyte_any P v _ m.f wr hv (by have := HRR.out.1; omega) (by have := HRR.out.1; omega) (by simp [be_length]))
            clear hv
            go_wp2_with fail
            refine H1.out.mono ?_
            rintro e w5 h1
            obtain ⟨rfl, h2⟩ := L0.out.step (wrt_of HV.out h1)
            have LN : Hid (Wm w m A c B d P (be m.k 1 ++ ([m.f, m.t, m.i].take (0 + 1)).flatMap (be · 1)) w5) := Lib.hid (by simpa using h2)
            clear h1 h2 H1
            go_wp2_with fail
            go_roundw
            case rel => exact ⟨0 + 1, by omega, by go_num, LN⟩
            case measure => simp [intOf]
          | 1, _ =>
            have hix := idx3_1 m.f m.t m.i
            have H1 := Lib.hid (wbyte_any P v _ m.t wr hv (by have := HRR.out.2.1; omega) (by have := HRR.out.2.1; omega) (by simp [be_length]))
            clear hv
            go_wp2_with fail
            refine H1.out.mono ?_
            rintro e w5 h1
            obtain ⟨rfl, h2⟩ := L0.out.step (wrt_of HV.out h1)
            have LN : Hid (Wm w m A c B d P (be m.k 1 ++ ([m.f, m.t, m.i].take (1 + 1)).flatMap (be · 1)) w5) := Lib.hid (by simpa using h2)
            clear h1 h2 H1
            go_wp2_with fail
            go_roundw
            case rel => exact ⟨1 + 1, by omega, by go_num, LN⟩
            case measure => simp [intOf]
          | 2, _ =>
            have hix := idx3_2 m.f m.t m.i
            have H1 := Lib.hid (wbyte_any P v _ m.i wr hv (by have := HRR.out.2.2.1; omega) (by have := HRR.out.2.2.1; omega) (by simp [be_length]))
            clear hv
            go_wp2_with fail
            refine H1.out.mono ?_
            rintro e w5 h1
            obtain ⟨rfl, h2⟩ := L0.out.step (wrt_of HV.out h1)
            have LN : Hid (Wm w m A c B d P (be m.k 1 ++ ([m.f, m.t, m.i].take (2 + 1)).flatMap (be · 1)) w5) := Lib.hid (by simpa using h2)
            clear h1 h2 H1
            go_wp2_with fail
            go_roundw
            case rel => exact ⟨2 + 1, by omega, by go_num, LN⟩
            case measure => simp [intOf]
        · obtain rfl : k4 = 3 := by omega
          obtain ⟨v, hv⟩ := L0.out.wr
          have HV := Lib.hid hv
          have H1 := Lib.hid (wlong_any P v _ m.q wr hv (by have := HRR.out.2.2.2.1; omega) (by have := HRR.out.2.2.2.2.1; omega) (by simp [be_length]))
          have c4 : wr.cell? ⟨w.heap.size, 4, none⟩ = some (.int .i64 m.q) := L0.out.bx.cell 4
          clear hv
          go_wp2_with fail
          refine H1.out.mono ?_
          rintro e w5 h1
          obtain ⟨rfl, h2⟩ := L0.out.step (wrt_of HV.out h1)
          have W2 := Lib.hid h2
          have c5 : w5.cell? ⟨w.heap.size, 5, none⟩ = some (.int .i64 m.s.d) := h2.bx.cell 5
          have c6 : w5.cell? ⟨w.heap.size, 6, none⟩ = some (.int .i64 m.s.e) := h2.bx.cell 6
          have c7 : w5.cell? ⟨w.heap.size, 7, none⟩ = some (.int .i64 m.s.a) := h2.bx.cell 7
          have c8 : w5.cell? ⟨w.heap.size, 8, none⟩ = some (.int .i64 m.s.b) := h2.bx.cell 8
          have c9 : w5.cell? ⟨w.heap.size, 9, none⟩ = some (.int .i64 m.s.c) := h2.bx.cell 9
          obtain ⟨v2, hv2⟩ := h2.wr
          have H2 := Lib.hid (time_any P v2 _ m.s w5 hv2 (by simp [be_length]))
          clear h1 h2 hv2 c4 H1 HV L0
          go_wp2_with fail
          refine H2.out.mono ?_
          rintro e w6 h1
          obtain ⟨rfl, h2⟩ := W2.out.step h1
          have W3 := Lib.hid h2
          have c10 : w6.cell? ⟨w.heap.size, 10, none⟩ = some (.slice A m.L.length c) := h2.bx.cell 10
          obtain ⟨v3, hv3⟩ := h2.wr
          have H3 := Lib.hid (row_recs P v3 _ A _ c m.L w w6 HMG.out.l (Nat.le_of_lt h2.lt) h2.b hv3 (by have := putL_len m.s; simp [be_length]; omega) HRR.out.2.2.2.2.2)
          clear h1 h2 hv3 c5 c6 c7 c8 c9 H2 W2
          go_wp2_with fail
          refine H3.out.mono ?_
          rintro e w7 h1
          obtain ⟨rfl, h2⟩ := W3.out.step h1
          have W4 := Lib.hid h2
          obtain ⟨v4, hv4⟩ := h2.wr
          have H4 := Lib.hid (out_any P v4 _ w7 hv4 (by have := putL_len m.s; have := recs_len m.L; have := HRR.out.2.2.2.2.2; simp only [List.length_append, be_length, List.flatMap_cons, List.flatMap_nil, List.take_succ_cons, List.take_zero, List.length_nil]; omega))
          clear h1 h2 hv4 c10 H3 W3
          go_wp2_with fail
          refine H4.out.mono ?_
          rintro e w8 ⟨v5, rfl, h1, h2⟩
          have HB8 := Lib.hid (below_then W4.out.b h2)
          have HO := Lib.hid (own_base h1 W4.out.b.size)
          clear h1 h2 H4
          go_wp2_with fail
          go_ret2
          refine ⟨v5, rfl, ?_, HB8.out⟩
          rw [HMS.out]
          have := HO.out
          simpa using this
    · obtain ⟨r1, r2, r3, r4⟩ := mayB_two HMAY.out hk
      have HRR := Lib.hid r2
      have q1 : (m.k == 1) = false := by simpa using hk
      have HMS := Lib.hid (show msgL m = be m.k 1 ++ be m.U.length 4 ++ m.U.flatMap updL by unfold msgL; rw [if_neg hk])
      obtain ⟨v3, hv3⟩ := W1.out.wr
      have H3 := Lib.hid (row_upds P v3 _ B _ d m.U w w4 HMG.out.u (Nat.le_of_lt W1.out.lt) W1.out.b hv3 (by simp [be_length]) HRR.out)
      clear r1 r2 r3 r4 hk hv3 d1 d2 d3
      go_wp2_with fail
      refine H3.out.mono ?_
      rintro e w7 h1
      obtain ⟨rfl, h2⟩ := W1.out.step h1
      have W4 := Lib.hid h2
      obtain ⟨v4, hv4⟩ := h2.wr
      have H4 := Lib.hid (out_any P v4 _ w7 hv4 (by have := upds_len m.U; have := HRR.out; simp only [List.length_append, be_length, List.length_nil]; omega))
      clear h1 h2 hv4 d0 d11 q1 H3 W1
      go_wp2_with fail
      refine H4.out.mono ?_
      rintro e w8 ⟨v5, rfl, h1, h2⟩
      have HB8 := Lib.hid (below_then W4.out.b h2)
      have HO := Lib.hid (own_base h1 W4.out.b.size)
      clear h1 h2 H4
      go_wp2_with fail
      go_ret2
      refine ⟨v5, rfl, ?_, HB8.out⟩
      rw [HMS.out]
      have := HO.out
      simpa using this
end Go.Proofs.Yteiohcgohgcjfaa
