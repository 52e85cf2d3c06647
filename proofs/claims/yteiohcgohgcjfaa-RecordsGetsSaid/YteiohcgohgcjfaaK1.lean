/- The reference's node, May. -/
import Derived.Test.YteiohcgohgcjfaaRows
import Derived.IntWalk
import Derived.Test.YteiohcgohgcjfaaWords
import Derived.Test.YteiohcgohgcjfaaByts
import Derived.Test.YteiohcgohgcjfaaFrame
import Derived.Test.YteiohcgohgcjfaaElems
import Derived.Test.YteiohcgohgcjfaaS1
import Derived.Test.YteiohcgohgcjfaaS2
import Derived.Test.YteiohcgohgcjfaaEqs
import Derived.Test.YteiohcgohgcjfaaD1
import Derived.Test.YteiohcgohgcjfaaD3
import Derived.Test.YteiohcgohgcjfaaD4
import Derived.Test.YteiohcgohgcjfaaD5
import Derived.Test.YteiohcgohgcjfaaD6
import Derived.Test.YteiohcgohgcjfaaD9
import Derived.Test.YteiohcgohgcjfaaB0
namespace Go.Proofs.Yteiohcgohgcjfaa
open Go Go.RowKit Go.Proofs.Tail
set_option linter.unusedSimpArgs false
set_option linter.unusedVariables false
theorem node_any (x : Int) (w : World) : Calls Try.prog 19 #[.int .i64 x] w (Tells (.bool (nodeB x)) w) := by
  by_cases h : 0 ≤ x
  · by_cases h2 : x < 32
    · rw [show nodeB x = true from decide_eq_true ⟨h, h2⟩]
      go_enter Try.func19, Try.ntmps19
      go_wp2_with fail
      go_ret
      exact ⟨rfl, rfl⟩
    · rw [show nodeB x = false from decide_eq_false (fun h9 => h2 h9.2)]
      go_enter Try.func19, Try.ntmps19
      go_wp2_with fail
      go_ret
      exact ⟨rfl, rfl⟩
  · rw [show nodeB x = false from decide_eq_false (fun h9 => h h9.1)]
    go_enter Try.func19, Try.ntmps19
    go_wp2_with fail
    go_ret
    exact ⟨rfl, rfl⟩
theorem may_wrong {m : Msg} (h : m.U.any wrongU = true) : mayB m = false := by
  have hne : ¬ m.U.length = 0 := fun h9 => by rw [List.eq_nil_of_length_eq_zero h9] at h; simp at h
  unfold mayB
  split
  · unfold may1; rw [decide_eq_false hne]; simp
  · split
    · unfold may2; rw [h]; simp
    · rfl
theorem may_wrong_at {m : Msg} {j : Nat} {u : Upd} (h : m.U[j]? = some u) (hu : wrongU u = true) : mayB m = false := may_wrong (List.any_eq_true.2 ⟨u, List.mem_of_getElem? h, hu⟩)
theorem may_many {m : Msg} (h : 65536 < m.U.length) : mayB m = false := by
  unfold mayB
  split
  · unfold may1; rw [decide_eq_false (show ¬ m.U.length = 0 by omega)]; simp
  · split
    · unfold may2; rw [decide_eq_false (show ¬ m.U.length ≤ 65536 by omega)]; simp
    · rfl
theorem same_bare {m : Msg} : sameB m (bare m) = true ↔ m.f = 0 ∧ m.t = 0 ∧ m.i = 0 ∧ m.q = 0 ∧ m.s = T0 ∧ m.L.length = 0 := by
  rw [sameB_iff]
  obtain ⟨k, f, t, i, q, s, L, U⟩ := m
  unfold bare
  simp only [Msg.mk.injEq, true_and, and_true]
  constructor
  · rintro ⟨h1, h2, h3, h4, h5, h6⟩
    exact ⟨h1, h2, h3, h4, h5, by rw [h6]; rfl⟩
  · rintro ⟨h1, h2, h3, h4, h5, h6⟩
    exact ⟨h1, h2, h3, h4, h5, List.eq_nil_of_length_eq_zero h6⟩
theorem may_long {m : Msg} (h : 65536 < m.L.length) : mayB m = false := by
  unfold mayB
  split
  · unfold may1; rw [decide_eq_false (show ¬ m.L.length ≤ 65536 by omega)]; simp
  · split
    · unfold may2
      rw [Bool.eq_false_iff.2 (fun h9 => by have := (same_bare.1 h9).2.2.2.2.2; omega : sameB m (bare m) ≠ true)]; simp
    · rfl
theorem may_eq1 {m : Msg} (hk : m.k = 1) (hl : m.L.length ≤ 65536) : mayB m = (nodeB m.f && (nodeB m.t && (nodeB m.i && (decide (0 ≤ m.q) && (decide (m.q ≤ 4611686018427387904) && (m.s.rightB && decide (m.U.length = 0))))))) := by
  unfold mayB
  rw [if_pos hk]
  unfold may1
  rw [decide_eq_true hl]
  simp only [List.all_cons, List.all_nil, Bool.and_true, Bool.true_and, Bool.and_assoc]
theorem may_eq2 {m : Msg} (hk : m.k = 2) (hu : m.U.length ≤ 65536) (hw : m.U.any wrongU = false) : mayB m = (decide (m.f = 0) && (decide (m.t = 0) && (decide (m.i = 0) && (decide (m.q = 0) && (m.s.eqB T0 && decide (m.L.length = 0)))))) := by
  unfold mayB
  rw [if_neg (by omega), if_pos hk]
  unfold may2
  rw [decide_eq_true hu, hw]
  simp only [Bool.not_false, Bool.true_and]
  rw [Bool.eq_iff_iff, same_bare]
  simp only [Bool.and_eq_true, decide_eq_true_eq, T.eqB_iff]
theorem may_eq3 {m : Msg} (h1 : m.k ≠ 1) (h2 : m.k ≠ 2) : mayB m = false := by
  unfold mayB
  rw [if_neg h1, if_neg h2]
set_option maxRecDepth 100000 in
set_option maxHeartbeats 16000000 in
theorem refmay_any (m : Msg) (A C : Option Addr) (c d : Nat) (w : World) (hm : Mg w m A c C d) : Calls Try.prog 10 #[.agg (m.cs A c C d).toArray] w (Gives (.bool (mayB m)) w) := by
  obtain ⟨w1, hw1⟩ : ∃ w1, w1 = w.alloc (.cells (m.cs A c C d).toArray 34) := ⟨_, rfl⟩
  have hb1 : Below w.heap.size w w1 := by rw [hw1]; exact below_new w _
  have hx1 : Blk w1 w.heap.size (m.cs A c C d) 34 := by rw [hw1]; exact Blk.new w _ _ _ rfl
  have HM := Lib.hid (hm.below hb1)
  have HB0 := Lib.hid hb1
  have LA := Lib.hid (show ∀ W, Below w1.heap.size w1 W → ∀ o, W.cell? ⟨w.heap.size, o, none⟩ = (Mb.cs ⟨0, m, A, c, C, d⟩)[o]? from fun W hW o => by rw [(hx1.then hW).cell, Mb.cs, ← Msg.cs_eq]; simp)
  have la := LA.out w1 (Below.refl _ _)
  dsimp only [Mb.cs] at la
  have e1 := hw1.symm
  rw [Msg.cs_eq] at e1
  rw [Msg.cs_eq]
  have HN := Lib.hid (fun x W => node_any x W)
  have HR := Lib.hid (fun t W => refright_any t W)
  have H0 := Lib.hid (show ∀ j, j < 0 → ∀ u, m.U[j]? = some u → wrongU u = false from fun j h => absurd h (Nat.not_lt_zero _))
  have HB1 := Lib.hid (Below.refl w1.heap.size w1)
  have hbig := HM.out.u.big
  clear hm hb1 hx1 hw1
  go_enter Try.func10, Try.ntmps10
  go_wp2_with fail
  clear la e1
  go_loopw [3] (fun i wr => ∃ k : Nat, k ≤ m.U.length ∧ i = .int .i64 k ∧ Hid (∀ j, j < k → ∀ u, m.U[j]? = some u → wrongU u = false) ∧ Hid (Below w1.heap.size w1 wr)) (fun i _ => m.U.length - (intOf i).toNat)
  case atStart => exact ⟨0, Nat.zero_le _, rfl, H0, HB1⟩
  case round =>
    clear H0 HB1
    obtain ⟨k, hk, rfl, HK, HB⟩ := hrel
    have la := LA.out wr HB.out
    dsimp only [Mb.cs] at la
    by_cases hlt : k < m.U.length
    · have hd : decide ((k : Int) < m.U.length) = true := decide_eq_true (by omega)
      have hd' : decide (k < m.U.length) = true := decide_eq_true (by omega)
      have hk0 : (0 : Int) ≤ k := by omega
      have hkn : (k : Int) < m.U.length := by omega
      obtain ⟨b1, o1, u, hC, ex, rx⟩ := HM.out.u.elem hlt
      subst hC
      obtain ⟨z0, z1, z2, z3, z4, z5, z6, z7⟩ := rx.below HB.out
      have HE := Lib.hid ex
      clear ex rx
      go_wp2_with fail
      refine (HN.out u.n _).mono ?_
      rintro e w2 ⟨rfl, rfl⟩
      cases hn : nodeB u.n with
      | false =>
        have HQ := Lib.hid (may_wrong_at HE.out (by unfold wrongU; rw [hn]; rfl))
        go_wp2_with fail
        go_ret
        exact .bool (by rw [HQ.out]) (below_then HB0.out HB.out)
      | true =>
        go_wp2_with fail
        refine (HR.out u.s _).mono ?_
        rintro e w3 ⟨rfl, hb⟩
        have HB3 := Lib.hid (below_then HB.out hb)
        clear hb la z0 z1 z2 z3 z4 z5 z6 z7
        cases hr : u.s.rightB with
        | false =>
          have HQ := Lib.hid (may_wrong_at HE.out (by unfold wrongU; rw [hn, hr]; rfl))
          go_wp2_with fail
          go_ret
          exact .bool (by rw [HQ.out]) (below_then HB0.out HB3.out)
        | true =>
          have HN2 : Hid (∀ j, j < k + 1 → ∀ y, m.U[j]? = some y → wrongU y = false) := Lib.hid fun j hj y hy => by
            rcases Nat.eq_or_lt_of_le (Nat.le_of_lt_succ hj) with e | e
            · subst e; rw [HE.out] at hy; injection hy with hy; subst hy; unfold wrongU; rw [hn, hr]; rfl
            · exact HK.out j e y hy
          go_wp2_with fail
          go_roundw
          case rel => exact ⟨k + 1, by omega, by go_num, HN2, HB3⟩
          case measure => simp [intOf]; omega
    · have hd : decide ((k : Int) < m.U.length) = false := decide_eq_false (by omega)
      have hd' : decide (k < m.U.length) = false := decide_eq_false (by omega)
      have HNW := Lib.hid (show m.U.any wrongU = false from List.any_eq_false.2 fun u hu => by
        obtain ⟨j, hj, rfl⟩ := List.getElem_of_mem hu
        rw [HK.out j (by omega) _ (List.getElem?_eq_getElem hj)]
        simp)
      clear hlt HK hk
      by_cases h1 : 65536 < m.U.length
      · have g1 : decide ((65536 : Int) < m.U.length) = true := decide_eq_true (by omega)
        have g1' : decide (65536 < m.U.length) = true := decide_eq_true h1
        have HQ := Lib.hid (may_many h1)
        clear h1
        go_wp2_with fail
        go_ret
        exact .bool (by rw [HQ.out]) (below_then HB0.out HB.out)
      have g1 : decide ((65536 : Int) < m.U.length) = false := decide_eq_false (by omega)
      have g1' : decide (65536 < m.U.length) = false := decide_eq_false h1
      by_cases h2 : 65536 < m.L.length
      · have g2 : decide ((65536 : Int) < m.L.length) = true := decide_eq_true (by omega)
        have g2' : decide (65536 < m.L.length) = true := decide_eq_true h2
        have HQ := Lib.hid (may_long h2)
        clear h1 h2
        go_wp2_with fail
        go_ret
        exact .bool (by rw [HQ.out]) (below_then HB0.out HB.out)
      have g2 : decide ((65536 : Int) < m.L.length) = false := decide_eq_false (by omega)
      have g2' : decide (65536 < m.L.length) = false := decide_eq_false h2
      by_cases hk1 : m.k = 1
      · have k1 : (m.k == 1) = true := by simpa using hk1
        have HEQ := Lib.hid (may_eq1 hk1 (by omega))
        clear hk1 h1 h2
        go_wp2_with fail
        refine (HN.out m.f _).mono ?_
        rintro e w10 ⟨rfl, rfl⟩
        cases hnf : nodeB m.f with
        | false =>
          rw [hnf] at HEQ
          go_wp2_with fail
          go_ret
          exact .bool (by rw [HEQ.out]; rfl) (below_then HB0.out HB.out)
        | true =>
          rw [hnf, Bool.true_and] at HEQ
          go_wp2_with fail
          refine (HN.out m.t _).mono ?_
          rintro e w11 ⟨rfl, rfl⟩
          cases hnt : nodeB m.t with
          | false =>
            rw [hnt] at HEQ
            go_wp2_with fail
            go_ret
            exact .bool (by rw [HEQ.out]; rfl) (below_then HB0.out HB.out)
          | true =>
            rw [hnt, Bool.true_and] at HEQ
            go_wp2_with fail
            refine (HN.out m.i _).mono ?_
            rintro e w12 ⟨rfl, rfl⟩
            cases hni : nodeB m.i with
            | false =>
              rw [hni] at HEQ
              go_wp2_with fail
              go_ret
              exact .bool (by rw [HEQ.out]; rfl) (below_then HB0.out HB.out)
            | true =>
              rw [hni, Bool.true_and] at HEQ
              cases q0 : decide ((0 : Int) ≤ m.q) with
              | false =>
                rw [q0] at HEQ
                go_wp2_with fail
                go_ret
                exact .bool (by rw [HEQ.out]; rfl) (below_then HB0.out HB.out)
              | true =>
                rw [q0, Bool.true_and] at HEQ
                cases q1 : decide (m.q ≤ 4611686018427387904) with
                | false =>
                  rw [q1] at HEQ
                  go_wp2_with fail
                  go_ret
                  exact .bool (by rw [HEQ.out]; rfl) (below_then HB0.out HB.out)
                | true =>
                  rw [q1, Bool.true_and] at HEQ
                  go_wp2_with fail
                  refine (HR.out m.s _).mono ?_
                  rintro e w20 ⟨rfl, hb⟩
                  have HB3 := Lib.hid (below_then HB.out hb)
                  clear hb la
                  have la := LA.out w20 HB3.out
                  dsimp only [Mb.cs] at la
                  cases hr : m.s.rightB with
                  | false =>
                    rw [hr] at HEQ
                    go_wp2_with fail
                    go_ret
                    exact .bool (by rw [HEQ.out]; rfl) (below_then HB0.out HB3.out)
                  | true =>
                    rw [hr, Bool.true_and] at HEQ
                    by_cases hu : m.U.length = 0
                    · have u1 : ((m.U.length : Int) == 0) = true := by simpa using hu
                      have u2 : decide (m.U.length = 0) = true := decide_eq_true hu
                      rw [u2] at HEQ
                      clear hu
                      go_wp2_with fail
                      go_ret
                      exact .bool (by rw [HEQ.out]) (below_then HB0.out HB3.out)
                    · have u1 : ((m.U.length : Int) == 0) = false := by simpa using hu
                      have u2 : decide (m.U.length = 0) = false := decide_eq_false hu
                      rw [u2] at HEQ
                      clear hu
                      go_wp2_with fail
                      go_ret
                      exact .bool (by rw [HEQ.out]) (below_then HB0.out HB3.out)
      have k1 : (m.k == 1) = false := by simpa using hk1
      by_cases hk2 : m.k = 2
      rotate_left
      · have k2 : (m.k == 2) = false := by simpa using hk2
        have HQ := Lib.hid (may_eq3 hk1 hk2)
        clear hk1 hk2 h1 h2
        go_wp2_with fail
        go_ret
        exact .bool (by rw [HQ.out]) (below_then HB0.out HB.out)
      have k2 : (m.k == 2) = true := by simpa using hk2
      have HEQ := Lib.hid (may_eq2 hk2 (by omega) HNW.out)
      clear hk1 hk2 h1 h2
      by_cases hf : m.f = 0
      rotate_left
      · have zf : (m.f == 0) = false := by simpa using hf
        rw [decide_eq_false hf] at HEQ
        clear hf
        go_wp2_with fail
        go_ret
        exact .bool (by rw [HEQ.out]; rfl) (below_then HB0.out HB.out)
      have zf : (m.f == 0) = true := by simpa using hf
      rw [decide_eq_true hf, Bool.true_and] at HEQ
      clear hf
      by_cases ht : m.t = 0
      rotate_left
      · have zt : (m.t == 0) = false := by simpa using ht
        rw [decide_eq_false ht] at HEQ
        clear ht
        go_wp2_with fail
        go_ret
        exact .bool (by rw [HEQ.out]; rfl) (below_then HB0.out HB.out)
      have zt : (m.t == 0) = true := by simpa using ht
      rw [decide_eq_true ht, Bool.true_and] at HEQ
      clear ht
      by_cases hi : m.i = 0
      rotate_left
      · have zi : (m.i == 0) = false := by simpa using hi
        rw [decide_eq_false hi] at HEQ
        clear hi
        go_wp2_with fail
        go_ret
        exact .bool (by rw [HEQ.out]; rfl) (below_then HB0.out HB.out)
      have zi : (m.i == 0) = true := by simpa using hi
      rw [decide_eq_true hi, Bool.true_and] at HEQ
      clear hi
      by_cases hq : m.q = 0
      rotate_left
      · have zq : (m.q == 0) = false := by simpa using hq
        rw [decide_eq_false hq] at HEQ
        clear hq
        go_wp2_with fail
        go_ret
        exact .bool (by rw [HEQ.out]; rfl) (below_then HB0.out HB.out)
      have zq : (m.q == 0) = true := by simpa using hq
      rw [decide_eq_true hq, Bool.true_and] at HEQ
      clear hq
      cases hs : T.eqB ⟨m.s.d, m.s.e, m.s.a, m.s.b, m.s.c⟩ ⟨0, 0, 0, 0, 0⟩ with
      | false =>
        rw [show m.s.eqB T0 = false from hs, Bool.false_and] at HEQ
        go_wp2_with fail
        go_ret
        exact .bool (by rw [HEQ.out]) (below_then HB0.out HB.out)
      | true =>
        rw [show m.s.eqB T0 = true from hs, Bool.true_and] at HEQ
        by_cases hu : m.L.length = 0
        · have u1 : ((m.L.length : Int) == 0) = true := by simpa using hu
          have u2 : decide (m.L.length = 0) = true := decide_eq_true hu
          rw [u2] at HEQ
          clear hu
          go_wp2_with fail
          go_ret
          exact .bool (by rw [HEQ.out]) (below_then HB0.out HB.out)
        · have u1 : ((m.L.length : Int) == 0) = false := by simpa using hu
          have u2 : decide (m.L.length = 0) = false := decide_eq_false hu
          rw [u2] at HEQ
          clear hu
          go_wp2_with fail
          go_ret
          exact .bool (by rw [HEQ.out]) (below_then HB0.out HB.out)
end Go.Proofs.Yteiohcgohgcjfaa
