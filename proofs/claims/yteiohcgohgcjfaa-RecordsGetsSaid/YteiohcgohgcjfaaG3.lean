/- Getting a time: the rest lies where the bytes lie. -/
import Derived.Test.YteiohcgohgcjfaaRows
import Derived.Test.YteiohcgohgcjfaaWords
import Derived.Test.YteiohcgohgcjfaaByts
import Derived.Test.YteiohcgohgcjfaaStrs
import Derived.Test.YteiohcgohgcjfaaFrame
import Derived.Test.YteiohcgohgcjfaaElems
import Derived.Test.YteiohcgohgcjfaaBitsW
import Derived.Test.YteiohcgohgcjfaaS1
import Derived.Test.YteiohcgohgcjfaaS2
import Derived.Test.YteiohcgohgcjfaaS11
import Derived.Test.YteiohcgohgcjfaaG1
import Derived.Test.YteiohcgohgcjfaaG2
namespace Go.Proofs.Yteiohcgohgcjfaa
open Go.RowKit Go.Proofs.Tail
set_option linter.unusedSimpArgs false
set_option linter.unusedVariables false
/-- As GivesGet, and the rest lies in the block that was handed in. -/
def GivesNear (A0 : Option Addr) (xs : List Int) (w : World) (e : Ending) (w' : World) : Prop :=
  ∃ A n c, e = .returned (.tuple #[.agg #[.int .i64 (getT xs).d, .int .i64 (getT xs).e, .int .i64 (getT xs).a, .int .i64 (getT xs).b, .int .i64 (getT xs).c], .slice A n c, .int .i64 (getE xs)]) ∧ Byts w A n c (getR xs) ∧ Below w.heap.size w w' ∧ ∀ a, A = some a → ∃ a0, A0 = some a0 ∧ a.block = a0.block
theorem near_none {A0 : Option Addr} {xs : List Int} (h : getB xs = false) {w : World} {e : Ending} {w' : World} (g : GivesNone w e w') : GivesNear A0 xs w e w' := by
  obtain ⟨A, n, c, rfl, rfl, rfl, rfl, hb⟩ := g
  refine ⟨none, 0, 0, ?_, ?_, hb, fun a ha => by cases ha⟩
  · unfold getT getE; rw [h]; rfl
  · unfold getR; rw [h]; exact Rd.nil _ _ _
set_option maxHeartbeats 4000000 in
theorem get_near (A : Option Addr) (n c : Nat) (xs : List Int) (w : World) (hR : Byts w A n c xs) (hB : InB xs) : Calls Try.prog 53 #[.slice A n c] w (GivesNear A xs w) := by
  have hl := hR.len
  have hc := hR.cap
  have hm := hR.big
  by_cases h3 : n < 3
  · exact (get_short A n c w h3).mono fun _ _ g => near_none (decide_eq_false (by omega)) g
  · have hin : ∀ j, j < n → 0 ≤ xs.getD j 0 ∧ xs.getD j 0 < 256 := fun j hj => hB _ (by rw [List.getD_eq_getElem?_getD, List.getElem?_eq_getElem (by omega)]; exact List.getElem_mem (by omega))
    obtain ⟨b, o, rfl, _⟩ := hR.byte (j := 0) (by omega)
    have hz : ∀ j, j < n → w.cell? ⟨b, o + j, none⟩ = some (.int .u8 (xs.getD j 0)) := by
      intro j hj
      obtain ⟨b', o', e, h⟩ := hR.byte hj
      injection e with e
      injection e with e1 e2
      subst e1 e2
      exact h
    have z0 := hz 0 (by omega)
    have z1 := hz 1 (by omega)
    have z2 := hz 2 (by omega)
    have g0 := hin 0 (by omega)
    have g1 := hin 1 (by omega)
    have g2 := hin 2 (by omega)
    rw [Nat.add_zero] at z0
    by_cases h4 : 3 < xs.getD 0 0
    · exact (get_deep b o n c _ w z0 h4 (by omega) (by omega) hc hm).mono fun _ _ g => near_none (decide_eq_false (by omega)) g
    · by_cases h5 : n < 3 + (xs.getD 0 0).toNat
      · exact (get_cut b o n c _ w z0 (by omega) (by omega) (by omega) h5 hc hm).mono fun _ _ g => near_none (decide_eq_false (by omega)) g
      · have hd : xs.getD 0 0 = 0 ∨ xs.getD 0 0 = 1 ∨ xs.getD 0 0 = 2 ∨ xs.getD 0 0 = 3 := by omega
        have key : ∀ d : Nat, xs.getD 0 0 = d → ∀ t, getC xs = t → t.rightB = true → Calls Try.prog 53 #[.slice (some ⟨b, o, none⟩) n c] w (GivesAt t b (o + (3 + d)) (n - (3 + d)) (c - (3 + d)) w) → Calls Try.prog 53 #[.slice (some ⟨b, o, none⟩) n c] w (GivesNear (some ⟨b, o, none⟩) xs w) := by
          intro d hd t ht hr h
          refine h.mono fun e w' g => ?_
          obtain ⟨o', ho, rfl, hb⟩ := g
          have hg : getB xs = true := by
            unfold getB
            rw [decide_eq_true_eq]
            exact ⟨by omega, by omega, by omega, by rw [ht]; exact right_iff.1 hr⟩
          refine ⟨some ⟨b, o', none⟩, n - (3 + d), c - (3 + d), ?_, ?_, hb, fun a ha => ⟨_, rfl, by cases ha; rfl⟩⟩
          · unfold getT getE; rw [hg, ← ht]; rfl
          · unfold getR
            rw [hg, hd]
            refine ⟨by simp; omega, by omega, by omega, fun hp => ⟨b, o', rfl, fun j x hj => ?_⟩⟩
            rcases ho with ho | rfl
            · omega
            · have hj' : j < n - (3 + d) := by have := (List.getElem?_eq_some_iff.1 hj).1; simp at this; omega
              have h1 := hz (3 + d + j) (by omega)
              simp only [if_true, Int.toNat_natCast] at hj
              rw [List.getElem?_drop] at hj
              rw [List.getD_eq_getElem?_getD, hj] at h1
              unfold RByte
              rw [Nat.mul_one, Nat.add_assoc]
              exact h1
        have kno : ∀ t, getC xs = t → t.rightB = false → Calls Try.prog 53 #[.slice (some ⟨b, o, none⟩) n c] w (GivesNone w) → Calls Try.prog 53 #[.slice (some ⟨b, o, none⟩) n c] w (GivesNear (some ⟨b, o, none⟩) xs w) := by
          intro t ht hr h
          refine h.mono fun e w' g => near_none ?_ g
          unfold getB
          rw [decide_eq_false_iff_not, ht]
          rintro ⟨_, _, _, hh⟩
          rw [right_iff.2 hh] at hr
          cases hr
        rcases hd with hd | hd | hd | hd
        · have ht : getC xs = ⟨0, xs.getD 1 0 * 256 + xs.getD 2 0, 0, 0, 0⟩ := by unfold getC; rw [hd]; simp
          rw [hd] at z0
          cases hr : T.rightB ⟨0, xs.getD 1 0 * 256 + xs.getD 2 0, 0, 0, 0⟩ with
          | false => exact kno _ ht hr (get_0_no b o n c _ _ w z0 z1 z2 g1 g2 (by omega) hc hm hr)
          | true =>
            by_cases hcc : c = 3
            · exact key 0 hd _ ht hr (get_0_full b o n c _ _ w z0 z1 z2 g1 g2 (by omega) hc hm hr hcc)
            · exact key 0 hd _ ht hr (get_0_ok b o n c _ _ w z0 z1 z2 g1 g2 (by omega) hc hm hr hcc)
        · have ht : getC xs = ⟨1, xs.getD 1 0 * 256 + xs.getD 2 0, xs.getD 3 0, 0, 0⟩ := by unfold getC; rw [hd]; simp
          rw [hd] at z0
          have z3 := hz 3 (by omega)
          have g3 := hin 3 (by omega)
          cases hr : T.rightB ⟨1, xs.getD 1 0 * 256 + xs.getD 2 0, xs.getD 3 0, 0, 0⟩ with
          | false => exact kno _ ht hr (get_1_no b o n c _ _ _ w z0 z1 z2 z3 g1 g2 g3 (by omega) hc hm hr)
          | true =>
            by_cases hcc : c = 4
            · exact key 1 hd _ ht hr (get_1_full b o n c _ _ _ w z0 z1 z2 z3 g1 g2 g3 (by omega) hc hm hr hcc)
            · exact key 1 hd _ ht hr (get_1_ok b o n c _ _ _ w z0 z1 z2 z3 g1 g2 g3 (by omega) hc hm hr hcc)
        · have ht : getC xs = ⟨2, xs.getD 1 0 * 256 + xs.getD 2 0, xs.getD 3 0, xs.getD 4 0, 0⟩ := by unfold getC; rw [hd]; simp
          rw [hd] at z0
          have z3 := hz 3 (by omega)
          have g3 := hin 3 (by omega)
          have z4 := hz 4 (by omega)
          have g4 := hin 4 (by omega)
          cases hr : T.rightB ⟨2, xs.getD 1 0 * 256 + xs.getD 2 0, xs.getD 3 0, xs.getD 4 0, 0⟩ with
          | false => exact kno _ ht hr (get_2_no b o n c _ _ _ _ w z0 z1 z2 z3 z4 g1 g2 g3 g4 (by omega) hc hm hr)
          | true =>
            by_cases hcc : c = 5
            · exact key 2 hd _ ht hr (get_2_full b o n c _ _ _ _ w z0 z1 z2 z3 z4 g1 g2 g3 g4 (by omega) hc hm hr hcc)
            · exact key 2 hd _ ht hr (get_2_ok b o n c _ _ _ _ w z0 z1 z2 z3 z4 g1 g2 g3 g4 (by omega) hc hm hr hcc)
        · have ht : getC xs = ⟨3, xs.getD 1 0 * 256 + xs.getD 2 0, xs.getD 3 0, xs.getD 4 0, xs.getD 5 0⟩ := by unfold getC; rw [hd]; simp
          rw [hd] at z0
          have z3 := hz 3 (by omega)
          have g3 := hin 3 (by omega)
          have z4 := hz 4 (by omega)
          have g4 := hin 4 (by omega)
          have z5 := hz 5 (by omega)
          have g5 := hin 5 (by omega)
          cases hr : T.rightB ⟨3, xs.getD 1 0 * 256 + xs.getD 2 0, xs.getD 3 0, xs.getD 4 0, xs.getD 5 0⟩ with
          | false => exact kno _ ht hr (get_3_no b o n c _ _ _ _ _ w z0 z1 z2 z3 z4 z5 g1 g2 g3 g4 g5 (by omega) hc hm hr)
          | true =>
            by_cases hcc : c = 6
            · exact key 3 hd _ ht hr (get_3_full b o n c _ _ _ _ _ w z0 z1 z2 z3 z4 z5 g1 g2 g3 g4 g5 (by omega) hc hm hr hcc)
            · exact key 3 hd _ ht hr (get_3_ok b o n c _ _ _ _ _ w z0 z1 z2 z3 z4 z5 g1 g2 g3 g4 g5 (by omega) hc hm hr hcc)
set_option maxHeartbeats 4000000 in
theorem refget_near (A : Option Addr) (n c : Nat) (xs : List Int) (w : World) (hR : Byts w A n c xs) (hB : InB xs) : Calls Try.prog 55 #[.slice A n c] w (GivesNear A xs w) := by
  have hl := hR.len
  have hc := hR.cap
  have hm := hR.big
  by_cases h3 : n < 3
  · exact (refget_short A n c w h3).mono fun _ _ g => near_none (decide_eq_false (by omega)) g
  · have hin : ∀ j, j < n → 0 ≤ xs.getD j 0 ∧ xs.getD j 0 < 256 := fun j hj => hB _ (by rw [List.getD_eq_getElem?_getD, List.getElem?_eq_getElem (by omega)]; exact List.getElem_mem (by omega))
    obtain ⟨b, o, rfl, _⟩ := hR.byte (j := 0) (by omega)
    have hz : ∀ j, j < n → w.cell? ⟨b, o + j, none⟩ = some (.int .u8 (xs.getD j 0)) := by
      intro j hj
      obtain ⟨b', o', e, h⟩ := hR.byte hj
      injection e with e
      injection e with e1 e2
      subst e1 e2
      exact h
    have z0 := hz 0 (by omega)
    have z1 := hz 1 (by omega)
    have z2 := hz 2 (by omega)
    have g0 := hin 0 (by omega)
    have g1 := hin 1 (by omega)
    have g2 := hin 2 (by omega)
    rw [Nat.add_zero] at z0
    by_cases h4 : 3 < xs.getD 0 0
    · exact (refget_deep b o n c _ w z0 h4 (by omega) (by omega) hc hm).mono fun _ _ g => near_none (decide_eq_false (by omega)) g
    · by_cases h5 : n < 3 + (xs.getD 0 0).toNat
      · exact (refget_cut b o n c _ w z0 (by omega) (by omega) (by omega) h5 hc hm).mono fun _ _ g => near_none (decide_eq_false (by omega)) g
      · have hd : xs.getD 0 0 = 0 ∨ xs.getD 0 0 = 1 ∨ xs.getD 0 0 = 2 ∨ xs.getD 0 0 = 3 := by omega
        have key : ∀ d : Nat, xs.getD 0 0 = d → ∀ t, getC xs = t → t.rightB = true → Calls Try.prog 55 #[.slice (some ⟨b, o, none⟩) n c] w (GivesAt t b (o + (3 + d)) (n - (3 + d)) (c - (3 + d)) w) → Calls Try.prog 55 #[.slice (some ⟨b, o, none⟩) n c] w (GivesNear (some ⟨b, o, none⟩) xs w) := by
          intro d hd t ht hr h
          refine h.mono fun e w' g => ?_
          obtain ⟨o', ho, rfl, hb⟩ := g
          have hg : getB xs = true := by
            unfold getB
            rw [decide_eq_true_eq]
            exact ⟨by omega, by omega, by omega, by rw [ht]; exact right_iff.1 hr⟩
          refine ⟨some ⟨b, o', none⟩, n - (3 + d), c - (3 + d), ?_, ?_, hb, fun a ha => ⟨_, rfl, by cases ha; rfl⟩⟩
          · unfold getT getE; rw [hg, ← ht]; rfl
          · unfold getR
            rw [hg, hd]
            refine ⟨by simp; omega, by omega, by omega, fun hp => ⟨b, o', rfl, fun j x hj => ?_⟩⟩
            rcases ho with ho | rfl
            · omega
            · have hj' : j < n - (3 + d) := by have := (List.getElem?_eq_some_iff.1 hj).1; simp at this; omega
              have h1 := hz (3 + d + j) (by omega)
              simp only [if_true, Int.toNat_natCast] at hj
              rw [List.getElem?_drop] at hj
              rw [List.getD_eq_getElem?_getD, hj] at h1
              unfold RByte
              rw [Nat.mul_one, Nat.add_assoc]
              exact h1
        have kno : ∀ t, getC xs = t → t.rightB = false → Calls Try.prog 55 #[.slice (some ⟨b, o, none⟩) n c] w (GivesNone w) → Calls Try.prog 55 #[.slice (some ⟨b, o, none⟩) n c] w (GivesNear (some ⟨b, o, none⟩) xs w) := by
          intro t ht hr h
          refine h.mono fun e w' g => near_none ?_ g
          unfold getB
          rw [decide_eq_false_iff_not, ht]
          rintro ⟨_, _, _, hh⟩
          rw [right_iff.2 hh] at hr
          cases hr
        rcases hd with hd | hd | hd | hd
        · have ht : getC xs = ⟨0, xs.getD 1 0 * 256 + xs.getD 2 0, 0, 0, 0⟩ := by unfold getC; rw [hd]; simp
          rw [hd] at z0
          cases hr : T.rightB ⟨0, xs.getD 1 0 * 256 + xs.getD 2 0, 0, 0, 0⟩ with
          | false => exact kno _ ht hr (refget_0_no b o n c _ _ w z0 z1 z2 g1 g2 (by omega) hc hm hr)
          | true =>
            by_cases hcc : c = 3
            · exact key 0 hd _ ht hr (refget_0_full b o n c _ _ w z0 z1 z2 g1 g2 (by omega) hc hm hr hcc)
            · exact key 0 hd _ ht hr (refget_0_ok b o n c _ _ w z0 z1 z2 g1 g2 (by omega) hc hm hr hcc)
        · have ht : getC xs = ⟨1, xs.getD 1 0 * 256 + xs.getD 2 0, xs.getD 3 0, 0, 0⟩ := by unfold getC; rw [hd]; simp
          rw [hd] at z0
          have z3 := hz 3 (by omega)
          have g3 := hin 3 (by omega)
          cases hr : T.rightB ⟨1, xs.getD 1 0 * 256 + xs.getD 2 0, xs.getD 3 0, 0, 0⟩ with
          | false => exact kno _ ht hr (refget_1_no b o n c _ _ _ w z0 z1 z2 z3 g1 g2 g3 (by omega) hc hm hr)
          | true =>
            by_cases hcc : c = 4
            · exact key 1 hd _ ht hr (refget_1_full b o n c _ _ _ w z0 z1 z2 z3 g1 g2 g3 (by omega) hc hm hr hcc)
            · exact key 1 hd _ ht hr (refget_1_ok b o n c _ _ _ w z0 z1 z2 z3 g1 g2 g3 (by omega) hc hm hr hcc)
        · have ht : getC xs = ⟨2, xs.getD 1 0 * 256 + xs.getD 2 0, xs.getD 3 0, xs.getD 4 0, 0⟩ := by unfold getC; rw [hd]; simp
          rw [hd] at z0
          have z3 := hz 3 (by omega)
          have g3 := hin 3 (by omega)
          have z4 := hz 4 (by omega)
          have g4 := hin 4 (by omega)
          cases hr : T.rightB ⟨2, xs.getD 1 0 * 256 + xs.getD 2 0, xs.getD 3 0, xs.getD 4 0, 0⟩ with
          | false => exact kno _ ht hr (refget_2_no b o n c _ _ _ _ w z0 z1 z2 z3 z4 g1 g2 g3 g4 (by omega) hc hm hr)
          | true =>
            by_cases hcc : c = 5
            · exact key 2 hd _ ht hr (refget_2_full b o n c _ _ _ _ w z0 z1 z2 z3 z4 g1 g2 g3 g4 (by omega) hc hm hr hcc)
            · exact key 2 hd _ ht hr (refget_2_ok b o n c _ _ _ _ w z0 z1 z2 z3 z4 g1 g2 g3 g4 (by omega) hc hm hr hcc)
        · have ht : getC xs = ⟨3, xs.getD 1 0 * 256 + xs.getD 2 0, xs.getD 3 0, xs.getD 4 0, xs.getD 5 0⟩ := by unfold getC; rw [hd]; simp
          rw [hd] at z0
          have z3 := hz 3 (by omega)
          have g3 := hin 3 (by omega)
          have z4 := hz 4 (by omega)
          have g4 := hin 4 (by omega)
          have z5 := hz 5 (by omega)
          have g5 := hin 5 (by omega)
          cases hr : T.rightB ⟨3, xs.getD 1 0 * 256 + xs.getD 2 0, xs.getD 3 0, xs.getD 4 0, xs.getD 5 0⟩ with
          | false => exact kno _ ht hr (refget_3_no b o n c _ _ _ _ _ w z0 z1 z2 z3 z4 z5 g1 g2 g3 g4 g5 (by omega) hc hm hr)
          | true =>
            by_cases hcc : c = 6
            · exact key 3 hd _ ht hr (refget_3_full b o n c _ _ _ _ _ w z0 z1 z2 z3 z4 z5 g1 g2 g3 g4 g5 (by omega) hc hm hr hcc)
            · exact key 3 hd _ ht hr (refget_3_ok b o n c _ _ _ _ _ w z0 z1 z2 z3 z4 z5 g1 g2 g3 g4 g5 (by omega) hc hm hr hcc)
end Go.Proofs.Yteiohcgohgcjfaa
