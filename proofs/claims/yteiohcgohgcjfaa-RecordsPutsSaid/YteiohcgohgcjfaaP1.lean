/- Plain laws of messages' bytes. -/
import Derived.Test.YteiohcgohgcjfaaWords
import Derived.Test.YteiohcgohgcjfaaByts
import Derived.Test.YteiohcgohgcjfaaS1
import Derived.Test.YteiohcgohgcjfaaS2
import Derived.Test.YteiohcgohgcjfaaS11
import Derived.Test.YteiohcgohgcjfaaA1
import Derived.Test.YteiohcgohgcjfaaD1
import Derived.Test.YteiohcgohgcjfaaD5
import Derived.Test.YteiohcgohgcjfaaD6
import Derived.Test.YteiohcgohgcjfaaD7
import Derived.Test.YteiohcgohgcjfaaD9
import Derived.Test.YteiohcgohgcjfaaE1
import Derived.Test.YteiohcgohgcjfaaE4
import Derived.Test.YteiohcgohgcjfaaE5
import Derived.Test.YteiohcgohgcjfaaE9
import Derived.Test.YteiohcgohgcjfaaG1
import Derived.Test.YteiohcgohgcjfaaP0
namespace Go.Proofs.Yteiohcgohgcjfaa
open Go Go.RowKit Go.Proofs.Tail
set_option linter.unusedSimpArgs false
set_option linter.unusedVariables false
theorem rd2_of (x : Rc) (h : I64 x.1 ∧ I64 x.2) (r : List Int) : rd2 (recL x ++ r) = some (x, r) := by
  unfold rd2
  rw [if_pos (by rw [List.length_append, recL_length]; omega), List.drop_left' (recL_length x)]
  unfold recL
  rw [List.append_assoc, (be_cut _ 8 _).1, (be_cut _ 8 _).2.1, (be_cut _ 8 _).1, num8 h.1, num8 h.2]
theorem rd2_back (xs : List Int) (x : Rc) (r : List Int) (hin : InB xs) (h : rd2 xs = some (x, r)) : xs = recL x ++ r ∧ I64 x.1 ∧ I64 x.2 := by
  unfold rd2 at h
  split at h
  · rename_i hl
    injection h with h
    injection h with h1 h2
    subst h1; subst h2
    refine ⟨?_, wrap_i64 _, wrap_i64 _⟩
    unfold recL
    dsimp only
    rw [num8' (InB.take hin 8) (by rw [List.length_take]; omega), num8' (InB.take (InB.drop hin 8) 8) (by rw [List.length_take, List.length_drop]; omega)]
    have e1 : (xs.drop 8).drop 8 = xs.drop 16 := by rw [List.drop_drop]
    rw [List.append_assoc, ← e1, List.take_append_drop, List.take_append_drop]
  · cases h
theorem wrap_small {x : Int} (h : 0 ≤ x ∧ x < 256) : wrap64 x = x := IntWalk.wrap64_in _ ⟨by omega, by omega⟩
theorem rd3_of (u : Upd) (h : (0 ≤ u.n ∧ u.n < 32) ∧ u.s.right ∧ I64 u.m) (r : List Int) : rd3 (updL u ++ r) = some (u, r) := by
  obtain ⟨hn, hs, hm⟩ := h
  have hs' := right_iff.2 hs
  obtain ⟨g1, g2, g3⟩ := get_put hs' (be (u64 u.m) 8 ++ r)
  have e : updL u ++ r = (u.n % 256 % 256) :: (heldI u.h % 256) :: (putL u.s ++ (be (u64 u.m) 8 ++ r)) := by
    unfold updL
    rw [be_one, be_one]
    simp only [List.append_assoc, List.cons_append, List.nil_append]
  have hh : heldI u.h % 256 = heldI u.h ∧ 0 ≤ heldI u.h ∧ heldI u.h ≤ 1 := by unfold heldI; split <;> decide
  have d2 : (updL u ++ r).drop 2 = putL u.s ++ (be (u64 u.m) 8 ++ r) := by rw [e]; rfl
  have hv : heldV (updL u ++ r) = heldI u.h := by
    unfold heldV
    rw [e, hh.1]
    show wrap64 (val [heldI u.h]) = _
    rw [val_one, wrap_small ⟨by omega, by omega⟩]
  have hB : u3B (updL u ++ r) = true := by
    unfold u3B
    rw [decide_eq_true_eq, hv, d2, g3]
    refine ⟨by rw [e]; simp only [List.length_cons]; omega, hh.2.2, g1, (be_cut _ 8 _).2.2⟩
  have hU : u3U (updL u ++ r) = u := by
    unfold u3U
    rw [hv, d2, g2, g3, (be_cut _ 8 _).1, num8 hm]
    obtain ⟨n, hd, s, m⟩ := u
    dsimp only at *
    have e1 : wrap64 (val ((updL ⟨n, hd, s, m⟩ ++ r).take 1)) = n := by
      rw [e]
      show wrap64 (val [n % 256 % 256]) = _
      rw [val_one, show n % 256 % 256 = n by omega, wrap_small ⟨by omega, by omega⟩]
    rw [e1]
    cases hd <;> rfl
  unfold rd3
  rw [if_pos hB, hU]
  unfold u3R
  rw [d2, g3, (be_cut _ 8 _).2.1]
theorem rd3_back (xs : List Int) (u : Upd) (r : List Int) (hin : InB xs) (h : rd3 xs = some (u, r)) : xs = updL u ++ r ∧ I64 u.m := by
  unfold rd3 at h
  split at h
  · rename_i hB
    injection h with h
    injection h with h1 h2
    subst h1; subst h2
    unfold u3B at hB
    rw [decide_eq_true_eq] at hB
    obtain ⟨b1, b2, b3, b4⟩ := hB
    obtain ⟨p1, p2⟩ := put_get (InB.drop hin 2) b3
    refine ⟨?_, wrap_i64 _⟩
    have hR := getR_in (InB.drop hin 2)
    obtain ⟨x0, x1, Z, rfl⟩ : ∃ x0 x1 Z, xs = x0 :: x1 :: Z := by
      cases xs with
      | nil => simp at b1
      | cons x0 xs =>
        cases xs with
        | nil => simp at b1
        | cons x1 Z => exact ⟨x0, x1, Z, rfl⟩
    · have a0 := hin x0 (by simp)
      have a1 := hin x1 (by simp)
      have v0 : wrap64 (val ((x0 :: x1 :: Z).take 1)) = x0 := by
        show wrap64 (val [x0]) = _
        rw [val_one, wrap_small a0]
      have v1 : heldV (x0 :: x1 :: Z) = x1 := by
        unfold heldV
        show wrap64 (val [x1]) = _
        rw [val_one, wrap_small a1]
      rw [v1] at b2
      unfold updL u3U u3R
      dsimp only
      rw [v0, v1, num8' (InB.take hR 8) (by rw [List.length_take]; exact Nat.min_eq_left b4), be_one, be_one, List.append_assoc, List.append_assoc, List.take_append_drop, List.append_assoc, p2]
      have e1 : x0 % 256 % 256 = x0 := by omega
      have e2 : heldI (decide (x1 = 1)) % 256 = x1 := by
        rcases (show x1 = 0 ∨ x1 = 1 by omega) with rfl | rfl <;> decide
      rw [e1, e2]
      rfl
  · cases h
section
variable {α : Type} {rd : List Int → Option (α × List Int)} {enc : α → List Int}
theorem rdN_of (L : List α) (r : List Int) (h : ∀ a ∈ L, ∀ r, rd (enc a ++ r) = some (a, r)) : rdN rd L.length (L.flatMap enc ++ r) = some (L, r) := by
  have key : ∀ k, k ≤ L.length → rdN rd k (L.flatMap enc ++ r) = some (L.take k, (L.drop k).flatMap enc ++ r) := by
    intro k
    induction k with
    | zero => intro _; rfl
    | succ k ih =>
      intro hk
      have hm : L[k] ∈ L := List.getElem_mem _
      have hr : rd ((L.drop k).flatMap enc ++ r) = some (L[k], (L.drop (k + 1)).flatMap enc ++ r) := by
        rw [List.drop_eq_getElem_cons (by omega), List.flatMap_cons, List.append_assoc]
        exact h _ hm _
      rw [rdN_succ (ih (by omega)) hr, List.take_succ_eq_append_getElem (by omega)]
  have := key L.length (Nat.le_refl _)
  rw [List.take_length, List.drop_length] at this
  exact this
theorem rdN_back (h : ∀ xs a r, InB xs → rd xs = some (a, r) → xs = enc a ++ r) : ∀ (k : Nat) (xs : List Int) (L : List α) (r : List Int), InB xs → rdN rd k xs = some (L, r) → xs = L.flatMap enc ++ r ∧ InB r
  | 0, xs, L, r, hin, e => by
    unfold rdN at e
    injection e with e
    injection e with e1 e2
    subst e1; subst e2
    exact ⟨rfl, hin⟩
  | k + 1, xs, L, r, hin, e => by
    unfold rdN at e
    split at e
    · cases e
    · rename_i l ys hl
      obtain ⟨i1, i2⟩ := rdN_back h k xs l ys hin hl
      split at e
      · cases e
      · rename_i a zs hr
        injection e with e
        injection e with e1 e2
        subst e1; subst e2
        have g := h ys a zs i2 hr
        refine ⟨?_, fun x hx => i2 x (by rw [g]; simp [hx])⟩
        rw [i1, g]
        simp only [List.flatMap_append, List.flatMap_cons, List.flatMap_nil, List.append_nil, List.append_assoc]
theorem rdN_all {p : α → Prop} (h : ∀ xs a r, InB xs → rd xs = some (a, r) → xs = enc a ++ r ∧ p a) : ∀ (k : Nat) (xs : List Int) (L : List α) (r : List Int), InB xs → rdN rd k xs = some (L, r) → ∀ a ∈ L, p a
  | 0, xs, L, r, hin, e => by
    unfold rdN at e
    injection e with e
    injection e with e1 e2
    subst e1
    intro a ha
    cases ha
  | k + 1, xs, L, r, hin, e => by
    unfold rdN at e
    split at e
    · cases e
    · rename_i l ys hl
      have ih := rdN_all h k xs l ys hin hl
      obtain ⟨i1, i2⟩ := rdN_back (fun xs a r hi he => (h xs a r hi he).1) k xs l ys hin hl
      split at e
      · cases e
      · rename_i a zs hr
        injection e with e
        injection e with e1 e2
        subst e1
        intro b hb
        rcases List.mem_append.1 hb with hb | hb
        · exact ih b hb
        · rw [List.mem_singleton] at hb
          subst hb
          exact (h ys _ zs i2 hr).2
theorem pw4 : pw 4 = 4294967296 := by decide
theorem rowN_of (L : List α) (r : List Int) (hl : L.length ≤ 65536) (h : ∀ a ∈ L, ∀ r, rd (enc a ++ r) = some (a, r)) : rowN rd (be L.length 4 ++ L.flatMap enc ++ r) = some (L, r) := by
  rw [List.append_assoc]
  have hI : rowI (be L.length 4 ++ (L.flatMap enc ++ r)) = L.length := by
    unfold rowI
    rw [(be_cut _ 4 _).1, val_be 4 _ (by omega) (by rw [pw4]; omega), IntWalk.wrap64_in _ ⟨by omega, by omega⟩]
  unfold rowN
  rw [if_pos ⟨(be_cut _ 4 _).2.2, by rw [hI]; omega⟩, hI, (be_cut _ 4 _).2.1, Int.toNat_natCast]
  exact rdN_of L r h
theorem rowN_back {p : α → Prop} {xs : List Int} {L : List α} {r : List Int} (hin : InB xs) (h : ∀ xs a r, InB xs → rd xs = some (a, r) → xs = enc a ++ r ∧ p a) (e : rowN rd xs = some (L, r)) : xs = be L.length 4 ++ L.flatMap enc ++ r ∧ InB r ∧ L.length ≤ 65536 ∧ ∀ a ∈ L, p a := by
  unfold rowN at e
  split at e
  · rename_i hc
    obtain ⟨c1, c2⟩ := hc
    have h0 := rowI_pos hin
    have hlen := rdN_len _ _ _ _ e
    have hall := rdN_all h _ _ _ _ (InB.drop hin 4) e
    obtain ⟨e1, e2⟩ := rdN_back (fun xs a r hi he => (h xs a r hi he).1) _ _ _ _ (InB.drop hin 4) e
    refine ⟨?_, e2, by omega, hall⟩
    have hv : (L.length : Int) = val (xs.take 4) := by
      have hb := val_bound (xs.take 4) (InB.take hin 4)
      rw [show (xs.take 4).length = 4 by rw [List.length_take]; omega, pw4] at hb
      have : rowI xs = val (xs.take 4) := by unfold rowI; exact IntWalk.wrap64_in _ ⟨by omega, by omega⟩
      omega
    rw [hv, be_val 4 _ (by rw [List.length_take]; omega) (InB.take hin 4), List.append_assoc, ← e1, List.take_append_drop]
  · cases e
end
end Go.Proofs.Yteiohcgohgcjfaa
