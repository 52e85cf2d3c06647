/- Plain laws of numbers' and times' bytes. Plain laws of messages' bytes. Plain laws of messages. -/
import Derived.Test.YteiohcgohgcjfaaWords
import Derived.Test.YteiohcgohgcjfaaByts
import Derived.Test.YteiohcgohgcjfaaS1
import Derived.Test.YteiohcgohgcjfaaS2
import Derived.Test.YteiohcgohgcjfaaS11
import Derived.Test.YteiohcgohgcjfaaA1
import Derived.Test.YteiohcgohgcjfaaD1
import Derived.Test.YteiohcgohgcjfaaD7
import Derived.Test.YteiohcgohgcjfaaE1
import Derived.Test.YteiohcgohgcjfaaG1
import Derived.Test.YteiohcgohgcjfaaD5
import Derived.Test.YteiohcgohgcjfaaD6
import Derived.Test.YteiohcgohgcjfaaD9
import Derived.Test.YteiohcgohgcjfaaE4
import Derived.Test.YteiohcgohgcjfaaE5
import Derived.Test.YteiohcgohgcjfaaE9
namespace Go.Proofs.Yteiohcgohgcjfaa
open Go.RowKit Go.Proofs.Tail
set_option linter.unusedSimpArgs false
set_option linter.unusedVariables false
def I64 (x : Int) : Prop := -9223372036854775808 ≤ x ∧ x ≤ 9223372036854775807
theorem val_be : ∀ (k : Nat) (n : Int), 0 ≤ n → n < pw k → val (be n k) = n
  | 0, n, h0, h1 => by
    unfold pw at h1
    have : n = 0 := by omega
    subst this; rfl
  | k + 1, n, h0, h1 => by
    unfold pw at h1
    rw [be, val_snoc, val_be k (n / 256) (by omega) (by omega)]
    omega
theorem be_val : ∀ (k : Nat) (xs : List Int), xs.length = k → InB xs → be (val xs) k = xs
  | 0, xs, h, _ => by
    have : xs = [] := List.eq_nil_of_length_eq_zero h
    subst this; rfl
  | k + 1, xs, h, hin => by
    have e : xs = xs.take k ++ [xs[k]] := by
      have := List.take_succ_eq_append_getElem (l := xs) (i := k) (by omega)
      rw [← this, List.take_of_length_le (by omega)]
    have hb := hin xs[k] (List.getElem_mem _)
    have ih := be_val k (xs.take k) (by rw [List.length_take]; omega) (InB.take hin k)
    have hv : val xs = val (xs.take k) * 256 + xs[k] := by
      have := val_snoc (xs.take k) xs[k]
      rw [← e] at this
      exact this
    rw [be, hv, show (val (xs.take k) * 256 + xs[k]) / 256 = val (xs.take k) by omega, ih, show (val (xs.take k) * 256 + xs[k]) % 256 = xs[k] by omega]
    exact e.symm
theorem pw8 : pw 8 = 18446744073709551616 := by decide
theorem wrap_u64 {x : Int} (h : I64 x) : wrap64 (u64 x) = x := by unfold I64 at h; unfold wrap64 u64; omega
theorem u64_wrap {x : Int} (h : 0 ≤ x ∧ x < 18446744073709551616) : u64 (wrap64 x) = x := by unfold wrap64 u64; omega
theorem wrap_i64 (x : Int) : I64 (wrap64 x) := by unfold I64 wrap64; omega
theorem num8 {x : Int} (h : I64 x) : wrap64 (val (be (u64 x) 8)) = x := by
  rw [val_be 8 _ (u64_in x).1 (by rw [pw8]; exact (u64_in x).2), wrap_u64 h]
theorem num8' {xs : List Int} (h : InB xs) (hl : xs.length = 8) : be (u64 (wrap64 (val xs))) 8 = xs := by
  have h1 := val_bound xs h
  rw [hl, pw8] at h1
  rw [u64_wrap h1, be_val 8 xs hl h]
theorem be_cut (z : Int) (k : Nat) (r : List Int) : (be z k ++ r).take k = be z k ∧ (be z k ++ r).drop k = r ∧ k ≤ (be z k ++ r).length :=
  ⟨List.take_left' (be_length z k), List.drop_left' (be_length z k), by rw [List.length_append, be_length]; omega⟩
theorem be_one (n : Int) : be n 1 = [n % 256] := rfl
theorem val_one (x : Int) : val [x] = x := by simp [val]
theorem right_d {t : T} (h : t.right) : (t.d = 0 ∨ t.d = 1 ∨ t.d = 2 ∨ t.d = 3) := by unfold T.right at h; omega
theorem putL_of {t : T} (h : t.rightB = true) : putL t = [t.d, t.e / 256, t.e % 256] ++ [t.a, t.b, t.c].take t.d.toNat := by unfold putL; rw [if_pos h]
theorem get_put {t : T} (h : t.rightB = true) (bs : List Int) : getB (putL t ++ bs) = true ∧ getT (putL t ++ bs) = t ∧ getR (putL t ++ bs) = bs := by
  have r := right_iff.1 h
  have hd := right_d r
  have hc : getC (putL t ++ bs) = t := by
    have r' := r
    unfold T.right at r'
    rw [putL_of h]
    obtain ⟨d, e, a, b, c⟩ := t
    dsimp only at *
    unfold getC
    have he : e / 256 * 256 + e % 256 = e := by omega
    rcases hd with rfl | rfl | rfl | rfl
    · simp [he]; omega
    · simp [he]; omega
    · simp [he]; omega
    · simp [he]
  have h0 : (putL t ++ bs).getD 0 0 = t.d := by rw [putL_of h]; rfl
  have hl : (putL t).length = 3 + t.d.toNat := by
    rw [putL_of h]
    simp only [List.length_append, List.length_take, List.length_cons, List.length_nil]
    omega
  have hb : getB (putL t ++ bs) = true := by
    unfold getB
    rw [decide_eq_true_eq, hc, h0, List.length_append, hl]
    exact ⟨by omega, by omega, by omega, r⟩
  refine ⟨hb, ?_, ?_⟩
  · unfold getT; rw [if_pos hb, hc]
  · unfold getR; rw [if_pos hb, h0, ← hl, List.drop_left]
theorem put_get {xs : List Int} (hin : InB xs) (h : getB xs = true) : (getT xs).rightB = true ∧ putL (getT xs) ++ getR xs = xs := by
  have e1 : getT xs = getC xs := by unfold getT; rw [if_pos h]
  have e2 : getR xs = xs.drop (3 + (xs.getD 0 0).toNat) := by unfold getR; rw [if_pos h]
  unfold getB at h
  rw [decide_eq_true_eq] at h
  obtain ⟨h1, h2, h3, h4⟩ := h
  have hr : (getT xs).rightB = true := by rw [e1]; exact right_iff.2 h4
  refine ⟨hr, ?_⟩
  rw [putL_of hr, e1, e2]
  obtain ⟨x0, x1, x2, r, rfl⟩ : ∃ x0 x1 x2 r, xs = x0 :: x1 :: x2 :: r := by
    cases xs with
    | nil => simp at h1
    | cons x0 xs =>
      cases xs with
      | nil => simp at h1
      | cons x1 xs =>
        cases xs with
        | nil => simp at h1
        | cons x2 r => exact ⟨x0, x1, x2, r, rfl⟩
  have a0 := hin x0 (by simp)
  have a1 := hin x1 (by simp)
  have a2 := hin x2 (by simp)
  rw [show (x0 :: x1 :: x2 :: r).getD 0 0 = x0 from rfl] at h2 h3 ⊢
  have hx : x0 = 0 ∨ x0 = 1 ∨ x0 = 2 ∨ x0 = 3 := by omega
  have k1 : (x1 * 256 + x2) / 256 = x1 := by omega
  have k2 : (x1 * 256 + x2) % 256 = x2 := by omega
  have hC : getC (x0 :: x1 :: x2 :: r) = ⟨x0, x1 * 256 + x2, if 0 < x0 then r.getD 0 0 else 0, if 1 < x0 then r.getD 1 0 else 0, if 2 < x0 then r.getD 2 0 else 0⟩ := rfl
  rw [hC]
  dsimp only
  rw [k1, k2]
  simp only [List.length_cons] at h3
  have h3' : x0.toNat ≤ r.length := by omega
  clear h3 hC
  rcases hx with rfl | rfl | rfl | rfl
  · rfl
  · cases r with
    | nil => simp at h3'
    | cons y0 r => rfl
  · cases r with
    | nil => simp at h3'
    | cons y0 r =>
      cases r with
      | nil => simp at h3'
      | cons y1 r => rfl
  · cases r with
    | nil => simp at h3'
    | cons y0 r =>
      cases r with
      | nil => simp at h3'
      | cons y1 r =>
        cases r with
        | nil => simp at h3'
        | cons y2 r => rfl
end Go.Proofs.Yteiohcgohgcjfaa

namespace Go.Proofs.Yteiohcgohgcjfaa
open Go Go.RowKit Go.Proofs.Tail
set_option linter.unusedSimpArgs false
set_option linter.unusedVariables false
theorem rd2_of (x : Rc) (h : I64 x.1 ∧ I64 x.2) (r : List Int) : rd2 (recL x ++ r) = some (x, r) := by
  unfold rd2
  rw [if_pos (by rw [List.length_append, recL_length]; omega), List.drop_left' (recL_length x)]
  unfold recL
  rw [List.append_assoc, (be_cut _ 8 _).1, (be_cut _ 8 _).2.1, (be_cut _ 8 _).1, num8 h.1, num8 h.2]
theorem rd2_back (xs : List Int) (x : Rc) (r : List Int) (hin : InB xs) (h : rd2 xs = some (x, r)) : xs = recL x ++ r ∧ I64 x.1 ∧ I64 x.2 := by
  unfold rd2 at h
  split at h
  · rename_i hl
    injection h with h
    injection h with h1 h2
    subst h1; subst h2
    refine ⟨?_, wrap_i64 _, wrap_i64 _⟩
    unfold recL
    dsimp only
    rw [num8' (InB.take hin 8) (by rw [List.length_take]; omega), num8' (InB.take (InB.drop hin 8) 8) (by rw [List.length_take, List.length_drop]; omega)]
    have e1 : (xs.drop 8).drop 8 = xs.drop 16 := by rw [List.drop_drop]
    rw [List.append_assoc, ← e1, List.take_append_drop, List.take_append_drop]
  · cases h
theorem wrap_small {x : Int} (h : 0 ≤ x ∧ x < 256) : wrap64 x = x := IntWalk.wrap64_in _ ⟨by omega, by omega⟩
theorem rd3_of (u : Upd) (h : (0 ≤ u.n ∧ u.n < 32) ∧ u.s.right ∧ I64 u.m) (r : List Int) : rd3 (updL u ++ r) = some (u, r) := by
  obtain ⟨hn, hs, hm⟩ := h
  have hs' := right_iff.2 hs
  obtain ⟨g1, g2, g3⟩ := get_put hs' (be (u64 u.m) 8 ++ r)
  have e : updL u ++ r = (u.n % 256 % 256) :: (heldI u.h % 256) :: (putL u.s ++ (be (u64 u.m) 8 ++ r)) := by
    unfold updL
    rw [be_one, be_one]
    simp only [List.append_assoc, List.cons_append, List.nil_append]
  have hh : heldI u.h % 256 = heldI u.h ∧ 0 ≤ heldI u.h ∧ heldI u.h ≤ 1 := by unfold heldI; split <;> decide
  have d2 : (updL u ++ r).drop 2 = putL u.s ++ (be (u64 u.m) 8 ++ r) := by rw [e]; rfl
  have hv : heldV (updL u ++ r) = heldI u.h := by
    unfold heldV
    rw [e, hh.1]
    show wrap64 (val [heldI u.h]) = _
    rw [val_one, wrap_small ⟨by omega, by omega⟩]
  have hB : u3B (updL u ++ r) = true := by
    unfold u3B
    rw [decide_eq_true_eq, hv, d2, g3]
    refine ⟨by rw [e]; simp only [List.length_cons]; omega, hh.2.2, g1, (be_cut _ 8 _).2.2⟩
  have hU : u3U (updL u ++ r) = u := by
    unfold u3U
    rw [hv, d2, g2, g3, (be_cut _ 8 _).1, num8 hm]
    obtain ⟨n, hd, s, m⟩ := u
    dsimp only at *
    have e1 : wrap64 (val ((updL ⟨n, hd, s, m⟩ ++ r).take 1)) = n := by
      rw [e]
      show wrap64 (val [n % 256 % 256]) = _
      rw [val_one, show n % 256 % 256 = n by omega, wrap_small ⟨by omega, by omega⟩]
    rw [e1]
    cases hd <;> rfl
  unfold rd3
  rw [if_pos hB, hU]
  unfold u3R
  rw [d2, g3, (be_cut _ 8 _).2.1]
theorem rd3_back (xs : List Int) (u : Upd) (r : List Int) (hin : InB xs) (h : rd3 xs = some (u, r)) : xs = updL u ++ r ∧ I64 u.m := by
  unfold rd3 at h
  split at h
  · rename_i hB
    injection h with h
    injection h with h1 h2
    subst h1; subst h2
    unfold u3B at hB
    rw [decide_eq_true_eq] at hB
    obtain ⟨b1, b2, b3, b4⟩ := hB
    obtain ⟨p1, p2⟩ := put_get (InB.drop hin 2) b3
    refine ⟨?_, wrap_i64 _⟩
    have hR := getR_in (InB.drop hin 2)
    obtain ⟨x0, x1, Z, rfl⟩ : ∃ x0 x1 Z, xs = x0 :: x1 :: Z := by
      cases xs with
      | nil => simp at b1
      | cons x0 xs =>
        cases xs with
        | nil => simp at b1
        | cons x1 Z => exact ⟨x0, x1, Z, rfl⟩
    · have a0 := hin x0 (by simp)
      have a1 := hin x1 (by simp)
      have v0 : wrap64 (val ((x0 :: x1 :: Z).take 1)) = x0 := by
        show wrap64 (val [x0]) = _
        rw [val_one, wrap_small a0]
      have v1 : heldV (x0 :: x1 :: Z) = x1 := by
        unfold heldV
        show wrap64 (val [x1]) = _
        rw [val_one, wrap_small a1]
      rw [v1] at b2
      unfold updL u3U u3R
      dsimp only
      rw [v0, v1, num8' (InB.take hR 8) (by rw [List.length_take]; exact Nat.min_eq_left b4), be_one, be_one, List.append_assoc, List.append_assoc, List.take_append_drop, List.append_assoc, p2]
      have e1 : x0 % 256 % 256 = x0 := by omega
      have e2 : heldI (decide (x1 = 1)) % 256 = x1 := by
        rcases (show x1 = 0 ∨ x1 = 1 by omega) with rfl | rfl <;> decide
      rw [e1, e2]
      rfl
  · cases h
section
variable {α : Type} {rd : List Int → Option (α × List Int)} {enc : α → List Int}
theorem rdN_of (L : List α) (r : List Int) (h : ∀ a ∈ L, ∀ r, rd (enc a ++ r) = some (a, r)) : rdN rd L.length (L.flatMap enc ++ r) = some (L, r) := by
  have key : ∀ k, k ≤ L.length → rdN rd k (L.flatMap enc ++ r) = some (L.take k, (L.drop k).flatMap enc ++ r) := by
    intro k
    induction k with
    | zero => intro _; rfl
    | succ k ih =>
      intro hk
      have hm : L[k] ∈ L := List.getElem_mem _
      have hr : rd ((L.drop k).flatMap enc ++ r) = some (L[k], (L.drop (k + 1)).flatMap enc ++ r) := by
        rw [List.drop_eq_getElem_cons (by omega), List.flatMap_cons, List.append_assoc]
        exact h _ hm _
      rw [rdN_succ (ih (by omega)) hr, List.take_succ_eq_append_getElem (by omega)]
  have := key L.length (Nat.le_refl _)
  rw [List.take_length, List.drop_length] at this
  exact this
theorem rdN_back (h : ∀ xs a r, InB xs → rd xs = some (a, r) → xs = enc a ++ r) : ∀ (k : Nat) (xs : List Int) (L : List α) (r : List Int), InB xs → rdN rd k xs = some (L, r) → xs = L.flatMap enc ++ r ∧ InB r
  | 0, xs, L, r, hin, e => by
    unfold rdN at e
    injection e with e
    injection e with e1 e2
    subst e1; subst e2
    exact ⟨rfl, hin⟩
  | k + 1, xs, L, r, hin, e => by
    unfold rdN at e
    split at e
    · cases e
    · rename_i l ys hl
      obtain ⟨i1, i2⟩ := rdN_back h k xs l ys hin hl
      split at e
      · cases e
      · rename_i a zs hr
        injection e with e
        injection e with e1 e2
        subst e1; subst e2
        have g := h ys a zs i2 hr
        refine ⟨?_, fun x hx => i2 x (by rw [g]; simp [hx])⟩
        rw [i1, g]
        simp only [List.flatMap_append, List.flatMap_cons, List.flatMap_nil, List.append_nil, List.append_assoc]
theorem rdN_all {p : α → Prop} (h : ∀ xs a r, InB xs → rd xs = some (a, r) → xs = enc a ++ r ∧ p a) : ∀ (k : Nat) (xs : List Int) (L : List α) (r : List Int), InB xs → rdN rd k xs = some (L, r) → ∀ a ∈ L, p a
  | 0, xs, L, r, hin, e => by
    unfold rdN at e
    injection e with e
    injection e with e1 e2
    subst e1
    intro a ha
    cases ha
  | k + 1, xs, L, r, hin, e => by
    unfold rdN at e
    split at e
    · cases e
    · rename_i l ys hl
      have ih := rdN_all h k xs l ys hin hl
      obtain ⟨i1, i2⟩ := rdN_back (fun xs a r hi he => (h xs a r hi he).1) k xs l ys hin hl
      split at e
      · cases e
      · rename_i a zs hr
        injection e with e
        injection e with e1 e2
        subst e1
        intro b hb
        rcases List.mem_append.1 hb with hb | hb
        · exact ih b hb
        · rw [List.mem_singleton] at hb
          subst hb
          exact (h ys _ zs i2 hr).2
theorem pw4 : pw 4 = 4294967296 := by decide
theorem rowN_of (L : List α) (r : List Int) (hl : L.length ≤ 65536) (h : ∀ a ∈ L, ∀ r, rd (enc a ++ r) = some (a, r)) : rowN rd (be L.length 4 ++ L.flatMap enc ++ r) = some (L, r) := by
  rw [List.append_assoc]
  have hI : rowI (be L.length 4 ++ (L.flatMap enc ++ r)) = L.length := by
    unfold rowI
    rw [(be_cut _ 4 _).1, val_be 4 _ (by omega) (by rw [pw4]; omega), IntWalk.wrap64_in _ ⟨by omega, by omega⟩]
  unfold rowN
  rw [if_pos ⟨(be_cut _ 4 _).2.2, by rw [hI]; omega⟩, hI, (be_cut _ 4 _).2.1, Int.toNat_natCast]
  exact rdN_of L r h
theorem rowN_back {p : α → Prop} {xs : List Int} {L : List α} {r : List Int} (hin : InB xs) (h : ∀ xs a r, InB xs → rd xs = some (a, r) → xs = enc a ++ r ∧ p a) (e : rowN rd xs = some (L, r)) : xs = be L.length 4 ++ L.flatMap enc ++ r ∧ InB r ∧ L.length ≤ 65536 ∧ ∀ a ∈ L, p a := by
  unfold rowN at e
  split at e
  · rename_i hc
    obtain ⟨c1, c2⟩ := hc
    have h0 := rowI_pos hin
    have hlen := rdN_len _ _ _ _ e
    have hall := rdN_all h _ _ _ _ (InB.drop hin 4) e
    obtain ⟨e1, e2⟩ := rdN_back (fun xs a r hi he => (h xs a r hi he).1) _ _ _ _ (InB.drop hin 4) e
    refine ⟨?_, e2, by omega, hall⟩
    have hv : (L.length : Int) = val (xs.take 4) := by
      have hb := val_bound (xs.take 4) (InB.take hin 4)
      rw [show (xs.take 4).length = 4 by rw [List.length_take]; omega, pw4] at hb
      have : rowI xs = val (xs.take 4) := by unfold rowI; exact IntWalk.wrap64_in _ ⟨by omega, by omega⟩
      omega
    rw [hv, be_val 4 _ (by rw [List.length_take]; omega) (InB.take hin 4), List.append_assoc, ← e1, List.take_append_drop]
  · cases e
end
end Go.Proofs.Yteiohcgohgcjfaa

namespace Go.Proofs.Yteiohcgohgcjfaa
open Go Go.RowKit Go.Proofs.Tail
set_option linter.unusedSimpArgs false
set_option linter.unusedVariables false
/-- Its numbers are the machine's. -/
structure Msg.fit (m : Msg) : Prop where
  q : I64 m.q
  l : ∀ x ∈ m.L, I64 x.1 ∧ I64 x.2
  u : ∀ u ∈ m.U, I64 u.m
theorem n1_cons (x : Int) (h : 0 ≤ x ∧ x < 256) (r : List Int) : n1 (x :: r) = x := by
  unfold n1
  show wrap64 (val [x]) = _
  rw [val_one, wrap_small h]
theorem parse_one {m : Msg} (h : mayB m = true) (hf : m.fit) (r : List Int) (hk : m.k = 1) : parseM (msgL m ++ r) = some (m, r) := by
  obtain ⟨hf1, ht1, hi1, hq0, hq1, hs, hL, hU⟩ := mayB_one h hk
  have hs' := right_iff.2 hs
  obtain ⟨k, f, t, i, q, s, L, U⟩ := m
  dsimp only at hk hf1 ht1 hi1 hq0 hq1 hs hs' hL hU
  subst hk; subst hU
  obtain ⟨R, hR⟩ : ∃ R, R = be L.length 4 ++ L.flatMap recL ++ r := ⟨_, rfl⟩
  obtain ⟨Y, hY⟩ : ∃ Y, Y = putL s ++ R := ⟨_, rfl⟩
  obtain ⟨Z, hZ⟩ : ∃ Z, Z = be q 8 ++ Y := ⟨_, rfl⟩
  have e : msgL ⟨1, f, t, i, q, s, L, []⟩ ++ r = 1 :: f :: t :: i :: Z := by
    rw [hZ, hY, hR]
    unfold msgL
    rw [if_pos rfl]
    dsimp only
    rw [be_one, be_one, be_one, be_one, show f % 256 = f by omega, show t % 256 = t by omega, show i % 256 = i by omega, show (1 : Int) % 256 = 1 from rfl]
    simp only [List.append_assoc, List.cons_append, List.nil_append]
  have hrow : rowN rd2 R = some (L, r) := by rw [hR]; exact rowN_of (rd := rd2) (enc := recL) L r hL (fun a ha r => rd2_of a (hf.l a ha) r)
  obtain ⟨g1, g2, g3⟩ := get_put hs' R
  rw [← hY] at g1 g2 g3
  have hz : 0 ≤ q ∧ q < pw 8 := by rw [pw8]; omega
  have d8 : Z.drop 8 = Y := by rw [hZ]; exact (be_cut q 8 _).2.1
  have l8 : 8 ≤ Z.length := by rw [hZ]; exact (be_cut q 8 _).2.2
  have h8 : n8 Z = q := by
    unfold n8
    rw [hZ, (be_cut q 8 _).1, val_be 8 q hz.1 hz.2]
    exact IntWalk.wrap64_in _ hf.q
  have t1 : (f :: t :: i :: Z).drop 1 = t :: i :: Z := rfl
  have t2 : (f :: t :: i :: Z).drop 2 = i :: Z := rfl
  have t3 : (f :: t :: i :: Z).drop 3 = Z := rfl
  have t11 : (f :: t :: i :: Z).drop 11 = Y := by rw [show (f :: t :: i :: Z).drop 11 = Z.drop 8 from rfl, d8]
  have f1 := n1_cons f (by omega) (t :: i :: Z)
  have f2 := n1_cons t (by omega) (i :: Z)
  have f3 := n1_cons i (by omega) Z
  rw [e]
  clear e hZ hY hR
  have hd : parseD 1 (f :: t :: i :: Z) = some (⟨1, f, t, i, q, s, L, []⟩, r) := by
    unfold parseD
    rw [t11, t3, t2, t1, g1, g2, g3, hrow, f1, f2, f3, h8, if_pos ⟨by simp only [List.length_cons]; omega, l8, rfl⟩]
  unfold parseM
  rw [if_pos (by simp only [List.length_cons]; omega), n1_cons 1 (by omega), if_pos (by decide)]
  exact hd
theorem parse_two {m : Msg} (h : mayB m = true) (hf : m.fit) (r : List Int) (hk : m.k ≠ 1) : parseM (msgL m ++ r) = some (m, r) := by
  obtain ⟨h2, hU, hw, hb⟩ := mayB_two h hk
  obtain ⟨k, f, t, i, q, s, L, U⟩ := m
  unfold bare at hb
  injection hb with b1 b2 b3 b4 b5 b6 b7
  dsimp only at h2 hU hw b1 b2 b3 b4 b5 b6 b7
  subst h2; subst b2; subst b3; subst b4; subst b5; subst b6; subst b7
  obtain ⟨Z, hZ⟩ : ∃ Z, Z = be U.length 4 ++ U.flatMap updL ++ r := ⟨_, rfl⟩
  have e : msgL ⟨2, 0, 0, 0, 0, T0, [], U⟩ ++ r = 2 :: Z := by
    rw [hZ]
    unfold msgL
    rw [if_neg (show ¬ ((2 : Int) = 1) by decide)]
    dsimp only
    rw [be_one, show (2 : Int) % 256 = 2 from rfl]
    simp only [List.append_assoc, List.cons_append, List.nil_append]
  have hrow : rowN rd3 Z = some (U, r) := by rw [hZ]; exact rowN_of (rd := rd3) (enc := updL) U r hU (fun a ha r => rd3_of a ⟨(hw a ha).1, (hw a ha).2, hf.u a ha⟩ r)
  have hn := n1_cons 2 (by omega) Z
  have hu : IntKind.u8.wrap 2 = 2 := by decide
  have hne : ¬ ((2 : Int) = 1) := by decide
  rw [e]
  clear e hZ
  have hp : parseP 2 Z = some (⟨2, 0, 0, 0, 0, T0, [], U⟩, r) := by
    unfold parseP
    rw [hrow]
  unfold parseM
  rw [if_pos (by simp only [List.length_cons]; omega), hn, hu, if_neg hne, List.drop_succ_cons, List.drop_zero]
  exact hp
theorem parse_of {m : Msg} (h : mayB m = true) (hf : m.fit) (r : List Int) : parseM (msgL m ++ r) = some (m, r) := by
  by_cases hk : m.k = 1
  · exact parse_one h hf r hk
  · exact parse_two h hf r hk
theorem parse_back {xs : List Int} {m : Msg} {r : List Int} (hin : InB xs) (h : parseM xs = some (m, r)) (hm : mayB m = true) : xs = msgL m ++ r ∧ m.fit := by
  unfold parseM at h
  split at h
  · rename_i h1
    obtain ⟨x0, ys, rfl⟩ : ∃ x0 ys, xs = x0 :: ys := by
      cases xs with
      | nil => simp at h1
      | cons x0 ys => exact ⟨x0, ys, rfl⟩
    have a0 := hin x0 (by simp)
    have hin' : InB ys := fun x hx => hin x (by simp [hx])
    rw [n1_cons x0 a0] at h
    have hw : IntKind.u8.wrap x0 = x0 := by
      simp only [IntKind.wrap, IntKind.bits, IntKind.signed]
      simp
      omega
    rw [hw] at h
    simp only [List.drop_succ_cons, List.drop_zero] at h
    split at h
    · rename_i hk
      subst hk
      unfold parseD at h
      split at h
      · rename_i hc
        obtain ⟨c1, c2, c3⟩ := hc
        obtain ⟨f, t, i, zs, rfl⟩ : ∃ f t i zs, ys = f :: t :: i :: zs := by
          cases ys with
          | nil => simp at c1
          | cons f ys =>
            cases ys with
            | nil => simp at c1
            | cons t ys =>
              cases ys with
              | nil => simp at c1
              | cons i zs => exact ⟨f, t, i, zs, rfl⟩
        have b0 := hin' f (by simp)
        have b1 := hin' t (by simp)
        have b2 := hin' i (by simp)
        have hin3 : InB zs := fun x hx => hin' x (by simp [hx])
        have hd : (f :: t :: i :: zs).drop 11 = zs.drop 8 := rfl
        rw [hd] at h c3
        obtain ⟨p1, p2⟩ := put_get (InB.drop hin3 8) c3
        have hR := getR_in (InB.drop hin3 8)
        split at h
        · cases h
        · rename_i L r' hrow
          injection h with h
          injection h with e1 e2
          subst e1; subst e2
          obtain ⟨q1, q2, q3, q4⟩ := rowN_back (p := fun x : Rc => I64 x.1 ∧ I64 x.2) hR (fun xs a r hi he => ⟨(rd2_back xs a r hi he).1, (rd2_back xs a r hi he).2⟩) hrow
          refine ⟨?_, ⟨wrap_i64 _, q4, by intro u hu; cases hu⟩⟩
          unfold msgL
          rw [if_pos rfl]
          dsimp only
          rw [show (f :: t :: i :: zs).drop 1 = t :: i :: zs from rfl, show (f :: t :: i :: zs).drop 2 = i :: zs from rfl, show (f :: t :: i :: zs).drop 3 = zs from rfl, n1_cons f b0, n1_cons t b1, n1_cons i b2]
          have hq := mayB_one hm rfl
          have hq0 : 0 ≤ n8 zs ∧ n8 zs ≤ 4611686018427387904 := ⟨hq.2.2.2.1, hq.2.2.2.2.1⟩
          have hn : u64 (n8 zs) = n8 zs := by unfold u64; omega
          have h8 := num8' (InB.take hin3 8) (by rw [List.length_take]; exact Nat.min_eq_left c2)
          rw [show wrap64 (val (zs.take 8)) = n8 zs from rfl, hn] at h8
          rw [h8]
          rw [be_one, be_one, be_one, be_one, show f % 256 = f by omega, show t % 256 = t by omega, show i % 256 = i by omega]
          simp only [List.append_assoc, List.cons_append, List.nil_append]
          rw [List.append_assoc] at q1
          rw [← q1, p2, List.take_append_drop]
          rfl
      · cases h
    · rename_i hk
      unfold parseP at h
      split at h
      · cases h
      · rename_i U r' hrow
        injection h with h
        injection h with e1 e2
        subst e1; subst e2
        obtain ⟨q1, q2, q3, q4⟩ := rowN_back (p := fun u : Upd => I64 u.m) hin' (fun xs a r hi he => rd3_back xs a r hi he) hrow
        refine ⟨?_, ⟨show I64 0 by unfold I64; decide, by intro x hx; (cases hx), q4⟩⟩
        unfold msgL
        rw [if_neg hk]
        dsimp only
        rw [be_one, show x0 % 256 = x0 by omega]
        simp only [List.append_assoc, List.cons_append, List.nil_append]
        rw [List.append_assoc] at q1
        rw [← q1]
  · cases h
theorem get_of {m : Msg} (h : mayB m = true) (hf : m.fit) : getM (msgL m) = some m := by
  have := parse_of h hf []
  rw [List.append_nil] at this
  unfold getM
  rw [this]
  dsimp only
  rw [if_pos ⟨rfl, h⟩]
theorem get_back {xs : List Int} {m : Msg} (hin : InB xs) (h : getM xs = some m) : msgL m = xs ∧ mayB m = true ∧ m.fit := by
  unfold getM at h
  split at h
  · cases h
  · rename_i m' r hp
    split at h
    · rename_i hc
      injection h with h
      subst h
      have hr : r = [] := List.eq_nil_of_length_eq_zero hc.1
      subst hr
      obtain ⟨e, f⟩ := parse_back hin hp hc.2
      rw [List.append_nil] at e
      exact ⟨e.symm, hc.2, f⟩
    · cases h
theorem get_more {m : Msg} (h : mayB m = true) (hf : m.fit) (x : Int) (r : List Int) : getM (msgL m ++ x :: r) = none := by
  unfold getM
  rw [parse_of h hf (x :: r)]
  dsimp only
  rw [if_neg (by simp)]
theorem InB.app {xs ys : List Int} (h : InB xs) (h' : InB ys) : InB (xs ++ ys) := fun x hx => by
  rcases List.mem_append.1 hx with hx | hx
  · exact h x hx
  · exact h' x hx
theorem InB.flat {α : Type} {enc : α → List Int} {L : List α} (h : ∀ a ∈ L, InB (enc a)) : InB (L.flatMap enc) := fun x hx => by
  obtain ⟨a, ha, hx⟩ := List.mem_flatMap.1 hx
  exact h a ha x hx
theorem putL_in (t : T) : InB (putL t) := by
  unfold putL
  split
  · rename_i h
    have r := right_iff.1 h
    unfold T.right at r
    refine InB.app ?_ (InB.take ?_ _)
    · intro x hx
      simp only [List.mem_cons, List.not_mem_nil, or_false] at hx
      rcases hx with rfl | rfl | rfl <;> omega
    · intro x hx
      simp only [List.mem_cons, List.not_mem_nil, or_false] at hx
      rcases hx with rfl | rfl | rfl <;> omega
  · intro x hx; cases hx
theorem msgL_in (m : Msg) : InB (msgL m) := by
  unfold msgL
  split
  · exact InB.app (InB.app (InB.app (InB.app (InB.app (be_in _ _) (InB.app (InB.app (be_in _ _) (be_in _ _)) (be_in _ _))) (be_in _ _)) (putL_in _)) (be_in _ _)) (InB.flat fun a _ => InB.app (be_in _ _) (be_in _ _))
  · exact InB.app (InB.app (be_in _ _) (be_in _ _)) (InB.flat fun a _ => InB.app (InB.app (InB.app (be_in _ _) (be_in _ _)) (putL_in _)) (be_in _ _))
theorem get_fewer {m : Msg} (h : mayB m = true) (hf : m.fit) {k : Nat} (hk : k < (msgL m).length) : getM ((msgL m).take k) = none := by
  match hg : getM ((msgL m).take k) with
  | none => rfl
  | some y =>
    exfalso
    obtain ⟨e, hy, fy⟩ := get_back (InB.take (msgL_in m) k) hg
    have e2 : msgL m = msgL y ++ (msgL m).drop k := by rw [e, List.take_append_drop]
    have p1 := parse_of h hf []
    rw [List.append_nil, e2, parse_of hy fy] at p1
    injection p1 with p1
    injection p1 with _ p1
    have := congrArg List.length p1
    rw [List.length_drop] at this
    simp only [List.length_nil] at this
    omega
theorem msgL_inj {m n : Msg} (h : mayB m = true) (hf : m.fit) (h' : mayB n = true) (hf' : n.fit) (e : msgL m = msgL n) : m = n := by
  have p1 := get_of h hf
  rw [e, get_of h' hf'] at p1
  injection p1 with p1
  exact p1.symm
theorem msgL_pos (m : Msg) : 0 < (msgL m).length := by
  unfold msgL
  split <;> (simp only [List.length_append, be_length]; omega)
end Go.Proofs.Yteiohcgohgcjfaa
