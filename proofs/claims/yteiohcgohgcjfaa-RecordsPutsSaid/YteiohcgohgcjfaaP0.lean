/- Plain laws of numbers' and times' bytes. -/
import Derived.Test.YteiohcgohgcjfaaWords
import Derived.Test.YteiohcgohgcjfaaByts
import Derived.Test.YteiohcgohgcjfaaS1
import Derived.Test.YteiohcgohgcjfaaS2
import Derived.Test.YteiohcgohgcjfaaS11
import Derived.Test.YteiohcgohgcjfaaA1
import Derived.Test.YteiohcgohgcjfaaD1
import Derived.Test.YteiohcgohgcjfaaD7
import Derived.Test.YteiohcgohgcjfaaE1
import Derived.Test.YteiohcgohgcjfaaG1
namespace Go.Proofs.Yteiohcgohgcjfaa
open Go.RowKit Go.Proofs.Tail
set_option linter.unusedSimpArgs false
set_option linter.unusedVariables false
def I64 (x : Int) : Prop := -9223372036854775808 ≤ x ∧ x ≤ 9223372036854775807
theorem val_be : ∀ (k : Nat) (n : Int), 0 ≤ n → n < pw k → val (be n k) = n
  | 0, n, h0, h1 => by
    unfold pw at h1
    have : n = 0 := by omega
    subst this; rfl
  | k + 1, n, h0, h1 => by
    unfold pw at h1
    rw [be, val_snoc, val_be k (n / 256) (by omega) (by omega)]
    omega
theorem be_val : ∀ (k : Nat) (xs : List Int), xs.length = k → InB xs → be (val xs) k = xs
  | 0, xs, h, _ => by
    have : xs = [] := List.eq_nil_of_length_eq_zero h
    subst this; rfl
  | k + 1, xs, h, hin => by
    have e : xs = xs.take k ++ [xs[k]] := by
      have := List.take_succ_eq_append_getElem (l := xs) (i := k) (by omega)
      rw [← this, List.take_of_length_le (by omega)]
    have hb := hin xs[k] (List.getElem_mem _)
    have ih := be_val k (xs.take k) (by rw [List.length_take]; omega) (InB.take hin k)
    have hv : val xs = val (xs.take k) * 256 + xs[k] := by
      have := val_snoc (xs.take k) xs[k]
      rw [← e] at this
      exact this
    rw [be, hv, show (val (xs.take k) * 256 + xs[k]) / 256 = val (xs.take k) by omega, ih, show (val (xs.take k) * 256 + xs[k]) % 256 = xs[k] by omega]
    exact e.symm
theorem pw8 : pw 8 = 18446744073709551616 := by decide
theorem wrap_u64 {x : Int} (h : I64 x) : wrap64 (u64 x) = x := by unfold I64 at h; unfold wrap64 u64; omega
theorem u64_wrap {x : Int} (h : 0 ≤ x ∧ x < 18446744073709551616) : u64 (wrap64 x) = x := by unfold wrap64 u64; omega
theorem wrap_i64 (x : Int) : I64 (wrap64 x) := by unfold I64 wrap64; omega
theorem num8 {x : Int} (h : I64 x) : wrap64 (val (be (u64 x) 8)) = x := by
  rw [val_be 8 _ (u64_in x).1 (by rw [pw8]; exact (u64_in x).2), wrap_u64 h]
theorem num8' {xs : List Int} (h : InB xs) (hl : xs.length = 8) : be (u64 (wrap64 (val xs))) 8 = xs := by
  have h1 := val_bound xs h
  rw [hl, pw8] at h1
  rw [u64_wrap h1, be_val 8 xs hl h]
theorem be_cut (z : Int) (k : Nat) (r : List Int) : (be z k ++ r).take k = be z k ∧ (be z k ++ r).drop k = r ∧ k ≤ (be z k ++ r).length :=
  ⟨List.take_left' (be_length z k), List.drop_left' (be_length z k), by rw [List.length_append, be_length]; omega⟩
theorem be_one (n : Int) : be n 1 = [n % 256] := rfl
theorem val_one (x : Int) : val [x] = x := by simp [val]
theorem right_d {t : T} (h : t.right) : (t.d = 0 ∨ t.d = 1 ∨ t.d = 2 ∨ t.d = 3) := by unfold T.right at h; omega
theorem putL_of {t : T} (h : t.rightB = true) : putL t = [t.d, t.e / 256, t.e % 256] ++ [t.a, t.b, t.c].take t.d.toNat := by unfold putL; rw [if_pos h]
theorem get_put {t : T} (h : t.rightB = true) (bs : List Int) : getB (putL t ++ bs) = true ∧ getT (putL t ++ bs) = t ∧ getR (putL t ++ bs) = bs := by
  have r := right_iff.1 h
  have hd := right_d r
  have hc : getC (putL t ++ bs) = t := by
    have r' := r
    unfold T.right at r'
    rw [putL_of h]
    obtain ⟨d, e, a, b, c⟩ := t
    dsimp only at *
    unfold getC
    have he : e / 256 * 256 + e % 256 = e := by omega
    rcases hd with rfl | rfl | rfl | rfl
    · simp [he]; omega
    · simp [he]; omega
    · simp [he]; omega
    · simp [he]
  have h0 : (putL t ++ bs).getD 0 0 = t.d := by rw [putL_of h]; rfl
  have hl : (putL t).length = 3 + t.d.toNat := by
    rw [putL_of h]
    simp only [List.length_append, List.length_take, List.length_cons, List.length_nil]
    omega
  have hb : getB (putL t ++ bs) = true := by
    unfold getB
    rw [decide_eq_true_eq, hc, h0, List.length_append, hl]
    exact ⟨by omega, by omega, by omega, r⟩
  refine ⟨hb, ?_, ?_⟩
  · unfold getT; rw [if_pos hb, hc]
  · unfold getR; rw [if_pos hb, h0, ← hl, List.drop_left]
theorem put_get {xs : List Int} (hin : InB xs) (h : getB xs = true) : (getT xs).rightB = true ∧ putL (getT xs) ++ getR xs = xs := by
  have e1 : getT xs = getC xs := by unfold getT; rw [if_pos h]
  have e2 : getR xs = xs.drop (3 + (xs.getD 0 0).toNat) := by unfold getR; rw [if_pos h]
  unfold getB at h
  rw [decide_eq_true_eq] at h
  obtain ⟨h1, h2, h3, h4⟩ := h
  have hr : (getT xs).rightB = true := by rw [e1]; exact right_iff.2 h4
  refine ⟨hr, ?_⟩
  rw [putL_of hr, e1, e2]
  obtain ⟨x0, x1, x2, r, rfl⟩ : ∃ x0 x1 x2 r, xs = x0 :: x1 :: x2 :: r := by
    cases xs with
    | nil => simp at h1
    | cons x0 xs =>
      cases xs with
      | nil => simp at h1
      | cons x1 xs =>
        cases xs with
        | nil => simp at h1
        | cons x2 r => exact ⟨x0, x1, x2, r, rfl⟩
  have a0 := hin x0 (by simp)
  have a1 := hin x1 (by simp)
  have a2 := hin x2 (by simp)
  rw [show (x0 :: x1 :: x2 :: r).getD 0 0 = x0 from rfl] at h2 h3 ⊢
  have hx : x0 = 0 ∨ x0 = 1 ∨ x0 = 2 ∨ x0 = 3 := by omega
  have k1 : (x1 * 256 + x2) / 256 = x1 := by omega
  have k2 : (x1 * 256 + x2) % 256 = x2 := by omega
  have hC : getC (x0 :: x1 :: x2 :: r) = ⟨x0, x1 * 256 + x2, if 0 < x0 then r.getD 0 0 else 0, if 1 < x0 then r.getD 1 0 else 0, if 2 < x0 then r.getD 2 0 else 0⟩ := rfl
  rw [hC]
  dsimp only
  rw [k1, k2]
  simp only [List.length_cons] at h3
  have h3' : x0.toNat ≤ r.length := by omega
  clear h3 hC
  rcases hx with rfl | rfl | rfl | rfl
  · rfl
  · cases r with
    | nil => simp at h3'
    | cons y0 r => rfl
  · cases r with
    | nil => simp at h3'
    | cons y0 r =>
      cases r with
      | nil => simp at h3'
      | cons y1 r => rfl
  · cases r with
    | nil => simp at h3'
    | cons y0 r =>
      cases r with
      | nil => simp at h3'
      | cons y1 r =>
        cases r with
        | nil => simp at h3'
        | cons y2 r => rfl
end Go.Proofs.Yteiohcgohgcjfaa
