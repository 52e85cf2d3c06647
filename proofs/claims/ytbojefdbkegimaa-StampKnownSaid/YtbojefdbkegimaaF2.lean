/- Plain laws of the bytes of times. -/
import Derived.Test.YtbojefdbkegimaaS2
import Derived.Test.YtbojefdbkegimaaS7
import Derived.Test.YtbojefdbkegimaaS8
import Derived.Test.YtbojefdbkegimaaS11
import Derived.Test.YtbojefdbkegimaaF1
namespace Go.Proofs.Ytbojefdbkegimaa
open Go.RowKit Go.Proofs.Tail
set_option linter.unusedSimpArgs false
set_option linter.unusedVariables false
def lx (xs ys : List Int) : Nat → Int
  | 0 => 0
  | k + 1 => orI (lx xs ys k) (sgn (xs.getD k 0) (ys.getD k 0))
theorem orI_assoc (x y z : Int) : orI (orI x y) z = orI x (orI y z) := by unfold orI; (repeat' split) <;> omega
theorem orI_left (x : Int) : orI 0 x = x := rfl
theorem orI_right (x : Int) : orI x 0 = x := by unfold orI; split <;> omega
theorem orI_ne {x : Int} (h : x ≠ 0) (y : Int) : orI x y = x := by unfold orI; rw [if_neg h]
theorem sgn_same (x : Int) : sgn x x = 0 := by unfold sgn; (repeat' split) <;> omega
theorem sgn_epoch {x y : Int} : orI (sgn (x / 256) (y / 256)) (sgn (x % 256) (y % 256)) = sgn x y := by
  unfold orI sgn; (repeat' split) <;> omega
theorem lx_fix {xs ys : List Int} {k : Nat} (h : lx xs ys k ≠ 0) : ∀ j, lx xs ys (k + j) = lx xs ys k
  | 0 => rfl
  | j + 1 => by rw [← Nat.add_assoc, lx, lx_fix h j, orI_ne h]
theorem right_d {t : T} (h : t.right) : (t.d = 0 ∨ t.d = 1 ∨ t.d = 2 ∨ t.d = 3) := by unfold T.right at h; omega
theorem putL_of {t : T} (h : t.rightB = true) : putL t = [t.d, t.e / 256, t.e % 256] ++ [t.a, t.b, t.c].take t.d.toNat := by unfold putL; rw [if_pos h]
/-- The bytes' order is the times'. -/
theorem lx_cmp {s t : T} (hs : s.rightB = true) (ht : t.rightB = true) (k : Nat) (hk : k ≤ (putL s).length ∧ k ≤ (putL t).length)
    (he : k = (putL s).length ∨ k = (putL t).length ∨ lx (putL s) (putL t) k ≠ 0) : lx (putL s) (putL t) k = cmpP s t 3 := by
  have rs := right_iff.1 hs
  have rt := right_iff.1 ht
  have l1 : ∃ n, (putL s).length = n + 1 := ⟨2 + ([s.a, s.b, s.c].take s.d.toNat).length, by rw [putL_of hs]; simp; omega⟩
  have l2 : ∃ n, (putL t).length = n + 1 := ⟨2 + ([t.a, t.b, t.c].take t.d.toNat).length, by rw [putL_of ht]; simp; omega⟩
  have h1 : lx (putL s) (putL t) 1 = sgn s.d t.d := by
    rw [lx, lx, orI_left, putL_of hs, putL_of ht]; rfl
  by_cases hd : s.d = t.d
  · -- the same length
    have hlen : (putL s).length = (putL t).length := by rw [putL_of hs, putL_of ht, hd]; simp
    have full : lx (putL s) (putL t) (putL s).length = cmpP s t 3 := by
      have hz : cmpP s t 3 = orI (orI (orI (sgn s.e t.e) (sgn s.a t.a)) (sgn s.b t.b)) (sgn s.c t.c) := by
        show orI (orI (orI (orI (sgn s.d t.d) (sgn s.e t.e)) (sgn s.a t.a)) (sgn s.b t.b)) (sgn s.c t.c) = _
        rw [hd, sgn_same, orI_left]
      have h3 : ∀ p q : List Int, lx ([s.d, s.e / 256, s.e % 256] ++ p) ([t.d, t.e / 256, t.e % 256] ++ q) 3 = sgn s.e t.e := by
        intro p q
        show orI (orI (orI 0 (sgn s.d t.d)) (sgn (s.e / 256) (t.e / 256))) (sgn (s.e % 256) (t.e % 256)) = _
        rw [orI_left, hd, sgn_same, orI_left, sgn_epoch]
      rw [hz]
      have zs := rs
      have zt := rt
      unfold T.right at zs zt
      rcases right_d rs with e | e | e | e
      · rw [show s.a = t.a by omega, show s.b = t.b by omega, show s.c = t.c by omega, sgn_same, sgn_same, sgn_same, orI_right, orI_right, orI_right]
        rw [putL_of hs, putL_of ht, ← hd, e, ← h3 [] []]
        rw [← hd, e]; rfl
      · rw [show s.b = t.b by omega, show s.c = t.c by omega, sgn_same, sgn_same, orI_right, orI_right]
        rw [putL_of hs, putL_of ht, ← hd, e, ← h3 [s.a] [t.a]]
        rw [← hd, e]; rfl
      · rw [show s.c = t.c by omega, sgn_same, orI_right]
        rw [putL_of hs, putL_of ht, ← hd, e, ← h3 [s.a, s.b] [t.a, t.b]]
        rw [← hd, e]; rfl
      · rw [putL_of hs, putL_of ht, ← hd, e, ← h3 [s.a, s.b, s.c] [t.a, t.b, t.c]]
        rw [← hd, e]; rfl
    by_cases h0 : lx (putL s) (putL t) k = 0
    · rcases he with he | he | he
      · rw [he]; exact full
      · rw [he, ← hlen]; exact full
      · exact absurd h0 he
    · obtain ⟨j, hj⟩ := Nat.le.dest hk.1
      rw [← lx_fix h0 j, hj, full]
  · have hne : sgn s.d t.d ≠ 0 := fun h => hd (sgn_zero.1 h)
    have hc : cmpP s t 3 = sgn s.d t.d := by
      show orI (orI (orI (orI (sgn s.d t.d) (sgn s.e t.e)) _) _) _ = _
      rw [orI_ne hne, orI_ne hne, orI_ne hne, orI_ne hne]
    have hk1 : 1 ≤ k := by
      rcases Nat.eq_zero_or_pos k with h | h
      · subst h
        obtain ⟨n, hn⟩ := l1
        obtain ⟨m, hm⟩ := l2
        rcases he with he | he | he
        · omega
        · omega
        · exact absurd rfl he
      · exact h
    obtain ⟨j, hj⟩ := Nat.le.dest hk1
    rw [← hj, lx_fix (by rw [h1]; exact hne) j, h1, hc]
end Go.Proofs.Ytbojefdbkegimaa
