/- Plain laws of Get. -/
import Derived.Test.YtbojefdbkegimaaS2
import Derived.Test.YtbojefdbkegimaaS11
import Derived.Test.YtbojefdbkegimaaByts
import Derived.Test.YtbojefdbkegimaaF1
import Derived.Test.YtbojefdbkegimaaF2
import Derived.Test.YtbojefdbkegimaaG1
namespace Go.Proofs.Ytbojefdbkegimaa
open Go.RowKit Go.Proofs.Tail
set_option linter.unusedSimpArgs false
set_option linter.unusedVariables false
theorem get_put {t : T} (h : t.rightB = true) (bs : List Int) : getT (putL t ++ bs) = t ∧ getR (putL t ++ bs) = bs ∧ getE (putL t ++ bs) = 0 := by
  have r := right_iff.1 h
  have hd := right_d r
  have hc : getC (putL t ++ bs) = t := by
    have r' := r
    unfold T.right at r'
    rw [putL_of h]
    obtain ⟨d, e, a, b, c⟩ := t
    dsimp only at *
    unfold getC
    have he : e / 256 * 256 + e % 256 = e := by omega
    rcases hd with rfl | rfl | rfl | rfl
    · simp [he]; omega
    · simp [he]; omega
    · simp [he]; omega
    · simp [he]
  have h0 : (putL t ++ bs).getD 0 0 = t.d := by rw [putL_of h]; rfl
  have hl : (putL t).length = 3 + t.d.toNat := by
    rw [putL_of h]
    simp only [List.length_append, List.length_take, List.length_cons, List.length_nil]
    omega
  have hb : getB (putL t ++ bs) = true := by
    unfold getB
    rw [decide_eq_true_eq, hc, h0, List.length_append, hl]
    exact ⟨by omega, by omega, by omega, r⟩
  refine ⟨?_, ?_, ?_⟩
  · unfold getT; rw [if_pos hb, hc]
  · unfold getR; rw [if_pos hb, h0, ← hl, List.drop_left]
  · unfold getE; rw [if_pos hb]
theorem getR_in {xs : List Int} (h : ∀ x ∈ xs, 0 ≤ x ∧ x < 256) : ∀ x ∈ getR xs, 0 ≤ x ∧ x < 256 := by
  unfold getR
  split
  · exact fun x hx => h x (List.mem_of_mem_drop hx)
  · simp
end Go.Proofs.Ytbojefdbkegimaa
