/- The reference's Number. -/
import Derived.Test.YteiohcgohgcjfaaRows
import Derived.IntWalk
import Derived.Test.YteiohcgohgcjfaaWords
import Derived.Test.YteiohcgohgcjfaaByts
import Derived.Test.YteiohcgohgcjfaaStrs
import Derived.Test.YteiohcgohgcjfaaFrame
import Derived.Test.YteiohcgohgcjfaaElems
import Derived.Test.YteiohcgohgcjfaaBitsW
import Derived.Test.YteiohcgohgcjfaaS1
import Derived.Test.YteiohcgohgcjfaaA1
import Derived.Test.YteiohcgohgcjfaaD7
import Derived.Test.YteiohcgohgcjfaaE1
import Derived.Test.YteiohcgohgcjfaaPA
namespace Go.Proofs.Yteiohcgohgcjfaa
open Go Go.RowKit Go.Proofs.Tail
set_option linter.unusedSimpArgs false
set_option linter.unusedVariables false
theorem pw_le8 {n : Nat} (h : n ≤ 7) : pw n * 256 ≤ 18446744073709551616 := by
  have := pw_le h
  omega
set_option maxHeartbeats 8000000 in
theorem rnumber_any : ∀ (n : Nat) (A : Option Addr) (c : Nat) (xs : List Int) (w : World), Byts w A n c xs → InB xs → n ≤ 8 → Calls Try.prog 54 #[.slice A n c] w (Gives (.int .u64 (val xs)) w)
  | 0, A, c, xs, w, h, hin, h8 => by
    have HX := Lib.hid (show val xs = 0 by rw [List.eq_nil_of_length_eq_zero h.len]; rfl)
    rw [HX.out]
    go_enter Try.func54, Try.ntmps54
    go_wp2_with fail
    go_ret
    exact ⟨rfl, Below.refl _ _⟩
  | k + 1, A, c, xs, w, h, hin, h8 => by
    have hc := h.cap
    have hl := h.len
    have IH := Lib.hid (fun p : After w => rnumber_any k A c (xs.take k) p.val (byts_take (m := k) (c' := c) (h.below RByte.stays p.below) (by omega) (by omega)) (InB.take hin k) (by omega))
    obtain ⟨b, o, hA, rx⟩ := h.byte (j := k) (by omega)
    subst hA
    have z1 := fun p : After w => cell_after rx p
    have hs := fun W => bslice_to (A := some ⟨b, o, none⟩) (c := c) (show k ≤ k + 1 by omega) hc W
    have HV := Lib.hid (show val (xs.take k) * 256 + xs.getD k 0 = val xs by
      have e : xs = xs.take k ++ [xs.getD k 0] := by
        have := List.take_succ_eq_append_getElem (l := xs) (i := k) (by omega)
        rw [List.getD_eq_getElem?_getD, List.getElem?_eq_getElem (by omega)]
        show xs = xs.take k ++ [xs[k]]
        rw [← this, List.take_of_length_le (by omega)]
      have := val_snoc (xs.take k) (xs.getD k 0)
      rw [← e] at this
      exact this.symm)
    have hvb := val_bound (xs.take k) (InB.take hin k)
    have hpw := pw_le8 (n := (xs.take k).length) (by rw [List.length_take]; omega)
    have hxb := hin (xs.getD k 0) (by rw [List.getD_eq_getElem?_getD, List.getElem?_eq_getElem (by omega)]; exact List.getElem_mem _)
    rw [← HV.out]
    generalize xs.getD k 0 = x at *
    generalize val (xs.take k) = z at *
    have g1 : IntKind.u64.wrap (z * 256) = z * 256 := by simp [IntKind.wrap, IntKind.bits, IntKind.signed]; omega
    have g2 : IntKind.u64.wrap (z * 256 + x) = z * 256 + x := by simp [IntKind.wrap, IntKind.bits, IntKind.signed]; omega
    have g3 : IntKind.u64.wrap x = x := by simp [IntKind.wrap, IntKind.bits, IntKind.signed]; omega
    have hz : ((k + 1 : Nat) : Int) - 1 = (k : Int) := by omega
    have hz0 : (((k + 1 : Nat) : Int) == 0) = false := by simp; omega
    have hk0 : (0 : Int) ≤ k := by omega
    have hkn : (k : Int) < (k : Int) + 1 := by omega
    clear hvb hpw hxb hl rx h hin
    go_enter Try.func54, Try.ntmps54
    go_wp2_with fail
    refine quiet_after (by kernel_rfl) (by kernel_rfl) ?_
    repeat (first | go_big_quiet_step ((go_at_call 54; with_reducible exact calls_after (IH.out _))) | quiet_step ((go_at_call 54; with_reducible exact calls_after (IH.out _))))
    refine wpQuiet_nil ?_
    intro wz hw'
    obtain ⟨p, rfl⟩ := hw'
    obtain ⟨w5, hbq⟩ := p
    dsimp only
    have HB := Lib.hid hbq
    clear hbq z1
    go_wp2_with fail
    go_ret
    exact ⟨rfl, HB.out⟩
end Go.Proofs.Yteiohcgohgcjfaa
