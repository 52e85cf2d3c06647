/- Calls, rows of calls; large. -/
import Derived.Test.YtfgjmckdjkfgdaaRows
import Derived.IntWalk
import Derived.Test.YtfgjmckdjkfgdaaWords
import Derived.Test.YtfgjmckdjkfgdaaByts
import Derived.Test.YtfgjmckdjkfgdaaStrs
import Derived.Test.YtfgjmckdjkfgdaaFrame
import Derived.Test.YtfgjmckdjkfgdaaElems
namespace Go.Proofs.Ytfgjmckdjkfgdaa
open Go Go.RowKit Go.Proofs.Tail
set_option linter.unusedSimpArgs false
set_option linter.unusedVariables false
structure CallS where
  k : Int
  f : Int
  t : Int
  b : List Int
/-- A call that lies at a place. -/
def RCall (w : World) (g o : Nat) (x : CallS) : Prop := (0 ≤ x.k ∧ x.k < 256) ∧ w.cell? ⟨g, o, none⟩ = some (.int .u8 x.k) ∧ w.cell? ⟨g, o + 1, none⟩ = some (.int .i64 x.f) ∧ w.cell? ⟨g, o + 2, none⟩ = some (.int .i64 x.t) ∧
  ∃ A c, w.cell? ⟨g, o + 3, none⟩ = some (.slice A x.b.length c) ∧ Byts w A x.b.length c x.b
theorem RCall.stays : Stays RCall := fun _ _ _ _ _ hb h => by
  obtain ⟨h0, h1, h2, h3, A, c, h4, h5⟩ := h
  exact ⟨h0, below_cell hb h1, below_cell hb h2, below_cell hb h3, A, c, below_cell hb h4, h5.below RByte.stays hb⟩
abbrev Cls (w : World) (A : Option Addr) (n c : Nat) (l : List CallS) : Prop := Rd 4 RCall w A n c l
def Small (l : List CallS) : Prop := l.length ≤ 200 ∧ ∀ (j : Nat) (x : CallS), l[j]? = some x → x.b.length ≤ 5000
def GivesLg (l : List CallS) (w : World) (e : Ending) (w' : World) : Prop := ∃ b, e = .returned (.bool b) ∧ (b = false → Small l) ∧ w = w'
set_option maxHeartbeats 8000000 in
theorem large_any (A : Option Addr) (n c : Nat) (l : List CallS) (w : World) (hX : Cls w A n c l) : Calls Try.prog 6 #[.slice A n c] w (GivesLg l w) := by
  have HX := Lib.hid hX
  have HL := Lib.hid hX.len
  clear hX
  by_cases h0 : 200 < n
  · have d1 : decide (200 < (n : Int)) = true := decide_eq_true (by omega)
    have d2 : decide (200 < n) = true := decide_eq_true h0
    go_enter Try.func6, Try.ntmps6
    go_wp2_with fail
    go_ret
    exact ⟨true, rfl, (fun h => by cases h), rfl⟩
  have d1 : decide (200 < (n : Int)) = false := decide_eq_false (by omega)
  have d2 : decide (200 < n) = false := decide_eq_false h0
  go_enter Try.func6, Try.ntmps6
  go_wp2_with fail
  clear d1 d2
  go_loopw [3, 4] (fun s i wr => ∃ k z : Nat, k ≤ n ∧ i = .int .i64 k ∧ z ≤ 5000 ∧ s = .int .i64 z ∧ Hid (∀ (j : Nat) (x : CallS), j < k → l[j]? = some x → x.b.length ≤ 5000) ∧ wr = w) (fun _ i _ => n - (intOf i).toNat)
  case atStart => exact ⟨0, 0, Nat.zero_le _, rfl, Nat.zero_le _, rfl, Lib.hid (fun j x h => absurd h (Nat.not_lt_zero _)), rfl⟩
  case round =>
    obtain ⟨k, z, hk, rfl, hz, rfl, HK, rfl⟩ := hrel
    by_cases hlt : k < n
    · have hd : decide ((k : Int) < n) = true := decide_eq_true (by omega)
      have hd' : decide (k < n) = true := decide_eq_true (by omega)
      have hk0 : (0 : Int) ≤ k := by omega
      have hkn : (k : Int) < n := by omega
      obtain ⟨g, off, x, rfl, hx, hc⟩ := HX.out.elem hlt
      obtain ⟨_, x0, x1, x2, A1, c1, x3, _⟩ := hc
      have HXX := Lib.hid hx
      clear hx x0 x1 x2
      have hw1 : IntKind.i64.wrap (5000 - (z : Int)) = 5000 - z := IntWalk.i64_in _ ⟨by omega, by omega⟩
      by_cases hg : z + x.b.length ≤ 5000
      · have e1 : decide (5000 - (z : Int) < (x.b.length : Int)) = false := decide_eq_false (by omega)
        have hw2 : IntKind.i64.wrap ((z : Int) + x.b.length) = (z : Int) + x.b.length := IntWalk.i64_in _ ⟨by omega, by omega⟩
        have HF : Hid (∀ (j : Nat) (y : CallS), j < k + 1 → l[j]? = some y → y.b.length ≤ 5000) := Lib.hid fun j y hj hy => by
          rcases Nat.eq_or_lt_of_le (Nat.le_of_lt_succ hj) with e | e
          · subst e; rw [HXX.out] at hy; cases hy; omega
          · exact HK.out j y e hy
        have HZ := Lib.hid (show ((z + x.b.length : Nat) : Int) = (z : Int) + x.b.length by omega)
        generalize hm : x.b.length = m at *
        clear hm
        go_wp2_with fail
        go_roundw
        case rel => exact ⟨k + 1, z + m, by omega, by go_num, hg, by go_num, HF, (by first | trivial | rfl)⟩
        case measure => simp [intOf]; omega
      · have e1 : decide (5000 - (z : Int) < (x.b.length : Int)) = true := decide_eq_true (by omega)
        generalize hm : x.b.length = m at *
        clear hm
        go_wp2_with fail
        go_ret
        exact ⟨true, rfl, (fun h => by cases h), rfl⟩
    · have hd : decide ((k : Int) < n) = false := decide_eq_false (by omega)
      have hd' : decide (k < n) = false := decide_eq_false (by omega)
      have hke : k = n := by omega
      subst hke
      go_wp2_with fail
      go_ret
      exact ⟨false, rfl, (fun _ => ⟨by rw [HL.out]; omega, fun j x hj => HK.out j x (by have := (List.getElem?_eq_some_iff.1 hj).1; rw [← HL.out]; exact this) hj⟩), rfl⟩
end Go.Proofs.Ytfgjmckdjkfgdaa
