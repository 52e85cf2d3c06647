/- Clear. -/
import Derived.Test.YtfgjmckdjkfgdaaRows
import Derived.IntWalk
import Derived.Test.YtfgjmckdjkfgdaaWords
import Derived.Test.YtfgjmckdjkfgdaaByts
import Derived.Test.YtfgjmckdjkfgdaaStrs
import Derived.Test.YtfgjmckdjkfgdaaFrame
import Derived.Test.YtfgjmckdjkfgdaaOwnAt
import Derived.Test.YtfgjmckdjkfgdaaHeads
import Derived.Test.YtfgjmckdjkfgdaaN1
import Derived.Test.YtfgjmckdjkfgdaaN2
import Derived.Test.YtfgjmckdjkfgdaaN4
import Derived.Test.YtfgjmckdjkfgdaaN10
import Derived.Test.YtfgjmckdjkfgdaaN11
namespace Go.Proofs.Ytfgjmckdjkfgdaa
open Go Go.RowKit Go.Proofs.Tail
set_option linter.unusedSimpArgs false
set_option linter.unusedVariables false
def clrq (q : Nat → List (List Int)) (e j : Nat) : Nat → List (List Int) := fun k => if (k / 64 = e ∧ k % 64 < j) ∨ (k % 64 = e ∧ k / 64 < j) then [] else q k
def clearN (N : NetS) (e : Int) : NetS := if 0 ≤ e ∧ e < N.E then { N with q := clrq N.q e.toNat N.E } else N
def GivesCl (D : Nat → Prop) (P : Nat) (N' : NetS) (w : World) (e : Ending) (w' : World) : Prop := e = .returned (.tuple #[]) ∧ Net w' D P N' ∧ Fr D w w'
theorem clrq_zero (q : Nat → List (List Int)) (e : Nat) : clrq q e 0 = q := by
  funext k; unfold clrq; simp
theorem clrq_step (q : Nat → List (List Int)) {e j : Nat} (he : e < 64) (hj : j < 64) : clrq q e (j + 1) = upd (upd (clrq q e j) (e * 64 + j) []) (j * 64 + e) [] := by
  funext k
  unfold clrq upd
  dsimp only
  by_cases h1 : k = j * 64 + e
  · rw [if_pos h1, if_pos (.inr ⟨by omega, by omega⟩)]
  · rw [if_neg h1]
    by_cases h2 : k = e * 64 + j
    · rw [if_pos h2, if_pos (.inl ⟨by omega, by omega⟩)]
    · rw [if_neg h2]
      by_cases h3 : (k / 64 = e ∧ k % 64 < j) ∨ (k % 64 = e ∧ k / 64 < j)
      · rw [if_pos h3, if_pos (by omega)]
      · rw [if_neg h3, if_neg (by omega)]
theorem clrq_step' (q : Nat → List (List Int)) {e j : Nat} (he : e < 64) (hj : j < 64) : clrq q e (j + 1) = upd (upd (clrq q e j) (j * 64 + e) []) (e * 64 + j) [] := by
  rw [clrq_step q he hj]
  funext k
  unfold upd
  split <;> split <;> rfl
/-- One row emptied. -/
theorem Net.empty {w : World} {D : Nat → Prop} {P : Nat} {N : NetS} (h : Net w D P N) {x y : Nat} (hx : x < N.E) (hy : y < N.E) : Net (w.setCell ⟨P, 1 + x * 64 + y, none⟩ (.slice none 0 0)) D P { N with q := upd N.q (x * 64 + y) [] } := by
  obtain ⟨H, hs, h⟩ := h
  have hE := h.e64
  have := h.put (w2 := w) (k := x * 64 + y) (by omega) ⟨by omega, by omega⟩ (fun _ _ _ => rfl) (Nat.le_refl _) (v := .slice none 0 0) (l := []) (OwnAt.nil _ _ _ _) (fun b hb => by cases hb) (Q := []) rfl (fun i xs hi => by simp at hi)
  rw [grewD_self, ← Nat.add_assoc] at this
  exact ⟨_, _, this⟩
theorem Net.reads {w : World} {D : Nat → Prop} {P : Nat} {N : NetS} (h : Net w D P N) : N.E ≤ 64 ∧ 1 ≤ N.E ∧ D P ∧ w.cell? ⟨P, 0, none⟩ = some (.int .i64 N.E) ∧ (∀ i, w.frozen? ⟨P, i, none⟩ = false) ∧ (∀ k, k < 4096 → ∃ v, w.cell? ⟨P, 1 + k, none⟩ = some v) := by
  obtain ⟨H, hs, h⟩ := h
  exact ⟨h.e64, h.e1, h.dP, h.cE, h.fz, fun k hk => ⟨_, h.hd.cell k hk⟩⟩
theorem clear_no {P : Nat} {N : NetS} {D : Nat → Prop} {e : Int} {w : World} (hN : Net w D P N) (hn : ¬ (0 ≤ e ∧ e < N.E)) :
    Calls Try.prog 13 #[.pointer (some ⟨P, 0, none⟩), .int .i64 e] w (Tells (.tuple #[]) w) := by
  have HE := Lib.hid (nends_any hN)
  clear hN
  by_cases h0 : e < 0
  · have d1 : decide (e < 0) = true := decide_eq_true h0
    go_enter Try.func13, Try.ntmps13
    go_wp2_with fail
    go_end0
    exact ⟨rfl, rfl⟩
  · have d1 : decide (e < 0) = false := decide_eq_false h0
    have d2 : decide ((N.E : Int) ≤ e) = true := decide_eq_true (by omega)
    go_enter Try.func13, Try.ntmps13
    go_wp2_with fail
    with_reducible refine HE.out.mono ?_
    rintro e w1 ⟨rfl, rfl⟩
    go_wp2_with fail
    go_end0
    exact ⟨rfl, rfl⟩
set_option maxHeartbeats 4000000 in
theorem clear_yes {P e : Nat} {N : NetS} {D : Nat → Prop} {w : World} (hN : Net w D P N) (he : e < N.E) :
    Calls Try.prog 13 #[.pointer (some ⟨P, 0, none⟩), .int .i64 e] w (GivesCl D P { N with q := clrq N.q e N.E } w) := by
  have HE := Lib.hid (nends_any hN)
  obtain ⟨r1, r2, r3, r4, r5, r6⟩ := hN.reads
  have d1 : decide ((e : Int) < 0) = false := decide_eq_false (by omega)
  have d2 : decide ((N.E : Int) ≤ e) = false := decide_eq_false (by omega)
  have d3 : decide (N.E ≤ e) = false := decide_eq_false (by omega)
  have HN := Lib.hid hN
  clear r5 r6 hN
  go_enter Try.func13, Try.ntmps13
  go_wp2_with fail
  with_reducible refine HE.out.mono ?_
  rintro e w1 ⟨rfl, rfl⟩
  go_wp2_with fail
  clear r4
  go_loopw [17] (fun i wr => ∃ k : Nat, k ≤ N.E ∧ i = .int .i64 k ∧ Hid (Net wr D P { N with q := clrq N.q e k } ∧ Fr D w wr)) (fun i _ => N.E - (intOf i).toNat)
  case atStart => exact ⟨0, Nat.zero_le _, rfl, Lib.hid ⟨by rw [clrq_zero]; exact HN.out, Fr.refl _ _⟩⟩
  case round =>
    obtain ⟨k, hk, rfl, HR⟩ := hrel
    by_cases hlt : k < N.E
    · have hd : decide ((k : Int) < N.E) = true := decide_eq_true (by omega)
      have hd' : decide (k < N.E) = true := decide_eq_true (by omega)
      obtain ⟨_, _, _, r4, r5, r6⟩ := HR.out.1.reads
      have a0 : (0 : Int) ≤ e := by omega
      have a1 : (e : Int) < 64 := by omega
      have b0 : (0 : Int) ≤ k := by omega
      have b1 : (k : Int) < 64 := by omega
      have z1 := r5 (1 + e * 64 + k)
      have z2 := r5 (1 + k * 64 + e)
      obtain ⟨v1, c1⟩ := r6 (e * 64 + k) (by omega)
      obtain ⟨v2, c2⟩ := r6 (k * 64 + e) (by omega)
      rw [← Nat.add_assoc] at c1 c2
      clear r4 r5 r6
      have h1 := HR.out.1.empty (x := e) (y := k) he hlt
      have h2 := HR.out.1.empty (x := k) (y := e) hlt he
      obtain ⟨v3, c3⟩ := h1.reads.2.2.2.2.2 (k * 64 + e) (by omega)
      obtain ⟨v4, c4⟩ := h2.reads.2.2.2.2.2 (e * 64 + k) (by omega)
      rw [← Nat.add_assoc] at c3 c4
      have H1 := Lib.hid (h1.empty (x := k) (y := e) hlt he)
      have H2 := Lib.hid (h2.empty (x := e) (y := k) he hlt)
      have HP := Lib.hid r3
      clear h1 h2
      go_wp2_with fail
      go_region
      · clear z1 z2 c1 c2 c3 c4 H2
        go_wp2_with fail
        go_roundw
        case rel =>
          refine ⟨k + 1, by omega, by go_num, Lib.hid ⟨?_, ?_⟩⟩
          · rw [clrq_step N.q (by omega) (by omega)]
            exact H1.out.keep (fun _ _ => rfl) (Nat.le_refl _)
          · exact ((HR.out.2.set (fun _ => HP.out) _).set (fun _ => HP.out) _).drew
        case measure => simp [intOf]; omega
    · have hd : decide ((k : Int) < N.E) = false := decide_eq_false (by omega)
      have hd' : decide (k < N.E) = false := decide_eq_false (by omega)
      have hke : k = N.E := by omega
      go_wp2_with fail
      go_end0
      refine ⟨rfl, ?_, HR.out.2⟩
      have := HR.out.1
      rwa [hke] at this
theorem nclear_any {P : Nat} {N : NetS} {D : Nat → Prop} {w : World} (hN : Net w D P N) (e : Int) : Calls Try.prog 13 #[.pointer (some ⟨P, 0, none⟩), .int .i64 e] w (GivesCl D P (clearN N e) w) := by
  unfold clearN
  by_cases h : 0 ≤ e ∧ e < N.E
  · rw [if_pos h]
    have := clear_yes (e := e.toNat) hN (by omega)
    rwa [show ((e.toNat : Nat) : Int) = e by omega] at this
  · rw [if_neg h]
    refine (clear_no hN h).mono ?_
    rintro x w' ⟨rfl, rfl⟩
    exact ⟨rfl, hN, Fr.refl _ _⟩
end Go.Proofs.Ytfgjmckdjkfgdaa
