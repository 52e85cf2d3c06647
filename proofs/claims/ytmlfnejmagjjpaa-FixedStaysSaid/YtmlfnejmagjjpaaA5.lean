/- Contracts of SameInts, below, least and Pick, for every slice of ints that can be read (Pick: of a row that has members, at most 1000000). -/
import Derived.Test.YtmlfnejmagjjpaaRows
import Derived.Test.YtmlfnejmagjjpaaWords
import Derived.Test.YtmlfnejmagjjpaaFxPlain
import Derived.Test.YtmlfnejmagjjpaaA4
namespace Go.Proofs.Ytmlfnejmagjjpaa
open Go.RowKit Go.Proofs.Tail

theorem getD_ext {xs ys : List Int} (hl : xs.length = ys.length) (h : ∀ j, j < xs.length → xs.getD j 0 = ys.getD j 0) : xs = ys := by
  apply List.ext_getElem hl
  intro i h1 h2
  have := h i h1
  simpa only [List.getD_eq_getElem?_getD, List.getElem?_eq_getElem h1, List.getElem?_eq_getElem h2, Option.getD_some] using this

def SameQ (xs ys : List Int) (b : Bool) : Prop := b = true ↔ xs = ys
set_option maxHeartbeats 400000 in
theorem same_any (A0 A1 : Option Addr) (n0 n1 c0 c1 : Nat) (xs ys : List Int) (w : World) (h0 : Ints w A0 n0 c0 xs) (h1 : Ints w A1 n1 c1 ys) :
    Calls Try.prog 13 #[.slice A0 n0 c0, .slice A1 n1 c1] w (GivesB (SameQ xs ys) w) := by
  have m0 := h0.big
  have m1 := h1.big
  by_cases hn : n0 = n1
  · subst hn
    have t0 : ((n0 : Int) != (n0 : Int)) = false := by simp
    go_enter Try.func13, Try.ntmps13
    go_wp2
    go_loopw [5] (fun i wr => ∃ k : Nat, k ≤ n0 ∧ i = .int .i64 k ∧ Hid (∀ j, j < k → xs.getD j 0 = ys.getD j 0) ∧ Hid (Below w.heap.size w wr)) (fun i _ => n0 - (intOf i).toNat)
    case atStart => exact ⟨0, Nat.zero_le _, rfl, fun j h => absurd h (Nat.not_lt_zero _), Below.refl _ _⟩
    case round =>
      obtain ⟨k, hk, rfl, H, HB⟩ := hrel
      by_cases hlt : k < n0
      · obtain ⟨b0, off0, rfl, e0⟩ := (h0.below RInt.stays HB.out).int hlt
        obtain ⟨b1, off1, rfl, e1⟩ := (h1.below RInt.stays HB.out).int hlt
        by_cases e : xs.getD k 0 = ys.getD k 0
        · have E := Lib.hid e
          rw [← e] at e1
          clear e
          generalize xs.getD k 0 = q at e0 e1
          have t1 : (q != q) = false := by simp
          go_wp2
          go_quiet (fail)
          go_wp2
          go_roundw
          case rel =>
            refine ⟨k + 1, by omega, by go_num, fun j hj => ?_, (show Hid _ from below_drewN HB.out _)⟩
            rcases Nat.lt_or_eq_of_le (Nat.le_of_lt_succ hj) with h | h
            · exact H.out j h
            · subst h; exact E.out
          case measure => simp [intOf]; omega
        · have t1 : (xs.getD k 0 != ys.getD k 0) = true := by simpa using e
          have E := Lib.hid e
          clear e
          have E2 : ¬ xs = ys := fun h => E.out (by rw [h])
          have E2 := Lib.hid E2
          generalize xs.getD k 0 = q at e0 t1
          generalize ys.getD k 0 = q1 at e1 t1
          go_wp2
          go_quiet (fail)
          go_wp2
          go_ret
          exact ⟨_, rfl, ⟨fun h => by simp at h, fun h => absurd h E2.out⟩, below_drewN HB.out _⟩
      · go_wp2
        go_ret
        have : k = n0 := by omega
        subst this
        exact ⟨_, rfl, ⟨fun _ => getD_ext (by rw [h0.len, h1.len]) (fun j hj => H.out j (by rw [← h0.len]; exact hj)), fun _ => rfl⟩, HB.out⟩
  · have t0 : ((n0 : Int) != (n1 : Int)) = true := by simp; omega
    have E : ¬ xs = ys := fun h => hn (by rw [← h0.len, ← h1.len, h])
    have E := Lib.hid E
    go_enter Try.func13, Try.ntmps13
    go_wp2
    go_ret
    exact ⟨_, rfl, ⟨fun h => by simp at h, fun h => absurd h E.out⟩, Below.refl _ _⟩

def BelowQ (xs ys : List Int) (b : Bool) : Prop := b = true ↔ xs.length = ys.length ∧ Fx.le xs ys
set_option maxHeartbeats 400000 in
theorem below_any (A0 A1 : Option Addr) (n0 n1 c0 c1 : Nat) (xs ys : List Int) (w : World) (h0 : Ints w A0 n0 c0 xs) (h1 : Ints w A1 n1 c1 ys) :
    Calls Try.prog 15 #[.slice A0 n0 c0, .slice A1 n1 c1] w (GivesB (BelowQ xs ys) w) := by
  have m0 := h0.big
  have m1 := h1.big
  by_cases hn : n0 = n1
  · subst hn
    have t0 : ((n0 : Int) != (n0 : Int)) = false := by simp
    go_enter Try.func15, Try.ntmps15
    go_wp2
    go_loopw [5] (fun i wr => ∃ k : Nat, k ≤ n0 ∧ i = .int .i64 k ∧ Hid (∀ j, j < k → xs.getD j 0 ≤ ys.getD j 0) ∧ Hid (Below w.heap.size w wr)) (fun i _ => n0 - (intOf i).toNat)
    case atStart => exact ⟨0, Nat.zero_le _, rfl, fun j h => absurd h (Nat.not_lt_zero _), Below.refl _ _⟩
    case round =>
      obtain ⟨k, hk, rfl, H, HB⟩ := hrel
      by_cases hlt : k < n0
      · obtain ⟨b0, off0, rfl, e0⟩ := (h0.below RInt.stays HB.out).int hlt
        obtain ⟨b1, off1, rfl, e1⟩ := (h1.below RInt.stays HB.out).int hlt
        by_cases e : xs.getD k 0 ≤ ys.getD k 0
        · have E := Lib.hid e
          generalize xs.getD k 0 = q at e0 e
          generalize ys.getD k 0 = q1 at e1 e
          go_wp2
          go_quiet (fail)
          go_wp2
          go_roundw
          case rel =>
            refine ⟨k + 1, by omega, by go_num, fun j hj => ?_, (show Hid _ from below_drewN HB.out _)⟩
            rcases Nat.lt_or_eq_of_le (Nat.le_of_lt_succ hj) with h | h
            · exact H.out j h
            · subst h; exact E.out
          case measure => simp [intOf]; omega
        · have E2 : ¬ (xs.length = ys.length ∧ Fx.le xs ys) := fun h => e (h.2 k (by rw [h0.len]; exact hlt))
          have E2 := Lib.hid E2
          have e' : ys.getD k 0 < xs.getD k 0 := by omega
          clear e
          generalize xs.getD k 0 = q at e0 e'
          generalize ys.getD k 0 = q1 at e1 e'
          go_wp2
          go_quiet (fail)
          go_wp2
          go_ret
          exact ⟨_, rfl, ⟨fun h => by simp at h, fun h => absurd h E2.out⟩, below_drewN HB.out _⟩
      · go_wp2
        go_ret
        have : k = n0 := by omega
        subst this
        exact ⟨_, rfl, ⟨fun _ => ⟨by rw [h0.len, h1.len], fun j hj => H.out j (by rw [← h0.len]; exact hj)⟩, fun _ => rfl⟩, HB.out⟩
  · have t0 : ((n0 : Int) != (n1 : Int)) = true := by simp; omega
    have E : ¬ (xs.length = ys.length ∧ Fx.le xs ys) := fun h => hn (by rw [← h0.len, ← h1.len, h.1])
    have E := Lib.hid E
    go_enter Try.func15, Try.ntmps15
    go_wp2
    go_ret
    exact ⟨_, rfl, ⟨fun h => by simp at h, fun h => absurd h E.out⟩, Below.refl _ _⟩

def LeastQ (xs : List Int) (b : Bool) : Prop := b = true ↔ Fx.pos xs
set_option maxHeartbeats 400000 in
theorem least_any (A0 : Option Addr) (n0 c0 : Nat) (xs : List Int) (w : World) (h0 : Ints w A0 n0 c0 xs) :
    Calls Try.prog 16 #[.slice A0 n0 c0] w (GivesB (LeastQ xs) w) := by
  have m0 := h0.big
  go_enter Try.func16, Try.ntmps16
  go_wp2
  go_loop [3] (fun i => ∃ k : Nat, k ≤ n0 ∧ i = .int .i64 k ∧ Hid (∀ j, j < k → 0 ≤ xs.getD j 0)) (fun i => n0 - (intOf i).toNat)
  case atStart => exact ⟨0, Nat.zero_le _, rfl, fun j h => absurd h (Nat.not_lt_zero _)⟩
  case round =>
    obtain ⟨k, hk, rfl, H⟩ := hrel
    by_cases hlt : k < n0
    · obtain ⟨b0, off0, rfl, e0⟩ := h0.int hlt
      by_cases e : 0 ≤ xs.getD k 0
      · have E := Lib.hid e
        generalize xs.getD k 0 = q at e0 e
        go_wp2
        go_round
        case rel =>
          refine ⟨k + 1, by omega, by go_num, fun j hj => ?_⟩
          rcases Nat.lt_or_eq_of_le (Nat.le_of_lt_succ hj) with h | h
          · exact H.out j h
          · subst h; exact E.out
        case measure => simp [intOf]; omega
      · have E2 : ¬ Fx.pos xs := fun h => e (h k (by rw [h0.len]; exact hlt))
        have E2 := Lib.hid E2
        have e' : xs.getD k 0 < 0 := by omega
        clear e
        generalize xs.getD k 0 = q at e0 e'
        go_wp2
        go_ret
        exact ⟨_, rfl, ⟨fun h => by simp at h, fun h => absurd h E2.out⟩, Below.refl _ _⟩
    · go_wp2
      go_ret
      have : k = n0 := by omega
      subst this
      exact ⟨_, rfl, ⟨fun _ => fun j hj => H.out j (by rw [← h0.len]; exact hj), fun _ => rfl⟩, Below.refl _ _⟩

def PickQ (n : Int) (i : Int) : Prop := 0 ≤ i ∧ i < n
set_option maxHeartbeats 400000 in
theorem pick_any (i n : Int) (w : World) (h0 : 0 < n) (h1 : n ≤ 1000000) :
    Calls Try.prog 17 #[.int .i64 i, .int .i64 n] w (GivesI (PickQ n) w) := by
  go_enter Try.func17, Try.ntmps17
  go_wp2
  go_ret
  have a1 := Int.tmod_lt_of_pos i h0
  have a2 := Int.lt_tmod_of_pos i h0
  have a3 : wrap64 (i.tmod n + n) = i.tmod n + n := by unfold wrap64; omega
  rw [a3]
  exact ⟨_, rfl, ⟨Int.tmod_nonneg _ (by omega), Int.tmod_lt_of_pos _ h0⟩, Below.refl _ _⟩
end Go.Proofs.Ytmlfnejmagjjpaa
