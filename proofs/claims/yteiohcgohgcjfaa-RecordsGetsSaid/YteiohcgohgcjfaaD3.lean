/- Contracts of slices.Min, Max, nodes, may's inner function, IndexFunc, ContainsFunc. -/
import Derived.Test.YteiohcgohgcjfaaRows
import Derived.IntWalk
import Derived.Test.YteiohcgohgcjfaaWords
import Derived.Test.YteiohcgohgcjfaaByts
import Derived.Test.YteiohcgohgcjfaaFrame
import Derived.Test.YteiohcgohgcjfaaElems
import Derived.Test.YteiohcgohgcjfaaS1
import Derived.Test.YteiohcgohgcjfaaS2
import Derived.Test.YteiohcgohgcjfaaEqs
import Derived.Test.YteiohcgohgcjfaaD1
namespace Go.Proofs.Yteiohcgohgcjfaa
open Go Go.RowKit Go.Proofs.Tail
set_option linter.unusedSimpArgs false
set_option linter.unusedVariables false
set_option maxHeartbeats 4000000 in
theorem min_any (A : Option Addr) (n c : Nat) (xs : List Int) (w : World) (hx : Ints w A n c xs) (hn : 0 < n) :
    Calls Try.prog 56 #[.slice A n c] w (fun e w' => ∃ m, e = .returned (.int .i64 m) ∧ (m ∈ xs ∧ ∀ x ∈ xs, m ≤ x) ∧ w = w') := by
  have HX := Lib.hid hx
  have HL := Lib.hid hx.len
  have hb1 := hx.big
  obtain ⟨b0, o0, e0, x0⟩ := hx.int hn
  rw [e0] at HX ⊢
  rw [Nat.add_zero] at x0
  have hd1 : decide ((n : Int) < 1) = false := decide_eq_false (by omega)
  have hd1' : decide (n < 1) = false := decide_eq_false (by omega)
  have hn0 : (0 : Int) < n := by omega
  have H0 := Lib.hid (show xs.getD 0 0 ∈ xs ∧ ∀ j, j < 1 → ∀ x, xs[j]? = some x → xs.getD 0 0 ≤ x by
    have hl : 0 < xs.length := by rw [hx.len]; exact hn
    refine ⟨by rw [List.getD_eq_getElem?_getD, List.getElem?_eq_getElem hl]; exact List.getElem_mem hl, fun j hj x hxj => ?_⟩
    obtain rfl : j = 0 := by omega
    rw [List.getD_eq_getElem?_getD, hxj]
    exact Int.le_refl _)
  clear hx e0
  go_enter Try.func56, Try.ntmps56
  go_wp2_with fail
  clear x0
  go_loopw [3, 4] (fun s i wr => ∃ (k : Nat) (m : Int), 1 ≤ k ∧ k ≤ n ∧ i = .int .i64 k ∧ s = .int .i64 m ∧ Hid (m ∈ xs ∧ ∀ j, j < k → ∀ x, xs[j]? = some x → m ≤ x) ∧ wr = w) (fun _ i _ => n - (intOf i).toNat)
  case atStart => exact ⟨1, _, Nat.le_refl _, hn, rfl, rfl, H0, rfl⟩
  case round =>
    clear H0 hd1 hd1'
    obtain ⟨k, m, hk1, hk, rfl, rfl, HM, rfl⟩ := hrel
    by_cases hlt : k < n
    · have hd : decide ((k : Int) < n) = true := decide_eq_true (by omega)
      have hd' : decide (k < n) = true := decide_eq_true (by omega)
      have hk0 : (0 : Int) ≤ k := by omega
      have hkn : (k : Int) < n := by omega
      obtain ⟨b1, o1, ex, rx⟩ := HX.out.int hlt
      cases ex
      obtain ⟨x, hx⟩ : ∃ x, x = xs.getD k 0 := ⟨_, rfl⟩
      rw [← hx] at rx
      have hg : xs[k]? = some x := by rw [hx, List.getD_eq_getElem?_getD, List.getElem?_eq_getElem (by rw [HL.out]; exact hlt)]; rfl
      have HG := Lib.hid hg
      clear hx hg
      by_cases h1 : x < m
      · have h2 : ¬ m < x := by omega
        have HN : Hid (x ∈ xs ∧ ∀ j, j < k + 1 → ∀ y, xs[j]? = some y → x ≤ y) := Lib.hid ⟨List.mem_of_getElem? HG.out, fun j hj y hy => by
          rcases Nat.eq_or_lt_of_le (Nat.le_of_lt_succ hj) with e | e
          · subst e; rw [HG.out] at hy; cases hy; exact Int.le_refl _
          · have := HM.out.2 j e y hy; omega⟩
        go_wp2_with fail
        go_roundw
        case rel => exact ⟨k + 1, x, by omega, by omega, by go_num, rfl, HN, (by first | trivial | rfl)⟩
        case measure => simp [intOf]; omega
      · have HN : Hid (m ∈ xs ∧ ∀ j, j < k + 1 → ∀ y, xs[j]? = some y → m ≤ y) := Lib.hid ⟨HM.out.1, fun j hj y hy => by
          rcases Nat.eq_or_lt_of_le (Nat.le_of_lt_succ hj) with e | e
          · subst e; rw [HG.out] at hy; cases hy; omega
          · exact HM.out.2 j e y hy⟩
        by_cases h2 : m < x
        · go_wp2_with fail
          go_roundw
          case rel => exact ⟨k + 1, m, by omega, by omega, by go_num, rfl, HN, (by first | trivial | rfl)⟩
          case measure => simp [intOf]; omega
        · obtain rfl : x = m := by omega
          go_wp2_with fail
          go_roundw
          case rel => exact ⟨k + 1, x, by omega, by omega, by go_num, rfl, HN, (by first | trivial | rfl)⟩
          case measure => simp [intOf]; omega
    · have hd : decide ((k : Int) < n) = false := decide_eq_false (by omega)
      have hd' : decide (k < n) = false := decide_eq_false (by omega)
      go_wp2_with fail
      go_ret
      exact ⟨m, rfl, ⟨HM.out.1, fun x hx => by
        obtain ⟨j, hj, rfl⟩ := List.getElem_of_mem hx
        exact HM.out.2 j (by have := HL.out; omega) _ (List.getElem?_eq_getElem hj)⟩, rfl⟩
set_option maxHeartbeats 4000000 in
theorem max_any (A : Option Addr) (n c : Nat) (xs : List Int) (w : World) (hx : Ints w A n c xs) (hn : 0 < n) :
    Calls Try.prog 57 #[.slice A n c] w (fun e w' => ∃ m, e = .returned (.int .i64 m) ∧ (m ∈ xs ∧ ∀ x ∈ xs, x ≤ m) ∧ w = w') := by
  have HX := Lib.hid hx
  have HL := Lib.hid hx.len
  have hb1 := hx.big
  obtain ⟨b0, o0, e0, x0⟩ := hx.int hn
  rw [e0] at HX ⊢
  rw [Nat.add_zero] at x0
  have hd1 : decide ((n : Int) < 1) = false := decide_eq_false (by omega)
  have hd1' : decide (n < 1) = false := decide_eq_false (by omega)
  have hn0 : (0 : Int) < n := by omega
  have H0 := Lib.hid (show xs.getD 0 0 ∈ xs ∧ ∀ j, j < 1 → ∀ x, xs[j]? = some x → x ≤ xs.getD 0 0 by
    have hl : 0 < xs.length := by rw [hx.len]; exact hn
    refine ⟨by rw [List.getD_eq_getElem?_getD, List.getElem?_eq_getElem hl]; exact List.getElem_mem hl, fun j hj x hxj => ?_⟩
    obtain rfl : j = 0 := by omega
    rw [List.getD_eq_getElem?_getD, hxj]
    exact Int.le_refl _)
  clear hx e0
  go_enter Try.func57, Try.ntmps57
  go_wp2_with fail
  clear x0
  go_loopw [3, 4] (fun s i wr => ∃ (k : Nat) (m : Int), 1 ≤ k ∧ k ≤ n ∧ i = .int .i64 k ∧ s = .int .i64 m ∧ Hid (m ∈ xs ∧ ∀ j, j < k → ∀ x, xs[j]? = some x → x ≤ m) ∧ wr = w) (fun _ i _ => n - (intOf i).toNat)
  case atStart => exact ⟨1, _, Nat.le_refl _, hn, rfl, rfl, H0, rfl⟩
  case round =>
    clear H0 hd1 hd1'
    obtain ⟨k, m, hk1, hk, rfl, rfl, HM, rfl⟩ := hrel
    by_cases hlt : k < n
    · have hd : decide ((k : Int) < n) = true := decide_eq_true (by omega)
      have hd' : decide (k < n) = true := decide_eq_true (by omega)
      have hk0 : (0 : Int) ≤ k := by omega
      have hkn : (k : Int) < n := by omega
      obtain ⟨b1, o1, ex, rx⟩ := HX.out.int hlt
      cases ex
      obtain ⟨x, hx⟩ : ∃ x, x = xs.getD k 0 := ⟨_, rfl⟩
      rw [← hx] at rx
      have hg : xs[k]? = some x := by rw [hx, List.getD_eq_getElem?_getD, List.getElem?_eq_getElem (by rw [HL.out]; exact hlt)]; rfl
      have HG := Lib.hid hg
      clear hx hg
      by_cases h1 : m < x
      · have h2 : ¬ x < m := by omega
        have HN : Hid (x ∈ xs ∧ ∀ j, j < k + 1 → ∀ y, xs[j]? = some y → y ≤ x) := Lib.hid ⟨List.mem_of_getElem? HG.out, fun j hj y hy => by
          rcases Nat.eq_or_lt_of_le (Nat.le_of_lt_succ hj) with e | e
          · subst e; rw [HG.out] at hy; cases hy; exact Int.le_refl _
          · have := HM.out.2 j e y hy; omega⟩
        go_wp2_with fail
        go_roundw
        case rel => exact ⟨k + 1, x, by omega, by omega, by go_num, rfl, HN, (by first | trivial | rfl)⟩
        case measure => simp [intOf]; omega
      · have HN : Hid (m ∈ xs ∧ ∀ j, j < k + 1 → ∀ y, xs[j]? = some y → y ≤ m) := Lib.hid ⟨HM.out.1, fun j hj y hy => by
          rcases Nat.eq_or_lt_of_le (Nat.le_of_lt_succ hj) with e | e
          · subst e; rw [HG.out] at hy; cases hy; omega
          · exact HM.out.2 j e y hy⟩
        by_cases h2 : x < m
        · go_wp2_with fail
          go_roundw
          case rel => exact ⟨k + 1, m, by omega, by omega, by go_num, rfl, HN, (by first | trivial | rfl)⟩
          case measure => simp [intOf]; omega
        · obtain rfl : x = m := by omega
          go_wp2_with fail
          go_roundw
          case rel => exact ⟨k + 1, x, by omega, by omega, by go_num, rfl, HN, (by first | trivial | rfl)⟩
          case measure => simp [intOf]; omega
    · have hd : decide ((k : Int) < n) = false := decide_eq_false (by omega)
      have hd' : decide (k < n) = false := decide_eq_false (by omega)
      go_wp2_with fail
      go_ret
      exact ⟨m, rfl, ⟨HM.out.1, fun x hx => by
        obtain ⟨j, hj, rfl⟩ := List.getElem_of_mem hx
        exact HM.out.2 j (by have := HL.out; omega) _ (List.getElem?_eq_getElem hj)⟩, rfl⟩
/-- Numbers that are those of nodes. -/
def nodeB (x : Int) : Bool := decide (0 ≤ x ∧ x < 32)
theorem nodes_any (A : Option Addr) (n c : Nat) (xs : List Int) (w : World) (hx : Ints w A n c xs) (hn : 0 < n) :
    Calls Try.prog 45 #[.slice A n c] w (Tells (.bool (xs.all nodeB)) w) := by
  have H1 := Lib.hid (min_any A n c xs w hx hn)
  have H2 := Lib.hid (max_any A n c xs w hx hn)
  clear hx hn
  go_enter Try.func45, Try.ntmps45
  go_wp2_with fail
  refine H1.out.mono ?_
  rintro e w1 ⟨m, rfl, hm, rfl⟩
  by_cases h0 : 0 ≤ m
  · have d1 : decide (0 ≤ m) = true := decide_eq_true h0
    have HM := Lib.hid hm
    clear hm
    go_wp2_with fail
    refine H2.out.mono ?_
    rintro e w1 ⟨M, rfl, hM, rfl⟩
    have HQ := Lib.hid (show xs.all nodeB = decide (M < 32) by
      by_cases h1 : M < 32
      · rw [decide_eq_true h1, List.all_eq_true]
        intro x hx
        have := hM.2 x hx
        have := HM.out.2 x hx
        unfold nodeB
        exact decide_eq_true (by omega)
      · rw [decide_eq_false h1, List.all_eq_false]
        exact ⟨M, hM.1, by unfold nodeB; simp; omega⟩)
    clear hM
    go_wp2_with fail
    go_ret
    exact .bool HQ.out.symm
  · have d1 : decide (0 ≤ m) = false := decide_eq_false h0
    have HQ := Lib.hid (show xs.all nodeB = false from by
      rw [List.all_eq_false]
      exact ⟨m, hm.1, by unfold nodeB; simp; omega⟩)
    clear hm
    go_wp2_with fail
    go_ret
    exact .bool HQ.out.symm
end Go.Proofs.Yteiohcgohgcjfaa
