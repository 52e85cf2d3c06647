/- Contracts of the reference's Compare, Sorted. -/
import Derived.Test.YtainoghjelfnkaaRows
import Derived.Test.YtainoghjelfnkaaWords
import Derived.Test.YtainoghjelfnkaaByts
import Derived.Test.YtainoghjelfnkaaFrame
import Derived.Test.YtainoghjelfnkaaElems
import Derived.Test.YtainoghjelfnkaaV1
import Derived.Test.YtainoghjelfnkaaV2
import Derived.Test.YtainoghjelfnkaaV3
namespace Go.Proofs.Ytainoghjelfnkaa
open Go Go.RowKit Go.Proofs.Tail Go.Sort
set_option linter.unusedSimpArgs false
set_option linter.unusedVariables false
theorem cfR_lt1 {x y : Rc} (h : x.1 < y.1) : cfR x y = -1 := by unfold cfR orI sgn; simp [h]
theorem cfR_lt2 {x y : Rc} (h : x.1 = y.1) (h2 : x.2 < y.2) : cfR x y = -1 := by unfold cfR orI sgn; simp [h, h2]
theorem cfR_eq {x y : Rc} (h : x = y) : cfR x y = 0 := by subst h; simp [cfR, orI, sgn]
theorem cfR_gt2 {x y : Rc} (h : x.1 = y.1) (h2 : y.2 < x.2) : cfR x y = 1 := by
  unfold cfR orI sgn
  have : ¬ x.2 < y.2 := by omega
  simp [h, h2, this]
theorem cfR_gt1 {x y : Rc} (h : y.1 < x.1) : cfR x y = 1 := by
  unfold cfR orI sgn
  have : ¬ x.1 < y.1 := by omega
  simp [h, this]
set_option maxHeartbeats 4000000 in
theorem refcmp_any (x y : Rc) (w : World) : Calls Try.prog 20 #[.agg #[.int .i64 x.1, .int .i64 x.2], .agg #[.int .i64 y.1, .int .i64 y.2]] w (Gives (.int .i64 (cfR x y)) w) := by
  have X0 := Lib.hid ((Blk.new w [.int .i64 x.1, .int .i64 x.2] 32 _ rfl).then (below_new _ (.cells #[.int .i64 y.1, .int .i64 y.2] 32)))
  have Y0 := Lib.hid (Blk.new (w.alloc (.cells #[.int .i64 x.1, .int .i64 x.2] 32)) [.int .i64 y.1, .int .i64 y.2] 32 (w.heap.size + 1) (by simp))
  have x0 := X0.out.cell
  have y0 := Y0.out.cell
  have HB := Lib.hid (below_alloc (below_new w (.cells #[.int .i64 x.1, .int .i64 x.2] 32)) (.cells #[.int .i64 y.1, .int .i64 y.2] 32))
  rcases Int.lt_trichotomy x.1 y.1 with h | h | h
  · have d1 : decide (x.1 < y.1) = true := decide_eq_true h
    have HQ := Lib.hid (cfR_lt1 h)
    clear h
    go_enter Try.func20, Try.ntmps20
    go_wp2_with fail
    go_ret
    exact .int HQ.out.symm HB.out
  · have d1 : decide (x.1 < y.1) = false := decide_eq_false (by omega)
    have d2 : (x.1 == y.1) = true := by simpa using h
    rcases Int.lt_trichotomy x.2 y.2 with h2 | h2 | h2
    · have d3 : decide (x.2 < y.2) = true := decide_eq_true h2
      have HQ := Lib.hid (cfR_lt2 h h2)
      clear h h2
      go_enter Try.func20, Try.ntmps20
      go_wp2_with fail
      go_ret
      exact .int HQ.out.symm HB.out
    · have d3 : decide (x.2 < y.2) = false := decide_eq_false (by omega)
      have hxy : x = y := by obtain ⟨a, b⟩ := x; obtain ⟨c, d⟩ := y; dsimp only at h h2; rw [h, h2]
      have HQ := Lib.hid (cfR_eq hxy)
      have he := eqRc_of hxy
      clear h h2 hxy
      go_enter Try.func20, Try.ntmps20
      go_wp2_with fail
      go_ret
      exact .int HQ.out.symm HB.out
    · have d3 : decide (x.2 < y.2) = false := decide_eq_false (by omega)
      have HQ := Lib.hid (cfR_gt2 h h2)
      have he := eqRc_no (show x ≠ y by intro e; subst e; omega)
      clear h h2
      go_enter Try.func20, Try.ntmps20
      go_wp2_with fail
      go_ret
      exact .int HQ.out.symm HB.out
  · have d1 : decide (x.1 < y.1) = false := decide_eq_false (by omega)
    have d2 : (x.1 == y.1) = false := by simp; omega
    have HQ := Lib.hid (cfR_gt1 h)
    have he := eqRc_no (show x ≠ y by intro e; subst e; omega)
    clear h
    go_enter Try.func20, Try.ntmps20
    go_wp2_with fail
    go_ret
    exact .int HQ.out.symm HB.out
theorem own_rcell {w : World} {base : Nat} {e : TypeId} {g n cap : Nat} {ys : List Rc} (h : w.ownsRow base e 2 (.slice (some ⟨g, 0, none⟩) n cap) n (recV ys)) {j : Nat} {x : Rc} (hj : ys[j]? = some x) :
    w.cell? ⟨g, j * 2, none⟩ = some (.int .i64 x.1) ∧ w.cell? ⟨g, j * 2 + 1, none⟩ = some (.int .i64 x.2) ∧ w.frozen? ⟨g, j * 2, none⟩ = false ∧ w.frozen? ⟨g, j * 2 + 1, none⟩ = false := by
  obtain ⟨g0, g1⟩ := recV_get ys j x hj
  have h0 := h.cells (g := g) rfl _ _ g0
  have h1 := h.cells (g := g) rfl _ _ g1
  rw [add_plain] at h0 h1
  exact ⟨h0, h1, h.frozenAt _, h.frozenAt _⟩
theorem recV_set : ∀ (ys : List Rc) (k : Nat) (x : Rc), recV (ys.set k x) = ((recV ys).set (k * 2) (.int .i64 x.1)).set (k * 2 + 1) (.int .i64 x.2)
  | [], k, x => by simp [recV]
  | y :: ys, 0, x => by simp [recV, enc2]
  | y :: ys, k + 1, x => by
    have ih := recV_set ys k x
    rw [List.set_cons_succ]
    show enc2 y ++ recV (ys.set k x) = _
    rw [ih]
    show _ = ((enc2 y ++ recV ys).set ((k + 1) * 2) _).set ((k + 1) * 2 + 1) _
    rw [List.set_append_right _ _ (by simp [enc2]; omega), List.set_append_right _ _ (by simp [enc2]; omega)]
    congr 2
    · simp [enc2]; congr 1; omega
    · simp [enc2]; omega
theorem own_rset {w : World} {base : Nat} {e : TypeId} {g n cap : Nat} {ys : List Rc} (h : w.ownsRow base e 2 (.slice (some ⟨g, 0, none⟩) n cap) n (recV ys)) (k : Nat) (x : Rc) :
    ((w.setCell ⟨g, k * 2, none⟩ (.int .i64 x.1)).setCell ⟨g, k * 2 + 1, none⟩ (.int .i64 x.2)).ownsRow base e 2 (.slice (some ⟨g, 0, none⟩) n cap) n (recV (ys.set k x)) := by
  rw [recV_set]
  exact ((h.stored (k * 2) (.int .i64 x.1)).1.stored (k * 2 + 1) (.int .i64 x.2)).1
theorem sortR_of {xs ys : List Rc} (hp : ys.Perm xs) (hs : ys.Pairwise fun a b => leR a b = true) : ys = sortR xs := by
  refine List.Perm.eq_of_pairwise (le := fun a b => leR a b = true) ?_ hs ?_ (hp.trans (List.mergeSort_perm _ _).symm)
  · intro a b _ _ h1 h2
    unfold leR at h1 h2
    exact totR a b (by simpa using h2) (by simpa using h1)
  · exact List.pairwise_mergeSort (fun a b c h1 h2 => by unfold leR at *; simp only [Bool.not_eq_true'] at *; exact swoR.ntrans _ _ _ h2 h1) (fun a b => by
      unfold leR
      cases h : ltOf cfR b a with
      | false => simp
      | true =>
        rw [ltR] at *
        simp only [decide_eq_true_eq] at h
        simp; omega) _
theorem sortR_perm (xs : List Rc) : (sortR xs).Perm xs := List.mergeSort_perm _ _
theorem sortR_sorted (xs : List Rc) : (sortR xs).Pairwise fun a b => leR a b = true :=
  List.pairwise_mergeSort (fun a b c h1 h2 => by unfold leR at *; simp only [Bool.not_eq_true'] at *; exact swoR.ntrans _ _ _ h2 h1) (fun a b => by
      unfold leR
      cases h : ltOf cfR b a with
      | false => simp
      | true =>
        rw [ltR] at *
        simp only [decide_eq_true_eq] at h
        simp; omega) _
theorem row_take {ts : List Rc} {k : Nat} {x : Rc} (h : ts[k]? = some x) : ts.take (k + 1) = ts.take k ++ [x] := by
  have hk := (List.getElem?_eq_some_iff.1 h).1
  rw [List.take_succ_eq_append_getElem hk, (List.getElem?_eq_some_iff.1 h).2]
/-- What comes in at its place. -/
theorem sortR_insert {xs acc : List Rc} {x : Rc} {at_ : Nat} (ha : acc = sortR xs) (hat : at_ ≤ acc.length) (hhi : ∀ j y, at_ ≤ j → acc[j]? = some y → 0 < cfR y x) (hlo : ∀ y, 0 < at_ → acc[at_ - 1]? = some y → ¬ 0 < cfR y x) :
    acc.take at_ ++ [x] ++ acc.drop at_ = sortR (xs ++ [x]) := by
  have hs := sortR_sorted xs
  rw [← ha] at hs
  refine sortR_of ?_ ?_
  · have h1 : (acc.take at_ ++ [x] ++ acc.drop at_).Perm (acc ++ [x]) := by
      rw [List.append_assoc]
      refine (List.Perm.append_left _ (List.perm_append_comm (l₁ := [x]))).trans ?_
      rw [← List.append_assoc, List.take_append_drop]
    exact h1.trans ((ha ▸ sortR_perm xs).append_right _)
  · have hcf : ∀ y z : Rc, leR y z = true ↔ ¬ (0 < cfR y z) := by
      intro y z
      unfold leR
      rw [ltR]
      unfold cfR orI sgn
      by_cases h1 : y.1 < z.1
      · simp [h1]; omega
      · by_cases h2 : z.1 < y.1
        · have : ¬ y.1 = z.1 := by omega
          simp [h1, h2]
        · have : y.1 = z.1 := by omega
          by_cases h3 : y.2 < z.2
          · simp [this, h3]; omega
          · by_cases h4 : z.2 < y.2 <;> simp [this, h3, h4]
    have htot : ∀ y z : Rc, 0 < cfR y z → leR z y = true := by
      intro y z h
      have h1 : ¬ leR y z = true := fun e => ((hcf y z).1 e) h
      unfold leR at *
      rw [ltR] at *
      simp only [Bool.not_eq_true', decide_eq_false_iff_not] at *
      omega
    have htr : ∀ a b c : Rc, leR a b = true → leR b c = true → leR a c = true := fun a b c h1 h2 => by
      unfold leR at *
      rw [ltR] at *
      simp only [Bool.not_eq_true', decide_eq_false_iff_not] at *
      omega
    have hT : ∀ y ∈ acc.take at_, leR y x = true := by
      intro y hy
      obtain ⟨i, hi, rfl⟩ := List.getElem_of_mem hy
      rw [List.length_take] at hi
      have h0 : 0 < at_ := by omega
      have hlast : acc[at_ - 1]? = some acc[at_ - 1] := List.getElem?_eq_getElem (by omega)
      have hx := (hcf _ _).2 (hlo _ h0 hlast)
      rw [List.getElem_take]
      rcases Nat.lt_or_ge i (at_ - 1) with hlt | hge
      · exact htr _ _ _ (List.pairwise_iff_getElem.1 hs i (at_ - 1) (by omega) (by omega) hlt) hx
      · have : i = at_ - 1 := by omega
        subst this; exact hx
    have hD : ∀ y ∈ acc.drop at_, leR x y = true := by
      intro y hy
      obtain ⟨i, hi, rfl⟩ := List.getElem_of_mem hy
      rw [List.getElem_drop]
      rw [List.length_drop] at hi
      exact htot _ _ (hhi (at_ + i) _ (by omega) (List.getElem?_eq_getElem (by omega)))
    rw [List.append_assoc, List.pairwise_append]
    refine ⟨hs.sublist (List.take_sublist _ _), ?_, ?_⟩
    · rw [List.singleton_append, List.pairwise_cons]
      exact ⟨hD, hs.sublist (List.drop_sublist _ _)⟩
    · intro y hy z hz
      rcases List.mem_append.1 hz with hz | hz
      · rw [List.mem_singleton.1 hz]; exact hT y hy
      · exact htr _ _ _ (hT y hy) (hD z hz)
end Go.Proofs.Ytainoghjelfnkaa
