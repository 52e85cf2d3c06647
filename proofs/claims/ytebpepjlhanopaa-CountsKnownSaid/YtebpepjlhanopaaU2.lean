/- Contracts of slices.Grow, Concat, at times. -/
import Derived.Test.YtebpepjlhanopaaRows
import Derived.Lib.AppendZerosOnto
import Derived.Test.YtebpepjlhanopaaWords
import Derived.Test.YtebpepjlhanopaaByts
import Derived.Test.YtebpepjlhanopaaFrame
import Derived.Test.YtebpepjlhanopaaElems
import Derived.Test.YtebpepjlhanopaaSortOwn
import Derived.Test.YtebpepjlhanopaaS1
import Derived.Test.YtebpepjlhanopaaU1
namespace Go.Proofs.Ytebpepjlhanopaa
open Go Go.RowKit Go.Proofs.Tail Go.Sort
set_option linter.unusedSimpArgs false
set_option linter.unusedVariables false
set_option maxHeartbeats 2000000 in
theorem grow_any (n : Nat) (w : World) (hlim : n * 40 ≤ 140737488355328) : Calls Try.prog 59 #[.slice none 0 0, .int .i64 n] w (GivesTms [] w) := by
  rcases Nat.eq_zero_or_pos n with h0 | h0
  · subst h0
    go_enter Try.func59, Try.ntmps59
    go_wp2_with fail
    go_ret
    exact ⟨_, rfl, World.ownsRow_nil _ _ _ _, Below.refl _ _⟩
  · obtain ⟨i0, hi, hzz⟩ := Option.map_eq_some_iff.1 infoT
    simp only [Prod.mk.injEq] at hzz
    obtain ⟨hz0, hz1, hz2⟩ := hzz
    have hrz : ∀ ty, (Builtin.append_ #[33, 3] ty #[.slice none 0 0, .int .i64 n]).run Try.prog w =
        .ok (.slice (some ⟨w.heap.size, 0, none⟩) (0 + n) (grownCap w (0 + n) 0 28)) (w.drew.alloc (.cells (([] : List Value).toArray ++ Builtin.zeroCells (Value.agg #[.int .i64 0, .int .i64 0, .int .i64 0, .int .i64 0, .int .i64 0]).cells n ++ Builtin.zeroCells (Value.agg #[.int .i64 0, .int .i64 0, .int .i64 0, .int .i64 0, .int .i64 0]).cells (grownCap w (0 + n) 0 28 - (0 + n))) 28)) := fun ty =>
      Lib.run_append_grow_zeros w 33 3 ty 28 i0 _ .i64 .i64 Try.underlying33 Try.underlying3 hi hz0 none 0 0 [] (run_firstCells_none w.drew i0.size 0 0 0) n h0 (by omega) (by omega) (by omega)
        (by rw [hz2]; omega) (growslice_fits (by omega) (by rw [hz2]; omega))
    have hGn : n ≤ grownCap w (0 + n) 0 28 := by have := grownCap_ge w (0 + n) 0 28; omega
    have hG63 := grownCap_le_maxLen w (0 + n) 0 28 (by unfold maxLen; omega)
    generalize grownCap w (0 + n) 0 28 = G at *
    have HG := Lib.hid hG63
    have hG : G ≤ 9223372036854775807 := by unfold maxLen at hG63; omega
    have HOB := Lib.hid (show (w.drew.alloc (.cells (([] : List Value).toArray ++ Builtin.zeroCells (Value.agg #[.int .i64 0, .int .i64 0, .int .i64 0, .int .i64 0, .int .i64 0]).cells n ++ Builtin.zeroCells (Value.agg #[.int .i64 0, .int .i64 0, .int .i64 0, .int .i64 0, .int .i64 0]).cells (G - (0 + n))) 28)).ownsRow w.heap.size 28 5 (.slice (some ⟨w.heap.size, 0, none⟩) 0 G) 0 [] from
      ⟨rfl, .inr ⟨w.heap.size, G, _, rfl, Nat.le_refl _, heap_alloc_new w.drew _, Nat.zero_le _, hG63, by simp [Builtin.zeroCells, Value.cells]; omega, by simp⟩⟩)
    have HB := Lib.hid (show Below w.heap.size w (w.drew.alloc (.cells (([] : List Value).toArray ++ Builtin.zeroCells (Value.agg #[.int .i64 0, .int .i64 0, .int .i64 0, .int .i64 0, .int .i64 0]).cells n ++ Builtin.zeroCells (Value.agg #[.int .i64 0, .int .i64 0, .int .i64 0, .int .i64 0, .int .i64 0]).cells (G - (0 + n))) 28)) from ((Below.refl _ _).drew).alloc (Nat.le_refl _) _)
    generalize (w.drew.alloc (.cells (([] : List Value).toArray ++ Builtin.zeroCells (Value.agg #[.int .i64 0, .int .i64 0, .int .i64 0, .int .i64 0, .int .i64 0]).cells n ++ Builtin.zeroCells (Value.agg #[.int .i64 0, .int .i64 0, .int .i64 0, .int .i64 0, .int .i64 0]).cells (G - (0 + n))) 28)) = W at *
    clear hG63 hlim hi hz0 hz1 hz2
    go_enter Try.func59, Try.ntmps59
    go_wp2_with (at_builtin; refine Lib.wpList_append_run _ rfl _ _ _ _ rfl _ _ rfl rfl _ _ (hrz _) ?_)
    all_goals
      go_ret
      exact ⟨_, rfl, HOB.out, HB.out⟩
/-- A slice of slices of records, that is read. -/
def RRow (w : World) (b o : Nat) (xs : List T) : Prop := ∃ A n c, w.cell? ⟨b, o, none⟩ = some (.slice A n c) ∧ Tms w A n c xs
theorem RRow.stays : Stays RRow := fun _ _ _ _ _ hb h => by
  obtain ⟨A, n, c, h1, h2⟩ := h
  exact ⟨A, n, c, below_cell hb h1, h2.below At.stays hb⟩
abbrev Rows_ (w : World) (A : Option Addr) (n c : Nat) (L : List (List T)) : Prop := Rd 1 RRow w A n c L
theorem flat_take (L : List (List T)) {k : Nat} {x : List T} (h : L[k]? = some x) : (L.take (k + 1)).flatten = (L.take k).flatten ++ x := by
  have hk := (List.getElem?_eq_some_iff.1 h).1
  rw [List.take_succ_eq_append_getElem hk, List.flatten_append]
  have : L[k] = x := (List.getElem?_eq_some_iff.1 h).2
  rw [this]; simp
theorem flat_le (L : List (List T)) (k : Nat) : (L.take k).flatten.length ≤ L.flatten.length := by
  have : L.flatten = (L.take k).flatten ++ (L.drop k).flatten := by rw [← List.flatten_append, List.take_append_drop]
  rw [this, List.length_append]; omega
set_option maxHeartbeats 8000000 in
theorem concat_any (A : Option Addr) (n c : Nat) (L : List (List T)) (w : World) (hR : Rows_ w A n c L) (hlim : L.flatten.length * 40 ≤ 140737488355328) :
    Calls Try.prog 43 #[.slice A n c] w (GivesTms L.flatten w) := by
  have HR := Lib.hid hR
  have HL := Lib.hid hR.len
  have hbig := hR.big
  have HLIM := Lib.hid hlim
  clear hR hlim
  go_enter Try.func43, Try.ntmps43
  go_wp2_with fail
  go_loopw [3, 11] (fun s i wr => ∃ k : Nat, k ≤ n ∧ i = .int .i64 k ∧ s = .int .i64 (L.take k).flatten.length ∧ w = wr) (fun _ i _ => n - (intOf i).toNat)
  case atStart => exact ⟨0, Nat.zero_le _, rfl, by simp, rfl⟩
  case round =>
    obtain ⟨k, hk, rfl, rfl, rfl⟩ := hrel
    by_cases hlt : k < n
    · have hd : decide ((k : Int) < n) = true := decide_eq_true (by omega)
      have hd' : decide (k < n) = true := decide_eq_true (by omega)
      obtain ⟨b, off, x, rfl, hx, A1, n1, c1, hc, hr⟩ := HR.out.elem hlt
      rw [Nat.mul_one] at hc
      have h1 := flat_take L hx
      have h2 := flat_le L (k + 1)
      have hl := hr.len
      have hll : (L.take (k + 1)).flatten.length = (L.take k).flatten.length + n1 := by rw [h1, List.length_append, hl]
      have HLL := Lib.hid hll
      have hb1 : (L.take k).flatten.length + n1 ≤ 140737488355328 := by have := HLIM.out; omega
      generalize (L.take k).flatten.length = m at *
      clear h1 h2 hl hll hr hx
      go_wp2_with fail
      go_roundw
      case rel => exact ⟨k + 1, by omega, by go_num, by rw [HLL.out]; go_num, trivial⟩
      case measure => simp [intOf]; omega
    · have hkn : k = n := by omega
      subst hkn
      have hd : decide ((k : Int) < k) = false := decide_eq_false (by omega)
      have hd' : decide (k < k) = false := decide_eq_false (by omega)
      have hle := flat_le L k
      have hle2 : (L.take k).flatten.length * 40 ≤ 140737488355328 := by have := HLIM.out; omega
      clear hle
      generalize (L.take k).flatten.length = m at *
      have hm : m ≤ 140737488355328 := by omega
      have HM2 := Lib.hid hle2
      clear hle2
      have HG := Lib.hid (grow_any m w HM2.out)
      go_wp2_with fail
      refine HG.out.mono ?_
      rintro e w1 ⟨v, rfl, ho, hb⟩
      have HO := Lib.hid (show w1.ownsRow w.heap.size 28 5 v (L.take 0).flatten.length (recT (L.take 0).flatten) from ho)
      have HB := Lib.hid hb
      clear ho hb HG
      go_wp2_with fail
      go_loopw [6, 27] (fun s i wr => ∃ k' : Nat, k' ≤ k ∧ i = .int .i64 k' ∧ Hid (wr.ownsRow w.heap.size 28 5 s (L.take k').flatten.length (recT (L.take k').flatten)) ∧ Hid (Below w.heap.size w wr)) (fun _ i _ => k - (intOf i).toNat)
      case atStart => exact ⟨0, Nat.zero_le _, rfl, HO, HB⟩
      case round =>
        clear HO HB
        obtain ⟨k', hk', rfl, HO, HB⟩ := hrel
        by_cases hlt : k' < k
        · have hd : decide ((k' : Int) < k) = true := decide_eq_true (by omega)
          have hd' : decide (k' < k) = true := decide_eq_true (by omega)
          obtain ⟨b, off, x, rfl, hx, A1, n1, c1, hc, hr⟩ := (HR.out.below RRow.stays HB.out).elem hlt
          rw [Nat.mul_one] at hc
          have h1 := Lib.hid (flat_take L hx)
          have HRR := Lib.hid hr
          have h2 := flat_le L (k' + 1)
          have hll : (L.take (k' + 1)).flatten.length = (L.take k').flatten.length + n1 := by rw [h1.out, List.length_append, hr.len]
          have hb1 : ((L.take k').flatten.length + n1) * 40 ≤ 140737488355328 := by have := HLIM.out; omega
          clear h2 hll hx hr
          go_wp2_with (at_builtin; (refine own_append_tms (W := wr) rfl (.tmp 31) (.tmp 32) 33 28 rfl Try.underlying33 infoT w.heap.size u6 (L.take k').flatten A1 n1 c1 x rfl rfl HO.out HRR.out hb1 HB.out.size ?_); intro v1 w2 hown hgr hat)
          have hr : ∀ k, u6.ownBlock = some k → w.heap.size ≤ k := fun k hk => own_lt HO.out k hk
          have HB2 := Lib.hid (HB.out.grown hgr HB.out.size hr)
          have HN := Lib.hid (show w2.ownsRow w.heap.size 28 5 v1 (L.take (k' + 1)).flatten.length (recT (L.take (k' + 1)).flatten) by rw [h1.out]; exact hown)
          clear hown hgr hat hr HO HB HRR
          go_roundw
          case rel => exact ⟨k' + 1, by omega, by go_num, HN, HB2⟩
          case measure => simp [intOf]; omega
        · have hkn : k' = k := by omega
          subst hkn
          have hd : decide ((k' : Int) < k') = false := decide_eq_false (by omega)
          have hd' : decide (k' < k') = false := decide_eq_false (by omega)
          have HN := Lib.hid (show wr.ownsRow w.heap.size 28 5 u6 L.flatten.length (recT L.flatten) by have := HO.out; rwa [List.take_of_length_le (by rw [HL.out]; omega)] at this)
          clear HO
          go_wp2_with fail
          go_ret
          exact ⟨_, rfl, HN.out, HB.out⟩
end Go.Proofs.Ytebpepjlhanopaa
