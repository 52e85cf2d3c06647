/- Contracts of slices.SortFunc, Grow, Concat, of value.Add, Sorted. -/
import Derived.Test.YtainoghjelfnkaaRows
import Derived.Lib.AppendZerosOnto
import Derived.Test.YtainoghjelfnkaaWords
import Derived.Test.YtainoghjelfnkaaByts
import Derived.Test.YtainoghjelfnkaaFrame
import Derived.Test.YtainoghjelfnkaaElems
import Derived.Test.YtainoghjelfnkaaSortOwn
import Derived.Test.YtainoghjelfnkaaLay
import Derived.Test.YtainoghjelfnkaaV1
namespace Go.Proofs.Ytainoghjelfnkaa
open Go Go.RowKit Go.Proofs.Tail Go.Sort
set_option linter.unusedSimpArgs false
set_option linter.unusedVariables false
def Sorts (base : Nat) (v : Value) (ys : List Rc) (w : World) (e : Ending) (w' : World) : Prop :=
  e = .returned (.tuple #[]) ∧ w'.ownsRow base 32 2 v ys.length (recV ys) ∧ Fr (fun b => v.ownBlock = some b) w w'
theorem sortR_length (xs : List Rc) : (sortR xs).length = xs.length := (List.mergeSort_perm _ _).length_eq
theorem sort_any (base : Nat) (v : Value) (xs : List Rc) (w : World) (HO : w.ownsRow base 32 2 v xs.length (recV xs)) (hlim : xs.length < 4611686018427387904) :
    Calls Try.prog 31 #[v, .func (.func 19) #[] #[]] w (Sorts base v (sortR xs) w) := by
  rcases HO.2 with ⟨rfl, h0⟩ | ⟨g, cap, cur, rfl, hg, hh, hn, hm, hs, ht⟩
  · have hx : xs = [] := List.eq_nil_of_length_eq_zero h0
    subst hx
    have hcon := AnyF.slices_SortFunc_none { Try.sortR with } none 0 (.func (.func 19) #[] #[]) w
    change Calls Try.prog 31 _ _ _ at hcon
    refine hcon.mono ?_
    rintro e w' ⟨rfl, rfl⟩
    have e0 : sortR [] = [] := by simp [sortR]
    rw [e0]
    exact ⟨rfl, HO, Fr.refl _ _⟩
  · have eg : ∀ args w, (callFunc 19 args).run Try.prog w = .ok (.enter 19 args) w := enters_of Try.func19 (by kernel_rfl) rfl
    have hk : ∀ x : Rc, (enc2 x).length = 2 := fun _ => rfl
    have hcon := AnyQ.slices_SortFunc_total Try.sortR 2 Try.isAgg32 Try.sizeOf32 enc2 hk (fun x v hv => by simp [enc2] at hv; rcases hv with rfl | rfl <;> rfl) cfR swoR 19 #[] g 0 cap xs.toArray w eg (cmpLays g 0 _ w) (holdsK_own hk HO) (lt_block hh) (by simpa using hlim) totR
    change Calls Try.prog 31 _ _ _ at hcon
    simp only [List.size_toArray] at hcon
    refine hcon.mono ?_
    rintro e w' ⟨rfl, q, os, rfl⟩
    obtain ⟨h1, h2⟩ := own_sorted (q := q) (os := os) hk HO (sortR_length xs)
    exact ⟨rfl, by rw [sortR_length]; exact h1, h2.mono fun i _ hi => by subst hi; rfl⟩
set_option maxHeartbeats 2000000 in
theorem grow_any (n : Nat) (w : World) (hlim : n * 16 ≤ 140737488355328) : Calls Try.prog 38 #[.slice none 0 0, .int .i64 n] w (GivesRec [] w) := by
  rcases Nat.eq_zero_or_pos n with h0 | h0
  · subst h0
    go_enter Try.func38, Try.ntmps38
    go_wp2_with fail
    go_ret
    exact ⟨_, rfl, World.ownsRow_nil _ _ _ _, Below.refl _ _⟩
  · obtain ⟨i0, hi, hzz⟩ := Option.map_eq_some_iff.1 infoR
    simp only [Prod.mk.injEq] at hzz
    obtain ⟨hz0, hz1, hz2⟩ := hzz
    have hrz : ∀ ty, (Builtin.append_ #[22, 3] ty #[.slice none 0 0, .int .i64 n]).run Try.prog w =
        .ok (.slice (some ⟨w.heap.size, 0, none⟩) (0 + n) (grownCap w (0 + n) 0 32)) (w.drew.alloc (.cells (([] : List Value).toArray ++ Builtin.zeroCells (Value.agg #[.int .i64 0, .int .i64 0]).cells n ++ Builtin.zeroCells (Value.agg #[.int .i64 0, .int .i64 0]).cells (grownCap w (0 + n) 0 32 - (0 + n))) 32)) := fun ty =>
      Lib.run_append_grow_zeros w 22 3 ty 32 i0 _ .i64 .i64 Try.underlying22 Try.underlying3 hi hz0 none 0 0 [] (run_firstCells_none w.drew i0.size 0 0 0) n h0 (by omega) (by omega) (by omega)
        (by rw [hz2]; omega) (growslice_fits (by omega) (by rw [hz2]; omega))
    have hGn : n ≤ grownCap w (0 + n) 0 32 := by have := grownCap_ge w (0 + n) 0 32; omega
    have hG63 := grownCap_le_maxLen w (0 + n) 0 32 (by unfold maxLen; omega)
    generalize grownCap w (0 + n) 0 32 = G at *
    have HG := Lib.hid hG63
    have hG : G ≤ 9223372036854775807 := by unfold maxLen at hG63; omega
    have HOB := Lib.hid (show (w.drew.alloc (.cells (([] : List Value).toArray ++ Builtin.zeroCells (Value.agg #[.int .i64 0, .int .i64 0]).cells n ++ Builtin.zeroCells (Value.agg #[.int .i64 0, .int .i64 0]).cells (G - (0 + n))) 32)).ownsRow w.heap.size 32 2 (.slice (some ⟨w.heap.size, 0, none⟩) 0 G) 0 [] from
      ⟨rfl, .inr ⟨w.heap.size, G, _, rfl, Nat.le_refl _, heap_alloc_new w.drew _, Nat.zero_le _, hG63, by simp [Builtin.zeroCells, Value.cells]; omega, by simp⟩⟩)
    have HB := Lib.hid (show Below w.heap.size w (w.drew.alloc (.cells (([] : List Value).toArray ++ Builtin.zeroCells (Value.agg #[.int .i64 0, .int .i64 0]).cells n ++ Builtin.zeroCells (Value.agg #[.int .i64 0, .int .i64 0]).cells (G - (0 + n))) 32)) from ((Below.refl _ _).drew).alloc (Nat.le_refl _) _)
    generalize (w.drew.alloc (.cells (([] : List Value).toArray ++ Builtin.zeroCells (Value.agg #[.int .i64 0, .int .i64 0]).cells n ++ Builtin.zeroCells (Value.agg #[.int .i64 0, .int .i64 0]).cells (G - (0 + n))) 32)) = W at *
    clear hG63 hlim hi hz0 hz1 hz2
    go_enter Try.func38, Try.ntmps38
    go_wp2_with (at_builtin; refine Lib.wpList_append_run _ rfl _ _ _ _ rfl _ _ rfl rfl _ _ (hrz _) ?_)
    all_goals
      go_ret
      exact ⟨_, rfl, HOB.out, HB.out⟩
/-- A slice of slices of records, that is read. -/
def RRow (w : World) (b o : Nat) (xs : List Rc) : Prop := ∃ A n c, w.cell? ⟨b, o, none⟩ = some (.slice A n c) ∧ Recs w A n c xs
theorem RRow.stays : Stays RRow := fun _ _ _ _ _ hb h => by
  obtain ⟨A, n, c, h1, h2⟩ := h
  exact ⟨A, n, c, below_cell hb h1, h2.below RRc.stays hb⟩
abbrev Rows_ (w : World) (A : Option Addr) (n c : Nat) (L : List (List Rc)) : Prop := Rd 1 RRow w A n c L
theorem flat_take (L : List (List Rc)) {k : Nat} {x : List Rc} (h : L[k]? = some x) : (L.take (k + 1)).flatten = (L.take k).flatten ++ x := by
  have hk := (List.getElem?_eq_some_iff.1 h).1
  rw [List.take_succ_eq_append_getElem hk, List.flatten_append]
  have : L[k] = x := (List.getElem?_eq_some_iff.1 h).2
  rw [this]; simp
theorem flat_le (L : List (List Rc)) (k : Nat) : (L.take k).flatten.length ≤ L.flatten.length := by
  have : L.flatten = (L.take k).flatten ++ (L.drop k).flatten := by rw [← List.flatten_append, List.take_append_drop]
  rw [this, List.length_append]; omega
set_option maxHeartbeats 8000000 in
theorem concat_any (A : Option Addr) (n c : Nat) (L : List (List Rc)) (w : World) (hR : Rows_ w A n c L) (hlim : L.flatten.length * 16 ≤ 140737488355328) :
    Calls Try.prog 30 #[.slice A n c] w (GivesRec L.flatten w) := by
  have HR := Lib.hid hR
  have HL := Lib.hid hR.len
  have hbig := hR.big
  have HLIM := Lib.hid hlim
  clear hR hlim
  go_enter Try.func30, Try.ntmps30
  go_wp2_with fail
  go_loopw [3, 11] (fun s i wr => ∃ k : Nat, k ≤ n ∧ i = .int .i64 k ∧ s = .int .i64 (L.take k).flatten.length ∧ w = wr) (fun _ i _ => n - (intOf i).toNat)
  case atStart => exact ⟨0, Nat.zero_le _, rfl, by simp, rfl⟩
  case round =>
    obtain ⟨k, hk, rfl, rfl, rfl⟩ := hrel
    by_cases hlt : k < n
    · have hd : decide ((k : Int) < n) = true := decide_eq_true (by omega)
      have hd' : decide (k < n) = true := decide_eq_true (by omega)
      obtain ⟨b, off, x, rfl, hx, A1, n1, c1, hc, hr⟩ := HR.out.elem hlt
      rw [Nat.mul_one] at hc
      have h1 := flat_take L hx
      have h2 := flat_le L (k + 1)
      have hl := hr.len
      have hll : (L.take (k + 1)).flatten.length = (L.take k).flatten.length + n1 := by rw [h1, List.length_append, hl]
      have HLL := Lib.hid hll
      have hb1 : (L.take k).flatten.length + n1 ≤ 140737488355328 := by have := HLIM.out; omega
      generalize (L.take k).flatten.length = m at *
      clear h1 h2 hl hll hr hx
      go_wp2_with fail
      go_roundw
      case rel => exact ⟨k + 1, by omega, by go_num, by rw [HLL.out]; go_num, trivial⟩
      case measure => simp [intOf]; omega
    · have hkn : k = n := by omega
      subst hkn
      have hd : decide ((k : Int) < k) = false := decide_eq_false (by omega)
      have hd' : decide (k < k) = false := decide_eq_false (by omega)
      have hle := flat_le L k
      have hle2 : (L.take k).flatten.length * 16 ≤ 140737488355328 := by have := HLIM.out; omega
      clear hle
      generalize (L.take k).flatten.length = m at *
      have hm : m ≤ 140737488355328 := by omega
      have HM2 := Lib.hid hle2
      clear hle2
      have HG := Lib.hid (grow_any m w HM2.out)
      go_wp2_with fail
      refine HG.out.mono ?_
      rintro e w1 ⟨v, rfl, ho, hb⟩
      have HO := Lib.hid (show w1.ownsRow w.heap.size 32 2 v (L.take 0).flatten.length (recV (L.take 0).flatten) from ho)
      have HB := Lib.hid hb
      clear ho hb HG
      go_wp2_with fail
      go_loopw [6, 27] (fun s i wr => ∃ k' : Nat, k' ≤ k ∧ i = .int .i64 k' ∧ Hid (wr.ownsRow w.heap.size 32 2 s (L.take k').flatten.length (recV (L.take k').flatten)) ∧ Hid (Below w.heap.size w wr)) (fun _ i _ => k - (intOf i).toNat)
      case atStart => exact ⟨0, Nat.zero_le _, rfl, HO, HB⟩
      case round =>
        clear HO HB
        obtain ⟨k', hk', rfl, HO, HB⟩ := hrel
        by_cases hlt : k' < k
        · have hd : decide ((k' : Int) < k) = true := decide_eq_true (by omega)
          have hd' : decide (k' < k) = true := decide_eq_true (by omega)
          obtain ⟨b, off, x, rfl, hx, A1, n1, c1, hc, hr⟩ := (HR.out.below RRow.stays HB.out).elem hlt
          rw [Nat.mul_one] at hc
          have h1 := Lib.hid (flat_take L hx)
          have HRR := Lib.hid hr
          have h2 := flat_le L (k' + 1)
          have hll : (L.take (k' + 1)).flatten.length = (L.take k').flatten.length + n1 := by rw [h1.out, List.length_append, hr.len]
          have hb1 : ((L.take k').flatten.length + n1) * 16 ≤ 140737488355328 := by have := HLIM.out; omega
          clear h2 hll hx hr
          go_wp2_with (at_builtin; (refine own_append_recs (W := wr) rfl (.tmp 31) (.tmp 32) 22 32 rfl Try.underlying22 infoR w.heap.size u6 (L.take k').flatten A1 n1 c1 x rfl rfl HO.out HRR.out hb1 HB.out.size ?_); intro v1 w2 hown hgr hat)
          have hr : ∀ k, u6.ownBlock = some k → w.heap.size ≤ k := fun k hk => own_lt HO.out k hk
          have HB2 := Lib.hid (HB.out.grown hgr HB.out.size hr)
          have HN := Lib.hid (show w2.ownsRow w.heap.size 32 2 v1 (L.take (k' + 1)).flatten.length (recV (L.take (k' + 1)).flatten) by rw [h1.out]; exact hown)
          clear hown hgr hat hr HO HB HRR
          go_roundw
          case rel => exact ⟨k' + 1, by omega, by go_num, HN, HB2⟩
          case measure => simp [intOf]; omega
        · have hkn : k' = k := by omega
          subst hkn
          have hd : decide ((k' : Int) < k') = false := decide_eq_false (by omega)
          have hd' : decide (k' < k') = false := decide_eq_false (by omega)
          have HN := Lib.hid (show wr.ownsRow w.heap.size 32 2 u6 L.flatten.length (recV L.flatten) by have := HO.out; rwa [List.take_of_length_le (by rw [HL.out]; omega)] at this)
          clear HO
          go_wp2_with fail
          go_ret
          exact ⟨_, rfl, HN.out, HB.out⟩
set_option maxHeartbeats 4000000 in
theorem add_any (A : Option Addr) (n c : Nat) (L : List (List Rc)) (w : World) (hR : Rows_ w A n c L) (hlim : L.flatten.length * 16 ≤ 140737488355328) :
    Calls Try.prog 17 #[.slice A n c] w (GivesRec (sortR L.flatten) w) := by
  have HC := Lib.hid (concat_any A n c L w hR hlim)
  have HL := Lib.hid hlim
  clear hR hlim
  generalize L.flatten = xs at *
  go_enter Try.func17, Try.ntmps17
  go_wp2_with fail
  refine HC.out.mono ?_
  rintro e w1 ⟨v, rfl, ho, hb⟩
  have HO := Lib.hid ho
  have HB := Lib.hid hb
  clear ho hb HC
  have HS := Lib.hid (sort_any w.heap.size v xs w1 HO.out (by have := HL.out; omega))
  go_wp2_with fail
  refine HS.out.mono ?_
  rintro e w2 ⟨rfl, ho, hf⟩
  have HO2 := Lib.hid ho
  have HB2 := Lib.hid (HB.out.trans (hf.below HB.out.size (fun k hk e => by have := own_lt HO.out k e; omega)))
  clear ho hf HS HO HB
  go_wp2_with fail
  go_ret
  exact ⟨_, rfl, HO2.out, HB2.out⟩
theorem row_blk {w : World} {B o : Nat} {cs : List Value} {t : TypeId} (h : Blk w B cs t) {A : Option Addr} {n c : Nat} {xs : List Rc} (hc : cs[o]? = some (.slice A n c)) (hr : Recs w A n c xs) : RRow w B o xs := ⟨A, n, c, (h.cell o).trans hc, hr⟩
set_option maxHeartbeats 4000000 in
theorem sorted_any (A : Option Addr) (n c : Nat) (xs : List Rc) (w : World) (hR : Recs w A n c xs) (hlim : n * 16 ≤ 140737488355328) :
    Calls Try.prog 12 #[.slice A n c] w (GivesRec (sortR xs) w) := by
  have D := Blk.new w [.slice A n c] 22 _ rfl
  have HB := Lib.hid (below_new w (.cells #[.slice A n c] 22))
  have R1 : Rows_ (w.alloc (.cells #[.slice A n c] 22)) (some ⟨w.heap.size, 0, none⟩) 1 1 [xs] := ⟨rfl, Nat.le_refl _, by omega, fun _ => ⟨_, _, rfl, fun j x hj => by
    match j, hj with
    | 0, hj =>
      obtain rfl : xs = x := by simpa using hj
      exact row_blk D rfl (hR.below RRc.stays HB.out)
    | j + 1, hj => simp at hj⟩⟩
  have HA := Lib.hid (add_any _ 1 1 [xs] _ R1 (by simp [hR.len]; omega))
  rw [show [xs].flatten = xs by simp] at HA
  clear hR hlim D R1
  go_enter Try.func12, Try.ntmps12
  go_wp2_with fail
  refine HA.out.mono ?_
  rintro e w1 ⟨v, rfl, ho, hb⟩
  have HO := Lib.hid (own_base (base' := w.heap.size) ho HB.out.size)
  have HB1 := Lib.hid (below_then HB.out hb)
  clear ho hb HA
  go_wp2_with fail
  go_ret
  exact ⟨_, rfl, HO.out, HB1.out⟩
end Go.Proofs.Ytainoghjelfnkaa
