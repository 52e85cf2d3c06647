/- Contracts of slices.IndexFunc, ContainsFunc of times, whatever the function; of slices.Clone. -/
import Derived.Test.YtebpepjlhanopaaRows
import Derived.Lib.LazyBuf
import Derived.Test.YtebpepjlhanopaaWords
import Derived.Test.YtebpepjlhanopaaByts
import Derived.Test.YtebpepjlhanopaaFrame
import Derived.Test.YtebpepjlhanopaaElems
import Derived.Test.YtebpepjlhanopaaS1
import Derived.Test.YtebpepjlhanopaaU1
namespace Go.Proofs.Ytebpepjlhanopaa
open Go Go.RowKit Go.Proofs.Tail Go.Sort
set_option linter.unusedSimpArgs false
set_option linter.unusedVariables false
/-- A function value answers p of each time. -/
def Answers (f : FuncId) (caps : Array Value) (p : T → Bool) (xs : List T) (w : World) : Prop :=
  ∀ x, x ∈ xs → ∀ W, Below w.heap.size w W → Calls Try.prog f (#[.agg #[.int .i64 x.d, .int .i64 x.e, .int .i64 x.a, .int .i64 x.b, .int .i64 x.c]] ++ caps) W (Gives (.bool (p x)) W)
def Idx (p : T → Bool) (xs : List T) (w : World) (e : Ending) (w' : World) : Prop :=
  Below w.heap.size w w' ∧ ((∃ k : Nat, k ≤ xs.length ∧ e = .returned (.int .i64 k) ∧ xs.any p = true) ∨ e = .returned (.int .i64 (-1)) ∧ xs.any p = false)
set_option maxRecDepth 100000 in
set_option maxHeartbeats 8000000 in
theorem index_any (A : Option Addr) (n c : Nat) (f : FuncId) (cp : Value) (p : T → Bool) (xs : List T) (w : World) (hX : Tms w A n c xs)
    (eg : ∀ args W, (callFunc f args).run Try.prog W = .ok (.enter f args) W) (hP : Answers f #[cp] p xs w) :
    Calls Try.prog 49 #[.slice A n c, .func (.func f) #[] #[cp]] w (Idx p xs w) := by
  have HX := Lib.hid hX
  have HP := Lib.hid hP
  have HL := Lib.hid hX.len
  have hbig := hX.big
  have B0 := Lib.hid (Below.refl w.heap.size w)
  have N0 := Lib.hid (show ∀ j x, j < 0 → xs[j]? = some x → p x = false from fun j x h => absurd h (Nat.not_lt_zero _))
  clear hX hP
  go_enter Try.func49, Try.ntmps49
  go_wp2_with fail
  go_loopw [8] (fun i wr => ∃ k : Nat, k ≤ n ∧ i = .int .i64 k ∧ Hid (∀ j x, j < k → xs[j]? = some x → p x = false) ∧ Hid (Below w.heap.size w wr)) (fun i _ => n - (intOf i).toNat)
  case atStart => exact ⟨0, Nat.zero_le _, rfl, N0, B0⟩
  case round =>
    clear N0 B0
    obtain ⟨k, hk, rfl, HN, HB⟩ := hrel
    by_cases hlt : k < n
    · have hd : decide ((k : Int) < n) = true := decide_eq_true (by omega)
      have hd' : decide (k < n) = true := decide_eq_true (by omega)
      obtain ⟨b, off, x, rfl, hx, hc⟩ := (HX.out.below At.stays HB.out).elem hlt
      have c0 := hc.c0
      have c1 := hc.c1
      have c2 := hc.c2
      have c3 := hc.c3
      have c4 := hc.c4
      have HXE := Lib.hid hx
      have HT := Lib.hid (HP.out x (List.mem_of_getElem? hx) wr HB.out)
      clear hx hc
      go_wp2_with fail
      refine HT.out.mono ?_
      rintro e w2 ⟨rfl, hb⟩
      have HB2 := Lib.hid (below_then HB.out hb)
      cases hp : p x with
      | true =>
        have HQ := Lib.hid (show xs.any p = true from List.any_eq_true.2 ⟨x, List.mem_of_getElem? HXE.out, hp⟩)
        clear hb HT c0 c1 c2 c3 c4 HB hp
        go_wp2_with fail
        go_ret
        exact ⟨HB2.out, .inl ⟨k, by rw [HL.out]; omega, rfl, HQ.out⟩⟩
      | false =>
        have HQ := Lib.hid (show ∀ j z, j < k + 1 → xs[j]? = some z → p z = false from fun j z hj hz => by
          rcases Nat.eq_or_lt_of_le (Nat.le_of_lt_succ hj) with e | e
          · subst e; rw [HXE.out] at hz; injection hz with hz; subst hz; exact hp
          · exact HN.out j z e hz)
        clear hb HT c0 c1 c2 c3 c4 HB hp HN
        go_wp2_with fail
        go_roundw
        case rel => exact ⟨k + 1, by omega, by go_num, HQ, HB2⟩
        case measure => simp [intOf]; omega
    · have hkn : k = n := by omega
      subst hkn
      have hd : decide ((k : Int) < k) = false := decide_eq_false (by omega)
      have hd' : decide (k < k) = false := decide_eq_false (by omega)
      have HNN := Lib.hid (show xs.any p = false by
        rw [List.any_eq_false]
        intro x hx
        obtain ⟨j, hj, h⟩ := List.getElem_of_mem hx
        rw [HN.out j x (by rw [HL.out] at hj; exact hj) (by rw [← h, List.getElem?_eq_getElem hj])]; simp)
      clear HN
      go_wp2_with fail
      go_ret
      exact ⟨HB.out, .inr ⟨rfl, HNN.out⟩⟩
set_option maxHeartbeats 4000000 in
theorem contains_any (A : Option Addr) (n c : Nat) (f : FuncId) (cp : Value) (p : T → Bool) (xs : List T) (w : World) (hX : Tms w A n c xs)
    (eg : ∀ args W, (callFunc f args).run Try.prog W = .ok (.enter f args) W) (hP : Answers f #[cp] p xs w) :
    Calls Try.prog 41 #[.slice A n c, .func (.func f) #[] #[cp]] w (Gives (.bool (xs.any p)) w) := by
  have HI := Lib.hid (index_any A n c f cp p xs w hX eg hP)
  clear hX hP eg
  go_enter Try.func41, Try.ntmps41
  go_wp2_with fail
  refine HI.out.mono ?_
  rintro e w1 ⟨hb, ⟨k, hk, rfl, ha⟩ | ⟨rfl, ha⟩⟩
  · have HB := Lib.hid hb
    have HA := Lib.hid ha
    have d : decide ((0 : Int) ≤ k) = true := decide_eq_true (by omega)
    clear hb ha HI
    go_wp2_with fail
    go_ret
    exact .bool HA.out.symm HB.out
  · have HB := Lib.hid hb
    have HA := Lib.hid ha
    clear hb ha HI
    go_wp2_with fail
    go_ret
    exact .bool HA.out.symm HB.out
set_option maxHeartbeats 4000000 in
theorem clone_any (A : Option Addr) (n c : Nat) (xs : List T) (w : World) (hX : Tms w A n c xs) (hlim : n * 40 ≤ 140737488355328) :
    Calls Try.prog 51 #[.slice A n c] w (GivesTms xs w) := by
  have HX := Lib.hid hX
  have LX := Lib.hid hX.len
  have e1 := fun (a : Option Addr) (l k : Nat) (W : World) => Lib.run_eql_slice_nil W 33 28 a l k 0 0 Try.underlying33
  rcases A with _ | ad
  · have hn0 : n = 0 := by
      rcases Nat.eq_zero_or_pos n with h | h
      · exact h
      · obtain ⟨b, off, h1, _⟩ := hX.at_ h; cases h1
    subst hn0
    have HN := Lib.hid (show xs = [] from List.eq_nil_of_length_eq_zero hX.len)
    clear hX
    go_enter Try.func51, Try.ntmps51
    go_wp2_with fail
    all_goals
      go_ret
      exact ⟨_, rfl, by rw [HN.out]; exact World.ownsRow_nil _ _ _ _, Below.refl _ _⟩
  · clear hX
    go_enter Try.func51, Try.ntmps51
    have HO := Lib.hid (show (w.alloc (.cells #[] 28)).ownsRow w.heap.size 28 5 (.slice (some ⟨w.heap.size, 0, none⟩) 0 0) ([] : List T).length (recT []) from
      ⟨rfl, .inr ⟨w.heap.size, 0, _, rfl, Nat.le_refl _, heap_alloc_new w _, Nat.zero_le _, Nat.zero_le _, by simp, by simp [recT]⟩⟩)
    have HB := Lib.hid (below_new w (.cells #[] 28))
    have HX1 := Lib.hid (HX.out.below At.stays HB.out)
    go_wp2_with (at_builtin; refine own_append_tms (W := w.alloc (.cells #[] 28)) rfl (.tmp 5) (.tmp 6) 33 28 rfl Try.underlying33 infoT w.heap.size (.slice (some ⟨w.heap.size, 0, none⟩) 0 0) [] (some ad) n c xs rfl rfl HO.out HX1.out (by simp; omega) HB.out.size ?_; intro v1 w1 hown hgr hat)
    have HB1 := Lib.hid (HB.out.grown hgr HB.out.size (fun k hk => by cases hk; exact Nat.le_refl _))
    go_ret
    exact ⟨_, rfl, hown, HB1.out⟩
end Go.Proofs.Ytebpepjlhanopaa
