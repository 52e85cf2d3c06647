/- Contracts of slices.IndexFunc and ContainsFunc at rules and ints, for every predicate that leaves old memory as it was, and of the predicates themselves. -/
import Derived.Test.YtmlfnejmagjjpaaRows
import Derived.Test.YtmlfnejmagjjpaaWords
import Derived.Test.YtmlfnejmagjjpaaFxPlain
import Derived.Test.YtmlfnejmagjjpaaA5
namespace Go.Proofs.Ytmlfnejmagjjpaa
open Go.RowKit Go.Proofs.Tail

def AnyQ (q : Bool) (i : Int) : Prop := 0 ≤ i ↔ q = true
theorem any_take_snoc {α : Type} (p : α → Bool) (xs : List α) (h : ∀ x ∈ xs, p x = false) : xs.any p = false := by
  rw [List.any_eq_false]; intro x hx; rw [h x hx]; exact Bool.false_ne_true

set_option maxHeartbeats 400000 in
theorem index_rule (g : Nat) (cb : Array Value) (p : Fx.R → Bool) (A : Option Addr) (n c : Nat) (xs : List Fx.R) (w : World) (h : Rules w A n c xs)
    (eg : ∀ args w, (callFunc g args).run Try.prog w = .ok (.enter g args) w)
    (hp : ∀ W x A n c, Below w.heap.size w W → x ∈ xs → Ints W A n c x.need → Calls Try.prog g (#[.agg #[.int .i64 x.x, .int .i64 x.y, .slice A n c]] ++ cb) W (Gives (.bool (p x)) W)) :
    Calls Try.prog 31 #[.slice A n c, .func (.func g) #[] cb] w (GivesI (AnyQ (xs.any p)) w) := by
  have hm := h.big
  go_enter Try.func31, Try.ntmps31
  go_wp2
  go_loopw [5, 8] (fun _ i wr => ∃ k : Nat, k ≤ n ∧ i = .int .i64 k ∧ Hid (Below w.heap.size w wr) ∧ Hid (∀ j x, j < k → xs[j]? = some x → p x = false)) (fun _ i _ => n - (intOf i).toNat)
  case atStart => exact ⟨0, Nat.zero_le _, rfl, Below.refl _ _, fun j _ h => absurd h (Nat.not_lt_zero _)⟩
  case round =>
    obtain ⟨k, hk, rfl, HB, HP⟩ := hrel
    by_cases hlt : k < n
    · obtain ⟨b, off, x, rfl, hx, A1, n1, c1, e1, e2, e3, h1⟩ := (h.below RRule.stays HB.out).elem hlt
      have hcall := Lib.hid (hp wr x A1 n1 c1 HB.out (List.mem_of_getElem? hx) h1)
      have hx := Lib.hid hx
      clear hp h1
      cases hq : p x with
      | true =>
        rw [hq] at hcall
        have hq := Lib.hid hq
        go_wp2_with (go_at_fn g; refine hcall.out.mono ?_; rintro e w' ⟨rfl, hb'⟩)
        go_ret
        refine ⟨_, rfl, ⟨fun _ => ?_, fun _ => by omega⟩, below_then HB.out hb'⟩
        rw [List.any_eq_true]
        exact ⟨x, List.mem_of_getElem? hx.out, hq.out⟩
      | false =>
        rw [hq] at hcall
        have hq := Lib.hid hq
        go_wp2_with (go_at_fn g; refine hcall.out.mono ?_; rintro e w' ⟨rfl, hb'⟩)
        go_roundw
        case rel =>
          refine ⟨k + 1, by omega, by go_num, (show Hid _ from below_then HB.out hb'), fun j y hj hy => ?_⟩
          rcases Nat.lt_or_eq_of_le (Nat.le_of_lt_succ hj) with h | h
          · exact HP.out j y h hy
          · subst h
            rw [hx.out] at hy
            obtain rfl := Option.some.inj hy
            exact hq.out
        case measure => simp [intOf]; omega
    · clear hp
      go_wp2
      go_ret
      refine ⟨_, rfl, ⟨fun h => absurd h (by omega), fun hq => ?_⟩, HB.out⟩
      rw [any_take_snoc p xs (fun x hx => by
        obtain ⟨j, hj, rfl⟩ := List.getElem_of_mem hx
        exact HP.out j _ (by have := h.len; omega) (List.getElem?_eq_getElem hj))] at hq
      cases hq
set_option maxHeartbeats 400000 in
theorem index_int (g : Nat) (cb : Array Value) (p : Int → Bool) (A : Option Addr) (n c : Nat) (xs : List Int) (w : World) (h : Ints w A n c xs)
    (eg : ∀ args w, (callFunc g args).run Try.prog w = .ok (.enter g args) w)
    (hp : ∀ W x, Below w.heap.size w W → x ∈ xs → Calls Try.prog g (#[.int .i64 x] ++ cb) W (Gives (.bool (p x)) W)) :
    Calls Try.prog 32 #[.slice A n c, .func (.func g) #[] cb] w (GivesI (AnyQ (xs.any p)) w) := by
  have hm := h.big
  go_enter Try.func32, Try.ntmps32
  go_wp2
  go_loopw [5, 8] (fun _ i wr => ∃ k : Nat, k ≤ n ∧ i = .int .i64 k ∧ Hid (Below w.heap.size w wr) ∧ Hid (∀ j x, j < k → xs[j]? = some x → p x = false)) (fun _ i _ => n - (intOf i).toNat)
  case atStart => exact ⟨0, Nat.zero_le _, rfl, Below.refl _ _, fun j _ h => absurd h (Nat.not_lt_zero _)⟩
  case round =>
    obtain ⟨k, hk, rfl, HB, HP⟩ := hrel
    by_cases hlt : k < n
    · obtain ⟨b, off, x, rfl, hx, e1⟩ := (h.below RInt.stays HB.out).elem hlt
      unfold RInt at e1
      rw [Nat.mul_one] at e1
      have hcall := Lib.hid (hp wr x HB.out (List.mem_of_getElem? hx))
      have hx := Lib.hid hx
      clear hp
      cases hq : p x with
      | true =>
        rw [hq] at hcall
        have hq := Lib.hid hq
        go_wp2_with (go_at_fn g; refine hcall.out.mono ?_; rintro e w' ⟨rfl, hb'⟩)
        go_ret
        refine ⟨_, rfl, ⟨fun _ => ?_, fun _ => by omega⟩, below_then HB.out hb'⟩
        rw [List.any_eq_true]
        exact ⟨x, List.mem_of_getElem? hx.out, hq.out⟩
      | false =>
        rw [hq] at hcall
        have hq := Lib.hid hq
        go_wp2_with (go_at_fn g; refine hcall.out.mono ?_; rintro e w' ⟨rfl, hb'⟩)
        go_roundw
        case rel =>
          refine ⟨k + 1, by omega, by go_num, (show Hid _ from below_then HB.out hb'), fun j y hj hy => ?_⟩
          rcases Nat.lt_or_eq_of_le (Nat.le_of_lt_succ hj) with h | h
          · exact HP.out j y h hy
          · subst h
            rw [hx.out] at hy
            obtain rfl := Option.some.inj hy
            exact hq.out
        case measure => simp [intOf]; omega
    · clear hp
      go_wp2
      go_ret
      refine ⟨_, rfl, ⟨fun h => absurd h (by omega), fun hq => ?_⟩, HB.out⟩
      rw [any_take_snoc p xs (fun x hx => by
        obtain ⟨j, hj, rfl⟩ := List.getElem_of_mem hx
        exact HP.out j _ (by have := h.len; omega) (List.getElem?_eq_getElem hj))] at hq
      cases hq
set_option maxHeartbeats 400000 in
theorem contains_rule (g : Nat) (cb : Array Value) (p : Fx.R → Bool) (A : Option Addr) (n c : Nat) (xs : List Fx.R) (w : World) (h : Rules w A n c xs)
    (eg : ∀ args w, (callFunc g args).run Try.prog w = .ok (.enter g args) w)
    (hp : ∀ W x A n c, Below w.heap.size w W → x ∈ xs → Ints W A n c x.need → Calls Try.prog g (#[.agg #[.int .i64 x.x, .int .i64 x.y, .slice A n c]] ++ cb) W (Gives (.bool (p x)) W)) :
    Calls Try.prog 23 #[.slice A n c, .func (.func g) #[] cb] w (Gives (.bool (xs.any p)) w) := by
  have H := Lib.hid (index_rule g cb p A n c xs w h eg hp)
  clear hp eg
  go_enter Try.func23, Try.ntmps23
  go_wp2_with (go_at_call 31; refine H.out.mono ?_; rintro e w' ⟨i, rfl, hi, hb'⟩)
  go_ret
  refine .bool ?_ hb'
  unfold AnyQ at hi
  rw [Bool.eq_iff_iff, decide_eq_true_eq]
  exact hi
set_option maxHeartbeats 400000 in
theorem contains_int (g : Nat) (cb : Array Value) (p : Int → Bool) (A : Option Addr) (n c : Nat) (xs : List Int) (w : World) (h : Ints w A n c xs)
    (eg : ∀ args w, (callFunc g args).run Try.prog w = .ok (.enter g args) w)
    (hp : ∀ W x, Below w.heap.size w W → x ∈ xs → Calls Try.prog g (#[.int .i64 x] ++ cb) W (Gives (.bool (p x)) W)) :
    Calls Try.prog 28 #[.slice A n c, .func (.func g) #[] cb] w (Gives (.bool (xs.any p)) w) := by
  have H := Lib.hid (index_int g cb p A n c xs w h eg hp)
  clear hp eg
  go_enter Try.func28, Try.ntmps28
  go_wp2_with (go_at_call 32; refine H.out.mono ?_; rintro e w' ⟨i, rfl, hi, hb'⟩)
  go_ret
  refine .bool ?_ hb'
  unfold AnyQ at hi
  rw [Bool.eq_iff_iff, decide_eq_true_eq]
  exact hi
/-! the closures -/
def longB (r : Fx.R) : Bool := decide (1000 < r.need.length)
set_option maxHeartbeats 400000 in
theorem long_any (x y : Int) (A : Option Addr) (n c : Nat) (need : List Int) (w : World) (h : Ints w A n c need) :
    Calls Try.prog 26 #[.agg #[.int .i64 x, .int .i64 y, .slice A n c]] w (Gives (.bool (longB ⟨x, y, need⟩)) w) := by
  have hl := Lib.hid h.len
  go_enter Try.func26, Try.ntmps26
  go_wp2
  go_ret
  refine .bool ?_ (below_new _ _)
  unfold longB
  rw [hl.out, Bool.eq_iff_iff, decide_eq_true_eq, decide_eq_true_eq]
  omega
def wrongB (n : Int) : Bool := decide (n < 0 ∨ 1000 < n)
theorem wrong_any (n : Int) (w : World) :
    Calls Try.prog 27 #[.int .i64 n] w (Gives (.bool (wrongB n)) w) := by
  go_enter Try.func27, Try.ntmps27
  go_wp2
  all_goals
    go_ret
    refine .bool ?_ (Below.refl _ _)
    unfold wrongB
    first
    | (rw [eq_comm, decide_eq_true_eq]; omega)
    | (rw [Bool.eq_iff_iff]; simp only [Bool.or_eq_true, decide_eq_true_eq])
def outB (n : Nat) (r : Fx.R) : Bool := !inB r.x r.y n
set_option maxHeartbeats 400000 in
theorem out_any (x y : Int) (sv : Value) (need : List Int) (B : Nat) (A0 : Option Addr) (n0 c0 : Nat) (w : World) (hc : w.cell? ⟨B, 0, none⟩ = some (.slice A0 n0 c0)) :
    Calls Try.prog 29 #[.agg #[.int .i64 x, .int .i64 y, sv], .pointer (some ⟨B, 0, none⟩)] w (Gives (.bool (outB n0 ⟨x, y, need⟩)) w) := by
  have hc' := below_cell (below_new w (.cells #[.int .i64 x, .int .i64 y, sv] 35)) hc
  clear hc
  go_enter Try.func29, Try.ntmps29
  go_wp2_with (go_at_call 25; refine (in_any _ _ _ _ _).mono ?_; rintro e w' ⟨rfl, hb'⟩)
  go_ret
  exact .bool rfl (below_then (below_new _ _) hb')
end Go.Proofs.Ytmlfnejmagjjpaa
