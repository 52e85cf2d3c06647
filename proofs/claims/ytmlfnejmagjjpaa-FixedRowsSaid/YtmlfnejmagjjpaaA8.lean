/- Contracts of the reference's May and holds, and of the statement's plain (at most 2^41 rules). -/
import Derived.Test.YtmlfnejmagjjpaaRows
import Derived.Test.YtmlfnejmagjjpaaWords
import Derived.Test.YtmlfnejmagjjpaaFxPlain
import Derived.Test.YtmlfnejmagjjpaaA7
namespace Go.Proofs.Ytmlfnejmagjjpaa
open Go.RowKit Go.Proofs.Tail

theorem any_false_of {α : Type} (p : α → Bool) (xs : List α) (n : Nat) (hn : xs.length = n) (h : ∀ j x, j < n → xs[j]? = some x → p x = false) : xs.any p = false :=
  any_take_snoc p xs fun x hx => by
    obtain ⟨j, hj, rfl⟩ := List.getElem_of_mem hx
    exact h j _ (by omega) (List.getElem?_eq_getElem hj)
theorem any_true_of {α : Type} (p : α → Bool) (xs : List α) (j : Nat) (x : α) (h : xs[j]? = some x) (hp : p x = true) : xs.any p = true := by
  rw [List.any_eq_true]; exact ⟨x, List.mem_of_getElem? h, hp⟩
theorem upto_succ {α : Type} {p : α → Bool} {xs : List α} {k : Nat} {x : α} (hx : xs[k]? = some x) (hp : p x = false) (h : ∀ j x, j < k → xs[j]? = some x → p x = false) : ∀ j x, j < k + 1 → xs[j]? = some x → p x = false := by
  intro j y hj hy
  rcases Nat.lt_or_eq_of_le (Nat.le_of_lt_succ hj) with h1 | h1
  · exact h j y h1 hy
  · subst h1
    rw [hx] at hy
    obtain rfl := Option.some.inj hy
    exact hp

set_option maxHeartbeats 800000 in
theorem refmay_any (A A0 : Option Addr) (n c n0 c0 : Nat) (rules : List Fx.R) (tops : List Int) (w : World) (h : Rules w A n c rules) (h0 : Ints w A0 n0 c0 tops) :
    Calls Try.prog 21 #[.slice A0 n0 c0, .slice A n c] w (Gives (.int .i64 (mayE tops rules)) w) := by
  have hm := h.big
  have hm0 := h0.big
  have hE : Hid (mayE tops rules = if 4096 < n0 ∨ 200000 < n ∨ rules.any longB = true then 3
    else if tops.any wrongB = true ∨ rules.any (outB n0) = true then 2 else 0) := Lib.hid (by unfold mayE; rw [h.len, h0.len])
  by_cases g : n0 ≤ 4096 ∧ n ≤ 200000
  · obtain ⟨g0, g1⟩ := g
    have t0 : decide ((4096 : Int) < (n0 : Int)) = false := by simp; omega
    have t1 : decide ((200000 : Int) < (n : Int)) = false := by simp; omega
    go_enter Try.func21, Try.ntmps21
    go_wp2
    go_loop [5] (fun i => ∃ k : Nat, k ≤ n ∧ i = .int .i64 k ∧ Hid (∀ j r, j < k → rules[j]? = some r → longB r = false)) (fun i => n - (intOf i).toNat)
    case atStart => exact ⟨0, Nat.zero_le _, rfl, fun j _ h => absurd h (Nat.not_lt_zero _)⟩
    case round =>
      obtain ⟨k, hk, rfl, H⟩ := hrel
      by_cases hlt : k < n
      · obtain ⟨b, off, r, rfl, hx, A1, n1, c1, e1, e2, e3, h2⟩ := h.elem hlt
        have hl := Lib.hid h2.len
        have Hx := Lib.hid hx
        clear hx h2
        by_cases g2 : (1000 : Int) < n1
        · have HQ := Lib.hid (show mayE tops rules = 3 by
            rw [hE.out, if_pos (.inr (.inr (any_true_of _ _ k r Hx.out (by unfold longB; rw [hl.out, decide_eq_true_eq]; omega))))])
          go_wp2
          go_ret
          exact .int HQ.out.symm (Below.refl _ _)
        · have HQ := Lib.hid (show longB r = false by unfold longB; rw [hl.out, decide_eq_false_iff_not]; omega)
          go_wp2
          go_round
          case rel => exact ⟨k + 1, by omega, by go_num, upto_succ Hx.out HQ.out H.out⟩
          case measure => simp [intOf]; omega
      · have HL := Lib.hid (any_false_of longB rules n h.len fun j x hj hx => H.out j x (by omega) hx)
        clear H
        go_wp2
        go_loop [6] (fun i => ∃ k : Nat, k ≤ n0 ∧ i = .int .i64 k ∧ Hid (∀ j x, j < k → tops[j]? = some x → wrongB x = false)) (fun i => n0 - (intOf i).toNat)
        case atStart => exact ⟨0, Nat.zero_le _, rfl, fun j _ h => absurd h (Nat.not_lt_zero _)⟩
        case round =>
          obtain ⟨k', hk', rfl, H⟩ := hrel
          by_cases hlt' : k' < n0
          · obtain ⟨b, off, x, rfl, hx, e1⟩ := h0.elem hlt'
            unfold RInt at e1
            rw [Nat.mul_one] at e1
            have Hx := Lib.hid hx
            clear hx
            by_cases g2 : x < 0 ∨ 1000 < x
            · have HQ := Lib.hid (show mayE tops rules = 2 by
                rw [hE.out, if_neg (by rw [HL.out]; simp; omega), if_pos (.inl (any_true_of _ _ k' x Hx.out (by unfold wrongB; rw [decide_eq_true_eq]; exact g2)))])
              by_cases g3 : x < 0
              · clear g2
                have t3 : decide (x < 0) = true := by simpa using g3
                go_wp2
                all_goals
                  go_ret
                  exact .int HQ.out.symm (by repeat (first | exact Below.refl _ _ | refine below_drew ?_ | refine below_drewN ?_ _))
              · have g4 : 1000 < x := by omega
                have t3 : decide (x < 0) = false := by simpa using g3
                have t4 : decide (1000 < x) = true := by simpa using g4
                clear g2
                go_wp2
                all_goals
                  go_ret
                  exact .int HQ.out.symm (by repeat (first | exact Below.refl _ _ | refine below_drew ?_ | refine below_drewN ?_ _))
            · have HQ := Lib.hid (show wrongB x = false by unfold wrongB; rw [decide_eq_false_iff_not]; exact g2)
              have t3 : decide (x < 0) = false := by simp; omega
              have t4 : decide (1000 < x) = false := by simp; omega
              clear g2
              go_wp2
              go_round
              case rel => exact ⟨k' + 1, by omega, by go_num, upto_succ Hx.out HQ.out H.out⟩
              case measure => simp [intOf]; omega
          · have HT := Lib.hid (any_false_of wrongB tops n0 h0.len fun j x hj hx => H.out j x (by omega) hx)
            clear H
            go_wp2
            go_loopw [7] (fun i wr => ∃ k : Nat, k ≤ n ∧ i = .int .i64 k ∧ Hid (Below w.heap.size w wr) ∧ Hid (∀ j r, j < k → rules[j]? = some r → outB n0 r = false)) (fun i _ => n - (intOf i).toNat)
            case atStart => exact ⟨0, Nat.zero_le _, rfl, Below.refl _ _, fun j _ h => absurd h (Nat.not_lt_zero _)⟩
            case round =>
              obtain ⟨k2, hk2, rfl, HB, H⟩ := hrel
              by_cases hlt2 : k2 < n
              · obtain ⟨b, off, r, rfl, hx, A1, n1, c1, e1, e2, e3, h2⟩ := (h.below RRule.stays HB.out).elem hlt2
                have Hx := Lib.hid hx
                clear hx h2 e3
                have hin1 := refin_any r.x n0
                have hin2 := refin_any r.y n0
                by_cases g3 : 0 ≤ r.x ∧ r.x < n0
                · rw [show in1 r.x n0 = true by unfold in1; rw [decide_eq_true_eq]; exact g3] at hin1
                  by_cases g4 : 0 ≤ r.y ∧ r.y < n0
                  · rw [show in1 r.y n0 = true by unfold in1; rw [decide_eq_true_eq]; exact g4] at hin2
                    have HQ := Lib.hid (show outB n0 r = false by unfold outB inB; rw [Bool.not_eq_false', decide_eq_true_eq]; omega)
                    have HI1 := Lib.hid hin1
                    have HI2 := Lib.hid hin2
                    clear hin1 hin2 g3 g4
                    go_wp2_with fail
                    refine (HI1.out _).mono ?_
                    rintro e w' ⟨rfl, rfl⟩
                    go_wp2_with fail
                    refine (HI2.out _).mono ?_
                    rintro e w' ⟨rfl, rfl⟩
                    go_wp2
                    go_roundw
                    case rel => exact ⟨k2 + 1, by omega, by go_num, HB, upto_succ Hx.out HQ.out H.out⟩
                    case measure => simp [intOf]; omega
                  · rw [show in1 r.y n0 = false by unfold in1; rw [decide_eq_false_iff_not]; exact g4] at hin2
                    have HQ := Lib.hid (show mayE tops rules = 2 by
                      rw [hE.out, if_neg (by rw [HL.out]; simp; omega), if_pos (.inr (any_true_of _ _ k2 r Hx.out (by unfold outB inB; rw [Bool.not_eq_true', decide_eq_false_iff_not]; omega)))])
                    have HI1 := Lib.hid hin1
                    have HI2 := Lib.hid hin2
                    clear hin1 hin2 g3 g4
                    go_wp2_with fail
                    refine (HI1.out _).mono ?_
                    rintro e w' ⟨rfl, rfl⟩
                    go_wp2_with fail
                    refine (HI2.out _).mono ?_
                    rintro e w' ⟨rfl, rfl⟩
                    go_wp2
                    go_ret
                    exact .int HQ.out.symm HB.out
                · rw [show in1 r.x n0 = false by unfold in1; rw [decide_eq_false_iff_not]; exact g3] at hin1
                  have HQ := Lib.hid (show mayE tops rules = 2 by
                    rw [hE.out, if_neg (by rw [HL.out]; simp; omega), if_pos (.inr (any_true_of _ _ k2 r Hx.out (by unfold outB inB; rw [Bool.not_eq_true', decide_eq_false_iff_not]; omega)))])
                  have HI1 := Lib.hid hin1
                  clear hin1 hin2 g3
                  go_wp2_with fail
                  refine (HI1.out _).mono ?_
                  rintro e w' ⟨rfl, rfl⟩
                  go_wp2
                  go_ret
                  exact .int HQ.out.symm HB.out
              · have HO := Lib.hid (any_false_of (outB n0) rules n h.len fun j x hj hx => H.out j x (by omega) hx)
                clear H
                go_wp2
                go_ret
                exact .int (by rw [hE.out, if_neg (by rw [HL.out]; simp; omega), if_neg (by rw [HT.out, HO.out]; simp)]) HB.out
  · have HQ := Lib.hid (show mayE tops rules = 3 by rw [hE.out, if_pos (by omega)])
    by_cases g0 : n0 ≤ 4096
    · have t0 : decide ((4096 : Int) < (n0 : Int)) = false := by simp; omega
      have t1 : decide ((200000 : Int) < (n : Int)) = true := by simp; omega
      clear g
      go_enter Try.func21, Try.ntmps21
      go_wp2
      go_ret
      exact .int HQ.out.symm (Below.refl _ _)
    · have t0 : decide ((4096 : Int) < (n0 : Int)) = true := by simp; omega
      clear g
      go_enter Try.func21, Try.ntmps21
      go_wp2
      go_ret
      exact .int HQ.out.symm (Below.refl _ _)

/-- The reference's 'holds', of a choice without negative numbers whose places are there. -/
def okB (a : List Int) (r : Fx.R) : Bool := decide (Fx.nd r.need (Fx.lk a r.x) ≤ Fx.lk a r.y)
set_option maxHeartbeats 400000 in
theorem refholds_any (x y : Int) (A : Option Addr) (n c : Nat) (need : List Int) (A0 : Option Addr) (n0 c0 : Nat) (a : List Int) (w : World)
    (h0 : Ints w A0 n0 c0 a) (h : Ints w A n c need) (hin : inB x y n0 = true) (hp : Fx.pos a) :
    Calls Try.prog 22 #[.agg #[.int .i64 x, .int .i64 y, .slice A n c], .slice A0 n0 c0] w (Gives (.bool (okB a ⟨x, y, need⟩)) w) := by
  have hn := below_new w (.cells #[.int .i64 x, .int .i64 y, .slice A n c] 46)
  have h0' := h0.below RInt.stays hn
  have h' := h.below RInt.stays hn
  have HN := Lib.hid hn
  clear hn
  have hl := Lib.hid h.len
  have hm0 := h0'.big
  have hm := h'.big
  unfold inB at hin
  rw [decide_eq_true_eq] at hin
  obtain ⟨x0, x1, y0, y1⟩ := hin
  have hpx := hp x.toNat (by rw [h0.len]; omega)
  have hpy := hp y.toNat (by rw [h0.len]; omega)
  obtain ⟨b0, off0, e, ex⟩ := h0'.int (j := x.toNat) (by omega)
  subst e
  obtain ⟨b1, off1, e, ey⟩ := h0'.int (j := y.toNat) (by omega)
  cases e
  have HB : Hid (okB a ⟨x, y, need⟩ = decide (Fx.nd need (a.getD x.toNat 0) ≤ a.getD y.toNat 0)) := Lib.hid rfl
  generalize a.getD x.toNat 0 = qx at *
  generalize a.getD y.toNat 0 = qy at *
  by_cases g0 : qx ≤ 0
  · have HQ := Lib.hid (show okB a ⟨x, y, need⟩ = true by rw [HB.out, Fx.nd_zero _ g0, decide_eq_true_eq]; exact hpy)
    have t0 : decide (qx ≤ 0) = true := by simpa using g0
    go_enter Try.func22, Try.ntmps22
    go_wp2
    all_goals
      go_ret
      exact .bool HQ.out.symm HN.out
  · have t0 : decide (qx ≤ 0) = false := by simpa using g0
    by_cases g1 : (n : Int) ≤ qx
    · have HQ := Lib.hid (show okB a ⟨x, y, need⟩ = true by rw [HB.out]; unfold Fx.nd; rw [if_neg g0, if_pos (by rw [hl.out]; exact g1), decide_eq_true_eq]; exact hpy)
      have t1 : decide ((n : Int) ≤ qx) = true := by simpa using g1
      clear g0
      go_enter Try.func22, Try.ntmps22
      go_wp2
      all_goals
        go_ret
        exact .bool HQ.out.symm HN.out
    · have t1 : decide ((n : Int) ≤ qx) = false := by simpa using g1
      obtain ⟨b2, off2, rfl, en⟩ := h'.int (j := qx.toNat) (by omega)
      have HQ : Hid (okB a ⟨x, y, need⟩ = decide (max 0 (need.getD qx.toNat 0) ≤ qy)) := Lib.hid (by
        rw [HB.out]; unfold Fx.nd; rw [if_neg g0, if_neg (by rw [hl.out]; exact g1)])
      generalize need.getD qx.toNat 0 = q at *
      have g0' : 0 < qx := by omega
      have g1' : qx < (n : Int) := by omega
      clear g0 g1
      by_cases g2 : q ≤ qy
      · have HQ2 := Lib.hid (show okB a ⟨x, y, need⟩ = true by rw [HQ.out, decide_eq_true_eq]; omega)
        have t2 : decide (q ≤ qy) = true := by simpa using g2
        go_enter Try.func22, Try.ntmps22
        clear g2
        go_wp2
        go_quiet (fail)
        go_wp2
        go_ret
        exact .bool HQ2.out.symm (below_drewN HN.out _)
      · have t2 : decide (q ≤ qy) = false := by simpa using g2
        have g2' : qy < q := by omega
        have HQ2 : Hid (okB a ⟨x, y, need⟩ = decide (q ≤ 0)) := Lib.hid (by rw [HQ.out]; rw [Bool.eq_iff_iff, decide_eq_true_eq, decide_eq_true_eq]; omega)
        clear g2
        go_enter Try.func22, Try.ntmps22
        go_wp2
        go_quiet (fail)
        go_wp2
        go_ret
        exact .bool HQ2.out.symm (below_drewN HN.out _)
/-- plain: rules, as the reference has them. -/
def PlainQ (xs : List Fx.R) (w : World) (en : Ending) (w' : World) : Prop :=
  ∃ A n c, en = .returned (.slice A n c) ∧ Rules w' A n c xs ∧ Below w.heap.size w w'
theorem Try.info46 : (Try.prog.info? 46).map (fun i => (i.zero, i.size, i.bytes)) = some (some (.agg #[.int .i64 0, .int .i64 0, .slice none 0 0]), 3, 40) := by kernel_rfl
/-- A row of rules that is being made. -/
def RuleCells (w : World) (r : Fx.R) (vs : List Value) : Prop := ∃ A n c, vs = [.int .i64 r.x, .int .i64 r.y, .slice A n c] ∧ Ints w A n c r.need
set_option maxHeartbeats 400000 in
theorem plain_any (A : Option Addr) (n c : Nat) (xs : List Fx.R) (w : World) (h : Rules w A n c xs) (hr : n * 40 ≤ 140737488355328) :
    Calls Try.prog 12 #[.slice A n c] w (PlainQ xs w) := by
  have hm := h.big
  go_enter Try.func12, Try.ntmps12
  go_wp2
  go_loopw [3, 4] (fun v i wr => ∃ k : Nat, k ≤ n ∧ i = .int .i64 k ∧ Hid (Below w.heap.size w wr) ∧ Hid (∃ cs : List Value, wr.ownsRow w.heap.size 46 3 v k cs ∧ ∀ j x, j < k → xs[j]? = some x → ∃ A1 n1 c1, cs[j * 3]? = some (.int .i64 x.x) ∧ cs[j * 3 + 1]? = some (.int .i64 x.y) ∧ cs[j * 3 + 2]? = some (.slice A1 n1 c1) ∧ Ints w A1 n1 c1 x.need)) (fun _ i _ => n - (intOf i).toNat)
  case atStart => exact ⟨0, Nat.zero_le _, rfl, Below.refl _ _, [], World.ownsRow_nil _ _ _ _, fun j x hj => absurd hj (Nat.not_lt_zero _)⟩
  case round =>
    obtain ⟨k, hk, rfl, HB, HO⟩ := hrel
    by_cases hlt : k < n
    · obtain ⟨b, off, x, rfl, hx, A1, n1, c1, e1, e2, e3, h2⟩ := h.elem hlt
      have e1' := below_cell HB.out e1
      have e2' := below_cell HB.out e2
      have e3' := below_cell HB.out e3
      have Hx := Lib.hid hx
      clear hx e2 e3
      obtain ⟨cs, hown, hcs⟩ := HO.out
      obtain ⟨i0, hi0, hz0, hz1, hz2⟩ := info_parts Try.info46
      have HI := Lib.hid hi0
      have HCS := Lib.hid hcs
      have HR := Lib.hid h2
      clear HO hcs h2 hi0
      have f1 := World.block_lt_of_cell? w _ e1
      simp only [] at f1
      have hs := HB.out.size
      go_wp2
      go_region_held3 (fun w' => w'.cell? ⟨b, off + k * 3, none⟩ = some (.int .i64 x.x) ∧ w'.cell? ⟨b, off + k * 3 + 1, none⟩ = some (.int .i64 x.y) ∧ w'.cell? ⟨b, off + k * 3 + 2, none⟩ = some (.slice A1 n1 c1))
        (first
          | go_keep
          | (go_split_ands
             refine ⟨?_, ?_, ?_⟩ <;>
             (rw [hgrow.cell_far _ (by simp; omega) (fun hh => by have : w.heap.size ≤ b := own_lt hown _ hh.symm; omega)]; assumption)))
        ((refine step_append_lies _ (by rfl) _ _ _ (by rfl) w.heap.size 46 i0 _ 3 40 Try.underlying30 HI.out hz0 hz1 hz2 rfl (by omega) u3 k cs (by rfl) ((hown.alloc _).drew)
            ⟨wr.heap.size, 0, none⟩ 1 1 [.int .i64 x.x, .int .i64 x.y, .slice A1 n1 c1] (by rfl) (by rfl) (World.news_of_block (cs := #[.int .i64 x.x, .int .i64 x.y, .slice A1 n1 c1]) (t := 46) (fr := (0, 0)) (heap_alloc_new wr _)) (by simp [Value.oneCell'])
            (by omega) (by simp only [maxLen]; omega) (by omega) (by simp; omega) (wr.heap.size + 1) (by simp) ?_; intro gg cap w1 hown1 hgrow hat hlt1))
      go_wp2
      go_roundw
      case measure => simp [intOf]; omega
      case rel =>
        refine ⟨k + 1, by omega, by go_num, (show Hid _ from below_grown (below_alloc HB.out _).drew hgrow (own_lt hown)), (show Hid _ from ⟨_, hown1, fun j y hj hy => ?_⟩)⟩
        have hlen := hown.1
        rcases Nat.lt_or_eq_of_le (Nat.le_of_lt_succ hj) with hj | hj
        · obtain ⟨A2, n2, c2, g1, g2, g3, g4⟩ := HCS.out j y hj hy
          have hlt3 : j * 3 + 2 < cs.length := by omega
          exact ⟨A2, n2, c2, by rw [List.getElem?_append_left (by omega)]; exact g1, by rw [List.getElem?_append_left (by omega)]; exact g2, by rw [List.getElem?_append_left (by omega)]; exact g3, g4⟩
        · subst hj
          rw [Hx.out] at hy
          obtain rfl := Option.some.inj hy
          refine ⟨A1, n1, c1, ?_, ?_, ?_, HR.out⟩
          · rw [List.getElem?_append_right (by omega), hlen, Nat.sub_self]; rfl
          · rw [List.getElem?_append_right (by omega), hlen, Nat.add_sub_cancel_left]; rfl
          · rw [List.getElem?_append_right (by omega), hlen, Nat.add_sub_cancel_left]; rfl
    · have : k = n := by omega
      subst this
      obtain ⟨cs, hown, hcs⟩ := HO.out
      have hbig : k ≤ 9223372036854775807 := hm
      go_wp2
      go_ret
      rcases Nat.eq_zero_or_pos k with h0 | h0
      · subst h0
        have hxs : xs = [] := List.eq_nil_of_length_eq_zero h.len
        subst hxs
        rcases hown.2 with ⟨rfl, _⟩ | ⟨g, cap, cur, rfl, _, _, h1, _⟩
        · exact ⟨none, 0, 0, rfl, Rd.nil _ _ _, HB.out⟩
        · exact ⟨_, 0, cap, rfl, ⟨rfl, h1, by omega, fun h => absurd h (Nat.lt_irrefl _)⟩, HB.out⟩
      · obtain ⟨g, cap, rfl, hg1, hg2, hg3⟩ := own_form hown h0
        refine ⟨_, k, cap, rfl, ⟨h.len, hg3, hbig, fun _ => ⟨g, 0, rfl, fun j x hj => ?_⟩⟩, HB.out⟩
        have hjk : j < k := by have := (List.getElem?_eq_some_iff.1 hj).1; have := h.len; omega
        obtain ⟨A1, n1, c1, e1, e2, e3, e4⟩ := hcs j x hjk hj
        have hc := hown.cells (g := g) rfl
        refine ⟨A1, n1, c1, ?_, ?_, ?_, e4.below RInt.stays HB.out⟩
        · have := hc _ _ e1; rw [add_plain] at this; rw [Nat.zero_add]; exact this
        · have := hc _ _ e2; rw [add_plain] at this; rw [Nat.zero_add]; exact this
        · have := hc _ _ e3; rw [add_plain] at this; rw [Nat.zero_add]; exact this
end Go.Proofs.Ytmlfnejmagjjpaa
