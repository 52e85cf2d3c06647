/- The walk of the statement FixedRows: it returns true, and leaves what was there as it was; for every argument that can be read. -/
import Derived.Test.YtmlfnejmagjjpaaRows
import Derived.Test.YtmlfnejmagjjpaaWords
import Derived.Test.YtmlfnejmagjjpaaElems
import Derived.Test.YtmlfnejmagjjpaaFxPlain
import Derived.Test.YtmlfnejmagjjpaaA12
namespace Go.Proofs.Ytmlfnejmagjjpaa
open Go.RowKit Go.Proofs.Tail
def VR (w : World) (r : Fx.R) (vs : List Value) : Prop := ∃ A n c, vs = [.int .i64 r.x, .int .i64 r.y, .slice A n c] ∧ Ints w A n c r.need
theorem VR.rd {w W : World} (hb : Below w.heap.size w W) : ∀ b o x vs, VR w x vs → (∀ i v, vs[i]? = some v → W.cell? ⟨b, o + i, none⟩ = some v) → RRule W b o x := by
  rintro b o x vs ⟨A, n, c, rfl, h⟩ hc
  exact ⟨A, n, c, hc 0 _ rfl, hc 1 _ rfl, hc 2 _ rfl, h.below RInt.stays hb⟩
theorem VR.of {w : World} : ∀ b o x, RRule w b o x → ∃ vs, VR w x vs ∧ vs.length = 3 ∧ (∀ i v, vs[i]? = some v → w.cell? ⟨b, o + i, none⟩ = some v) ∧ ∀ u ∈ vs, u.oneCell' = true := by
  rintro b o x ⟨A, n, c, h0, h1, h2, h3⟩
  refine ⟨_, ⟨A, n, c, rfl, h3⟩, rfl, fun i v hi => ?_, by intro u hu; simp at hu; rcases hu with rfl | rfl | rfl <;> rfl⟩
  match i, hi with
  | 0, hi => obtain rfl := Option.some.inj hi; exact h0
  | 1, hi => obtain rfl := Option.some.inj hi; exact h1
  | 2, hi => obtain rfl := Option.some.inj hi; exact h2
  | i + 3, hi => simp at hi
theorem Try.info35 : (Try.prog.info? 35).map (fun i => (i.zero, i.size, i.bytes)) = some (some (.agg #[.int .i64 0, .int .i64 0, .slice none 0 0]), 3, 40) := by kernel_rfl
theorem any_of_mem {α : Type} (p : α → Bool) {xs ys : List α} (h : ∀ r, r ∈ xs ↔ r ∈ ys) : xs.any p = ys.any p := by
  rw [Bool.eq_iff_iff, List.any_eq_true, List.any_eq_true]
  exact ⟨fun ⟨x, h1, h2⟩ => ⟨x, (h x).1 h1, h2⟩, fun ⟨x, h1, h2⟩ => ⟨x, (h x).2 h1, h2⟩⟩
theorem mayE_mem {tops : List Int} {xs ys : List Fx.R} (h : ∀ r, r ∈ xs ↔ r ∈ ys) (hx : xs.length ≤ 1000) (hy : ys.length ≤ 1000) : mayE tops xs = mayE tops ys := by
  unfold mayE
  rw [any_of_mem longB h, any_of_mem (outB tops.length) h]
  have h1 : ¬ 200000 < xs.length := by omega
  have h2 : ¬ 200000 < ys.length := by omega
  simp only [h1, h2, false_or]
theorem Ans.mem {tops : List Int} {xs ys : List Fx.R} (h : ∀ r, r ∈ xs ↔ r ∈ ys) (hx : xs.length ≤ 1000) (hy : ys.length ≤ 1000) {a b : List Int} (ha : Ans tops xs a) (hb : Ans tops ys b) : a = b := by
  have e := mayE_mem (tops := tops) h hx hy
  by_cases hE : mayE tops xs = 0
  · exact Fx.great_same (ha.2 hE) (hb.2 (e ▸ hE)) h
  · rw [ha.1 hE, hb.1 (e ▸ hE)]
set_option maxRecDepth 100000 in
set_option maxHeartbeats 1600000 in
theorem law_rows (A A0 : Option Addr) (n c n0 c0 : Nat) (rules : List Fx.R) (tops : List Int) (turn : Int) (w : World) (h : Rules w A n c rules) (h0 : Ints w A0 n0 c0 tops) :
    Calls Try.prog 6 #[.slice A0 n0 c0, .slice A n c, .int .i64 turn] w (Gives (.bool true) w) := by
  have HF := Lib.hid (few_any A0 A n0 n c0 c rules 30 w h)
  have hmm := h.big
  go_enter Try.func6, Try.ntmps6
  go_wp2_with fail
  refine HF.out.mono ?_
  rintro e wa ⟨b, rfl, hq, hba⟩
  have BA := Lib.hid hba
  clear hba
  cases b with
  | false =>
    go_wp2_with fail
    refine (works_any _).mono ?_
    rintro e wb ⟨rfl, hbb⟩
    have BB := Lib.hid (below_then BA.out hbb)
    clear hbb
    go_wp2
    go_ret
    exact .bool rfl BB.out
  | true =>
    obtain ⟨f1, f2, f3⟩ := hq rfl
    clear f3 hq HF
    by_cases hn : n = 0
    · have t0 : ((n : Int) == 0) = true := by simp [hn]
      clear hn
      go_wp2_with fail
      refine (works_any _).mono ?_
      rintro e wb ⟨rfl, hbb⟩
      have BB := Lib.hid (below_then BA.out hbb)
      clear hbb
      go_wp2
      go_ret
      exact .bool rfl BB.out
    · have t0 : ((n : Int) == 0) = false := by simp; omega
      have hn0 : 0 < n := by omega
      clear hn
      go_wp2_with fail
      refine (pick_any turn n wa (by omega) (by omega)).mono ?_
      rintro e wb ⟨k, rfl, ⟨k0, k1⟩, hbb⟩
      have BB := Lib.hid (below_then BA.out hbb)
      clear hbb
      go_wp2
      go_loopw [8, 9] (fun v i wr => ∃ (j : Int) (xs : List Fx.R) (cs : List Value), i = .int .i64 j ∧ -1 ≤ j ∧ j < n ∧ Hid ((xs.length : Int) = n - 1 - j) ∧ Hid (∀ r ∈ xs, r ∈ rules) ∧ Hid (∀ m : Int, j < m → m < n → ∀ r, rules[((m + k) % n).toNat]? = some r → r ∈ xs) ∧ Hid (wr.ownsRow w.heap.size 35 3 v xs.length cs) ∧ Hid (Cells 3 (VR w) cs xs) ∧ Hid (Below w.heap.size w wr)) (fun _ i _ => (intOf i + 1).toNat)
      case atStart =>
        exact ⟨_, [], [], rfl, by omega, by omega, (show ((0 : Nat) : Int) = _ from by omega), (show Hid _ from by intro r hr; cases hr), (show Hid _ from fun m h1 h2 => absurd h2 (by omega)), World.ownsRow_nil _ _ _ _, Cells.nil _ _, BB⟩
      case round =>
        obtain ⟨j, xs, cs, rfl, j0, j1, HL, HM, HC, HO, HV, HB⟩ := hrel
        by_cases hj : 0 ≤ j
        · have hmod : 0 ≤ (j + k) % n := Int.emod_nonneg _ (by omega)
          have hmod2 : (j + k) % n < n := Int.emod_lt_of_pos _ (by omega)
          obtain ⟨bb, off, r, e, hx, A1, n1, c1, e1, e2, e3, h2⟩ := h.elem (j := ((j + k) % n).toNat) (by omega)
          subst e
          have Hx := Lib.hid hx
          have HR := Lib.hid h2
          have e1' := below_cell HB.out e1
          have e2' := below_cell HB.out e2
          have e3' := below_cell HB.out e3
          have hl := HL.out
          clear hx h2 e1 e2 e3
          go_wp2_with (at_builtin; refine own_append_one rfl _ _ 23 35 _ 3 40 rfl Try.underlying23 Try.info35 rfl (by omega) (by omega) w.heap.size u8 xs.length cs 1 [.int .i64 r.x, .int .i64 r.y, .slice A1 n1 c1] rfl rfl HO.out rfl (by simp [Value.oneCell']) (by omega) HB.out.size ?_; intro v1 w1 hown hg _)
          have HO1 := Lib.hid hown
          have HB1 := Lib.hid (below_grown HB.out hg (own_lt HO.out))
          clear hown hg hl
          go_wp2
          go_roundw
          case measure => simp [intOf]; omega
          case rel =>
            refine ⟨j - 1, xs ++ [r], _, rfl, by omega, by omega, (show Hid _ from ?_), (show Hid _ from fun s hs => ?_), (show Hid _ from fun m h1 h2 s hs => ?_), (show Hid _ from by rw [List.length_append]; exact HO1.out), (show Hid _ from HV.out.snoc ⟨A1, n1, c1, rfl, HR.out⟩ rfl), HB1⟩
            · have := HL.out
              show ((xs ++ [r]).length : Int) = n - 1 - (j - 1)
              rw [List.length_append]
              simp
              omega
            · rcases List.mem_append.1 hs with hs | hs
              · exact HM.out s hs
              · obtain rfl := List.mem_singleton.1 hs
                exact List.mem_of_getElem? Hx.out
            · rcases Int.lt_or_le j m with h3 | h3
              · exact List.mem_append_left _ (HC.out m h3 h2 s hs)
              · have : m = j := by omega
                subst this
                rw [Hx.out] at hs
                obtain rfl := Option.some.inj hs
                exact List.mem_append_right _ (List.mem_singleton.2 rfl)
        · have hjm : j = -1 := by omega
          obtain ⟨bb, off, r, e, hx, A1, n1, c1, e1, e2, e3, h2⟩ := h.elem (j := k.toNat) (by omega)
          subst e
          have Hx := Lib.hid hx
          have HR := Lib.hid h2
          have e1' := below_cell HB.out e1
          have e2' := below_cell HB.out e2
          have e3' := below_cell HB.out e3
          have hxl : xs.length = n := by have := HL.out; omega
          have HXL := Lib.hid hxl
          rw [hxl] at HO
          have HMEM : Hid (∀ s, s ∈ rules ↔ s ∈ xs ++ [r]) := Lib.hid (fun s => ⟨fun hs => by
            obtain ⟨m, hm, rfl⟩ := List.getElem_of_mem hs
            have hmn : m < n := by rw [← h.len]; exact hm
            apply List.mem_append_left
            refine HC.out (((m : Int) + n - k) % n) ?_ (Int.emod_lt_of_pos _ (by omega)) _ ?_
            · have := Int.emod_nonneg ((m : Int) + n - k) (show (n : Int) ≠ 0 by omega); omega
            · rw [Int.emod_add_emod, show (m : Int) + n - k + k = m + n by omega, Int.add_emod_right, Int.emod_eq_of_lt (by omega) (by omega), Int.toNat_natCast]
              exact List.getElem?_eq_getElem hm, fun hs => by
            rcases List.mem_append.1 hs with hs | hs
            · exact HM.out s hs
            · obtain rfl := List.mem_singleton.1 hs
              exact List.mem_of_getElem? Hx.out⟩)
          clear hx h2 e1 e2 e3 hjm hxl
          go_wp2_with (at_builtin; refine own_append_one rfl _ _ 23 35 _ 3 40 rfl Try.underlying23 Try.info35 rfl (by omega) (by omega) w.heap.size u8 n cs 1 [.int .i64 r.x, .int .i64 r.y, .slice A1 n1 c1] rfl rfl HO.out rfl (by simp [Value.oneCell']) (by omega) HB.out.size ?_; intro v1 w1 hown hg _)
          have HB1 := Lib.hid (below_grown HB.out hg (own_lt HO.out))
          obtain ⟨Ao, co, rfl, hRo⟩ := own_rd hown (by rw [List.length_append, HXL.out]; rfl) (by omega) (HV.out.snoc ⟨A1, n1, c1, rfl, HR.out⟩ rfl) (VR.rd HB1.out)
          have HRO := Lib.hid hRo
          clear hown hg hRo HO e1' e2' e3'
          go_wp2_with fail
          refine (solve_any _ _ _ _ _ _ rules tops _ (h.below RRule.stays HB1.out) (h0.below RInt.stays HB1.out)).mono ?_
          intro e w2 hq
          obtain ⟨v2, la, rfl, hb2, ho2, ha2, hm2⟩ := hq.form
          have B2 := Lib.hid (below_then HB1.out hb2)
          have B12 := Lib.hid hb2
          have O2 := Lib.hid ho2
          have AN := Lib.hid ha2
          have RO2 := Lib.hid (HRO.out.below RRule.stays hb2)
          clear hq hb2 ho2 ha2 HRO
          go_wp2_with fail
          refine (solve_any _ _ _ _ _ _ (xs ++ [r]) tops _ RO2.out (h0.below RInt.stays B2.out)).mono ?_
          intro e w3 hq
          obtain ⟨v3, lb, rfl, hb3, ho3, ha3, hm3⟩ := hq.form
          have B3 := Lib.hid (below_then B2.out hb3)
          have O2' := Lib.hid (own_below O2.out hb3)
          have O3 := Lib.hid ho3
          have hlen1 : rules.length ≤ 1000 := by rw [h.len]; omega
          have hlen2 : (xs ++ [r]).length ≤ 1000 := by rw [List.length_append, HXL.out]; simp; omega
          obtain rfl := Ans.mem HMEM.out hlen1 hlen2 AN.out ha3
          have hE := mayE_mem (tops := tops) HMEM.out hlen1 hlen2
          rw [← hE]
          clear hq hb3 ho3 ha3 B12 O2 RO2 B2 hE hlen1 hlen2
          obtain ⟨A2, c2, rfl, hI2⟩ := own_ints O2'.out (by omega)
          obtain ⟨A3, c3, rfl, hI3⟩ := own_ints O3.out (by omega)
          have HI2 := Lib.hid hI2
          have HI3 := Lib.hid hI3
          clear hI2 hI3
          generalize mayE tops rules = me at *
          have t1 : (me == me) = true := by simp
          go_wp2_with fail
          refine (same_any _ _ _ _ _ _ la la _ HI2.out HI3.out).mono ?_
          intro e w4 hq
          obtain ⟨rfl, hb4⟩ := same_yes hq rfl
          have B4 := Lib.hid (below_then B3.out hb4)
          clear hq hb4
          go_wp2_with fail
          refine (works_any _).mono ?_
          rintro e w5 ⟨rfl, hb5⟩
          have B5 := Lib.hid (below_then B4.out hb5)
          clear hb5
          go_wp2
          go_ret
          exact .bool rfl B5.out
end Go.Proofs.Ytmlfnejmagjjpaa
