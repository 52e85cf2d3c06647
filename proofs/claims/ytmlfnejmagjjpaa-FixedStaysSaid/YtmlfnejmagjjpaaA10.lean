/- The contract of fixed.Solve: the greatest choice, or the document's error; for every slice that can be read. -/
import Derived.Test.YtmlfnejmagjjpaaRows
import Derived.Test.YtmlfnejmagjjpaaWords
import Derived.Test.YtmlfnejmagjjpaaFxPlain
import Derived.Test.YtmlfnejmagjjpaaA9
namespace Go.Proofs.Ytmlfnejmagjjpaa
open Go.RowKit Go.Proofs.Tail

/-- Behind the label: the choice so far. -/
def SolveI (tops : List Int) (rules : List Fx.R) (A A0 : Option Addr) (n c n0 c0 : Nat) (v : Value) (w : World) (gk : Nat) (a : Act) (wr : World) : Prop :=
  ∃ u8 u9 u10 u11 u12 u13 u14 u15 u16 u17 u18 u19 u20 u21 u22 u23 u24 u25 u26 u27 u28 u29 u30 u31 u32 u33 u34 u35 u36 u37 u38 u39 u40 u41 u42 u43 u44 u45 u46 u47 u48 u49 u50 u51 u52 u53 u54 u55 u56 u57 u58 u59 u60 u61 u62 u63 : Value, a = { tmps := #[.slice A0 n0 c0, .slice A n c, undef, undef, .slice none 0 0, .int .i64 0, .int .i64 0, v, u8, u9, u10, u11, u12, u13, u14, u15, u16, u17, u18, u19, u20, u21, u22, u23, u24, u25, u26, u27, u28, u29, u30, u31, u32, u33, u34, u35, u36, u37, u38, u39, u40, u41, u42, u43, u44, u45, u46, u47, u48, u49, u50, u51, u52, u53, u54, u55, u56, u57, u58, u59, u60, u61, u62, u63], defers := [] } ∧
    ∃ l : List Int, wr.ownsRow w.heap.size 3 1 v n0 (ints l) ∧ Below w.heap.size w wr ∧ Fx.Inv tops rules l ∧ Fx.sum l ≤ gk
set_option maxRecDepth 100000 in
set_option maxHeartbeats 3200000 in
theorem solve_any (A A0 : Option Addr) (n c n0 c0 : Nat) (rules : List Fx.R) (tops : List Int) (w : World) (h : Rules w A n c rules) (h0 : Ints w A0 n0 c0 tops) :
    Calls Try.prog 10 #[.slice A0 n0 c0, .slice A n c] w (SolveQ tops rules w) := by
  have HM := Lib.hid (may_any A A0 n c n0 c0 rules tops w h h0)
  by_cases hE : mayE tops rules = 0
  · obtain ⟨hpos, hin⟩ := mayE_zero hE
    have hbig := mayE_big hE
    have HTOP := Lib.hid (mayE_top hE)
    have hl0 := Lib.hid h0.len
    have hle : n0 ≤ 4096 := by rw [← h0.len]; exact hbig
    have hm := h.big
    have HE := Lib.hid hE
    rw [hE] at HM
    clear hE hbig
    have HIN := Lib.hid hin
    clear hin
    go_enter Try.func10, Try.ntmps10
    go_wp2_with fail
    refine wp_scope_label 0 (fun gk a wr => ∃ v, SolveI tops rules A A0 n c n0 c0 v w gk a wr) rfl ?iter ?first
    case first =>
      intro hb
      have HBb := Lib.hid hb
      clear hb
      go_wp2_with fail
      refine HM.out.mono ?_
      rintro e wm ⟨rfl, hbm⟩
      have HC := Lib.hid (clone_any A0 n0 c0 tops wm (h0.below RInt.stays hbm) (by omega))
      have HBm := Lib.hid hbm
      clear hbm
      go_wp2_with fail
      refine HC.out.mono ?_
      rintro e wc ⟨v, rfl, hown, hbc⟩
      have HO := Lib.hid hown
      have HBc := Lib.hid (below_then HBm.out hbc)
      clear hown hbc
      go_wp2_with fail
      go_step3
      go_step
      go_step
      refine HBb.out (Fx.sum tops) _ _ ⟨v, _, _, _, _, _, _, _, _, _, _, _, _, _, _, _, _, _, _, _, _, _, _, _, _, _, _, _, _, _, _, _, _, _, _, _, _, _, _, _, _, _, _, _, _, _, _, _, _, _, _, _, _, _, _, _, _, rfl, tops, ?_, HBc.out, Fx.inv_start hpos, Nat.le_refl _⟩
      rw [← hl0.out]
      exact own_base HO.out HBm.out.size
    case iter =>
      rintro gk a wr ⟨v, u8, u9, u10, u11, u12, u13, u14, u15, u16, u17, u18, u19, u20, u21, u22, u23, u24, u25, u26, u27, u28, u29, u30, u31, u32, u33, u34, u35, u36, u37, u38, u39, u40, u41, u42, u43, u44, u45, u46, u47, u48, u49, u50, u51, u52, u53, u54, u55, u56, u57, u58, u59, u60, u61, u62, u63, rfl, l, hown, hb, hI, hs⟩
      dsimp only
      have HO := Lib.hid hown
      have HB := Lib.hid hb
      have HI := Lib.hid hI
      have HS := Lib.hid hs
      clear hown hb hI hs HM
      go_wp2
      obtain ⟨wo, rfl⟩ : ∃ wo : World, wo = wr := ⟨_, rfl⟩
      go_loopw [8, 22] (fun ch i wi => ∃ (b : Bool) (k : Nat) (a2 : List Int), ch = .bool b ∧ i = .int .i64 k ∧ k ≤ n ∧ Hid (wi.ownsRow w.heap.size 3 1 v n0 (ints a2)) ∧ Hid (Below w.heap.size w wi) ∧ Hid (Fx.Inv tops rules a2) ∧ Hid (b = false → a2 = l ∧ ∀ j r, j < k → rules[j]? = some r → Fx.ok r l) ∧ Hid (b = true → Fx.sum a2 < Fx.sum l)) (fun _ i _ => n - (intOf i).toNat)
      case atStart =>
        exact ⟨false, 0, l, rfl, rfl, Nat.zero_le _, HO, HB, HI, (show Hid _ from fun _ => ⟨rfl, fun j r hj => absurd hj (Nat.not_lt_zero _)⟩), (show Hid _ from fun h => by cases h)⟩
      case round =>
        obtain ⟨b, k, a2, rfl, rfl, hk, HO2, HB2, HI2, HK2, HS2⟩ := hrel
        by_cases hlt : k < n
        · obtain ⟨wj, rfl⟩ : ∃ wj : World, wj = wr := ⟨_, rfl⟩
          obtain ⟨bb, off, r, rfl, hx, A1, n1, c1, e1w, e2w, e3w, h2⟩ := h.elem hlt
          have e1 := below_cell HB2.out e1w
          have e2 := below_cell HB2.out e2w
          have e3 := below_cell HB2.out e3w
          have hinr := HIN.out r (List.mem_of_getElem? hx)
          have Hx := Lib.hid hx
          have hinn := inn_of hinr
          obtain ⟨x0, x1, y0, y1⟩ := hinn
          rw [hl0.out] at x1 y1 hinr
          obtain ⟨g, cap, rfl, hg1, hg2, hg3⟩ := own_form HO2.out (by omega)
          obtain ⟨o1, o2⟩ := own_cell HO2.out (i := r.x.toNat) (by omega)
          have HR2 := Lib.hid h2
          have hne : g ≠ wj.heap.size := by omega
          generalize hq0 : a2.getD r.x.toNat 0 = q0 at o1
          have HQ0 := Lib.hid hq0
          have HNW := Lib.hid (below_new wj (.cells #[.int .i64 r.x, .int .i64 r.y, .slice A1 n1 c1] 35))
          have bx := fun j v hj => box_cell wj [.int .i64 r.x, .int .i64 r.y, .slice A1 n1 c1] 35 j v hj
          have b0 := Lib.hid (bx 0 _ rfl)
          have b1 := Lib.hid (bx 1 _ rfl)
          have b2 := Lib.hid (bx 2 _ rfl)
          clear hx h2 o2 e1w e2w e3w hq0 bx
          go_wp2
          go_loopg [43] (Fx.sum a2) (fun gi _ wi => ∃ a3 : List Int, Hid (wi.ownsRow w.heap.size 3 1 (.slice (some ⟨g, 0, none⟩) n0 cap) n0 (ints a3)) ∧ Hid (Below w.heap.size w wi) ∧ Hid (Fx.Inv tops rules a3) ∧ Hid (a3 = a2 ∨ (Fx.lk a3 r.x < q0 ∧ Fx.sum a3 < Fx.sum a2)) ∧ Hid (Fx.sum a3 ≤ gi) ∧
            Hid (wi.cell? ⟨wj.heap.size, 0, none⟩ = some (.int .i64 r.x)) ∧ Hid (wi.cell? ⟨wj.heap.size, 1, none⟩ = some (.int .i64 r.y)) ∧ Hid (wi.cell? ⟨wj.heap.size, 2, none⟩ = some (.slice A1 n1 c1)))
          case atStart =>
            exact ⟨a2, (show Hid _ from own_below HO2.out HNW.out), (show Hid _ from below_then HB2.out HNW.out), HI2, (show Hid _ from .inl rfl), (show Hid _ from Nat.le_refl _), b0, b1, b2⟩
          case round =>
            obtain ⟨a3, HO3, HB3, HI3, HC3, HS3, B0, B1, B2⟩ := hrel
            have hl3 : a3.length = n0 := by rw [HI3.out.1, hl0.out]
            obtain ⟨ox, fx⟩ := own_cell HO3.out (i := r.x.toNat) (by omega)
            obtain ⟨oy, fy⟩ := own_cell HO3.out (i := r.y.toNat) (by omega)
            have HX : Hid (Fx.lk a3 r.x = a3.getD r.x.toNat 0) := Lib.hid rfl
            have HY : Hid (Fx.lk a3 r.y = a3.getD r.y.toNat 0) := Lib.hid rfl
            have HSET := Lib.hid (fun W (hW : Below wr.heap.size wr W) => own_set (own_below HO3.out hW) r.x.toNat (a3.getD r.x.toNat 0 - 1))
            have hqt : a3.getD r.x.toNat 0 ≤ 1000 := Int.le_trans (HI3.out.2.2.1 r.x.toNat (by omega)) (HTOP.out _ (by rw [hl0.out]; omega))
            have hqp : 0 ≤ a3.getD r.x.toNat 0 := HI3.out.2.1 r.x.toNat (by omega)
            generalize a3.getD r.x.toNat 0 = qx at *
            generalize a3.getD r.y.toNat 0 = qy at *
            have HN := Lib.hid (fun W (hW : Below wr.heap.size wr W) => need_any r.x r.y A1 n1 c1 r.need qx W (HR2.out.below RInt.stays (below_then HB3.out hW)))
            have ox' := cell_after ox
            have oy' := cell_after oy
            have B0' := cell_after B0.out
            have B1' := cell_after B1.out
            have B2' := cell_after B2.out
            by_cases hc : qy < Fx.nd r.need qx
            · have hqp1 : 0 < qx := by
                rcases Int.lt_or_le 0 qx with h1 | h1
                · exact h1
                · exfalso
                  rw [Fx.nd_zero _ h1] at hc
                  have := HI3.out.2.1 r.y.toNat (by omega)
                  have := HY.out
                  unfold Fx.lk at this
                  omega
              have HL := Lib.hid (Fx.inv_lower HI3.out (List.mem_of_getElem? Hx.out) (by rw [hl0.out]; exact ⟨x0, x1, y0, y1⟩) (by unfold Fx.ok; rw [HX.out, HY.out]; omega))
              generalize Fx.nd r.need qx = nd at HN hc
              have F1 := Lib.hid ox
              have F2 := Lib.hid fx
              clear ox oy fx fy
              go_wp2
              refine quiet_after (by kernel_rfl) (by kernel_rfl) ?_
              repeat (first | go_big_quiet_step ((go_at_call 20; exact calls_after (HN.out _ (After.below _)))) | quiet_step ((go_at_call 20; exact calls_after (HN.out _ (After.below _)))))
              refine wpQuiet_nil ?_
              intro w4 hw'
              obtain ⟨p, rfl⟩ := hw'
              obtain ⟨wq, hbq⟩ := p
              dsimp only
              have HBQ := Lib.hid hbq
              have HB4 := Lib.hid (below_then HB3.out hbq)
              have o4 := below_cell hbq F1.out
              have f4 := (own_cell (own_below HO3.out hbq) (i := r.x.toNat) (by omega)).2
              have c0' := below_cell hbq B0.out
              have c1' := below_cell hbq B1.out
              have c2' := below_cell hbq B2.out
              clear hbq ox' oy' B0' B1' B2'
              go_wp2
              have hset := HSET.out wq HBQ.out
              have hI := HL.out.2
              have hsum := Fx.sum_set a3 r.x.toNat (by omega) (by have := HX.out; unfold Fx.lk at this; omega)
              rw [show a3.getD r.x.toNat 0 = qx from HX.out] at hsum
              rw [HX.out] at hI
              have := HS3.out
              go_roundg (Fx.sum (a3.set r.x.toNat (qx - 1)))
              case measure => omega
              case rel =>
                refine ⟨_, hset.1, (show Hid _ from below_grown HB4.out hset.2 (fun k hk => by cases hk; exact hg1)), hI, (show Hid _ from .inr ⟨?_, ?_⟩), (show Hid _ from Nat.le_refl _), ?_, ?_, ?_⟩
                · unfold Fx.lk
                  rw [Fx.getD_set _ _ _ _ (by omega), if_pos rfl]
                  rcases HC3.out with e | e
                  · have e1 := HX.out
                    have e2 := HQ0.out
                    unfold Fx.lk at e1
                    rw [e] at e1
                    omega
                  · have := e.1
                    have e1 := HX.out
                    omega
                · rcases HC3.out with e | e
                  · rw [e] at hsum ⊢; omega
                  · have := e.2; omega
                · show World.cell? _ _ = _
                  rw [hset.2.cell_far (a := ⟨wj.heap.size, 0, none⟩) (by have := HB3.out; have := below_lt B0.out; have := HBQ.out.size; simp; omega) (by simp; omega)]
                  exact c0'
                · show World.cell? _ _ = _
                  rw [hset.2.cell_far (a := ⟨wj.heap.size, 1, none⟩) (by have := HB3.out; have := below_lt B0.out; have := HBQ.out.size; simp; omega) (by simp; omega)]
                  exact c1'
                · show World.cell? _ _ = _
                  rw [hset.2.cell_far (a := ⟨wj.heap.size, 2, none⟩) (by have := HB3.out; have := below_lt B0.out; have := HBQ.out.size; simp; omega) (by simp; omega)]
                  exact c2'
            · have HOK : Hid (Fx.ok r a3) := Lib.hid (by unfold Fx.ok; rw [HX.out, HY.out]; omega)
              have hc' : Fx.nd r.need qx ≤ qy := by omega
              generalize Fx.nd r.need qx = nd at HN hc'
              have F1 := Lib.hid ox
              clear ox oy fx fy hc
              go_wp2
              refine quiet_after (by kernel_rfl) (by kernel_rfl) ?_
              repeat (first | go_big_quiet_step ((go_at_call 20; exact calls_after (HN.out _ (After.below _)))) | quiet_step ((go_at_call 20; exact calls_after (HN.out _ (After.below _)))))
              refine wpQuiet_nil ?_
              intro w4 hw'
              obtain ⟨p, rfl⟩ := hw'
              obtain ⟨wq, hbq⟩ := p
              dsimp only
              have HBQ := Lib.hid hbq
              have HB4 := Lib.hid (below_then HB3.out hbq)
              have o4 := below_cell hbq F1.out
              have c0' := below_cell hbq B0.out
              have HO4 := Lib.hid (own_below HO3.out hbq)
              clear hbq ox' oy' B0' B1' B2'
              cases b with
              | true =>
                go_wp2
                go_roundw
                case measure => simp [intOf]; omega
                case rel =>
                  refine ⟨true, k + 1, a3, rfl, by go_num, by omega, HO4, HB4, HI3, (show Hid _ from fun hb => by cases hb), (show Hid _ from fun _ => ?_)⟩
                  have := HS2.out (by simp)
                  rcases HC3.out with e | e
                  · rw [e]; exact this
                  · have := e.2; omega
              | false =>
                by_cases hlt4 : qx < q0
                · have t4 : decide (qx < q0) = true := by simpa using hlt4
                  go_wp2
                  go_roundw
                  case measure => simp [intOf]; omega
                  case rel =>
                    refine ⟨true, k + 1, a3, rfl, by go_num, by omega, HO4, HB4, HI3, (show Hid _ from fun hb => by cases hb), (show Hid _ from fun _ => ?_)⟩
                    have h1 := (HK2.out (by simp)).1
                    rcases HC3.out with e | e
                    · have e1 := HX.out
                      have e2 := HQ0.out
                      unfold Fx.lk at e1
                      rw [e] at e1
                      omega
                    · rw [← h1]; exact e.2
                · have t4 : decide (qx < q0) = false := by simpa using hlt4
                  have h3 : a3 = a2 := by
                    rcases HC3.out with e | e
                    · exact e
                    · have := e.1; have := HX.out; omega
                  have H3 := Lib.hid h3
                  clear h3
                  go_wp2
                  go_roundw
                  case measure => simp [intOf]; omega
                  case rel =>
                    refine ⟨false, k + 1, a3, rfl, by go_num, by omega, HO4, HB4, HI3, (show Hid _ from fun _ => ⟨?_, fun j s hj hs => ?_⟩), (show Hid _ from fun hb => by cases hb)⟩
                    · rw [H3.out]; exact (HK2.out (by simp)).1
                    · rcases Nat.lt_or_eq_of_le (Nat.le_of_lt_succ hj) with hj | hj
                      · exact (HK2.out (by simp)).2 j s hj hs
                      · subst hj
                        rw [Hx.out] at hs
                        obtain rfl := Option.some.inj hs
                        rw [← (HK2.out (by simp)).1, ← H3.out]
                        exact HOK.out
        · have hkn : k = n := by omega
          subst hkn
          cases b with
          | true =>
            go_wp2
            go_step3
            refine ⟨rfl, Fx.sum a2, ?_, v, _, _, _, _, _, _, _, _, _, _, _, _, _, _, _, _, _, _, _, _, _, _, _, _, _, _, _, _, _, _, _, _, _, _, _, _, _, _, _, _, _, _, _, _, _, _, _, _, _, _, _, _, _, _, _, _, rfl, a2, HO2.out, HB2.out, HI2.out, Nat.le_refl _⟩
            have := HS2.out (by simp)
            have := HS.out
            omega
          | false =>
            go_wp2
            simp only [Exit.jump]
            go_ret2
            refine ⟨v, by rw [HE.out]; rfl, HB2.out, fun h => absurd HE.out h, fun _ => ⟨a2, Fx.inv_done HI2.out ?_, ?_⟩⟩
            · intro r hr
              obtain ⟨j, hj, rfl⟩ := List.getElem_of_mem hr
              rw [(HK2.out (by simp)).1]
              exact (HK2.out (by simp)).2 j _ (by rw [← h.len]; exact hj) (List.getElem?_eq_getElem hj)
            · rw [hl0.out]
              exact HO2.out
  · have hE' : (mayE tops rules != 0) = true := by simpa using hE
    have HE := Lib.hid hE
    clear hE
    generalize hq : mayE tops rules = q at HM hE'
    have HQ := Lib.hid hq
    clear hq
    go_enter Try.func10, Try.ntmps10
    go_wp2_with fail
    refine wp_scope_straight ?_
    go_wp2_with fail
    refine HM.out.mono ?_
    rintro e wm ⟨rfl, hbm⟩
    have HBm := Lib.hid hbm
    clear hbm
    go_wp2
    rw [Exit.noGoto_ret]
    go_ret2
    exact ⟨_, by rw [HQ.out]; rfl, HBm.out, fun _ => rfl, fun h => absurd h HE.out⟩
end Go.Proofs.Ytmlfnejmagjjpaa
