/- Contract of the reference's Less. -/
import Derived.Test.YtainoghjelfnkaaRows
import Derived.Test.YtainoghjelfnkaaWords
import Derived.Test.YtainoghjelfnkaaByts
import Derived.Test.YtainoghjelfnkaaFrame
import Derived.Test.YtainoghjelfnkaaElems
import Derived.Test.YtainoghjelfnkaaV1
import Derived.Test.YtainoghjelfnkaaV2
import Derived.Test.YtainoghjelfnkaaV3
import Derived.Test.YtainoghjelfnkaaV4
import Derived.Test.YtainoghjelfnkaaV5
import Derived.Test.YtainoghjelfnkaaV6
import Derived.Test.YtainoghjelfnkaaP1
namespace Go.Proofs.Ytainoghjelfnkaa
open Go Go.RowKit Go.Proofs.Tail Go.Sort
set_option linter.unusedSimpArgs false
set_option linter.unusedVariables false
theorem GivesLess.yes {r : Option (List Rc)} {l : List Rc} {v : Value} {w w' : World} (h : some l = r) (ho : w'.ownsRow w.heap.size 32 2 v l.length (recV l)) (hb : Below w.heap.size w w') : GivesLess r w (.returned (.tuple #[v, .bool true])) w' := by
  subst h; exact ⟨_, rfl, ho, hb⟩
theorem GivesLess.no {r : Option (List Rc)} {w w' : World} (h : none = r) (hb : Below w.heap.size w w') : GivesLess r w (.returned (.tuple #[.slice none 0 0, .bool false])) w' := by
  subst h; exact ⟨_, rfl, World.ownsRow_nil _ _ _ _, hb⟩
set_option maxRecDepth 100000 in
set_option maxHeartbeats 16000000 in
theorem refless_any (A A' : Option Addr) (n c n' c' : Nat) (xs ys : List Rc) (w : World) (hX : Recs w A n c xs) (hY : Recs w A' n' c' ys) (hlim : n * 16 ≤ 140737488355328) (hl2 : n' ≤ 140737488355328) :
    Calls Try.prog 11 #[.slice A n c, .slice A' n' c'] w (GivesLess (LS xs ys) w) := by
  have HS := Lib.hid (refsorted_any A n c xs w hX hlim)
  have HY := Lib.hid hY
  have LY := Lib.hid hY.len
  have HL := Lib.hid (show (sortR xs).length ≤ n by rw [sortR_length, hX.len]; exact Nat.le_refl _)
  have HQ := Lib.hid (show LS xs ys = lessR (sortR xs) (ys.drop 0) from rfl)
  clear hX hY
  generalize LS xs ys = res at *
  generalize sortR xs = sx at *
  go_enter Try.func11, Try.ntmps11
  go_wp2_with fail
  refine HS.out.mono ?_
  rintro e w1 ⟨v, rfl, ho, hb⟩
  have O1 := Lib.hid (show ∃ l, l.length ≤ n ∧ w1.ownsRow w.heap.size 32 2 v l.length (recV l) ∧ res = lessR l (ys.drop 0) from ⟨sx, HL.out, ho, HQ.out⟩)
  have B1 := Lib.hid hb
  clear ho hb HS HQ HL
  go_wp2_with fail
  go_loopw [6, 7] (fun v i wr => ∃ k : Nat, k ≤ n' ∧ i = .int .i64 k ∧ Hid (∃ l, l.length ≤ n ∧ wr.ownsRow w.heap.size 32 2 v l.length (recV l) ∧ res = lessR l (ys.drop k)) ∧ Hid (Below w.heap.size w wr)) (fun _ i _ => n' - (intOf i).toNat)
  case atStart => exact ⟨0, Nat.zero_le _, rfl, O1, B1⟩
  case round =>
    clear O1 B1
    obtain ⟨k, hk, rfl, HO, HB⟩ := hrel
    obtain ⟨l, hln, ho, hres⟩ := HO.out
    obtain ⟨A3, c3, ev, hr⟩ := own_recs ho (by omega)
    subst ev
    have HO := Lib.hid ho
    have HR := Lib.hid hr
    have HRES := Lib.hid hres
    clear ho hr hres
    by_cases hlt : k < n'
    · have hd : decide ((k : Int) < n') = true := decide_eq_true (by omega)
      have hd' : decide (k < n') = true := decide_eq_true (by omega)
      obtain ⟨b, off, y, rfl, hy, _⟩ := (HY.out.below RRc.stays HB.out).elem hlt
      have HYE := Lib.hid hy
      have hdr := Lib.hid (show ys.drop k = y :: ys.drop (k + 1) by rw [List.drop_eq_getElem_cons (show k < ys.length by rw [LY.out]; exact hlt), (List.getElem?_eq_some_iff.1 hy).2])
      have H0 := Lib.hid (show ∀ j, j < 0 → l[j]? ≠ some y from fun j hj => absurd hj (Nat.not_lt_zero _))
      have HRL := HR.out.len
      generalize hm : l.length = m at *
      have HM := Lib.hid hm
      clear hm HRL hy
      go_wp2_with fail
      obtain ⟨wq, hq⟩ : ∃ q, q = wr := ⟨_, rfl⟩
      subst hq
      go_loopw [8] (fun i wr => ∃ p : Nat, p ≤ m ∧ i = .int .i64 p ∧ Hid (∀ j, j < p → l[j]? ≠ some y) ∧ Hid (wr.ownsRow w.heap.size 32 2 (.slice A3 m c3) m (recV l) ∧ Recs wr A3 m c3 l) ∧ Hid (Below w.heap.size w wr)) (fun i _ => m - (intOf i).toNat)
      case atStart => exact ⟨0, Nat.zero_le _, rfl, H0, Lib.hid ⟨HO.out, HR.out⟩, HB⟩
      case round =>
        clear H0 HO HR HB
        obtain ⟨p, hp, rfl, HH, HO, HB⟩ := hrel
        obtain ⟨bx, ox, y', ex, hy', hcy⟩ := (HY.out.below RRc.stays HB.out).elem hlt
        obtain rfl : y' = y := by have h1 := HYE.out; rw [hy'] at h1; exact Option.some.inj h1
        injection ex with ex
        injection ex with ex1 ex2
        subst ex1 ex2
        have y0 := fun q : After wr => cell_after hcy.c0 q
        have y1 := fun q : After wr => cell_after hcy.c1 q
        clear hy' hcy
        by_cases hpm : p < m
        · obtain ⟨bz, oz, z, ez, hz, hcz⟩ := HO.out.2.elem hpm
          subst ez
          have z0 := fun q : After wr => cell_after hcz.c0 q
          have z1 := fun q : After wr => cell_after hcz.c1 q
          have HZ := Lib.hid hz
          have hdp : decide ((p : Int) < m) = true := decide_eq_true (by omega)
          have hdp' : decide (p < m) = true := decide_eq_true (by omega)
          clear hcz hz
          by_cases hzy : z = y'
          · have he := eqRc_of hzy
            have HZY := Lib.hid hzy
            clear hzy
            go_wp2_with fail
            refine quiet_after (by kernel_rfl) (by kernel_rfl) ?_
            repeat (first | go_big_quiet_step (fail) | quiet_step (fail))
            refine wpQuiet_nil ?_
            intro wz hw'
            obtain ⟨q, rfl⟩ := hw'
            obtain ⟨w5, hbq⟩ := q
            dsimp only
            obtain ⟨g, cap, eg, hgb, _, hcap⟩ := own_form HO.out.1 (by omega)
            injection eg with eg1 _ eg3
            injection eg1 with eg1
            injection eg1 with eg1 eg2
            subst eg1 eg2 eg3
            have HO5 := Lib.hid (show w5.ownsRow w.heap.size 32 2 (.slice (some ⟨bz, 0, none⟩) m c3) m (recV l) ∧ Recs w5 (some ⟨bz, 0, none⟩) m c3 l from ⟨own_below HO.out.1 hbq, HO.out.2.below RRc.stays hbq⟩)
            have HB5 := Lib.hid (HB.out.trans (hbq.mono HB.out.size))
            have hle5 := HB5.out.size
            have HPY := Lib.hid (show l[p]? = some y' by rw [HZ.out, HZY.out])
            have HER := Lib.hid (erase_at HPY.out HH.out)
            have HRE := Lib.hid (show res = lessR (l.erase y') (ys.drop (k + 1)) by rw [HRES.out, hdr.out, lessR, if_pos (List.mem_of_getElem? HPY.out)])
            have HLE := Lib.hid (show (l.erase y').length ≤ n by have := (List.erase_sublist (a := y') (l := l)).length_le; have := HM.out; omega)
            have HTL := Lib.hid (show (l.take p).length = p by rw [List.length_take, HM.out]; omega)
            have htl2 : ((l.take p).length + (m - (p + 1))) * 16 ≤ 140737488355328 := by rw [HTL.out]; omega
            have hne : ((p : Int) == m) = false := by simp; omega
            have hne' : (p == m) = false := by simp; omega
            have hpc : (p : Int) ≤ c3 := by omega
            have hpm1 : ((p : Int) + 1) ≤ m := by omega
            clear y0 y1 z0 z1 he hbq HO HB HH HZ HZY hdp hdp' hgb
            have hz1 : ((p : Int) + 1).toNat = p + 1 := by omega
            have R1 := Lib.hid (recs_take HO5.out.2 (show p ≤ m by omega) (show p ≤ c3 by omega))
            have HCAP := Lib.hid hcap
            by_cases hck : c3 = p + 1
            · obtain rfl : m = p + 1 := by omega
              subst hck
              go_wp2_with (at_builtin; first
                | (refine own_append_recs (W := w5) rfl (.tmp 39) (.tmp 42) 22 32 rfl Try.underlying22 infoR w.heap.size (.slice none 0 0) [] _ p (p + 1) (l.take p) rfl rfl (World.ownsRow_nil _ _ _ _) R1.out (by simp; omega) hle5 ?_
                   intro v1 w6 hown hgr hat
                   have HO6 := Lib.hid (show w6.ownsRow w.heap.size 32 2 v1 (l.take p).length (recV (l.take p)) from hown)
                   have hb6 := below_grown (Below.refl w5.heap.size w5) hgr (fun k hk => by simp [Value.ownBlock] at hk)
                   have HB6 := Lib.hid (HB5.out.trans (hb6.mono hle5))
                   have R2 := Lib.hid (HO5.out.2.below RRc.stays hb6)
                   have hle6 := HB6.out.size
                   clear hown hgr hat hb6 R1 HO5 HB5 hle5)
                | (go_must (refine own_append_recs (W := w6) rfl (.tmp 44) (.tmp 48) 22 32 rfl Try.underlying22 infoR w.heap.size v1 (l.take p) _ _ _ (l.drop (p + 1)) rfl rfl HO6.out (by exact ⟨by rw [List.length_drop, HM.out]; omega, by omega, by omega, fun h => absurd h (by omega)⟩) (by rw [HTL.out]; omega) hle6 ?_)
                   intro v2 w7 hown hgr hat
                   have HO7 := Lib.hid (show w7.ownsRow w.heap.size 32 2 v2 (l.erase y').length (recV (l.erase y')) by rw [← HER.out]; exact hown)
                   have HB7 := Lib.hid (HB6.out.grown hgr hle6 (fun k hk => own_lt HO6.out k hk))
                   clear hown hgr hat HO6 HB6 hle6 R2))
              go_roundw
              case rel => exact ⟨k + 1, by omega, by go_num, Lib.hid ⟨_, HLE.out, HO7.out, HRE.out⟩, HB7⟩
              case measure => simp [intOf]; omega
            · have hck' : ¬ (c3 : Int) = (p : Int) + 1 := by omega
              go_wp2_with (at_builtin; first
                | (refine own_append_recs (W := w5) rfl (.tmp 39) (.tmp 42) 22 32 rfl Try.underlying22 infoR w.heap.size (.slice none 0 0) [] _ p c3 (l.take p) rfl rfl (World.ownsRow_nil _ _ _ _) R1.out (by simp; omega) hle5 ?_
                   intro v1 w6 hown hgr hat
                   have HO6 := Lib.hid (show w6.ownsRow w.heap.size 32 2 v1 (l.take p).length (recV (l.take p)) from hown)
                   have hb6 := below_grown (Below.refl w5.heap.size w5) hgr (fun k hk => by simp [Value.ownBlock] at hk)
                   have HB6 := Lib.hid (HB5.out.trans (hb6.mono hle5))
                   have R2 := Lib.hid (HO5.out.2.below RRc.stays hb6)
                   have hle6 := HB6.out.size
                   clear hown hgr hat hb6 R1 HO5 HB5 hle5)
                | (go_must (refine own_append_recs (W := w6) rfl (.tmp 44) (.tmp 48) 22 32 rfl Try.underlying22 infoR w.heap.size v1 (l.take p) _ _ _ (l.drop (p + 1)) rfl rfl HO6.out (by have := recs_drop R2.out (show p + 1 ≤ m by omega) (Nat.sub_le_sub_right HCAP.out _); rw [Nat.zero_add] at this; exact this) (by rw [HTL.out]; omega) hle6 ?_)
                   intro v2 w7 hown hgr hat
                   have HO7 := Lib.hid (show w7.ownsRow w.heap.size 32 2 v2 (l.erase y').length (recV (l.erase y')) by rw [← HER.out]; exact hown)
                   have HB7 := Lib.hid (HB6.out.grown hgr hle6 (fun k hk => own_lt HO6.out k hk))
                   clear hown hgr hat HO6 HB6 hle6 R2))
              go_roundw
              case rel => exact ⟨k + 1, by omega, by go_num, Lib.hid ⟨_, HLE.out, HO7.out, HRE.out⟩, HB7⟩
              case measure => simp [intOf]; omega
          · have he := eqRc_no hzy
            have HH1 := Lib.hid (show ∀ j, j < p + 1 → l[j]? ≠ some y' from fun j hj => by
              rcases Nat.eq_or_lt_of_le (Nat.le_of_lt_succ hj) with e | e
              · subst e; rw [HZ.out]; exact fun e => hzy (Option.some.inj e)
              · exact HH.out j e)
            clear hzy
            go_wp2_with fail
            refine quiet_after (by kernel_rfl) (by kernel_rfl) ?_
            repeat (first | go_big_quiet_step (fail) | quiet_step (fail))
            refine wpQuiet_nil ?_
            intro wz hw'
            obtain ⟨q, rfl⟩ := hw'
            obtain ⟨w5, hbq⟩ := q
            dsimp only
            have HO5 := Lib.hid (show w5.ownsRow w.heap.size 32 2 (.slice (some ⟨bz, oz, none⟩) m c3) m (recV l) ∧ Recs w5 (some ⟨bz, oz, none⟩) m c3 l from ⟨own_below HO.out.1 hbq, HO.out.2.below RRc.stays hbq⟩)
            have HB5 := Lib.hid (HB.out.trans (hbq.mono HB.out.size))
            clear y0 y1 z0 z1 he hbq HO HB HH HZ hdp hdp'
            go_wp2_with fail
            go_roundw
            case rel => exact ⟨p + 1, by omega, by go_num, HH1, HO5, HB5⟩
            case measure => simp [intOf]; omega
        · have hpe : p = m := by omega
          subst hpe
          have hdp : decide ((p : Int) < p) = false := decide_eq_false (by omega)
          have hdp' : decide (p < p) = false := decide_eq_false (by omega)
          have HNO := Lib.hid (show none = res from by
            rw [HRES.out, hdr.out, lessR, if_neg (fun hm => by
              obtain ⟨j, hj, h⟩ := List.getElem_of_mem hm
              exact HH.out j (by rw [HM.out] at hj; exact hj) (by rw [← h, List.getElem?_eq_getElem hj]))])
          clear HH
          go_wp2_with fail
          refine quiet_after (by kernel_rfl) (by kernel_rfl) ?_
          repeat (first | go_big_quiet_step (fail) | quiet_step (fail))
          refine wpQuiet_nil ?_
          intro wz hw'
          obtain ⟨q, rfl⟩ := hw'
          obtain ⟨w5, hbq⟩ := q
          dsimp only
          have HB5 := Lib.hid (HB.out.trans (hbq.mono HB.out.size))
          clear y0 y1 hbq HO HB
          go_wp2_with fail
          go_ret2
          exact GivesLess.no HNO.out HB5.out
    · have hkn : k = n' := by omega
      subst hkn
      have hd : decide ((k : Int) < k) = false := decide_eq_false (by omega)
      have hd' : decide (k < k) = false := decide_eq_false (by omega)
      have hN := HRES.out
      rw [List.drop_of_length_le (by rw [LY.out]; omega)] at hN
      have HN := Lib.hid (show some l = res from hN.symm)
      clear hN HRES
      go_wp2_with fail
      go_ret2
      exact GivesLess.yes HN.out HO.out HB.out
end Go.Proofs.Ytainoghjelfnkaa
