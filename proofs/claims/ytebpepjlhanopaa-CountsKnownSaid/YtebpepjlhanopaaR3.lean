/- Contract of the reference's Add, where it goes well. -/
import Derived.Test.YtebpepjlhanopaaRows
import Derived.IntWalk
import Derived.Deep.RegionHeld3
import Derived.Test.YtebpepjlhanopaaWords
import Derived.Test.YtebpepjlhanopaaByts
import Derived.Test.YtebpepjlhanopaaFrame
import Derived.Test.YtebpepjlhanopaaElems
import Derived.Test.YtebpepjlhanopaaMapOwn
import Derived.Test.YtebpepjlhanopaaS1
import Derived.Test.YtebpepjlhanopaaS2
import Derived.Test.YtebpepjlhanopaaEqs
import Derived.Test.YtebpepjlhanopaaU1
import Derived.Test.YtebpepjlhanopaaP1
import Derived.Test.YtebpepjlhanopaaM1
import Derived.Test.YtebpepjlhanopaaM2
import Derived.Test.YtebpepjlhanopaaM3
import Derived.Test.YtebpepjlhanopaaM8
import Derived.Test.YtebpepjlhanopaaR0
import Derived.Test.YtebpepjlhanopaaR1
import Derived.Test.YtebpepjlhanopaaR2
namespace Go.Proofs.Ytebpepjlhanopaa
open Go Go.RowKit Go.Proofs.Tail Go.Sort
set_option linter.unusedSimpArgs false
set_option linter.unusedVariables false
theorem own_fin {w : World} {base : Nat} {e : TypeId} {v : Value} {n : Nat} {L : List Value} (h : w.ownsRow base e 6 v n L) (hn : n ≤ 9223372036854775807) : ∃ A c, v = .slice A n c := by
  rcases h.2 with ⟨rfl, rfl⟩ | ⟨g, cap, cur, rfl, _⟩
  · exact ⟨_, _, rfl⟩
  · exact ⟨_, _, rfl⟩
set_option maxRecDepth 100000 in
set_option maxHeartbeats 16000000 in
theorem refadd_some_is (d : Int) (A : Option Addr) (n c : Nat) (C : List (T × Int)) (t : T) (m : Int) (w : World) (hX : Cos w A n c C) (hC : Canon C) (hlim : n ≤ 1000000) (hr : t.rightB = true) (hd : t.d = d) (hc : -1099511627776 ≤ cnt C t ∧ cnt C t ≤ 1099511627776) (hn : inB m = true) (hm : inB (cnt C t + m) = true)
    (hz : cnt C t + m ≠ 0) (hpb : plB C t = true) :
    Calls Try.prog 17 #[.agg #[.int .i64 d, .slice A n c], .agg #[.int .i64 t.d, .int .i64 t.e, .int .i64 t.a, .int .i64 t.b, .int .i64 t.c], .int .i64 m] w (RAdds d C t m w) := by
  have HE := Lib.hid (show addE d C t m = 0 by unfold addE; simp [hr, hd, hn, hm])
  have HA := Lib.hid (show addC d C t m = C.take (plN C t) ++ [(t, cnt C t + m)] ++ C.drop (plN C t + 1) by
    unfold addC
    rw [HE.out]
    unfold putC
    rw [hpb]
    simp [hz])
  have HX := Lib.hid hX
  have HR := Lib.hid (fun W => refright_any t W)
  have HP := Lib.hid (fun W (hb : Below w.heap.size w W) => place_any d A n c C t W (hX.below RCo.stays hb))
  have HC := Lib.hid (fun W (hb : Below w.heap.size w W) => refcount_any d A n c C t W (hX.below RCo.stays hb) hC)
  have HI1 := Lib.hid (fun W => refin_any m W)
  have HI2 := Lib.hid (fun W => refin_any (cnt C t + m) W)
  have R0 := Lib.hid (Ra.new w d A n c t)
  obtain ⟨⟨s0, s1⟩, ⟨y0, y1, y2, y3, y4⟩, ⟨o0, o1⟩, fo⟩ := R0.out.facts
  have hs : IntKind.i64.wrap (cnt C t + m) = cnt C t + m := by
    unfold inB at hn
    simp only [decide_eq_true_eq] at hn
    exact IntWalk.i64_in _ ⟨by omega, by omega⟩
  have hkn : plN C t ≤ n := by rw [← hX.len]; exact plN_le C t
  have hkl : plN C t + 1 ≤ n := by
    obtain ⟨p, hp, _⟩ := (cnt_place (t := t) hC).1 hpb
    have := (List.getElem?_eq_some_iff.1 hp).1
    rw [hX.len] at this
    omega
  rw [hr] at HR
  rw [hn] at HI1
  rw [hm] at HI2
  rw [hpb] at HP
  generalize plN C t = k at *
  have hd' : (t.d != d) = false := by simpa using hd
  have hz' : (cnt C t + m != 0) = true := by simpa using hz
  have hsl1 := cslice_to hX hkn
  obtain ⟨Ad, hsl2, hd4⟩ := cslice_from hX hkl
  have HT1 := Lib.hid (hX.take hkn)
  have HT3 := Lib.hid hd4
  have HL1 := Lib.hid (show (recC (C.take k)).length = k * 6 by rw [recC_length, List.length_take, hX.len]; omega)
  have HM1 := Lib.hid (show (0 + k) * 48 ≤ 140737488355328 by omega)
  have HM2 := Lib.hid (show (0 + k + 1) * 48 ≤ 140737488355328 by omega)
  have HM3 := Lib.hid (show ((0 + k + 1) + (n - (k + 1))) * 48 ≤ 140737488355328 by omega)
  have HM4 := Lib.hid (show (0 + k + 1) + (n - (k + 1)) ≤ 9223372036854775807 by omega)
  have HKA := Lib.hid (And.intro hkn hkl)
  have hk1 : IntKind.i64.wrap ((k : Int) + 1) = (k : Int) + 1 := IntWalk.i64_in _ ⟨by omega, by omega⟩
  have hsl3 : ∀ W, (Instr.slice 38 (.slice A n c) (some (.int .i64 ((k : Int) + 1))) none none).run Try.prog W = .ok (.slice Ad (n - (k + 1)) (c - (k + 1))) W := fun W => by have h9 := hsl2 W; rwa [show (((k + 1 : Nat) : Int)) = (k : Int) + 1 by omega] at h9
  clear hsl2
  clear hX hC hr hd hn hm hc hz hpb hd4 hkn hkl hlim
  go_enter Try.func17, Try.ntmps17
  go_wp2_with (first
    | (go_at_call 34; (with_reducible refine (HR.out _).mono ?_); rintro e wz ⟨rfl, hb⟩; replace R0 := Lib.hid (R0.out.below hb); clear hb s0 s1 y0 y1 y2 y3 y4 o0 o1 fo; obtain ⟨⟨s0, s1⟩, ⟨y0, y1, y2, y3, y4⟩, ⟨o0, o1⟩, fo⟩ := R0.out.facts)
    | (go_at_call 35; (with_reducible refine (HP.out _ R0.out.b).mono ?_); rintro e wz ⟨rfl, hb⟩; replace R0 := Lib.hid (R0.out.below hb); clear hb s0 s1 y0 y1 y2 y3 y4 o0 o1 fo; obtain ⟨⟨s0, s1⟩, ⟨y0, y1, y2, y3, y4⟩, ⟨o0, o1⟩, fo⟩ := R0.out.facts)
    | (go_at_call 36; (with_reducible refine (HI1.out _).mono ?_); rintro e wz ⟨rfl, hb⟩; replace R0 := Lib.hid (R0.out.below hb); clear hb s0 s1 y0 y1 y2 y3 y4 o0 o1 fo; obtain ⟨⟨s0, s1⟩, ⟨y0, y1, y2, y3, y4⟩, ⟨o0, o1⟩, fo⟩ := R0.out.facts)
    | (go_at_call 36; (with_reducible refine (HI2.out _).mono ?_); rintro e wz ⟨rfl, hb⟩; replace R0 := Lib.hid (R0.out.below hb); clear hb s0 s1 y0 y1 y2 y3 y4 o0 o1 fo; obtain ⟨⟨s0, s1⟩, ⟨y0, y1, y2, y3, y4⟩, ⟨o0, o1⟩, fo⟩ := R0.out.facts)
    | (go_at_call 18; (with_reducible refine (HC.out _ R0.out.b).mono ?_); rintro e wz ⟨rfl, hb⟩; replace R0 := Lib.hid (R0.out.below hb); clear hb s0 s1 y0 y1 y2 y3 y4 o0 o1 fo; obtain ⟨⟨s0, s1⟩, ⟨y0, y1, y2, y3, y4⟩, ⟨o0, o1⟩, fo⟩ := R0.out.facts)
    | (at_builtin; first
       | (refine own_append rfl (.tmp 47) (.tmp 51) 38 67 (.agg #[.int .i64 0, .int .i64 0, .int .i64 0, .int .i64 0, .int .i64 0, .int .i64 0]) 6 48 rfl Try.underlying38 infoCo rfl (by omega) (by omega) (w.heap.size + 3) (.slice none 0 0) 0 [] A k c (recC (C.take k)) rfl rfl (World.ownsRow_nil _ _ _ _) HL1.out (cos_src (HT1.out.below RCo.stays R0.out.b)) (recC_one _) HM1.out (by have := R0.out.sz; omega) ?_
          intro v1 w6 hown hgr hat
          replace R0 := Lib.hid (R0.out.grown hgr (fun k hk => by cases hk))
          have HO1 := Lib.hid hown
          clear hown hgr hat s0 s1 y0 y1 y2 y3 y4 o0 o1 fo
          obtain ⟨⟨s0, s1⟩, ⟨y0, y1, y2, y3, y4⟩, ⟨o0, o1⟩, fo⟩ := R0.out.facts)
       | (refine own_append_one (W := w6) rfl (.tmp 55) (.tmp 59) 38 67 (.agg #[.int .i64 0, .int .i64 0, .int .i64 0, .int .i64 0, .int .i64 0, .int .i64 0]) 6 48 rfl Try.underlying38 infoCo rfl (by omega) (by omega) (w.heap.size + 3) v1 (0 + k) ([] ++ (recC (C.take k))) 1 [.int .i64 t.d, .int .i64 t.e, .int .i64 t.a, .int .i64 t.b, .int .i64 t.c, .int .i64 (cnt C t + m)] rfl rfl HO1.out rfl (by simp [Value.oneCell']) HM2.out (by have := R0.out.sz; omega) ?_
          intro v2 w7 hown hgr hat
          replace R0 := Lib.hid (R0.out.grown hgr (fun k hk => own_lt HO1.out k hk))
          have HO2 := Lib.hid hown
          clear hown hgr hat s0 s1 y0 y1 y2 y3 y4 o0 o1 fo
          obtain ⟨⟨s0, s1⟩, ⟨y0, y1, y2, y3, y4⟩, ⟨o0, o1⟩, fo⟩ := R0.out.facts)))
  have HL3 := Lib.hid (show (recC (C.drop (k + 1))).length = (n - (k + 1)) * 6 by rw [recC_length, List.length_drop, HX.out.len])
  replace R0 := Lib.hid (R0.out.drew)
  have HOd := Lib.hid (own_below HO2.out ((Below.refl _ _).drew))
  clear s0 s1 y0 y1 y2 y3 y4 o0 o1 fo HO2
  obtain ⟨⟨s0, s1⟩, ⟨y0, y1, y2, y3, y4⟩, ⟨o0, o1⟩, fo⟩ := R0.out.facts
  go_region_held3 (fun w' => w'.cell? ⟨w.heap.size, 0, none⟩ = some (.int .i64 d) ∧ w'.cell? ⟨w.heap.size, 1, none⟩ = some (.slice A n c))
    (first | exact ⟨s0, s1⟩ | exact ⟨x0, x1⟩ | exact R8.out.keep _ _)
    (first
      | (refine step_own_append rfl (.tmp 66) (.tmp 70) 38 67 (.agg #[.int .i64 0, .int .i64 0, .int .i64 0, .int .i64 0, .int .i64 0, .int .i64 0]) 6 48 rfl Try.underlying38 infoCo rfl (by omega) (by omega) (w.heap.size + 3) v2 (0 + k + 1) ([] ++ (recC (C.take k)) ++ [.int .i64 t.d, .int .i64 t.e, .int .i64 t.a, .int .i64 t.b, .int .i64 t.c, .int .i64 (cnt C t + m)]) Ad (n - (k + 1)) (c - (k + 1)) (recC (C.drop (k + 1))) rfl rfl HOd.out HL3.out (cos_src (HT3.out.below RCo.stays R0.out.b)) (recC_one _) HM3.out (by have := R0.out.sz; omega) ?_
         intro v3 w8 hown hgr hat
         have R8 := Lib.hid (R0.out.grown hgr (fun k hk => own_lt HOd.out k hk))
         have HO3 := Lib.hid hown
         have HF := Lib.hid (own_fin HO3.out HM4.out)
         obtain ⟨A3, c3, rfl⟩ := HF.out
         obtain ⟨⟨x0, x1⟩, _, ⟨q0, q1⟩, fq⟩ := R8.out.facts
         clear hown hgr hat))
  clear s0 s1 y0 y1 y2 y3 y4 o0 o1 fo x0 x1
  go_wp2_with fail
  (try simp only [Exit.inBlock, Exit.then])
  refine bodyPost_ret (v := .tuple #[.agg #[.int .i64 d, .slice A3 ((0 + k + 1) + (n - (k + 1))) c3], .int .i64 0]) ?_ rfl ⟨A3, (0 + k + 1) + (n - (k + 1)), c3, by rw [HE.out], ?_, R8.out.fin _ _⟩
  · rw [results_cell_tmp rfl]; go_simp
  · rw [HA.out]
    refine cos_set ?_ HM4.out _ _
    have e9 : recC (C.take k ++ [(t, cnt C t + m)] ++ C.drop (k + 1)) = ([] ++ (recC (C.take k)) ++ [.int .i64 t.d, .int .i64 t.e, .int .i64 t.a, .int .i64 t.b, .int .i64 t.c, .int .i64 (cnt C t + m)]) ++ recC (C.drop (k + 1)) := by rw [recC_append, recC_append]; rfl
    have h9 := HO3.out
    rw [← e9] at h9
    exact h9
set_option maxRecDepth 100000 in
set_option maxHeartbeats 16000000 in
theorem refadd_some_no (d : Int) (A : Option Addr) (n c : Nat) (C : List (T × Int)) (t : T) (m : Int) (w : World) (hX : Cos w A n c C) (hC : Canon C) (hlim : n ≤ 1000000) (hr : t.rightB = true) (hd : t.d = d) (hc : -1099511627776 ≤ cnt C t ∧ cnt C t ≤ 1099511627776) (hn : inB m = true) (hm : inB (cnt C t + m) = true)
    (hz : cnt C t + m ≠ 0) (hpb : plB C t = false) :
    Calls Try.prog 17 #[.agg #[.int .i64 d, .slice A n c], .agg #[.int .i64 t.d, .int .i64 t.e, .int .i64 t.a, .int .i64 t.b, .int .i64 t.c], .int .i64 m] w (RAdds d C t m w) := by
  have HE := Lib.hid (show addE d C t m = 0 by unfold addE; simp [hr, hd, hn, hm])
  have HA := Lib.hid (show addC d C t m = C.take (plN C t) ++ [(t, cnt C t + m)] ++ C.drop (plN C t + 0) by
    unfold addC
    rw [HE.out]
    unfold putC
    rw [hpb]
    simp [hz])
  have HX := Lib.hid hX
  have HR := Lib.hid (fun W => refright_any t W)
  have HP := Lib.hid (fun W (hb : Below w.heap.size w W) => place_any d A n c C t W (hX.below RCo.stays hb))
  have HC := Lib.hid (fun W (hb : Below w.heap.size w W) => refcount_any d A n c C t W (hX.below RCo.stays hb) hC)
  have HI1 := Lib.hid (fun W => refin_any m W)
  have HI2 := Lib.hid (fun W => refin_any (cnt C t + m) W)
  have R0 := Lib.hid (Ra.new w d A n c t)
  obtain ⟨⟨s0, s1⟩, ⟨y0, y1, y2, y3, y4⟩, ⟨o0, o1⟩, fo⟩ := R0.out.facts
  have hs : IntKind.i64.wrap (cnt C t + m) = cnt C t + m := by
    unfold inB at hn
    simp only [decide_eq_true_eq] at hn
    exact IntWalk.i64_in _ ⟨by omega, by omega⟩
  have hkn : plN C t ≤ n := by rw [← hX.len]; exact plN_le C t
  have hkl : plN C t ≤ n := hkn
  rw [hr] at HR
  rw [hn] at HI1
  rw [hm] at HI2
  rw [hpb] at HP
  generalize plN C t = k at *
  have hd' : (t.d != d) = false := by simpa using hd
  have hz' : (cnt C t + m != 0) = true := by simpa using hz
  have hsl1 := cslice_to hX hkn
  obtain ⟨Ad, hsl2, hd4⟩ := cslice_from hX hkl
  have HT1 := Lib.hid (hX.take hkn)
  have HT3 := Lib.hid hd4
  have HL1 := Lib.hid (show (recC (C.take k)).length = k * 6 by rw [recC_length, List.length_take, hX.len]; omega)
  have HM1 := Lib.hid (show (0 + k) * 48 ≤ 140737488355328 by omega)
  have HM2 := Lib.hid (show (0 + k + 1) * 48 ≤ 140737488355328 by omega)
  have HM3 := Lib.hid (show ((0 + k + 1) + (n - k)) * 48 ≤ 140737488355328 by omega)
  have HM4 := Lib.hid (show (0 + k + 1) + (n - k) ≤ 9223372036854775807 by omega)
  have HKA := Lib.hid (And.intro hkn hkl)
  clear hX hC hr hd hn hm hc hz hpb hd4 hkn hkl hlim
  go_enter Try.func17, Try.ntmps17
  go_wp2_with (first
    | (go_at_call 34; (with_reducible refine (HR.out _).mono ?_); rintro e wz ⟨rfl, hb⟩; replace R0 := Lib.hid (R0.out.below hb); clear hb s0 s1 y0 y1 y2 y3 y4 o0 o1 fo; obtain ⟨⟨s0, s1⟩, ⟨y0, y1, y2, y3, y4⟩, ⟨o0, o1⟩, fo⟩ := R0.out.facts)
    | (go_at_call 35; (with_reducible refine (HP.out _ R0.out.b).mono ?_); rintro e wz ⟨rfl, hb⟩; replace R0 := Lib.hid (R0.out.below hb); clear hb s0 s1 y0 y1 y2 y3 y4 o0 o1 fo; obtain ⟨⟨s0, s1⟩, ⟨y0, y1, y2, y3, y4⟩, ⟨o0, o1⟩, fo⟩ := R0.out.facts)
    | (go_at_call 36; (with_reducible refine (HI1.out _).mono ?_); rintro e wz ⟨rfl, hb⟩; replace R0 := Lib.hid (R0.out.below hb); clear hb s0 s1 y0 y1 y2 y3 y4 o0 o1 fo; obtain ⟨⟨s0, s1⟩, ⟨y0, y1, y2, y3, y4⟩, ⟨o0, o1⟩, fo⟩ := R0.out.facts)
    | (go_at_call 36; (with_reducible refine (HI2.out _).mono ?_); rintro e wz ⟨rfl, hb⟩; replace R0 := Lib.hid (R0.out.below hb); clear hb s0 s1 y0 y1 y2 y3 y4 o0 o1 fo; obtain ⟨⟨s0, s1⟩, ⟨y0, y1, y2, y3, y4⟩, ⟨o0, o1⟩, fo⟩ := R0.out.facts)
    | (go_at_call 18; (with_reducible refine (HC.out _ R0.out.b).mono ?_); rintro e wz ⟨rfl, hb⟩; replace R0 := Lib.hid (R0.out.below hb); clear hb s0 s1 y0 y1 y2 y3 y4 o0 o1 fo; obtain ⟨⟨s0, s1⟩, ⟨y0, y1, y2, y3, y4⟩, ⟨o0, o1⟩, fo⟩ := R0.out.facts)
    | (at_builtin; first
       | (refine own_append rfl (.tmp 47) (.tmp 51) 38 67 (.agg #[.int .i64 0, .int .i64 0, .int .i64 0, .int .i64 0, .int .i64 0, .int .i64 0]) 6 48 rfl Try.underlying38 infoCo rfl (by omega) (by omega) (w.heap.size + 3) (.slice none 0 0) 0 [] A k c (recC (C.take k)) rfl rfl (World.ownsRow_nil _ _ _ _) HL1.out (cos_src (HT1.out.below RCo.stays R0.out.b)) (recC_one _) HM1.out (by have := R0.out.sz; omega) ?_
          intro v1 w6 hown hgr hat
          replace R0 := Lib.hid (R0.out.grown hgr (fun k hk => by cases hk))
          have HO1 := Lib.hid hown
          clear hown hgr hat s0 s1 y0 y1 y2 y3 y4 o0 o1 fo
          obtain ⟨⟨s0, s1⟩, ⟨y0, y1, y2, y3, y4⟩, ⟨o0, o1⟩, fo⟩ := R0.out.facts)
       | (refine own_append_one (W := w6) rfl (.tmp 55) (.tmp 59) 38 67 (.agg #[.int .i64 0, .int .i64 0, .int .i64 0, .int .i64 0, .int .i64 0, .int .i64 0]) 6 48 rfl Try.underlying38 infoCo rfl (by omega) (by omega) (w.heap.size + 3) v1 (0 + k) ([] ++ (recC (C.take k))) 1 [.int .i64 t.d, .int .i64 t.e, .int .i64 t.a, .int .i64 t.b, .int .i64 t.c, .int .i64 (cnt C t + m)] rfl rfl HO1.out rfl (by simp [Value.oneCell']) HM2.out (by have := R0.out.sz; omega) ?_
          intro v2 w7 hown hgr hat
          replace R0 := Lib.hid (R0.out.grown hgr (fun k hk => own_lt HO1.out k hk))
          have HO2 := Lib.hid hown
          clear hown hgr hat s0 s1 y0 y1 y2 y3 y4 o0 o1 fo
          obtain ⟨⟨s0, s1⟩, ⟨y0, y1, y2, y3, y4⟩, ⟨o0, o1⟩, fo⟩ := R0.out.facts)))
  have HL3 := Lib.hid (show (recC (C.drop k)).length = (n - k) * 6 by rw [recC_length, List.length_drop, HX.out.len])
  replace R0 := Lib.hid (R0.out.drew)
  have HOd := Lib.hid (own_below HO2.out ((Below.refl _ _).drew))
  clear s0 s1 y0 y1 y2 y3 y4 o0 o1 fo HO2
  obtain ⟨⟨s0, s1⟩, ⟨y0, y1, y2, y3, y4⟩, ⟨o0, o1⟩, fo⟩ := R0.out.facts
  go_region_held3 (fun w' => w'.cell? ⟨w.heap.size, 0, none⟩ = some (.int .i64 d) ∧ w'.cell? ⟨w.heap.size, 1, none⟩ = some (.slice A n c))
    (first | exact ⟨s0, s1⟩ | exact ⟨x0, x1⟩ | exact R8.out.keep _ _)
    (first
      | (refine step_own_append rfl (.tmp 66) (.tmp 70) 38 67 (.agg #[.int .i64 0, .int .i64 0, .int .i64 0, .int .i64 0, .int .i64 0, .int .i64 0]) 6 48 rfl Try.underlying38 infoCo rfl (by omega) (by omega) (w.heap.size + 3) v2 (0 + k + 1) ([] ++ (recC (C.take k)) ++ [.int .i64 t.d, .int .i64 t.e, .int .i64 t.a, .int .i64 t.b, .int .i64 t.c, .int .i64 (cnt C t + m)]) Ad (n - k) (c - k) (recC (C.drop k)) rfl rfl HOd.out HL3.out (cos_src (HT3.out.below RCo.stays R0.out.b)) (recC_one _) HM3.out (by have := R0.out.sz; omega) ?_
         intro v3 w8 hown hgr hat
         have R8 := Lib.hid (R0.out.grown hgr (fun k hk => own_lt HOd.out k hk))
         have HO3 := Lib.hid hown
         have HF := Lib.hid (own_fin HO3.out HM4.out)
         obtain ⟨A3, c3, rfl⟩ := HF.out
         obtain ⟨⟨x0, x1⟩, _, ⟨q0, q1⟩, fq⟩ := R8.out.facts
         clear hown hgr hat))
  clear s0 s1 y0 y1 y2 y3 y4 o0 o1 fo x0 x1
  go_wp2_with fail
  (try simp only [Exit.inBlock, Exit.then])
  refine bodyPost_ret (v := .tuple #[.agg #[.int .i64 d, .slice A3 ((0 + k + 1) + (n - k)) c3], .int .i64 0]) ?_ rfl ⟨A3, (0 + k + 1) + (n - k), c3, by rw [HE.out], ?_, R8.out.fin _ _⟩
  · rw [results_cell_tmp rfl]; go_simp
  · rw [HA.out]
    refine cos_set ?_ HM4.out _ _
    have e9 : recC (C.take k ++ [(t, cnt C t + m)] ++ C.drop k) = ([] ++ (recC (C.take k)) ++ [.int .i64 t.d, .int .i64 t.e, .int .i64 t.a, .int .i64 t.b, .int .i64 t.c, .int .i64 (cnt C t + m)]) ++ recC (C.drop k) := by rw [recC_append, recC_append]; rfl
    have h9 := HO3.out
    rw [← e9] at h9
    exact h9
set_option maxRecDepth 100000 in
set_option maxHeartbeats 16000000 in
theorem refadd_zero_is (d : Int) (A : Option Addr) (n c : Nat) (C : List (T × Int)) (t : T) (m : Int) (w : World) (hX : Cos w A n c C) (hC : Canon C) (hlim : n ≤ 1000000) (hr : t.rightB = true) (hd : t.d = d) (hc : -1099511627776 ≤ cnt C t ∧ cnt C t ≤ 1099511627776) (hn : inB m = true) (hm : inB (cnt C t + m) = true)
    (hz : cnt C t + m = 0) (hpb : plB C t = true) :
    Calls Try.prog 17 #[.agg #[.int .i64 d, .slice A n c], .agg #[.int .i64 t.d, .int .i64 t.e, .int .i64 t.a, .int .i64 t.b, .int .i64 t.c], .int .i64 m] w (RAdds d C t m w) := by
  have HE := Lib.hid (show addE d C t m = 0 by unfold addE; simp [hr, hd, hn, hm])
  have HA := Lib.hid (show addC d C t m = C.take (plN C t) ++ [] ++ C.drop (plN C t + 1) by
    unfold addC
    rw [HE.out]
    unfold putC
    rw [hpb]
    simp [hz])
  have HX := Lib.hid hX
  have HR := Lib.hid (fun W => refright_any t W)
  have HP := Lib.hid (fun W (hb : Below w.heap.size w W) => place_any d A n c C t W (hX.below RCo.stays hb))
  have HC := Lib.hid (fun W (hb : Below w.heap.size w W) => refcount_any d A n c C t W (hX.below RCo.stays hb) hC)
  have HI1 := Lib.hid (fun W => refin_any m W)
  have HI2 := Lib.hid (fun W => refin_any (cnt C t + m) W)
  have R0 := Lib.hid (Ra.new w d A n c t)
  obtain ⟨⟨s0, s1⟩, ⟨y0, y1, y2, y3, y4⟩, ⟨o0, o1⟩, fo⟩ := R0.out.facts
  have hs : IntKind.i64.wrap (cnt C t + m) = cnt C t + m := by
    unfold inB at hn
    simp only [decide_eq_true_eq] at hn
    exact IntWalk.i64_in _ ⟨by omega, by omega⟩
  have hkn : plN C t ≤ n := by rw [← hX.len]; exact plN_le C t
  have hkl : plN C t + 1 ≤ n := by
    obtain ⟨p, hp, _⟩ := (cnt_place (t := t) hC).1 hpb
    have := (List.getElem?_eq_some_iff.1 hp).1
    rw [hX.len] at this
    omega
  rw [hr] at HR
  rw [hn] at HI1
  rw [hm] at HI2
  rw [hpb] at HP
  generalize plN C t = k at *
  have hd' : (t.d != d) = false := by simpa using hd
  have hz' : (cnt C t + m != 0) = false := by simpa using hz
  have hsl1 := cslice_to hX hkn
  obtain ⟨Ad, hsl2, hd4⟩ := cslice_from hX hkl
  have HT1 := Lib.hid (hX.take hkn)
  have HT3 := Lib.hid hd4
  have HL1 := Lib.hid (show (recC (C.take k)).length = k * 6 by rw [recC_length, List.length_take, hX.len]; omega)
  have HM1 := Lib.hid (show (0 + k) * 48 ≤ 140737488355328 by omega)
  have HM2 := Lib.hid (show (0 + k + 1) * 48 ≤ 140737488355328 by omega)
  have HM3 := Lib.hid (show ((0 + k) + (n - (k + 1))) * 48 ≤ 140737488355328 by omega)
  have HM4 := Lib.hid (show (0 + k) + (n - (k + 1)) ≤ 9223372036854775807 by omega)
  have HKA := Lib.hid (And.intro hkn hkl)
  have hk1 : IntKind.i64.wrap ((k : Int) + 1) = (k : Int) + 1 := IntWalk.i64_in _ ⟨by omega, by omega⟩
  have hsl3 : ∀ W, (Instr.slice 38 (.slice A n c) (some (.int .i64 ((k : Int) + 1))) none none).run Try.prog W = .ok (.slice Ad (n - (k + 1)) (c - (k + 1))) W := fun W => by have h9 := hsl2 W; rwa [show (((k + 1 : Nat) : Int)) = (k : Int) + 1 by omega] at h9
  clear hsl2
  clear hX hC hr hd hn hm hc hz hpb hd4 hkn hkl hlim
  go_enter Try.func17, Try.ntmps17
  go_wp2_with (first
    | (go_at_call 34; (with_reducible refine (HR.out _).mono ?_); rintro e wz ⟨rfl, hb⟩; replace R0 := Lib.hid (R0.out.below hb); clear hb s0 s1 y0 y1 y2 y3 y4 o0 o1 fo; obtain ⟨⟨s0, s1⟩, ⟨y0, y1, y2, y3, y4⟩, ⟨o0, o1⟩, fo⟩ := R0.out.facts)
    | (go_at_call 35; (with_reducible refine (HP.out _ R0.out.b).mono ?_); rintro e wz ⟨rfl, hb⟩; replace R0 := Lib.hid (R0.out.below hb); clear hb s0 s1 y0 y1 y2 y3 y4 o0 o1 fo; obtain ⟨⟨s0, s1⟩, ⟨y0, y1, y2, y3, y4⟩, ⟨o0, o1⟩, fo⟩ := R0.out.facts)
    | (go_at_call 36; (with_reducible refine (HI1.out _).mono ?_); rintro e wz ⟨rfl, hb⟩; replace R0 := Lib.hid (R0.out.below hb); clear hb s0 s1 y0 y1 y2 y3 y4 o0 o1 fo; obtain ⟨⟨s0, s1⟩, ⟨y0, y1, y2, y3, y4⟩, ⟨o0, o1⟩, fo⟩ := R0.out.facts)
    | (go_at_call 36; (with_reducible refine (HI2.out _).mono ?_); rintro e wz ⟨rfl, hb⟩; replace R0 := Lib.hid (R0.out.below hb); clear hb s0 s1 y0 y1 y2 y3 y4 o0 o1 fo; obtain ⟨⟨s0, s1⟩, ⟨y0, y1, y2, y3, y4⟩, ⟨o0, o1⟩, fo⟩ := R0.out.facts)
    | (go_at_call 18; (with_reducible refine (HC.out _ R0.out.b).mono ?_); rintro e wz ⟨rfl, hb⟩; replace R0 := Lib.hid (R0.out.below hb); clear hb s0 s1 y0 y1 y2 y3 y4 o0 o1 fo; obtain ⟨⟨s0, s1⟩, ⟨y0, y1, y2, y3, y4⟩, ⟨o0, o1⟩, fo⟩ := R0.out.facts)
    | (at_builtin; first
       | (refine own_append rfl (.tmp 47) (.tmp 51) 38 67 (.agg #[.int .i64 0, .int .i64 0, .int .i64 0, .int .i64 0, .int .i64 0, .int .i64 0]) 6 48 rfl Try.underlying38 infoCo rfl (by omega) (by omega) (w.heap.size + 3) (.slice none 0 0) 0 [] A k c (recC (C.take k)) rfl rfl (World.ownsRow_nil _ _ _ _) HL1.out (cos_src (HT1.out.below RCo.stays R0.out.b)) (recC_one _) HM1.out (by have := R0.out.sz; omega) ?_
          intro v1 w6 hown hgr hat
          replace R0 := Lib.hid (R0.out.grown hgr (fun k hk => by cases hk))
          have HO1 := Lib.hid hown
          clear hown hgr hat s0 s1 y0 y1 y2 y3 y4 o0 o1 fo
          obtain ⟨⟨s0, s1⟩, ⟨y0, y1, y2, y3, y4⟩, ⟨o0, o1⟩, fo⟩ := R0.out.facts)))
  have HL3 := Lib.hid (show (recC (C.drop (k + 1))).length = (n - (k + 1)) * 6 by rw [recC_length, List.length_drop, HX.out.len])
  replace R0 := Lib.hid (R0.out.drew)
  have HOd := Lib.hid (own_below HO1.out ((Below.refl _ _).drew))
  clear s0 s1 y0 y1 y2 y3 y4 o0 o1 fo HO1
  obtain ⟨⟨s0, s1⟩, ⟨y0, y1, y2, y3, y4⟩, ⟨o0, o1⟩, fo⟩ := R0.out.facts
  go_region_held3 (fun w' => w'.cell? ⟨w.heap.size, 0, none⟩ = some (.int .i64 d) ∧ w'.cell? ⟨w.heap.size, 1, none⟩ = some (.slice A n c))
    (first | exact ⟨s0, s1⟩ | exact ⟨x0, x1⟩ | exact R8.out.keep _ _)
    (first
      | (refine step_own_append rfl (.tmp 66) (.tmp 70) 38 67 (.agg #[.int .i64 0, .int .i64 0, .int .i64 0, .int .i64 0, .int .i64 0, .int .i64 0]) 6 48 rfl Try.underlying38 infoCo rfl (by omega) (by omega) (w.heap.size + 3) v1 (0 + k) ([] ++ (recC (C.take k))) Ad (n - (k + 1)) (c - (k + 1)) (recC (C.drop (k + 1))) rfl rfl HOd.out HL3.out (cos_src (HT3.out.below RCo.stays R0.out.b)) (recC_one _) HM3.out (by have := R0.out.sz; omega) ?_
         intro v3 w8 hown hgr hat
         have R8 := Lib.hid (R0.out.grown hgr (fun k hk => own_lt HOd.out k hk))
         have HO3 := Lib.hid hown
         have HF := Lib.hid (own_fin HO3.out HM4.out)
         obtain ⟨A3, c3, rfl⟩ := HF.out
         obtain ⟨⟨x0, x1⟩, _, ⟨q0, q1⟩, fq⟩ := R8.out.facts
         clear hown hgr hat))
  clear s0 s1 y0 y1 y2 y3 y4 o0 o1 fo x0 x1
  go_wp2_with fail
  (try simp only [Exit.inBlock, Exit.then])
  refine bodyPost_ret (v := .tuple #[.agg #[.int .i64 d, .slice A3 ((0 + k) + (n - (k + 1))) c3], .int .i64 0]) ?_ rfl ⟨A3, (0 + k) + (n - (k + 1)), c3, by rw [HE.out], ?_, R8.out.fin _ _⟩
  · rw [results_cell_tmp rfl]; go_simp
  · rw [HA.out]
    refine cos_set ?_ HM4.out _ _
    have e9 : recC (C.take k ++ [] ++ C.drop (k + 1)) = ([] ++ (recC (C.take k))) ++ recC (C.drop (k + 1)) := by rw [List.append_nil, recC_append]; rfl
    have h9 := HO3.out
    rw [← e9] at h9
    exact h9
set_option maxRecDepth 100000 in
set_option maxHeartbeats 16000000 in
theorem refadd_zero_no (d : Int) (A : Option Addr) (n c : Nat) (C : List (T × Int)) (t : T) (m : Int) (w : World) (hX : Cos w A n c C) (hC : Canon C) (hlim : n ≤ 1000000) (hr : t.rightB = true) (hd : t.d = d) (hc : -1099511627776 ≤ cnt C t ∧ cnt C t ≤ 1099511627776) (hn : inB m = true) (hm : inB (cnt C t + m) = true)
    (hz : cnt C t + m = 0) (hpb : plB C t = false) :
    Calls Try.prog 17 #[.agg #[.int .i64 d, .slice A n c], .agg #[.int .i64 t.d, .int .i64 t.e, .int .i64 t.a, .int .i64 t.b, .int .i64 t.c], .int .i64 m] w (RAdds d C t m w) := by
  have HE := Lib.hid (show addE d C t m = 0 by unfold addE; simp [hr, hd, hn, hm])
  have HA := Lib.hid (show addC d C t m = C.take (plN C t) ++ [] ++ C.drop (plN C t + 0) by
    unfold addC
    rw [HE.out]
    unfold putC
    rw [hpb]
    simp [hz])
  have HX := Lib.hid hX
  have HR := Lib.hid (fun W => refright_any t W)
  have HP := Lib.hid (fun W (hb : Below w.heap.size w W) => place_any d A n c C t W (hX.below RCo.stays hb))
  have HC := Lib.hid (fun W (hb : Below w.heap.size w W) => refcount_any d A n c C t W (hX.below RCo.stays hb) hC)
  have HI1 := Lib.hid (fun W => refin_any m W)
  have HI2 := Lib.hid (fun W => refin_any (cnt C t + m) W)
  have R0 := Lib.hid (Ra.new w d A n c t)
  obtain ⟨⟨s0, s1⟩, ⟨y0, y1, y2, y3, y4⟩, ⟨o0, o1⟩, fo⟩ := R0.out.facts
  have hs : IntKind.i64.wrap (cnt C t + m) = cnt C t + m := by
    unfold inB at hn
    simp only [decide_eq_true_eq] at hn
    exact IntWalk.i64_in _ ⟨by omega, by omega⟩
  have hkn : plN C t ≤ n := by rw [← hX.len]; exact plN_le C t
  have hkl : plN C t ≤ n := hkn
  rw [hr] at HR
  rw [hn] at HI1
  rw [hm] at HI2
  rw [hpb] at HP
  generalize plN C t = k at *
  have hd' : (t.d != d) = false := by simpa using hd
  have hz' : (cnt C t + m != 0) = false := by simpa using hz
  have hsl1 := cslice_to hX hkn
  obtain ⟨Ad, hsl2, hd4⟩ := cslice_from hX hkl
  have HT1 := Lib.hid (hX.take hkn)
  have HT3 := Lib.hid hd4
  have HL1 := Lib.hid (show (recC (C.take k)).length = k * 6 by rw [recC_length, List.length_take, hX.len]; omega)
  have HM1 := Lib.hid (show (0 + k) * 48 ≤ 140737488355328 by omega)
  have HM2 := Lib.hid (show (0 + k + 1) * 48 ≤ 140737488355328 by omega)
  have HM3 := Lib.hid (show ((0 + k) + (n - k)) * 48 ≤ 140737488355328 by omega)
  have HM4 := Lib.hid (show (0 + k) + (n - k) ≤ 9223372036854775807 by omega)
  have HKA := Lib.hid (And.intro hkn hkl)
  clear hX hC hr hd hn hm hc hz hpb hd4 hkn hkl hlim
  go_enter Try.func17, Try.ntmps17
  go_wp2_with (first
    | (go_at_call 34; (with_reducible refine (HR.out _).mono ?_); rintro e wz ⟨rfl, hb⟩; replace R0 := Lib.hid (R0.out.below hb); clear hb s0 s1 y0 y1 y2 y3 y4 o0 o1 fo; obtain ⟨⟨s0, s1⟩, ⟨y0, y1, y2, y3, y4⟩, ⟨o0, o1⟩, fo⟩ := R0.out.facts)
    | (go_at_call 35; (with_reducible refine (HP.out _ R0.out.b).mono ?_); rintro e wz ⟨rfl, hb⟩; replace R0 := Lib.hid (R0.out.below hb); clear hb s0 s1 y0 y1 y2 y3 y4 o0 o1 fo; obtain ⟨⟨s0, s1⟩, ⟨y0, y1, y2, y3, y4⟩, ⟨o0, o1⟩, fo⟩ := R0.out.facts)
    | (go_at_call 36; (with_reducible refine (HI1.out _).mono ?_); rintro e wz ⟨rfl, hb⟩; replace R0 := Lib.hid (R0.out.below hb); clear hb s0 s1 y0 y1 y2 y3 y4 o0 o1 fo; obtain ⟨⟨s0, s1⟩, ⟨y0, y1, y2, y3, y4⟩, ⟨o0, o1⟩, fo⟩ := R0.out.facts)
    | (go_at_call 36; (with_reducible refine (HI2.out _).mono ?_); rintro e wz ⟨rfl, hb⟩; replace R0 := Lib.hid (R0.out.below hb); clear hb s0 s1 y0 y1 y2 y3 y4 o0 o1 fo; obtain ⟨⟨s0, s1⟩, ⟨y0, y1, y2, y3, y4⟩, ⟨o0, o1⟩, fo⟩ := R0.out.facts)
    | (go_at_call 18; (with_reducible refine (HC.out _ R0.out.b).mono ?_); rintro e wz ⟨rfl, hb⟩; replace R0 := Lib.hid (R0.out.below hb); clear hb s0 s1 y0 y1 y2 y3 y4 o0 o1 fo; obtain ⟨⟨s0, s1⟩, ⟨y0, y1, y2, y3, y4⟩, ⟨o0, o1⟩, fo⟩ := R0.out.facts)
    | (at_builtin; first
       | (refine own_append rfl (.tmp 47) (.tmp 51) 38 67 (.agg #[.int .i64 0, .int .i64 0, .int .i64 0, .int .i64 0, .int .i64 0, .int .i64 0]) 6 48 rfl Try.underlying38 infoCo rfl (by omega) (by omega) (w.heap.size + 3) (.slice none 0 0) 0 [] A k c (recC (C.take k)) rfl rfl (World.ownsRow_nil _ _ _ _) HL1.out (cos_src (HT1.out.below RCo.stays R0.out.b)) (recC_one _) HM1.out (by have := R0.out.sz; omega) ?_
          intro v1 w6 hown hgr hat
          replace R0 := Lib.hid (R0.out.grown hgr (fun k hk => by cases hk))
          have HO1 := Lib.hid hown
          clear hown hgr hat s0 s1 y0 y1 y2 y3 y4 o0 o1 fo
          obtain ⟨⟨s0, s1⟩, ⟨y0, y1, y2, y3, y4⟩, ⟨o0, o1⟩, fo⟩ := R0.out.facts)))
  have HL3 := Lib.hid (show (recC (C.drop k)).length = (n - k) * 6 by rw [recC_length, List.length_drop, HX.out.len])
  replace R0 := Lib.hid (R0.out.drew)
  have HOd := Lib.hid (own_below HO1.out ((Below.refl _ _).drew))
  clear s0 s1 y0 y1 y2 y3 y4 o0 o1 fo HO1
  obtain ⟨⟨s0, s1⟩, ⟨y0, y1, y2, y3, y4⟩, ⟨o0, o1⟩, fo⟩ := R0.out.facts
  go_region_held3 (fun w' => w'.cell? ⟨w.heap.size, 0, none⟩ = some (.int .i64 d) ∧ w'.cell? ⟨w.heap.size, 1, none⟩ = some (.slice A n c))
    (first | exact ⟨s0, s1⟩ | exact ⟨x0, x1⟩ | exact R8.out.keep _ _)
    (first
      | (refine step_own_append rfl (.tmp 66) (.tmp 70) 38 67 (.agg #[.int .i64 0, .int .i64 0, .int .i64 0, .int .i64 0, .int .i64 0, .int .i64 0]) 6 48 rfl Try.underlying38 infoCo rfl (by omega) (by omega) (w.heap.size + 3) v1 (0 + k) ([] ++ (recC (C.take k))) Ad (n - k) (c - k) (recC (C.drop k)) rfl rfl HOd.out HL3.out (cos_src (HT3.out.below RCo.stays R0.out.b)) (recC_one _) HM3.out (by have := R0.out.sz; omega) ?_
         intro v3 w8 hown hgr hat
         have R8 := Lib.hid (R0.out.grown hgr (fun k hk => own_lt HOd.out k hk))
         have HO3 := Lib.hid hown
         have HF := Lib.hid (own_fin HO3.out HM4.out)
         obtain ⟨A3, c3, rfl⟩ := HF.out
         obtain ⟨⟨x0, x1⟩, _, ⟨q0, q1⟩, fq⟩ := R8.out.facts
         clear hown hgr hat))
  clear s0 s1 y0 y1 y2 y3 y4 o0 o1 fo x0 x1
  go_wp2_with fail
  (try simp only [Exit.inBlock, Exit.then])
  refine bodyPost_ret (v := .tuple #[.agg #[.int .i64 d, .slice A3 ((0 + k) + (n - k)) c3], .int .i64 0]) ?_ rfl ⟨A3, (0 + k) + (n - k), c3, by rw [HE.out], ?_, R8.out.fin _ _⟩
  · rw [results_cell_tmp rfl]; go_simp
  · rw [HA.out]
    refine cos_set ?_ HM4.out _ _
    have e9 : recC (C.take k ++ [] ++ C.drop k) = ([] ++ (recC (C.take k))) ++ recC (C.drop k) := by rw [List.append_nil, recC_append]; rfl
    have h9 := HO3.out
    rw [← e9] at h9
    exact h9
end Go.Proofs.Ytebpepjlhanopaa
