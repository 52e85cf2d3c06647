/- An update is read. -/
import Derived.Test.YteiohcgohgcjfaaRows
import Derived.IntWalk
import Derived.Deep.RegionHeld2
import Derived.Test.YteiohcgohgcjfaaWords
import Derived.Test.YteiohcgohgcjfaaByts
import Derived.Test.YteiohcgohgcjfaaStrs
import Derived.Test.YteiohcgohgcjfaaFrame
import Derived.Test.YteiohcgohgcjfaaElems
import Derived.Test.YteiohcgohgcjfaaBitsW
import Derived.Test.YteiohcgohgcjfaaS1
import Derived.Test.YteiohcgohgcjfaaS2
import Derived.Test.YteiohcgohgcjfaaEqs
import Derived.Test.YteiohcgohgcjfaaS11
import Derived.Test.YteiohcgohgcjfaaG1
import Derived.Test.YteiohcgohgcjfaaD1
import Derived.Test.YteiohcgohgcjfaaE1
import Derived.Test.YteiohcgohgcjfaaE2
import Derived.Test.YteiohcgohgcjfaaE3
namespace Go.Proofs.Yteiohcgohgcjfaa
open Go Go.RowKit Go.Proofs.Tail
set_option linter.unusedSimpArgs false
set_option linter.unusedVariables false
def Upd.ucs (u : Upd) : List Value := [.int .i64 u.n, .bool u.h, .int .i64 u.s.d, .int .i64 u.s.e, .int .i64 u.s.a, .int .i64 u.s.b, .int .i64 u.s.c, .int .i64 u.m]
def heldV (xs : List Int) : Int := wrap64 (val ((xs.drop 1).take 1))
def u3B (xs : List Int) : Bool := decide (2 ≤ xs.length ∧ heldV xs ≤ 1 ∧ getB (xs.drop 2) = true ∧ 8 ≤ (getR (xs.drop 2)).length)
def u3U (xs : List Int) : Upd := ⟨wrap64 (val (xs.take 1)), decide (heldV xs = 1), getT (xs.drop 2), wrap64 (val ((getR (xs.drop 2)).take 8))⟩
def u3R (xs : List Int) : List Int := (getR (xs.drop 2)).drop 8
def Upd3 (R : Nat) (xs : List Int) (w : World) (e : Ending) (w' : World) : Prop :=
  (u3B xs = true → e = .returned (.agg (u3U xs).ucs.toArray) ∧ Rb w' R (u3R xs)) ∧ (u3B xs = false → Pan e) ∧ Fr (fun b => b = R) w w'
theorem upd_cells (W : World) (tmps : Array Value) (g : Nat) (u : Upd) (hp : tmps.getD 1 undef = .pointer (some ⟨g, 0, none⟩)) (hB : Blk W g u.ucs 54) : (results Try.f38 tmps).run Try.prog W = .ok (.agg u.ucs.toArray) W :=
  results_cell_row rfl tmps W g _ _ _ _ hp hB.h Try.underlying54 rfl (by kernel_rfl)
/-- Reading a number, its value and the rest under names of their own. -/
def NumZ (R k : Nat) (xs ys : List Int) (z : Int) (w : World) (e : Ending) (w' : World) : Prop :=
  (k ≤ xs.length → e = .returned (.int .i64 z) ∧ Rb w' R ys) ∧ (xs.length < k → Pan e) ∧ Fr (fun b => b = R) w w'
theorem num_z (R k : Nat) (xs ys : List Int) (z : Int) (hz : z = wrap64 (val (xs.take k))) (hy : ys = xs.drop k) (w : World) (h : Rb w R xs) (h1 : 1 ≤ k) (h8 : k ≤ 8) : Calls Try.prog 33 #[.pointer (some ⟨R, 0, none⟩), .int .i64 k] w (NumZ R k xs ys z w) := by
  subst hz; subst hy
  exact number_any R k xs w h h1 h8
def TimZ (R : Nat) (xs ys : List Int) (t : T) (w : World) (e : Ending) (w' : World) : Prop :=
  (getB xs = true → e = .returned (.agg #[.int .i64 t.d, .int .i64 t.e, .int .i64 t.a, .int .i64 t.b, .int .i64 t.c]) ∧ Rb w' R ys) ∧ (getB xs = false → Pan e) ∧ Fr (fun b => b = R) w w'
theorem tim_z (R : Nat) (xs ys : List Int) (t : T) (ht : t = getT xs) (hy : ys = getR xs) (w : World) (h : Rb w R xs) : Calls Try.prog 34 #[.pointer (some ⟨R, 0, none⟩)] w (TimZ R xs ys t w) := by
  subst ht; subst hy
  exact rtime_any R xs w h
theorem set8 {w : World} {g : Nat} {t : TypeId} {c0 c1 c2 c3 c4 c5 c6 c7 : Value} (h : Blk w g [c0, c1, c2, c3, c4, c5, c6, c7] t) (v0 v1 v2 v3 v4 v5 v6 v7 : Value) :
    Blk ((((((((w.setCell ⟨g, 0, none⟩ v0).setCell ⟨g, 1, none⟩ v1).setCell ⟨g, 2, none⟩ v2).setCell ⟨g, 3, none⟩ v3).setCell ⟨g, 4, none⟩ v4).setCell ⟨g, 5, none⟩ v5).setCell ⟨g, 6, none⟩ v6).setCell ⟨g, 7, none⟩ v7) g [v0, v1, v2, v3, v4, v5, v6, v7] t ∧ Fr (fun b => b = g) w ((((((((w.setCell ⟨g, 0, none⟩ v0).setCell ⟨g, 1, none⟩ v1).setCell ⟨g, 2, none⟩ v2).setCell ⟨g, 3, none⟩ v3).setCell ⟨g, 4, none⟩ v4).setCell ⟨g, 5, none⟩ v5).setCell ⟨g, 6, none⟩ v6).setCell ⟨g, 7, none⟩ v7) :=
  ⟨(((((((h.set 0 v0).set 1 v1).set 2 v2).set 3 v3).set 4 v4).set 5 v5).set 6 v6).set 7 v7,
   ((((((((Fr.refl (fun b => b = g) w).set (p := ⟨g, 0, none⟩) (fun _ => rfl) v0).set (p := ⟨g, 1, none⟩) (fun _ => rfl) v1).set (p := ⟨g, 2, none⟩) (fun _ => rfl) v2).set (p := ⟨g, 3, none⟩) (fun _ => rfl) v3).set (p := ⟨g, 4, none⟩) (fun _ => rfl) v4).set (p := ⟨g, 5, none⟩) (fun _ => rfl) v5).set (p := ⟨g, 6, none⟩) (fun _ => rfl) v6).set (p := ⟨g, 7, none⟩) (fun _ => rfl) v7⟩
set_option maxHeartbeats 8000000 in
theorem upd3_any (V R : Nat) (xs : List Int) (w : World) (hV : Blk w V [.pointer (some ⟨R, 0, none⟩)] 77) (hne : V ≠ R) (h : Rb w R xs) : Calls Try.prog 38 #[.pointer (some ⟨V, 0, none⟩)] w (Upd3 R xs w) := by
  obtain ⟨O, hO⟩ : ∃ O : Obj, O = .cells #[.int .i64 0, .bool false, .int .i64 0, .int .i64 0, .int .i64 0, .int .i64 0, .int .i64 0, .int .i64 0] 54 := ⟨_, rfl⟩
  have hb1 := below_new w (.cells #[.int .i64 0, .bool false, .int .i64 0, .int .i64 0, .int .i64 0, .int .i64 0, .int .i64 0, .int .i64 0] 54)
  have HV := Lib.hid (hV.then hb1)
  have cV := (hV.then hb1).cell 0
  have HB1 := Lib.hid hb1
  have HO := Lib.hid (show Blk (w.alloc (.cells #[.int .i64 0, .bool false, .int .i64 0, .int .i64 0, .int .i64 0, .int .i64 0, .int .i64 0, .int .i64 0] 54)) w.heap.size [.int .i64 0, .bool false, .int .i64 0, .int .i64 0, .int .i64 0, .int .i64 0, .int .i64 0, .int .i64 0] 54 from Blk.new w [.int .i64 0, .bool false, .int .i64 0, .int .i64 0, .int .i64 0, .int .i64 0, .int .i64 0, .int .i64 0] 54 _ rfl)
  have HNE := Lib.hid hne
  have HLR := Lib.hid h.lt
  have HLV := Lib.hid hV.lt
  have HR := Lib.hid (h.below hb1)
  obtain ⟨y1, hy1⟩ : ∃ y, y = xs.drop 1 := ⟨_, rfl⟩
  obtain ⟨y2, hy2⟩ : ∃ y, y = xs.drop 2 := ⟨_, rfl⟩
  have hy2' : y2 = y1.drop 1 := by rw [hy1, hy2, List.drop_drop]
  obtain ⟨y3, hy3⟩ : ∃ y, y = getR y2 := ⟨_, rfl⟩
  obtain ⟨y4, hy4⟩ : ∃ y, y = y3.drop 8 := ⟨_, rfl⟩
  obtain ⟨z1, hz1⟩ : ∃ z, z = wrap64 (val (xs.take 1)) := ⟨_, rfl⟩
  obtain ⟨z2, hz2⟩ : ∃ z, z = wrap64 (val (y1.take 1)) := ⟨_, rfl⟩
  obtain ⟨t3, ht3⟩ : ∃ t, t = getT y2 := ⟨_, rfl⟩
  obtain ⟨z4, hz4⟩ : ∃ z, z = wrap64 (val (y3.take 8)) := ⟨_, rfl⟩
  have HL1 := Lib.hid (show y1.length = xs.length - 1 by rw [hy1, List.length_drop])
  have N1 := Lib.hid (fun W (hW : Rb W R xs) => show Calls Try.prog 33 #[.pointer (some ⟨R, 0, none⟩), .int .i64 1] W _ from num_z R 1 xs y1 z1 hz1 hy1 W hW (by omega) (by omega))
  have N2 := Lib.hid (fun W (hW : Rb W R y1) => show Calls Try.prog 33 #[.pointer (some ⟨R, 0, none⟩), .int .i64 1] W _ from num_z R 1 y1 y2 z2 hz2 hy2' W hW (by omega) (by omega))
  have N3 := Lib.hid (fun W (hW : Rb W R y2) => tim_z R y2 y3 t3 ht3 hy3 W hW)
  have N4 := Lib.hid (fun W (hW : Rb W R y3) => show Calls Try.prog 33 #[.pointer (some ⟨R, 0, none⟩), .int .i64 8] W _ from num_z R 8 y3 y4 z4 hz4 hy4 W hW (by omega) (by omega))
  have HB : Hid (u3B xs = decide (2 ≤ xs.length ∧ z2 ≤ 1 ∧ getB y2 = true ∧ 8 ≤ y3.length)) := Lib.hid (by unfold u3B heldV; rw [← hy1, ← hz2, ← hy2, ← hy3])
  have HU : Hid (u3U xs = ⟨z1, decide (z2 = 1), t3, z4⟩) := Lib.hid (by unfold u3U heldV; rw [← hy1, ← hz2, ← hy2, ← hy3, ← hz1, ← ht3, ← hz4])
  have HU3 : Hid (u3R xs = y4) := Lib.hid (by unfold u3R; rw [← hy2, ← hy3, ← hy4])
  clear hy1 hy2 hy2' hy3 hy4 hz1 hz2 ht3 hz4
  have WY := Lib.hid (fun W => want_yes W)
  have WN := Lib.hid (fun W => want_no W)
  clear hV h hb1
  go_enter Try.func38, Try.ntmps38
  go_wp2_with fail
  subst hO
  generalize (w.alloc (.cells #[.int .i64 0, .bool false, .int .i64 0, .int .i64 0, .int .i64 0, .int .i64 0, .int .i64 0, .int .i64 0] 54)) = w1 at *
  go_region_held2 (fun w' => w'.cell? ⟨V, 0, none⟩ = some (.pointer (some ⟨R, 0, none⟩)))
    (first | exact cV3 | exact cV2 | exact HV.out.drew.cell 0 | exact HV.out.cell 0)
    (first
      | (go_at_call 33; (with_reducible refine (N2.out _ HR2.out).mono ?_); rintro e w3 hn3
         have HF3 := Lib.hid (HF2.out.trans hn3.2.2 (fun _ _ h => h))
         rcases Nat.lt_or_ge y1.length 1 with hlt | hge
         · have hp := hn3.2.1 hlt
           unfold Pan at hp
           subst hp
           exact ⟨rfl, fun q => by rw [HB.out] at q; have := HL1.out; have := (of_decide_eq_true q).1; omega, fun _ => rfl, HF3.out⟩
         obtain ⟨rfl, hr3⟩ := hn3.1 hge
         have HO3 := Lib.hid (HO2.out.fr hn3.2.2 (fun e => by have := HLR.out; omega))
         have cV3 := hn3.2.2.cell cV2 HNE.out
         have HV3 := Lib.hid (HV2.out.fr hn3.2.2 HNE.out)
         have HR3 := Lib.hid hr3; have HG3 := Lib.hid hge; clear hr3 hn3 hge)
      | (go_at_call 33; (with_reducible refine (N1.out _ HR.out.drew).mono ?_)
         rintro e w2 hn2
         have HF2 := Lib.hid (show Fr (fun b => b = R) w w2 from (Fr.of_below HB1.out.drew).trans hn2.2.2 (fun _ _ h => h))
         rcases Nat.lt_or_ge xs.length 1 with hlt | hge
         · have hp := hn2.2.1 hlt
           unfold Pan at hp
           subst hp
           exact ⟨rfl, fun q => by rw [HB.out] at q; have := (of_decide_eq_true q).1; omega, fun _ => rfl, HF2.out⟩
         obtain ⟨rfl, hr2⟩ := hn2.1 hge
         have HO2 := Lib.hid (HO.out.drew.fr hn2.2.2 (fun e => by have := HLR.out; omega))
         have cV2 : w2.cell? ⟨V, 0, none⟩ = some (.pointer (some ⟨R, 0, none⟩)) := hn2.2.2.cell (HV.out.drew.cell 0) HNE.out
         have HV2 := Lib.hid (HV.out.drew.fr hn2.2.2 HNE.out)
         have HR2 := Lib.hid hr2; clear hr2 hn2 hge))
  by_cases hle : z2 ≤ 1
  · have d1 : decide (z2 ≤ 1) = true := decide_eq_true hle
    have HLE := Lib.hid hle
    clear hle cV cV2
    go_wp2_with fail
    refine (WY.out _).mono ?_
    rintro e w4 ⟨rfl, hw4⟩
    subst hw4
    clear d1
    go_wp2_with fail
    have cV4 : w3.drew.cell? ⟨V, 0, none⟩ = some (.pointer (some ⟨R, 0, none⟩)) := HV3.out.drew.cell 0
    go_region_held2 (fun w' => w'.cell? ⟨V, 0, none⟩ = some (.pointer (some ⟨R, 0, none⟩)))
      (first | with_reducible exact cV6 | with_reducible exact cV5 | with_reducible exact cV4 | ((iterate 8 (rw [World.cell?_setCell_other _ _ _ _ (by intro e; injection e with e; have := HLV.out; omega)])); exact cV6))
      (first
        | (go_at_call 33; (with_reducible refine (N4.out _ HR5.out).mono ?_); rintro e w6 hn6
           have HF6 := Lib.hid (HF5.out.trans hn6.2.2 (fun _ _ h => h))
           rcases Nat.lt_or_ge y3.length 8 with hlt | hge
           · have hp := hn6.2.1 hlt
             unfold Pan at hp
             subst hp
             exact ⟨rfl, fun q => by rw [HB.out] at q; have := (of_decide_eq_true q).2.2.2; omega, fun _ => rfl, HF6.out⟩
           obtain ⟨rfl, hr6⟩ := hn6.1 hge
           have hO6 := HO5.out.fr hn6.2.2 (fun e => by have := HLR.out; omega)
           have HO6 := Lib.hid hO6
           have o0 := hO6.cell 0
           have o1 := hO6.cell 1
           have o2 := hO6.cell 2
           have o3 := hO6.cell 3
           have o4 := hO6.cell 4
           have o5 := hO6.cell 5
           have o6 := hO6.cell 6
           have o7 := hO6.cell 7
           have fo := fun o => hO6.frozen o
           have cV6 := hn6.2.2.cell cV5 HNE.out
           have HR6 := Lib.hid hr6; have HG6 := Lib.hid hge; clear hr6 hn6 hge hO6)
        | (go_at_call 34; (with_reducible refine (N3.out _ HR3.out.drew).mono ?_)
           rintro e w5 hn5
           have HF5 := Lib.hid (show Fr (fun b => b = R) w w5 from HF3.out.drew.trans hn5.2.2 (fun _ _ h => h))
           rcases (Bool.eq_false_or_eq_true (getB y2)).symm with hlt | hge
           · have hp := hn5.2.1 hlt
             unfold Pan at hp
             subst hp
             exact ⟨rfl, fun q => by rw [HB.out] at q; have := (of_decide_eq_true q).2.2.1; (rw [hlt] at this; cases this), fun _ => rfl, HF5.out⟩
           obtain ⟨rfl, hr5⟩ := hn5.1 hge
           have HO5 := Lib.hid (HO3.out.drew.fr hn5.2.2 (fun e => by have := HLR.out; omega))
           have cV5 : w5.cell? ⟨V, 0, none⟩ = some (.pointer (some ⟨R, 0, none⟩)) := hn5.2.2.cell (HV3.out.drew.cell 0) HNE.out
           have HR5 := Lib.hid hr5
           have HG5 := Lib.hid hge
           clear hr5 hn5 hge))
    obtain ⟨hR, hf⟩ := set8 HO6.out (.int .i64 z1) (.bool (z2 == 1)) (.int .i64 t3.d) (.int .i64 t3.e) (.int .i64 t3.a) (.int .i64 t3.b) (.int .i64 t3.c) (.int .i64 z4)
    have hne2 : w.heap.size ≠ R := fun e => by have := HLR.out; omega
    have hF := HF6.out.trans hf (fun i hi he => absurd he (by omega))
    have hB := HR6.out.apart HO6.out (by intro v hv x; simp only [List.mem_cons, List.not_mem_nil, or_false] at hv; rcases hv with rfl | rfl | rfl | rfl | rfl | rfl | rfl | rfl <;> (intro q; cases q)) hne2 hf
    generalize ((((((((w6.setCell ⟨w.heap.size, 0, none⟩ (.int .i64 z1)).setCell ⟨w.heap.size, 1, none⟩ (.bool (z2 == 1))).setCell ⟨w.heap.size, 2, none⟩ (.int .i64 t3.d)).setCell ⟨w.heap.size, 3, none⟩ (.int .i64 t3.e)).setCell ⟨w.heap.size, 4, none⟩ (.int .i64 t3.a)).setCell ⟨w.heap.size, 5, none⟩ (.int .i64 t3.b)).setCell ⟨w.heap.size, 6, none⟩ (.int .i64 t3.c)).setCell ⟨w.heap.size, 7, none⟩ (.int .i64 z4)) = w9 at *
    go_wp2_with fail
    refine bodyPost_ret (v := .agg (⟨z1, decide (z2 = 1), t3, z4⟩ : Upd).ucs.toArray) ?_ rfl ?_
    · exact upd_cells _ _ w.heap.size ⟨z1, decide (z2 = 1), t3, z4⟩ rfl hR
    · refine ⟨fun _ => ⟨by rw [HU.out], by rw [HU3.out]; exact hB⟩, fun q => ?_, hF⟩
      rw [HB.out, decide_eq_false_iff_not] at q
      exact absurd ⟨by have := HL1.out; have := HG3.out; omega, HLE.out, HG5.out, HG6.out⟩ q
  · have d1 : decide (z2 ≤ 1) = false := decide_eq_false hle
    have HLE := Lib.hid hle
    clear hle
    go_wp2_with fail
    refine (WN.out _).mono ?_
    rintro e w3' ⟨rfl, rfl⟩
    exact ⟨rfl, fun q => by rw [HB.out] at q; have := (of_decide_eq_true q).2.1; have := HLE.out; omega, fun _ => rfl, HF3.out⟩
end Go.Proofs.Yteiohcgohgcjfaa
