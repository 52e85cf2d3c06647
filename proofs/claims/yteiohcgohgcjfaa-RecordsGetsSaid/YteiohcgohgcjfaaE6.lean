/- A row of records is read. -/
import Derived.Test.YteiohcgohgcjfaaRows
import Derived.IntWalk
import Derived.Test.YteiohcgohgcjfaaWords
import Derived.Test.YteiohcgohgcjfaaByts
import Derived.Test.YteiohcgohgcjfaaStrs
import Derived.Test.YteiohcgohgcjfaaFrame
import Derived.Test.YteiohcgohgcjfaaElems
import Derived.Test.YteiohcgohgcjfaaS1
import Derived.Test.YteiohcgohgcjfaaD1
import Derived.Test.YteiohcgohgcjfaaE1
import Derived.Test.YteiohcgohgcjfaaE2
import Derived.Test.YteiohcgohgcjfaaE3
import Derived.Test.YteiohcgohgcjfaaE4
import Derived.Test.YteiohcgohgcjfaaE5
namespace Go.Proofs.Yteiohcgohgcjfaa
open Go Go.RowKit Go.Proofs.Tail
set_option linter.unusedSimpArgs false
set_option linter.unusedVariables false
theorem infoRec : (Try.prog.info? 50).map (fun i => (i.zero, i.size, i.bytes)) = some (some (.agg #[.int .i64 0, .int .i64 0]), 2, 16) := by kernel_rfl
set_option maxHeartbeats 8000000 in
theorem rowof2_any (V R : Nat) (xs : List Int) (w : World) (hV : Blk w V [.pointer (some ⟨R, 0, none⟩)] 77) (hne : V ≠ R) (h : Rb w R xs) : Calls Try.prog 35 #[.pointer (some ⟨R, 0, none⟩), .func (.func 36) #[] #[.pointer (some ⟨V, 0, none⟩)]] w (RowP Rc.rcs 50 2 rd2 R xs w) := by
  have HN := Lib.hid (show Calls Try.prog 33 #[.pointer (some ⟨R, 0, none⟩), .int .i64 4] w _ from number_any R 4 xs w h (by omega) (by omega))
  have HI := Lib.hid (fun W ys (hV : Blk W V [.pointer (some ⟨R, 0, none⟩)] 77) (h : Rb W R ys) => item2 V R ys W hV hne h)
  have HV := Lib.hid hV
  have HNE := Lib.hid hne
  have HLR := Lib.hid h.lt
  have HLV := Lib.hid hV.lt
  have HINB := Lib.hid h.inb
  have HP := Lib.hid (rowI_pos h.inb)
  have WY := Lib.hid (fun W => want_yes W)
  have WN := Lib.hid (fun W => want_no W)
  have HB := Lib.hid (show rowN rd2 xs = if 4 ≤ xs.length ∧ rowI xs ≤ 65536 then rdN rd2 (rowI xs).toNat (xs.drop 4) else none from rfl)
  obtain ⟨z, hz⟩ : ∃ z, z = rowI xs := ⟨_, rfl⟩
  have HZ := Lib.hid (show wrap64 (val (xs.take 4)) = z from hz.symm)
  rw [← hz] at HP HB
  clear hV hne h hz
  go_enter Try.func35, Try.ntmps35
  go_wp2_with fail
  refine HN.out.mono ?_
  rintro e w1 hn1
  rcases Nat.lt_or_ge xs.length 4 with hlt | hge
  · have hp := hn1.2.1 hlt
    unfold Pan at hp
    subst hp
    exact ⟨rfl, fun L ys q => (by rw [HB.out, if_neg (fun q => by omega)] at q; cases q), fun _ => rfl, hn1.2.2⟩
  obtain ⟨rfl, hr1⟩ := hn1.1 hge
  rw [HZ.out]
  have HF1 := Lib.hid hn1.2.2
  have HR1 := Lib.hid hr1
  have HV1 := Lib.hid (HV.out.fr hn1.2.2 HNE.out)
  have HGE := Lib.hid hge
  clear hn1 hr1 hge HN HZ
  by_cases hle : z ≤ 65536
  · obtain ⟨n, rfl⟩ := Int.eq_ofNat_of_zero_le HP.out
    have HBT := Lib.hid (show rowN rd2 xs = rdN rd2 n (xs.drop 4) by rw [HB.out, if_pos ⟨HGE.out, hle⟩]; rfl)
    have d1 : decide ((n : Int) ≤ 65536) = true := decide_eq_true hle
    have HLE := Lib.hid (show n ≤ 65536 by omega)
    clear hle HB HP
    go_wp2_with fail
    refine (WY.out _).mono ?_
    rintro e w2 ⟨rfl, hw2⟩
    subst hw2
    clear d1
    go_wp2_with fail
    generalize xs.drop 4 = xs4 at *
    go_loopw [6, 13] (fun s i wr => ∃ (j : Nat) (L : List Rc) (ys : List Int), j ≤ n ∧ i = .int .i64 j ∧ Hid (rdN rd2 j xs4 = some (L, ys)) ∧ Hid (wr.ownsRow w.heap.size 50 2 s j (L.flatMap Rc.rcs)) ∧ Hid (Rb wr R ys) ∧ Hid (Blk wr V [.pointer (some ⟨R, 0, none⟩)] 77) ∧ Hid (Fr (fun b => b = R) w wr)) (fun _ i _ => n - (intOf i).toNat)
    case atStart => exact ⟨0, [], xs4, Nat.zero_le _, rfl, Lib.hid rfl, Lib.hid (World.ownsRow_nil _ _ _ _), HR1, HV1, HF1⟩
    case round =>
      obtain ⟨j, L, ys, hj, rfl, HRD, HOW, HRR, HVV, HFF⟩ := hrel
      clear HR1 HV1 HF1
      by_cases hlt : j < n
      · have hd : decide ((j : Int) < n) = true := decide_eq_true (by omega)
        have hd' : decide (j < n) = true := decide_eq_true hlt
        have HC := Lib.hid (HI.out wr ys HVV.out HRR.out)
        have HJ := Lib.hid hlt
        clear hlt
        go_wp2_with fail
        refine HC.out.mono ?_
        rintro e w3 hi3
        have HF3 := Lib.hid (HFF.out.trans hi3.2.2 (fun _ _ h => h))
        cases hr : rd2 ys with
        | none =>
          have hp := hi3.2.1 hr
          unfold Pan at hp
          subst hp
          exact ⟨rfl, fun L ys q => (by rw [HBT.out, rdN_stuck (rdN_fail HRD.out hr) HJ.out] at q; cases q), fun _ => rfl, HF3.out⟩
        | some p =>
          obtain ⟨x, zs⟩ := p
          obtain ⟨rfl, hr3⟩ := hi3.1 x zs hr
          have HRD2 := Lib.hid (rdN_succ HRD.out hr)
          have HRR3 := Lib.hid hr3
          have HVV3 := Lib.hid (HVV.out.fr hi3.2.2 HNE.out)
          have HOW3 := Lib.hid (own_fr HOW.out hi3.2.2 (fun k hk e => by have := own_lt HOW.out k hk; have := HLR.out; omega))
          have HLV3 := Lib.hid (show w.heap.size ≤ w3.heap.size from HF3.out.size)
          clear hi3 hr3 hr HC HVV HRR HRD HFF HOW
          have hlim : (j + 1) * 16 ≤ 140737488355328 := by have := HLE.out; have := HJ.out; omega
          have HLIM := Lib.hid hlim
          clear hlim
          (try unfold Rc.rcs)
          go_wp2_with (at_builtin; (refine own_append_lit (W := w3) rfl (.tmp 15) (.tmp 18) 25 50 (.agg #[.int .i64 0, .int .i64 0]) 2 16 rfl Try.underlying25 infoRec rfl (by omega) (by omega) w.heap.size u6 j (L.flatMap Rc.rcs) 1 1 [.int .i64 x.1, .int .i64 x.2] rfl rfl HOW3.out rfl (by intro u hu; simp only [List.mem_cons, List.not_mem_nil, or_false] at hu; rcases hu with rfl | rfl <;> rfl) HLIM.out HLV3.out ?_); intro v4 w4 hown hgr hat)
          have HOW4 := Lib.hid (show w4.ownsRow w.heap.size 50 2 v4 (j + 1) ((L ++ [x]).flatMap Rc.rcs) by rw [List.flatMap_append]; simpa [Rc.rcs] using hown)
          have hlo : ∀ k, u6.ownBlock = some k → w.heap.size ≤ k := fun k hk => own_lt HOW3.out k hk
          have hfr : Fr (fun k => w.heap.size ≤ k) w3 w4 := (Fr.refl _ w3).grown hgr (fun k hk _ => hlo k hk)
          have HF4 := Lib.hid (HF3.out.grown hgr (fun k hk hlt => absurd (hlo k hk) (by omega)))
          have HRR4 := Lib.hid (HRR3.out.beyond hfr (fun k hk => by have := HLR.out; omega))
          have HVV4 := Lib.hid (HVV3.out.fr hfr (fun hk => by have := HLV.out; omega))
          clear hown hgr hat hlo hfr HF3 HRR3 HVV3 HOW3
          have HWW := Lib.hid (show wrap64 ((j : Int) + 1) = ((j + 1 : Nat) : Int) by rw [IntWalk.wrap64_in _ ⟨by omega, by have := HLE.out; have := HJ.out; omega⟩]; rfl)
          have HMS := Lib.hid (show n - (j + 1) < n - j from Nat.sub_succ_lt_self n j HJ.out)
          go_wp2_with fail
          go_roundw
          case rel => exact ⟨j + 1, L ++ [x], zs, HJ.out, by rw [HWW.out], HRD2, HOW4, HRR4, HVV4, HF4⟩
          case measure =>
            rw [HWW.out]
            exact HMS.out
      · have hjn : j = n := by omega
        subst hjn
        have hd : decide ((j : Int) < j) = false := decide_eq_false (by omega)
        have hd' : decide (j < j) = false := decide_eq_false (by omega)
        go_wp2_with fail
        go_ret
        refine ⟨fun L' ys' q => ?_, fun q => ?_, HFF.out⟩
        · rw [HBT.out, HRD.out] at q
          injection q with q
          injection q with q1 q2
          subst q1; subst q2
          refine ⟨_, rfl, ?_, HRR.out⟩
          rw [rdN_len _ _ _ _ HRD.out]
          exact HOW.out
        · rw [HBT.out, HRD.out] at q
          cases q
  · have d1 : decide (z ≤ 65536) = false := decide_eq_false hle
    have HLE : Hid (¬ z ≤ 65536) := Lib.hid hle
    clear hle
    go_wp2_with fail
    refine (WN.out _).mono ?_
    rintro e w3' ⟨rfl, rfl⟩
    exact ⟨rfl, fun L ys q => (by rw [HB.out, if_neg (fun q => by have := HLE.out; omega)] at q; cases q), fun _ => rfl, HF1.out⟩
end Go.Proofs.Yteiohcgohgcjfaa
