/- The walk of FieldsRead (begun). -/
import Derived.Test.YtnpiocbgbpnlmaaRows
import Derived.Test.YtnpiocbgbpnlmaaWords
import Derived.Test.YtnpiocbgbpnlmaaByts
import Derived.Test.YtnpiocbgbpnlmaaStrs
import Derived.Test.YtnpiocbgbpnlmaaFrame
import Derived.Test.YtnpiocbgbpnlmaaElems
import Derived.Test.YtnpiocbgbpnlmaaA1
import Derived.Test.YtnpiocbgbpnlmaaA2
import Derived.Test.YtnpiocbgbpnlmaaA3
import Derived.Test.YtnpiocbgbpnlmaaA4
import Derived.Test.YtnpiocbgbpnlmaaA5
import Derived.Test.YtnpiocbgbpnlmaaA6
import Derived.Test.YtnpiocbgbpnlmaaA7
import Derived.Test.YtnpiocbgbpnlmaaA8
import Derived.Test.YtnpiocbgbpnlmaaA9
import Derived.Test.YtnpiocbgbpnlmaaA10
import Derived.Test.YtnpiocbgbpnlmaaA11
import Derived.Test.YtnpiocbgbpnlmaaP1
import Derived.Test.YtnpiocbgbpnlmaaL3
import Derived.Test.YtnpiocbgbpnlmaaL7
import Derived.Deep.RegionWith
import Derived.Deep.RegionLaw
namespace Go.Proofs.Ytnpiocbgbpnlmaa
open Go Go.Lib Go.RowKit Go.Proofs.Tail
set_option linter.unusedSimpArgs false
set_option linter.unusedVariables false
/-- A Reader and the reference's Rest, that have the same yet to read. -/
structure RM (w wx : World) (P M : Nat) (xs : List Int) (sp : Bool) : Prop where
  ex : ∃ G, Rr wx P G xs sp ∧ Ms wx M xs sp ∧ P ≠ M ∧ (xs ≠ [] → M ≠ G)
  hP : w.heap.size ≤ P
  hM : w.heap.size ≤ M
theorem RM.below {w wx wy : World} {P M : Nat} {xs : List Int} {sp : Bool} (h : RM w wx P M xs sp) (hb : Below wx.heap.size wx wy) : RM w wy P M xs sp := by
  obtain ⟨⟨G, r1, r2, r⟩, h1, h2⟩ := h
  exact ⟨⟨G, r1.below hb, r2.below hb, r⟩, h1, h2⟩
theorem Rr.fr2 {S : Nat → Prop} {w w' : World} {P G : Nat} {xs : List Int} {sp : Bool} (h : Rr w P G xs sp) (hf : Fr S w w') (h1 : ¬ S P) (h2 : xs ≠ [] → ¬ S G) : Rr w' P G xs sp := by
  obtain ⟨A, n, c, hk, hr, hg⟩ := h.ex
  refine ⟨⟨A, n, c, hk.fr hf h1, ⟨hr.len, hr.cap, hr.big, fun hn => ?_⟩, hg⟩, h.ne, h.inb⟩
  obtain ⟨b, off, rfl, hc⟩ := hr.at_ hn
  have hbG : b = G := hg _ rfl
  have hx : xs ≠ [] := by intro e; have := hr.len; rw [e] at this; simp at this; omega
  exact ⟨b, off, rfl, fun j x hj => RByte.block (hf.block b (RByte.lt (hc j x hj)) (by rw [hbG]; exact h2 hx)) (hc j x hj)⟩
theorem nxt_restlen (xs : List Int) (sp : Bool) (k : Int) : (nxt xs sp k).2.1.length ≤ xs.length := by
  unfold nxt
  split
  · simp
  · simp [List.length_drop]
/-- A small number that is read. -/
def RI16 (w : World) (b o : Nat) (x : Int) : Prop := w.cell? ⟨b, o, none⟩ = some (.int .i16 x) ∧ -32768 ≤ x ∧ x ≤ 32767
theorem RI16.stays : Stays RI16 := fun _ _ _ _ _ hb h => ⟨below_cell hb h.1, h.2⟩
set_option maxRecDepth 100000 in
set_option maxHeartbeats 32000000 in
theorem law_read_yes (A A' : Option Addr) (n c n' c' : Nat) (raw : List Int) (asks : List Int) (w : World) (hX : Byts w A n c raw) (hI : InB raw) (hQ : Rd 1 RI16 w A' n' c' asks) (l1 : n ≤ 2000) (l2 : n' ≤ 50) :
    Calls Try.prog 4 #[.slice A n c, .slice A' n' c'] w (Gives (.bool true) w) := by
  have HX := Lib.hid hX
  have HQ := Lib.hid hQ
  have HI := Lib.hid hI
  have HL := Lib.hid hX.len
  have d1 : decide (2000 < (n : Int)) = false := decide_eq_false (by omega)
  have d2 : decide (50 < (n' : Int)) = false := decide_eq_false (by omega)
  have CV := Lib.hid (fun (w : World) A n c (xs : List Int) (hr : Byts w A n c xs) => run_convert_byts w 23 5 Try.underlying23 Try.underlying5 hr 9 Try.underlying9)
  clear hX hI hQ
  go_enter Try.func4, Try.ntmps4
  go_upto_region 3 with fail
  have B0 := Lib.hid ((Below.refl w.heap.size w).drew)
  go_cut [5, 6] (fun a b wx => ∃ P M : Nat, a = .pointer (some ⟨P, 0, none⟩) ∧ b = .pointer (some ⟨M, 0, none⟩) ∧ Hid (RM w wx P M raw false) ∧ Hid (Below w.heap.size w wx))
  case first =>
    have a0 := CV.out w.drew A n c raw (HX.out.below RByte.stays B0.out)
    have B1 := Lib.hid (below_new w (.cells #[.string (strOfNums raw), .bool false] 37)).drew
    have M1 := Lib.hid (show Ms (w.alloc (.cells #[.string (strOfNums raw), .bool false] 37)).drew w.heap.size raw false from ⟨(Blk.new w [.string (strOfNums raw), .bool false] _ _ rfl).drew⟩)
    have OP := Lib.hid (fun W (hb : Below w.heap.size w W) => open_any A n c raw W (HX.out.below RByte.stays hb) HI.out (by omega))
    go_region_with (first
      | (go_at_call 15
         first | with_reducible refine (OP.out _ B0.out).mono ?_ | with_reducible refine (OP.out _ B1.out).mono ?_
         rintro e w5 ⟨P, G, rfl, hR, hP, hG, hb⟩
         have RP := Lib.hid hR
         have HP := Lib.hid (And.intro hP hG)
         have HB5 := Lib.hid hb
         first | have B5 := Lib.hid (B1.out.trans (hb.mono B1.out.size)) | have B5 := Lib.hid (B0.out.trans (hb.mono B0.out.size))
         have a1 := CV.out w5 A n c raw (HX.out.below RByte.stays B5.out)
         clear hR hP hG hb))
    all_goals
      go_wp2_with fail
      go_meet
      first
      | exact ⟨P, w.heap.size, rfl, rfl, Lib.hid (RM.mk ⟨G, RP.out, M1.out.below HB5.out, (by have := HP.out.1; simp at this; omega), fun _ => (by have := HP.out.2; simp at this; omega)⟩ (by have := HP.out.1; simp at this; omega) (Nat.le_refl _)), B5⟩
      | exact ⟨P, w5.heap.size, rfl, rfl, Lib.hid (RM.mk ⟨G, RP.out.below (below_new w5 _), ⟨Blk.new w5 [.string (strOfNums raw), .bool false] _ _ rfl⟩, (by obtain ⟨_, _, _, hk, _⟩ := RP.out.ex; have := hk.lt; omega), fun h => (by have := RP.out.glt h; omega)⟩ (by have := HP.out.1; simp at this; omega) B5.out.size), Lib.hid (below_alloc B5.out _)⟩
  case rest =>
    obtain ⟨P, M, rfl, rfl, TR, HB⟩ := hcut
    have T0 := Lib.hid (show ∃ xs sp, xs.length ≤ 2000 ∧ RM w wc P M xs sp from ⟨raw, false, by have := HL.out; omega, TR.out⟩)
    clear TR B0 d1 d2
    go_wp2_with fail
    go_loopw [7] (fun i wr => ∃ k : Nat, k ≤ n' ∧ i = .int .i64 k ∧ Hid (∃ xs sp, xs.length ≤ 2000 ∧ RM w wr P M xs sp) ∧ Hid (Below w.heap.size w wr)) (fun i _ => n' - (intOf i).toNat)
    case atStart => exact ⟨0, Nat.zero_le _, rfl, T0, HB⟩
    case round =>
      clear T0 HB
      obtain ⟨k, hk, rfl, TT, HB⟩ := hrel
      obtain ⟨xs, sp, hx, TR⟩ := TT.out
      by_cases hlt : k < n'
      · obtain ⟨b, off, a, rfl, ha, hc⟩ := (HQ.out.below RI16.stays HB.out).elem hlt
        rw [Nat.mul_one] at hc
        obtain ⟨c0, a0, a1⟩ := hc
        have TR := Lib.hid TR
        have hx := Lib.hid hx
        clear TT ha
        by_cases h16 : a.tmod 16 = 0
        · have e0 : (a.tmod 16 == 0) = true := by simpa using h16
          obtain ⟨G, r1, r2, q1, q2⟩ := TR.out.ex
          have hP := TR.out.hP
          have hM := TR.out.hM
          have hKb : -9223372036854775808 ≤ a.tdiv 16 ∧ a.tdiv 16 ≤ 9223372036854775807 := by
            rcases Int.le_total 0 a with h | h
            · rw [Int.tdiv_eq_ediv_of_nonneg h]; omega
            · have := Int.neg_tdiv (-a) 16
              rw [Int.neg_neg] at this
              rw [this, Int.tdiv_eq_ediv_of_nonneg (by omega)]; omega
          have HB1 := Lib.hid (below_new wr (.cells #[.int .i8 0, .int .u64 0, .string ⟨#[]⟩] 42))
          have RR1 := Lib.hid (r1.below HB1.out)
          have MM1 := Lib.hid (r2.below HB1.out)
          have HC := Lib.hid (rraw_any P G xs sp (a.tdiv 16) _ RR1.out hKb (by have := hx.out; omega))
          have HN := Lib.hid (fun W hW => mnext_any M xs sp (a.tdiv 16) W hW (by have := hx.out; omega) hKb)
          have HNL := Lib.hid (nxt_len xs sp (a.tdiv 16))
          have HNR := Lib.hid (nxt_restlen xs sp (a.tdiv 16))
          have HG0 := Lib.hid (fun h => r1.glt (nxt_rest (xs := xs) (sp := sp) (k := a.tdiv 16) h))
          have HG1 := Lib.hid (fun h => nxt_rest (xs := xs) (sp := sp) (k := a.tdiv 16) h)
          have HS1 := Lib.hid (show (wr.alloc (.cells #[.int .i8 0, .int .u64 0, .string ⟨#[]⟩] 42)).heap.size = wr.heap.size + 1 by simp)
          have HMP := Lib.hid (And.intro r2.blk.lt (show P < wr.heap.size by obtain ⟨_, _, _, hk, _⟩ := r1.ex; exact hk.lt))
          generalize nxt xs sp (a.tdiv 16) = r at *
          have QQ := Lib.hid (And.intro q1 q2)
          have HPM := Lib.hid (And.intro hP hM)
          have HKB := Lib.hid hKb
          clear q1 q2 hP hM hKb r1 r2
          go_wp2_with fail
          refine HC.out.mono ?_
          rintro e w3 ⟨v, rfl, ho, hR, hF⟩
          obtain ⟨A3, c3, rfl, hr3⟩ := own_byts ho (by have := HNL.out; have := hx.out; omega)
          have RR3 := Lib.hid hR
          have MM3 := Lib.hid (MM1.out.fr hF (fun e => QQ.out.1 e.symm))
          have F3 := Lib.hid ((Fr.of_below (S := fun k => k = P) HB1.out).trans hF (fun _ _ h => h))
          have HO3 := Lib.hid ho
          have HR3 := Lib.hid hr3
          have cv3 := CV.out w3 A3 _ c3 r.1 hr3
          have cv3' := CV.out w3.drew A3 _ c3 r.1 (hr3.below RByte.stays ((Below.refl _ _).drew))
          have hAB : ∀ ad, A3 = some ad → ad.block ≠ M := fun ad e => by
            subst e
            have h1 := (ho.lt ad.block rfl).1
            have h2 := MM1.out.blk.lt
            omega
          have HAB := Lib.hid hAB
          clear ho hR hF hr3 hAB HC RR1
          go_upto_region 12 with fail
          go_cut [56] (fun x wx => x = .bool false ∧ Hid (Ms wx M r.2.1 r.2.2 ∧ Fr (fun k => k = M) w3 wx))
          case first =>
            go_region_with (first
              | (go_at_call 17
                 first | with_reducible refine (HN.out _ MM3.out).mono ?_ | with_reducible refine (HN.out _ (MM3.out.below ((Below.refl _ _).drew))).mono ?_
                 rintro e w4 ⟨rfl, hM, hF⟩
                 have MM4 := Lib.hid hM
                 have F4 := Lib.hid (show Fr (fun k => k = M) w3 w4 from ((Fr.refl (fun k => k = M) w3).drew).trans hF (fun _ _ h => h))
                 have cv4 := CV.out w4 A3 _ c3 r.1 (byts_fr HR3.out F4.out HAB.out)
                 clear hM hF))
            all_goals
              go_wp2_with fail
              go_meet
              exact ⟨by simp, Lib.hid ⟨MM4.out, F4.out⟩⟩
          case rest =>
            obtain ⟨rfl, HM⟩ := hcut
            have hpos : ∀ B, wr.heap.size < B → M < B ∧ P < B ∧ (r.2.1 ≠ [] → G < B) := fun B hB => by
              have h1 := HMP.out
              exact ⟨by omega, by omega, fun h => by have := HG0.out h; omega⟩
            have HPOS := Lib.hid (hpos (wr.heap.size + 1) (by omega))
            have HB3 := Lib.hid (HB.out.trans (F3.out.below HB.out.size (fun k hk e => by have := HPM.out.1; omega)))
            have HB4 := Lib.hid (HB3.out.trans (HM.out.2.below HB3.out.size (fun k hk e => by have := HPM.out.2; omega)))
            have T4 := Lib.hid ((Turned.of (own_base (base' := wr.heap.size + 1) HO3.out (by simp))).fr HM.out.2 (fun a ha => HAB.out a ha))
            have RR4 := Lib.hid (show Rr wc P G r.2.1 r.2.2 ∧ Ms wc M r.2.1 r.2.2 from ⟨RR3.out.fr2 HM.out.2 (fun e => QQ.out.1 e) (fun hx e => QQ.out.2 (HG1.out hx) e.symm), HM.out.1⟩)
            have HQ2 := Lib.hid (fun hx : r.2.1 ≠ [] => QQ.out.2 (HG1.out hx))
            have HRL := Lib.hid (show r.2.1.length ≤ 2000 by have := HNR.out; have := hx.out; omega)
            have hm2 : r.1.length ≤ 2000 := by have := HNL.out; have := hx.out; omega
            clear HM HB3 HO3 HR3 cv3 cv3' RR3 MM3 F3 HAB MM1 HB1 HN HKB
            generalize hmm : r.1.length = m at *
            clear hmm
            go_wp2_with fail
            obtain ⟨wq, hq⟩ : ∃ q, q = wr := ⟨_, rfl⟩
            subst hq
            go_loopw [11] (fun i wz => ∃ k' : Nat, k' ≤ m ∧ i = .int .i64 k' ∧ Hid (Turned (wq.heap.size + 1) A3 m c3 wz) ∧ Hid (Rr wz P G r.2.1 r.2.2 ∧ Ms wz M r.2.1 r.2.2) ∧ Hid (Below w.heap.size w wz)) (fun i _ => m - (intOf i).toNat)
            case atStart => exact ⟨0, Nat.zero_le _, rfl, T4, RR4, HB4⟩
            case round =>
              clear T4 RR4 HB4
              obtain ⟨k', hk', rfl, TT, RR, HBz⟩ := hrel
              by_cases hlt' : k' < m
              · obtain ⟨g, ys, rfl, hg, ho⟩ := TT.out (by omega)
                obtain ⟨c0', f0'⟩ := ownB_cell ho hlt'
                have HO := Lib.hid ho
                have HG := Lib.hid hg
                clear ho hg TT
                go_wp2_with fail
                have ff : ∀ x, Fr (fun b => b = g) wr (wr.setCell ⟨g, k', none⟩ x) := fun x => (Fr.refl (fun b => b = g) wr).set (p := ⟨g, k', none⟩) (fun _ => rfl) _
                have fb : ∀ x, Below (wq.heap.size + 1) wr (wr.setCell ⟨g, k', none⟩ x) := fun x => (Below.refl _ wr).setCell (p := ⟨g, k', none⟩) HG.out _
                have hn := HG.out
                go_roundw
                case rel => exact ⟨k' + 1, by omega, by go_num, Lib.hid fun _ => ⟨g, _, rfl, HG.out, ownB_set HO.out k' _⟩, Lib.hid ⟨RR.out.1.low (fb _) HPOS.out.2.1 HPOS.out.2.2, ⟨RR.out.2.blk.below (fb _) HPOS.out.1⟩⟩, Lib.hid (HBz.out.trans ((ff _).below HBz.out.size (fun b hb e => by have := HB.out.size; omega)))⟩
                case measure => simp [intOf]; omega
              · clear TT
                obtain ⟨wy, hwy⟩ : ∃ wy, wy = wr := ⟨_, rfl⟩
                subst hwy
                have HB2 := HBz
                have TT2 := Lib.hid (show ∃ xs sp, xs.length ≤ 2000 ∧ RM w wy P M xs sp from ⟨r.2.1, r.2.2, HRL.out, ⟨⟨G, RR.out.1, RR.out.2, QQ.out.1, HQ2.out⟩, HPM.out.1, HPM.out.2⟩⟩)
                clear RR HBz HQ2 HRL HMP HPOS HPM QQ HG0 HG1 HNL HNR HS1 TR HB hx
                go_wp2_with fail
                obtain ⟨xs2, sp2, hx2, TR2⟩ := TT2.out
                have HX2 := Lib.hid hx2
                obtain ⟨G2, r1, r2, q⟩ := TR2.ex
                have QL := Lib.hid (fun p : After wy => left_any P G2 xs2 sp2 p.val (r1.below p.below))
                have QB := Lib.hid (fun p : After wy => bad_any P G2 xs2 sp2 p.val (r1.below p.below))
                have m0 := fun p : After wy => (r2.below p.below).blk.cell 0
                have m1 := fun p : After wy => (r2.below p.below).blk.cell 1
                have hsz : (strOfNums xs2).size = xs2.length := strOfNums_size xs2
                have TR2 := Lib.hid TR2
                clear TT2 r1 r2 q hx2
                refine quiet_after (by kernel_rfl) (by kernel_rfl) ?_
                repeat (first | go_big_quiet_step (first | (go_at_call 20; with_reducible exact calls_after' (QL.out _)) | (go_at_call 21; with_reducible exact calls_after' (QB.out _))) | quiet_step (first | (go_at_call 20; with_reducible exact calls_after' (QL.out _)) | (go_at_call 21; with_reducible exact calls_after' (QB.out _))))
                refine wpQuiet_nil ?_
                intro wz hw'
                obtain ⟨p, rfl⟩ := hw'
                obtain ⟨w5, hbq⟩ := p
                dsimp only
                have TT5 := Lib.hid (show ∃ xs sp, xs.length ≤ 2000 ∧ RM w w5 P M xs sp from ⟨xs2, sp2, HX2.out, TR2.out.below hbq⟩)
                have HB5 := Lib.hid (HB2.out.trans (hbq.mono HB2.out.size))
                clear m0 m1 hsz QL QB TR2 HB2 hbq HX2
                go_wp2_with fail
                go_roundw
                case rel => exact ⟨k + 1, by omega, by go_num, TT5, HB5⟩
                case measure => simp [intOf]; omega
        · have e0 : (a.tmod 16 == 0) = false := by simpa using h16
          have t01 : -16 < a.tmod 16 ∧ a.tmod 16 < 16 := by
            have h1 := Int.tmod_lt_of_pos a (show (0 : Int) < 16 by omega)
            have h2 := Int.tmod_lt_of_pos (-a) (show (0 : Int) < 16 by omega)
            rw [Int.neg_tmod] at h2
            omega
          obtain ⟨t0, t1⟩ := t01
          have t2 : -128 ≤ a.tmod 16 := by omega
          have t3 : a.tmod 16 ≤ 127 := by omega
          have hok : Th.ok ⟨a.tmod 16, 0, ⟨#[]⟩⟩ := ⟨t2, t3, by dsimp only; omega, by dsimp only; omega, by show (0 : Nat) ≤ _; omega⟩
          have HOK := Lib.hid hok
          have HBX := Lib.hid (Th.box wr ⟨a.tmod 16, 0, ⟨#[]⟩⟩)
          have l0 := HBX.out.cell
          have HB1 := Lib.hid (below_new wr (Th.bx ⟨a.tmod 16, 0, ⟨#[]⟩⟩))
          have TR1 := Lib.hid (TR.out.below HB1.out)
          have HB1w := Lib.hid (HB.out.trans (HB1.out.mono HB.out.size))
          by_cases hw0 : Th.wide ⟨a.tmod 16, 0, ⟨#[]⟩⟩ = 0
          · have HV := Lib.hid (wide_is _ hw0)
            clear hw0 hok t0 t1
            go_wp2_with fail
            refine (HV.out _).mono ?_
            rintro e wy ⟨rfl, hb⟩
            have HB2 := Lib.hid (HB1w.out.trans (hb.mono HB1w.out.size))
            have TT2 := Lib.hid (show ∃ xs sp, xs.length ≤ 2000 ∧ RM w wy P M xs sp from ⟨xs, sp, hx.out, TR1.out.below hb⟩)
            clear hb HV HBX l0 HB1 TR1 HB1w TR HB hx HOK t2 t3
            go_wp2_with fail
            obtain ⟨xs2, sp2, hx2, TR2⟩ := TT2.out
            have HX2 := Lib.hid hx2
            obtain ⟨G2, r1, r2, q⟩ := TR2.ex
            have QL := Lib.hid (fun p : After wy => left_any P G2 xs2 sp2 p.val (r1.below p.below))
            have QB := Lib.hid (fun p : After wy => bad_any P G2 xs2 sp2 p.val (r1.below p.below))
            have m0 := fun p : After wy => (r2.below p.below).blk.cell 0
            have m1 := fun p : After wy => (r2.below p.below).blk.cell 1
            have hsz : (strOfNums xs2).size = xs2.length := strOfNums_size xs2
            have TR2 := Lib.hid TR2
            clear TT2 r1 r2 q hx2
            refine quiet_after (by kernel_rfl) (by kernel_rfl) ?_
            repeat (first | go_big_quiet_step (first | (go_at_call 20; with_reducible exact calls_after' (QL.out _)) | (go_at_call 21; with_reducible exact calls_after' (QB.out _))) | quiet_step (first | (go_at_call 20; with_reducible exact calls_after' (QL.out _)) | (go_at_call 21; with_reducible exact calls_after' (QB.out _))))
            refine wpQuiet_nil ?_
            intro wz hw'
            obtain ⟨p, rfl⟩ := hw'
            obtain ⟨w5, hbq⟩ := p
            dsimp only
            have TT5 := Lib.hid (show ∃ xs sp, xs.length ≤ 2000 ∧ RM w w5 P M xs sp from ⟨xs2, sp2, HX2.out, TR2.out.below hbq⟩)
            have HB5 := Lib.hid (HB2.out.trans (hbq.mono HB2.out.size))
            clear m0 m1 hsz QL QB TR2 HB2 hbq HX2
            go_wp2_with fail
            go_roundw
            case rel => exact ⟨k + 1, by omega, by go_num, TT5, HB5⟩
            case measure => simp [intOf]; omega

          · have HV := Lib.hid (wide_any ⟨a.tmod 16, 0, ⟨#[]⟩⟩)
            have hwl := Th.wide_le ⟨a.tmod 16, 0, ⟨#[]⟩⟩
            obtain ⟨G, r1, r2, q1, q2⟩ := TR1.out.ex
            have RR1 := Lib.hid r1
            have MM1 := Lib.hid r2
            have QQ := Lib.hid (And.intro q1 q2)
            have HPM := Lib.hid (And.intro TR.out.hP TR.out.hM)
            have HRD := Lib.hid (fun W hW => read_any ⟨a.tmod 16, 0, ⟨#[]⟩⟩ hok P G xs sp W hW (by have := hx.out; omega))
            rw [show Th.wants ⟨a.tmod 16, 0, ⟨#[]⟩⟩ = Th.wide ⟨a.tmod 16, 0, ⟨#[]⟩⟩ from by unfold Th.wants; rw [if_neg hw0]] at HRD
            have HRN := Lib.hid (Th.read_nil ⟨a.tmod 16, 0, ⟨#[]⟩⟩)
            have HRS := Lib.hid (show ∀ l, l ≠ [] → Th.readL ⟨a.tmod 16, 0, ⟨#[]⟩⟩ l = l from fun l hl => by unfold Th.readL; rw [if_neg hw0, if_neg hl])
            have HN := Lib.hid (fun W hW => mnext_any M xs sp (Th.wide ⟨a.tmod 16, 0, ⟨#[]⟩⟩) W hW (by have := hx.out; omega) (by omega))
            have HNR := Lib.hid (nxt_restlen xs sp (Th.wide ⟨a.tmod 16, 0, ⟨#[]⟩⟩))
            have HNI := Lib.hid (nxt_in sp (Th.wide ⟨a.tmod 16, 0, ⟨#[]⟩⟩) r1.inb)
            have HQ2 := Lib.hid (fun hn => q2 (nxt_rest (xs := xs) (sp := sp) (k := (Th.wide ⟨a.tmod 16, 0, ⟨#[]⟩⟩ : Nat)) hn))
            generalize nxt xs sp (Th.wide ⟨a.tmod 16, 0, ⟨#[]⟩⟩ : Nat) = r at *
            generalize Th.readL ⟨a.tmod 16, 0, ⟨#[]⟩⟩ = rl at *
            generalize Th.wide ⟨a.tmod 16, 0, ⟨#[]⟩⟩ = wd at *
            have hwp : 0 < wd := by omega
            clear hw0 hok t0 t1 r1 r2 q1 q2
            go_wp2_with fail
            refine (HV.out _).mono ?_
            rintro e w2 ⟨rfl, hb⟩
            have HBX2 := Lib.hid (HBX.out.then hb)
            have RR2 := Lib.hid (RR1.out.below hb)
            have MM2 := Lib.hid (MM1.out.below hb)
            have HB2w := Lib.hid (HB1w.out.trans (hb.mono HB1w.out.size))
            clear hb l0 HBX RR1 MM1 HB1w
            have l0 := HBX2.out.cell
            go_wp2_with fail
            refine (HV.out _).mono ?_
            rintro e w3 ⟨rfl, hb⟩
            have HBX3 := Lib.hid (HBX2.out.then hb)
            have RR3 := Lib.hid (RR2.out.below hb)
            have MM3 := Lib.hid (MM2.out.below hb)
            have HB3w := Lib.hid (HB2w.out.trans (hb.mono HB2w.out.size))
            have HBM := Lib.hid (show wr.heap.size ≠ M by have := TR.out.ex; obtain ⟨_, _, h, _⟩ := this; have := h.blk.lt; omega)
            clear hb l0 HBX2 RR2 MM2 HB2w
            go_wp2_with fail
            refine (HN.out _ MM3.out).mono ?_
            rintro e w4 ⟨rfl, hM, hF⟩
            have HBX4 := Lib.hid (HBX3.out.fr hF HBM.out)
            have RR4 := Lib.hid (RR3.out.fr2 hF (fun e => QQ.out.1 e) (fun hx e => QQ.out.2 hx e.symm))
            have MM4 := Lib.hid hM
            have HB4w := Lib.hid (HB3w.out.trans (hF.below HB3w.out.size (fun k hk e => by have := HPM.out.2; omega)))
            clear hM hF HBX3 RR3 MM3 HB3w HN
            have l0 := HBX4.out.cell
            obtain ⟨x1, x2, x3⟩ := r
            dsimp only at HRD HNR HNI HQ2 RR4 MM4
            by_cases hr1 : x1 = []
            · subst hr1
              have hs0 : strOfNums [] = ⟨#[]⟩ := rfl
              have HRD := HRD
              rw [HRN.out] at HRD
              go_wp2_with fail
              refine (HV.out _).mono ?_
              rintro e w5 ⟨rfl, hb⟩
              have HBX5 := Lib.hid (HBX4.out.then hb)
              have RR5 := Lib.hid (RR4.out.below hb)
              have MM5 := Lib.hid (MM4.out.below hb)
              have HB5w := Lib.hid (HB4w.out.trans (hb.mono HB4w.out.size))
              clear hb l0 HBX4 RR4 MM4 HB4w hs0
              go_wp2_with (at_make; (refine own_makeB rfl _ _ 23 5 rfl Try.underlying23 infoB w5.heap.size wd .i64 .i64 rfl rfl (by omega) (Nat.le_refl _) ?_); intro w6 hown hg; have HG6 := Lib.hid (below_grown (Below.refl w5.heap.size w5) hg (fun k hk => by cases hk)); obtain ⟨A5, c5, e5, hr5⟩ := own_bytes hown (by omega); cases e5; have hcv := run_convert_byts w6 23 5 Try.underlying23 Try.underlying5 hr5 9 Try.underlying9; have HBX6 := Lib.hid (HBX5.out.then HG6.out); have l0 := HBX6.out.cell; clear hown hg hr5)
              have RR6 := Lib.hid (RR5.out.below HG6.out)
              have MM6 := Lib.hid (MM5.out.below HG6.out)
              have HB6w := Lib.hid (HB5w.out.trans (HG6.out.mono HB5w.out.size))
              clear hcv
              refine (HRD.out _ RR6.out).mono ?_
              rintro e wy ⟨rfl, hR, hF⟩
              have HB2 := Lib.hid (HB6w.out.trans (hF.below HB6w.out.size (fun k hk e => by have := HPM.out.1; omega)))
              have TT2 := Lib.hid (show ∃ xs sp, xs.length ≤ 2000 ∧ RM w wy P M xs sp from ⟨x2, x3, by have := HNR.out; have := hx.out; omega, ⟨G, hR, MM6.out.fr hF (fun e => QQ.out.1 e.symm), QQ.out.1, HQ2.out⟩, HPM.out.1, HPM.out.2⟩)
              clear hR hF HBX6 l0 HBX5 RR5 MM5 HB5w HG6 RR6 MM6 HB6w HQ2 HNI HNR HRS HRN HRD HV HB1 TR1 HPM QQ HOK HBM TR HB hx t2 t3 hwl hwp
              go_wp2_with fail
              obtain ⟨xs2, sp2, hx2, TR2⟩ := TT2.out
              have HX2 := Lib.hid hx2
              obtain ⟨G2, r1, r2, q⟩ := TR2.ex
              have QL := Lib.hid (fun p : After wy => left_any P G2 xs2 sp2 p.val (r1.below p.below))
              have QB := Lib.hid (fun p : After wy => bad_any P G2 xs2 sp2 p.val (r1.below p.below))
              have m0 := fun p : After wy => (r2.below p.below).blk.cell 0
              have m1 := fun p : After wy => (r2.below p.below).blk.cell 1
              have hsz : (strOfNums xs2).size = xs2.length := strOfNums_size xs2
              have TR2 := Lib.hid TR2
              clear TT2 r1 r2 q hx2
              refine quiet_after (by kernel_rfl) (by kernel_rfl) ?_
              repeat (first | go_big_quiet_step (first | (go_at_call 20; with_reducible exact calls_after' (QL.out _)) | (go_at_call 21; with_reducible exact calls_after' (QB.out _))) | quiet_step (first | (go_at_call 20; with_reducible exact calls_after' (QL.out _)) | (go_at_call 21; with_reducible exact calls_after' (QB.out _))))
              refine wpQuiet_nil ?_
              intro wz hw'
              obtain ⟨p, rfl⟩ := hw'
              obtain ⟨w5, hbq⟩ := p
              dsimp only
              have TT5 := Lib.hid (show ∃ xs sp, xs.length ≤ 2000 ∧ RM w w5 P M xs sp from ⟨xs2, sp2, HX2.out, TR2.out.below hbq⟩)
              have HB5 := Lib.hid (HB2.out.trans (hbq.mono HB2.out.size))
              clear m0 m1 hsz QL QB TR2 HB2 hbq HX2
              go_wp2_with fail
              go_roundw
              case rel => exact ⟨k + 1, by omega, by go_num, TT5, HB5⟩
              case measure => simp [intOf]; omega

            · have hne : (strOfNums x1).toList.isEmpty = false := by
                rw [Lib.toList_data, strOfNums_data]
                cases x1 with
                | nil => exact absurd rfl hr1
                | cons => rfl
              have HRD := HRD
              rw [HRS.out x1 hr1] at HRD
              clear hr1
              go_wp2_with fail
              refine (HRD.out _ RR4.out).mono ?_
              rintro e wy ⟨rfl, hR, hF⟩
              have HB2 := Lib.hid (HB4w.out.trans (hF.below HB4w.out.size (fun k hk e => by have := HPM.out.1; omega)))
              have TT2 := Lib.hid (show ∃ xs sp, xs.length ≤ 2000 ∧ RM w wy P M xs sp from ⟨x2, x3, by have := HNR.out; have := hx.out; omega, ⟨G, hR, MM4.out.fr hF (fun e => QQ.out.1 e.symm), QQ.out.1, HQ2.out⟩, HPM.out.1, HPM.out.2⟩)
              clear hR hF HBX4 l0 RR4 MM4 HB4w HQ2 HNI HNR HRS HRN HRD HV HB1 TR1 HPM QQ HOK HBM TR HB hx t2 t3 hwl hwp hne
              go_wp2_with fail
              obtain ⟨xs2, sp2, hx2, TR2⟩ := TT2.out
              have HX2 := Lib.hid hx2
              obtain ⟨G2, r1, r2, q⟩ := TR2.ex
              have QL := Lib.hid (fun p : After wy => left_any P G2 xs2 sp2 p.val (r1.below p.below))
              have QB := Lib.hid (fun p : After wy => bad_any P G2 xs2 sp2 p.val (r1.below p.below))
              have m0 := fun p : After wy => (r2.below p.below).blk.cell 0
              have m1 := fun p : After wy => (r2.below p.below).blk.cell 1
              have hsz : (strOfNums xs2).size = xs2.length := strOfNums_size xs2
              have TR2 := Lib.hid TR2
              clear TT2 r1 r2 q hx2
              refine quiet_after (by kernel_rfl) (by kernel_rfl) ?_
              repeat (first | go_big_quiet_step (first | (go_at_call 20; with_reducible exact calls_after' (QL.out _)) | (go_at_call 21; with_reducible exact calls_after' (QB.out _))) | quiet_step (first | (go_at_call 20; with_reducible exact calls_after' (QL.out _)) | (go_at_call 21; with_reducible exact calls_after' (QB.out _))))
              refine wpQuiet_nil ?_
              intro wz hw'
              obtain ⟨p, rfl⟩ := hw'
              obtain ⟨w5, hbq⟩ := p
              dsimp only
              have TT5 := Lib.hid (show ∃ xs sp, xs.length ≤ 2000 ∧ RM w w5 P M xs sp from ⟨xs2, sp2, HX2.out, TR2.out.below hbq⟩)
              have HB5 := Lib.hid (HB2.out.trans (hbq.mono HB2.out.size))
              clear m0 m1 hsz QL QB TR2 HB2 hbq HX2
              go_wp2_with fail
              go_roundw
              case rel => exact ⟨k + 1, by omega, by go_num, TT5, HB5⟩
              case measure => simp [intOf]; omega


      · have hkn : k = n' := by omega
        subst hkn
        clear TT TR
        go_wp2_with fail
        refine (works_any _).mono ?_
        rintro e w8 ⟨rfl, hb⟩
        have HB8 := Lib.hid (HB.out.trans (hb.mono HB.out.size))
        clear hb
        go_wp2_with fail
        go_ret
        exact .bool rfl HB8.out
theorem law_read_no (A A' : Option Addr) (n c n' c' : Nat) (w : World) (h : 2000 < n ∨ n ≤ 2000 ∧ 50 < n') :
    Calls Try.prog 4 #[.slice A n c, .slice A' n' c'] w (Gives (.bool true) w) := by
  rcases h with h | ⟨h, h'⟩
  · have d1 : decide (2000 < (n : Int)) = true := decide_eq_true (by omega)
    clear h
    go_enter Try.func4, Try.ntmps4
    go_wp2_with fail
    refine (works_any _).mono ?_
    rintro e w1 ⟨rfl, hb⟩
    have HB := Lib.hid hb
    clear hb
    go_wp2_with fail
    go_ret
    exact .bool rfl HB.out
  · have d1 : decide (2000 < (n : Int)) = false := decide_eq_false (by omega)
    have d2 : decide (50 < (n' : Int)) = true := decide_eq_true (by omega)
    clear h h'
    go_enter Try.func4, Try.ntmps4
    go_wp2_with fail
    refine (works_any _).mono ?_
    rintro e w1 ⟨rfl, hb⟩
    have HB := Lib.hid hb
    clear hb
    go_wp2_with fail
    go_ret
    exact .bool rfl HB.out
theorem law_read (A A' : Option Addr) (n c n' c' : Nat) (raw : List Int) (asks : List Int) (w : World) (hX : Byts w A n c raw) (hI : InB raw) (hQ : Rd 1 RI16 w A' n' c' asks) :
    Calls Try.prog 4 #[.slice A n c, .slice A' n' c'] w (Gives (.bool true) w) := by
  by_cases h : 2000 < n ∨ n ≤ 2000 ∧ 50 < n'
  · exact law_read_no A A' n c n' c' w h
  · exact law_read_yes A A' n c n' c' raw asks w hX hI hQ (by omega) (by omega)
end Go.Proofs.Ytnpiocbgbpnlmaa
