/- The reference's Get. -/
import Derived.Test.YteiohcgohgcjfaaRows
import Derived.IntWalk
import Derived.Test.YteiohcgohgcjfaaWords
import Derived.Test.YteiohcgohgcjfaaByts
import Derived.Test.YteiohcgohgcjfaaStrs
import Derived.Test.YteiohcgohgcjfaaFrame
import Derived.Test.YteiohcgohgcjfaaElems
import Derived.Test.YteiohcgohgcjfaaS1
import Derived.Test.YteiohcgohgcjfaaS2
import Derived.Test.YteiohcgohgcjfaaEqs
import Derived.Test.YteiohcgohgcjfaaD1
import Derived.Test.YteiohcgohgcjfaaD5
import Derived.Test.YteiohcgohgcjfaaE4
import Derived.Test.YteiohcgohgcjfaaE5
import Derived.Test.YteiohcgohgcjfaaE6
import Derived.Test.YteiohcgohgcjfaaE7
import Derived.Test.YteiohcgohgcjfaaE8
import Derived.Test.YteiohcgohgcjfaaE8b
import Derived.Test.YteiohcgohgcjfaaE9
import Derived.Test.YteiohcgohgcjfaaPA
import Derived.Test.YteiohcgohgcjfaaB0
import Derived.Test.YteiohcgohgcjfaaH2
import Derived.Test.YteiohcgohgcjfaaK1
import Derived.Test.YteiohcgohgcjfaaM1
import Derived.Test.YteiohcgohgcjfaaM2
import Derived.Test.YteiohcgohgcjfaaMB
namespace Go.Proofs.Yteiohcgohgcjfaa
open Go Go.RowKit Go.Proofs.Tail
set_option linter.unusedSimpArgs false
set_option linter.unusedVariables false
theorem may_refused {m : Msg} {r : List Int} {o : Option Msg} (ho : o = fin m r) (h : r.length ≠ 0 ∨ mayB m = false) : o = none := by
  rw [ho]
  unfold fin
  rw [if_neg]
  rintro ⟨h1, h2⟩
  rcases h with h | h
  · exact h h1
  · rw [h] at h2; cases h2
theorem may_taken {m : Msg} {r : List Int} {o : Option Msg} (ho : o = fin m r) (h1 : r.length = 0) (h2 : mayB m = true) : o = some m := by
  rw [ho]
  unfold fin
  rw [if_pos ⟨h1, h2⟩]
theorem own_fr_recs {S : Nat → Prop} {w w' : World} {base : Nat} {e : TypeId} {A : Option Addr} {c : Nat} {l : List Rc} (h : w.ownsRow base e 2 (.slice A l.length c) l.length (l.flatMap Rc.rcs)) (hb : l.length ≤ 9223372036854775807) (hf : Fr S w w') (hs : ∀ k, base ≤ k → ¬ S k) : Recs w' A l.length c l := by
  obtain ⟨A', c', e1, hr⟩ := own_recs (own_fr h hf (fun k hk => hs k (own_lt h k hk))) hb
  injection e1 with e1 e2 e3
  subst e1; subst e3
  exact hr
theorem own_fr_upds {S : Nat → Prop} {w w' : World} {base : Nat} {e : TypeId} {A : Option Addr} {c : Nat} {l : List Upd} (h : w.ownsRow base e 8 (.slice A l.length c) l.length (l.flatMap Upd.ucs)) (hb : l.length ≤ 9223372036854775807) (hf : Fr S w w') (hs : ∀ k, base ≤ k → ¬ S k) : Upds w' A l.length c l := by
  obtain ⟨A', c', e1, hr⟩ := own_upds (own_fr h hf (fun k hk => hs k (own_lt h k hk))) hb
  injection e1 with e1 e2 e3
  subst e1; subst e3
  exact hr
set_option maxRecDepth 100000 in
set_option maxHeartbeats 32000000 in
theorem refg_any (A : Option Addr) (c : Nat) (xs : List Int) (w : World) (hX : Byts w A xs.length c xs) (hin : InB xs) (hl : xs.length ≤ 6000) : Calls Try.prog 15 #[.slice A xs.length c] w (GivesG (getM xs) w) := by
  obtain ⟨w1, hw1⟩ : ∃ w1, w1 = w.alloc (.cells zcs.toArray 34) := ⟨_, rfl⟩
  obtain ⟨w2, hw2⟩ : ∃ w2, w2 = w1.alloc (.cells #[.slice A xs.length c, .bool false] 89) := ⟨_, rfl⟩
  have s1 : w1.heap.size = w.heap.size + 1 := by rw [hw1]; simp
  have s2 : w2.heap.size = w.heap.size + 1 + 1 := by rw [hw2]; simp [s1]
  have y1 : Below w.heap.size w w1 := by rw [hw1]; exact below_new _ _
  have y2 : Below w1.heap.size w1 w2 := by rw [hw2]; exact below_new _ _
  have k1 : Blk w1 w.heap.size zcs 34 := by rw [hw1]; exact Blk.new w _ _ _ rfl
  have k2 : Blk w2 (w.heap.size + 1) [.slice A xs.length c, .bool false] 89 := by rw [hw2]; exact Blk.new w1 _ _ _ s1
  have HR := Lib.hid (show Rr w2 (w.heap.size + 1) xs false from ⟨⟨A, c, k2, (hX.below RByte.stays y1).below RByte.stays y2, fun hp a ha => by
    obtain ⟨b, o, e, hc⟩ := hX.byte hp
    rw [ha] at e
    injection e with e
    rw [e]
    have := below_lt hc
    dsimp only; omega⟩, hin⟩)
  have HZ := Lib.hid (k1.then y2)
  have HB := Lib.hid (below_then y1 y2)
  have e1 := hw1.symm
  have e2 := hw2.symm
  unfold zcs at e1
  have HIN := Lib.hid hin
  have HL := Lib.hid hl
  have HN := Lib.hid (fun k xs b W h h1 h8 => rnum_step (w.heap.size + 1) k xs b W h h1 h8)
  have HT := Lib.hid (fun xs b W h => rtime_step (w.heap.size + 1) xs b W h)
  clear hw1 hw2 y1 y2 k1 k2 hX hin hl
  go_enter Try.func15, Try.ntmps15
  go_wp2_with fail
  refine (HN.out 1 _ _ _ HR.out (by omega) (by omega)).mono ?_
  rintro e w3 ⟨v1, y1, b1, rfl, hr, hf, hs1⟩
  have HS1 := Lib.hid hs1
  have hlt : w.heap.size + 1 < w3.heap.size := by have := hf.size; omega
  obtain ⟨kk, hkk⟩ : ∃ kk, IntKind.u8.wrap v1 = kk := ⟨_, rfl⟩
  have z3 := HZ.out.fr hf (by omega)
  have S4 := Lib.hid (show Sg w w3.heap.size (C12 kk 0 0 0 0 T0 (.slice none 0 0) (.slice none 0 0)) y1 b1 (w3.alloc (.cells #[.int .u8 kk, .int .i64 0, .int .i64 0, .int .i64 0, .int .i64 0, .int .i64 0, .int .i64 0, .int .i64 0, .int .i64 0, .int .i64 0, .slice none 0 0, .slice none 0 0] 34)) from
    ⟨z3.then (below_new _ _), hr.below (below_new _ _), Blk.new _ _ _ _ rfl, hlt, (HB.out.trans (hf.below HB.out.size (fun k hk e => by omega))).trans ((below_new w3 _).mono (by omega))⟩)
  clear hs1 hr hf z3 HR HZ HB e1 e2 s2 s1
  have HM := Lib.hid hlt
  clear hlt
  by_cases hk1 : kk = 1
  · subst hk1
    go_wp2_with fail
    generalize (w3.alloc (.cells #[.int .u8 1, .int .i64 0, .int .i64 0, .int .i64 0, .int .i64 0, .int .i64 0, .int .i64 0, .int .i64 0, .int .i64 0, .int .i64 0, .slice none 0 0, .slice none 0 0] 34)) = w4 at S4 ⊢
    refine (HN.out 1 _ _ _ S4.out.rd (by omega) (by omega)).mono ?_
    rintro e w5 ⟨vf, y2, b2, rfl, hr, hf, hs⟩
    have HS2 := Lib.hid hs
    have S5 := Lib.hid (S4.out.fr hf hr)
    have mc : w5.cell? ⟨w3.heap.size, 1, none⟩ = some (.int .i64 0) := S5.out.m.cell 1
    have mf := S5.out.m.frozen 1
    have S6 := Lib.hid (show Sg w w3.heap.size (C12 1 vf 0 0 0 T0 (.slice none 0 0) (.slice none 0 0)) y2 b2 (w5.setCell ⟨w3.heap.size, 1, none⟩ (.int .i64 vf)) from S5.out.set 1 _)
    clear hr hf hs S4 S5
    go_wp2_with fail
    clear mc mf
    generalize (w5.setCell ⟨w3.heap.size, 1, none⟩ (.int .i64 vf)) = w6 at S6 ⊢
    refine (HN.out 1 _ _ _ S6.out.rd (by omega) (by omega)).mono ?_
    rintro e w7 ⟨vt, y3, b3, rfl, hr, hf, hs⟩
    have HS3 := Lib.hid hs
    have S7 := Lib.hid (S6.out.fr hf hr)
    have mc : w7.cell? ⟨w3.heap.size, 2, none⟩ = some (.int .i64 0) := S7.out.m.cell 2
    have mf := S7.out.m.frozen 2
    have S8 := Lib.hid (show Sg w w3.heap.size (C12 1 vf vt 0 0 T0 (.slice none 0 0) (.slice none 0 0)) y3 b3 (w7.setCell ⟨w3.heap.size, 2, none⟩ (.int .i64 vt)) from S7.out.set 2 _)
    clear hr hf hs S6 S7
    go_wp2_with fail
    clear mc mf
    generalize (w7.setCell ⟨w3.heap.size, 2, none⟩ (.int .i64 vt)) = w8 at S8 ⊢
    refine (HN.out 1 _ _ _ S8.out.rd (by omega) (by omega)).mono ?_
    rintro e w9 ⟨vi, y4, b4, rfl, hr, hf, hs⟩
    have HS4 := Lib.hid hs
    have S9 := Lib.hid (S8.out.fr hf hr)
    have mc : w9.cell? ⟨w3.heap.size, 3, none⟩ = some (.int .i64 0) := S9.out.m.cell 3
    have mf := S9.out.m.frozen 3
    have S10 := Lib.hid (show Sg w w3.heap.size (C12 1 vf vt vi 0 T0 (.slice none 0 0) (.slice none 0 0)) y4 b4 (w9.setCell ⟨w3.heap.size, 3, none⟩ (.int .i64 vi)) from S9.out.set 3 _)
    clear hr hf hs S8 S9
    go_wp2_with fail
    clear mc mf
    generalize (w9.setCell ⟨w3.heap.size, 3, none⟩ (.int .i64 vi)) = w10 at S10 ⊢
    refine (HN.out 8 _ _ _ S10.out.rd (by omega) (by omega)).mono ?_
    rintro e w11 ⟨vq, y5, b5, rfl, hr, hf, hs⟩
    have HS5 := Lib.hid hs
    have S11 := Lib.hid (S10.out.fr hf hr)
    have mc : w11.cell? ⟨w3.heap.size, 4, none⟩ = some (.int .i64 0) := S11.out.m.cell 4
    have mf := S11.out.m.frozen 4
    have S12 := Lib.hid (show Sg w w3.heap.size (C12 1 vf vt vi vq T0 (.slice none 0 0) (.slice none 0 0)) y5 b5 (w11.setCell ⟨w3.heap.size, 4, none⟩ (.int .i64 vq)) from S11.out.set 4 _)
    clear hr hf hs S10 S11
    go_wp2_with fail
    clear mc mf
    generalize (w11.setCell ⟨w3.heap.size, 4, none⟩ (.int .i64 vq)) = w12 at S12 ⊢
    refine (HT.out _ _ _ S12.out.rd).mono ?_
    rintro e w13 ⟨vs, y6, b6, rfl, hr, hf, hs⟩
    have HS6 := Lib.hid hs
    have S13 := Lib.hid (S12.out.fr hf hr)
    have mc0 : w13.cell? ⟨w3.heap.size, 5, none⟩ = some (.int .i64 0) := S13.out.m.cell 5
    have mc1 : w13.cell? ⟨w3.heap.size, 6, none⟩ = some (.int .i64 0) := S13.out.m.cell 6
    have mc2 : w13.cell? ⟨w3.heap.size, 7, none⟩ = some (.int .i64 0) := S13.out.m.cell 7
    have mc3 : w13.cell? ⟨w3.heap.size, 8, none⟩ = some (.int .i64 0) := S13.out.m.cell 8
    have mc4 : w13.cell? ⟨w3.heap.size, 9, none⟩ = some (.int .i64 0) := S13.out.m.cell 9
    have mf := fun o => S13.out.m.frozen o
    have S14 := Lib.hid (show Sg w w3.heap.size (C12 1 vf vt vi vq vs (.slice none 0 0) (.slice none 0 0)) y6 b6 (((((w13.setCell ⟨w3.heap.size, 5, none⟩ (.int .i64 vs.d)).setCell ⟨w3.heap.size, 6, none⟩ (.int .i64 vs.e)).setCell ⟨w3.heap.size, 7, none⟩ (.int .i64 vs.a)).setCell ⟨w3.heap.size, 8, none⟩ (.int .i64 vs.b)).setCell ⟨w3.heap.size, 9, none⟩ (.int .i64 vs.c)) from ((((S13.out.set 5 _).set 6 _).set 7 _).set 8 _).set 9 _)
    clear hr hf hs S12 S13
    go_wp2_with fail
    clear mc0 mc1 mc2 mc3 mc4 mf
    generalize (((((w13.setCell ⟨w3.heap.size, 5, none⟩ (.int .i64 vs.d)).setCell ⟨w3.heap.size, 6, none⟩ (.int .i64 vs.e)).setCell ⟨w3.heap.size, 7, none⟩ (.int .i64 vs.a)).setCell ⟨w3.heap.size, 8, none⟩ (.int .i64 vs.b)).setCell ⟨w3.heap.size, 9, none⟩ (.int .i64 vs.c)) = w14 at S14 ⊢
    refine (HN.out 4 _ _ _ S14.out.rd (by omega) (by omega)).mono ?_
    rintro e w15 ⟨n, y7, b7, rfl, hr, hf, hs⟩
    have HS7 := Lib.hid hs
    have S15 := Lib.hid (S14.out.fr hf hr)
    clear hr hf hs S14
    go_wp2_with fail
    have hn64 := HS7.out.1.1
    unfold I64 at hn64
    have HYL := Lib.hid (show y7.length ≤ 6000 by
      have a1 := HS1.out.1.2; have a2 := HS2.out.1.2; have a3 := HS3.out.1.2; have a4 := HS4.out.1.2; have a5 := HS5.out.1.2; have a6 := HS6.out.1; have a7 := HS7.out.1.2; have := HL.out
      omega)
    have GM := Lib.hid (fun (l : List Rc) (ys : List Int) (b : Bool) (k : Nat) (hl : LoopR rd2 y7 b7 k l ys b) (hkn : k ≤ n.toNat) (hend : b = true ∨ n ≤ k) => getM_one HS1.out hkk HS2.out HS3.out HS4.out HS5.out HS6.out HS7.out hl hkn hend HIN.out)
    have OW0 := Lib.hid (World.ownsRow_nil w15 (w3.heap.size + 1) 50 2)
    have LR0 := Lib.hid (LoopR.zero (rd := rd2) y7 b7)
    clear HS1 HS2 HS3 HS4 HS5 HS6 HS7 hkk
    go_loopw [7] (fun i wr => ∃ (k : Nat) (l : List Rc) (ys : List Int) (b : Bool) (lv : Value), k ≤ n.toNat ∧ i = .int .i64 k ∧ Hid (Sg w w3.heap.size (C12 1 vf vt vi vq vs lv (.slice none 0 0)) ys b wr) ∧ Hid (wr.ownsRow (w3.heap.size + 1) 50 2 lv l.length (l.flatMap Rc.rcs)) ∧ Hid (LoopR rd2 y7 b7 k l ys b)) (fun i _ => n.toNat - (intOf i).toNat)
    case atStart => exact ⟨0, [], y7, b7, .slice none 0 0, Nat.zero_le _, rfl, S15, OW0, LR0⟩
    case round =>
      clear S15 OW0 LR0
      obtain ⟨k, l, ys, b, lv, hk, rfl, SG, OW, LR⟩ := hrel
      by_cases hlt : (k : Int) < n
      rotate_left
      · have hd : decide ((k : Int) < n) = false := decide_eq_false hlt
        have hend : b = true ∨ n ≤ k := .inr (by omega)
        clear hlt
        cases b with
        | true =>
          have HNO := Lib.hid ((GM.out l ys true k LR.out hk (.inl rfl)).2 rfl)
          obtain ⟨⟨A9, c9, hb9, _, _⟩, _⟩ := SG.out.rd
          have r1 : wr.cell? ⟨w.heap.size + 1, 1, none⟩ = some (.bool true) := hb9.cell 1
          have zc : ∀ o, wr.cell? ⟨w.heap.size, o, none⟩ = (#[.int .u8 0, .int .i64 0, .int .i64 0, .int .i64 0, .int .i64 0, .int .i64 0, .int .i64 0, .int .i64 0, .int .i64 0, .int .i64 0, .slice none 0 0, .slice none 0 0] : Array Value)[o]? := fun o => by rw [SG.out.z.cell]; simp [zcs]
          have zf := fun o => SG.out.z.frozen o
          clear hb9
          go_wp2_with fail
          exact g_none SG.out.z SG.out.b HNO.out _ rfl rfl
        | false =>
          have HO := Lib.hid ((GM.out l ys false k LR.out hk (hend.resolve_left (by decide) |> Or.inr)).1 rfl)
          have hlen : l.length ≤ 6000 := by
            rcases LR.out with ⟨_, _, h3⟩ | ⟨h9, _⟩
            · have := rdN_len _ _ _ _ h3
              have h5 := rdN_room rd2_less _ _ _ _ h3
              have := HYL.out
              omega
            · cases h9
          obtain ⟨⟨A9, c9, hb9, _, _⟩, _⟩ := SG.out.rd
          have r0 : wr.cell? ⟨w.heap.size + 1, 0, none⟩ = some (.slice A9 ys.length c9) := hb9.cell 0
          have r1 : wr.cell? ⟨w.heap.size + 1, 1, none⟩ = some (.bool false) := hb9.cell 1
          obtain ⟨A8, c8, rfl⟩ := own_form OW.out
          have zc : ∀ o, wr.cell? ⟨w.heap.size, o, none⟩ = (#[.int .u8 0, .int .i64 0, .int .i64 0, .int .i64 0, .int .i64 0, .int .i64 0, .int .i64 0, .int .i64 0, .int .i64 0, .int .i64 0, .slice none 0 0, .slice none 0 0] : Array Value)[o]? := fun o => by rw [SG.out.z.cell]; simp [zcs]
          have zf := fun o => SG.out.z.frozen o
          have mc : ∀ o, wr.cell? ⟨w3.heap.size, o, none⟩ = (#[.int .u8 1, .int .i64 vf, .int .i64 vt, .int .i64 vi, .int .i64 vq, .int .i64 vs.d, .int .i64 vs.e, .int .i64 vs.a, .int .i64 vs.b, .int .i64 vs.c, .slice A8 l.length c8, .slice none 0 0] : Array Value)[o]? := fun o => by rw [SG.out.m.cell]; simp [C12, T0]
          have HLE := Lib.hid hlen
          clear hb9 hlen
          by_cases hy0 : ys.length = 0
          rotate_left
          · have g1 : decide ((0 : Int) < ys.length) = true := decide_eq_true (by omega)
            have g2 : decide (0 < ys.length) = true := decide_eq_true (by omega)
            have HNO := Lib.hid (may_refused HO.out (.inl hy0))
            clear hy0
            go_wp2_with fail
            exact g_none SG.out.z SG.out.b HNO.out _ rfl rfl
          have g1 : decide ((0 : Int) < ys.length) = false := decide_eq_false (by omega)
          have g2 : decide (0 < ys.length) = false := decide_eq_false (by omega)
          have HY0 := Lib.hid hy0
          have HMG := Lib.hid (fun (W : World) (hf : Fr (fun k => k = w.heap.size) wr W) => show Mg W ⟨1, vf, vt, vi, vq, vs, l, []⟩ A8 c8 none 0 from ⟨own_fr_recs OW.out (show l.length ≤ 9223372036854775807 by have := HLE.out; omega) hf (fun k hk e => by have := HM.out; omega), Rd.nil _ _ _⟩)
          have HC := Lib.hid (refmay_any ⟨1, vf, vt, vi, vq, vs, l, []⟩ A8 none c8 0 wr (HMG.out wr (Fr.refl _ _)))
          obtain ⟨mb, hmb⟩ : ∃ b, b = mayB ⟨1, vf, vt, vi, vq, vs, l, []⟩ := ⟨_, rfl⟩
          rw [← hmb] at HC
          have HMB := Lib.hid hmb
          clear hmb
          rw [Msg.cs_eq] at HC
          dsimp only [List.length_nil, T0] at HC
          clear hy0
          go_wp2_with fail
          refine HC.out.mono ?_
          rintro e w40 ⟨rfl, hb40⟩
          have SG2 := Lib.hid (SG.out.below hb40)
          have HMG2 := Lib.hid (fun (W : World) (hf : Fr (fun k => k = w.heap.size) w40 W) => HMG.out W ((Fr.of_below hb40).trans hf (fun _ _ h => h)))
          clear hb40 HC r0 r1 zc zf mc
          have zc : ∀ o, w40.cell? ⟨w.heap.size, o, none⟩ = (#[.int .u8 0, .int .i64 0, .int .i64 0, .int .i64 0, .int .i64 0, .int .i64 0, .int .i64 0, .int .i64 0, .int .i64 0, .int .i64 0, .slice none 0 0, .slice none 0 0] : Array Value)[o]? := fun o => by rw [SG2.out.z.cell]; simp [zcs]
          have zf := fun o => SG2.out.z.frozen o
          have mc : ∀ o, w40.cell? ⟨w3.heap.size, o, none⟩ = (#[.int .u8 1, .int .i64 vf, .int .i64 vt, .int .i64 vi, .int .i64 vq, .int .i64 vs.d, .int .i64 vs.e, .int .i64 vs.a, .int .i64 vs.b, .int .i64 vs.c, .slice A8 l.length c8, .slice none 0 0] : Array Value)[o]? := fun o => by rw [SG2.out.m.cell]; simp [C12, T0]
          cases mb with
          | false =>
            have HNO := Lib.hid (may_refused HO.out (.inr HMB.out.symm))
            go_wp2_with fail
            exact g_none SG2.out.z SG2.out.b HNO.out _ rfl rfl
          | true =>
            have HYES := Lib.hid (may_taken HO.out HY0.out HMB.out.symm)
            go_wp2_with fail
            exact g_some SG2.out.z SG2.out.b HMG2.out HYES.out _ rfl rfl
      have hd : decide ((k : Int) < n) = true := decide_eq_true hlt
      by_cases hbt : b = true
      · subst hbt
        have hend : true = true ∨ n ≤ k := .inl rfl
        obtain ⟨⟨A19, c19, hb19, _, _⟩, _⟩ := SG.out.rd
        have rr1 : wr.cell? ⟨w.heap.size + 1, 1, none⟩ = some (.bool true) := hb19.cell 1
        clear hb19
        have HNO := Lib.hid ((GM.out l ys true k LR.out hk (.inl rfl)).2 rfl)
        have zc : ∀ o, wr.cell? ⟨w.heap.size, o, none⟩ = (#[.int .u8 0, .int .i64 0, .int .i64 0, .int .i64 0, .int .i64 0, .int .i64 0, .int .i64 0, .int .i64 0, .int .i64 0, .int .i64 0, .slice none 0 0, .slice none 0 0] : Array Value)[o]? := fun o => by rw [SG.out.z.cell]; simp [zcs]
        have zf := fun o => SG.out.z.frozen o
        go_wp2_with fail
        exact g_none SG.out.z SG.out.b HNO.out _ rfl rfl
      obtain rfl : b = false := by cases b with | true => exact absurd rfl hbt | false => rfl
      clear hbt
      have HLEN := Lib.hid (show l.length = k ∧ k ≤ 6000 by
        rcases LR.out with ⟨_, _, h3⟩ | ⟨h9, _⟩
        · have h4 := rdN_len _ _ _ _ h3
          have h5 := rdN_room rd2_less _ _ _ _ h3
          have := HYL.out
          exact ⟨h4, by omega⟩
        · cases h9)
      obtain ⟨⟨A19, c19, hb19, _, _⟩, _⟩ := SG.out.rd
      have rr1 : wr.cell? ⟨w.heap.size + 1, 1, none⟩ = some (.bool false) := hb19.cell 1
      have HK9 := Lib.hid hk
      have HLT9 := Lib.hid hlt
      clear hb19
      go_wp2_with fail
      refine (HN.out 8 _ _ _ SG.out.rd (by omega) (by omega)).mono ?_
      rintro e w20 ⟨v8, y8, b8, rfl, hr, hf, hs⟩
      have H8 := Lib.hid hs
      have S20 := Lib.hid (SG.out.fr hf hr)
      have O20 := Lib.hid (own_fr OW.out hf (fun k hk e => by have := own_lt OW.out k hk; have := HM.out; omega))
      have X20 := Lib.hid (show Sx w w3.heap.size (C12 1 vf vt vi vq vs lv (.slice none 0 0)) y8 b8 w20.heap.size 50 [.int .i64 v8, .int .i64 0] 50 2 lv l.length (l.flatMap Rc.rcs) (w20.alloc (.cells #[.int .i64 v8, .int .i64 0] 50)) from Sx.new S20.out O20.out _ [.int .i64 v8, .int .i64 0])
      clear hr hf hs rr1 hd hlt
      go_wp2_with fail
      generalize (w20.alloc (.cells #[.int .i64 v8, .int .i64 0] 50)) = w21 at X20 ⊢
      refine (HN.out 8 _ _ _ X20.out.s.rd (by omega) (by omega)).mono ?_
      rintro e w22 ⟨v9, y9, b9, rfl, hr, hf, hs⟩
      have HRD := Lib.hid (step_rd2 H8.out hs)
      have X22 := Lib.hid (X20.out.fr hf hr)
      have X23 := Lib.hid (show Sx w w3.heap.size (C12 1 vf vt vi vq vs lv (.slice none 0 0)) y9 b9 w20.heap.size 50 [.int .i64 v8, .int .i64 v9] 50 2 lv l.length (l.flatMap Rc.rcs) (w22.setCell ⟨w20.heap.size, 1, none⟩ (.int .i64 v9)) from X22.out.setx 1 _)
      have xc : w22.cell? ⟨w20.heap.size, 1, none⟩ = some (.int .i64 0) := X22.out.x.cell 1
      have xf := X22.out.x.frozen 1
      have t0 : (w22.setCell ⟨w20.heap.size, 1, none⟩ (.int .i64 v9)).cell? ⟨w20.heap.size, 0, none⟩ = some (.int .i64 v8) := X23.out.x.cell 0
      have t1 : (w22.setCell ⟨w20.heap.size, 1, none⟩ (.int .i64 v9)).cell? ⟨w20.heap.size, 1, none⟩ = some (.int .i64 v9) := X23.out.x.cell 1
      have t10 : (w22.setCell ⟨w20.heap.size, 1, none⟩ (.int .i64 v9)).cell? ⟨w3.heap.size, 10, none⟩ = some lv := X23.out.s.m.cell 10
      have HLIM := Lib.hid (show (l.length + 1) * 16 ≤ 140737488355328 by have := HLEN.out; omega)
      have HSZ := Lib.hid (show w3.heap.size + 1 ≤ (w22.setCell ⟨w20.heap.size, 1, none⟩ (.int .i64 v9)).heap.size from X23.out.s.m.lt)
      clear hr hf hs S20 O20 X20
      go_wp2_with (at_builtin; (refine own_append_lit (W := w22.setCell ⟨w20.heap.size, 1, none⟩ (.int .i64 v9)) rfl (.tmp 59) (.tmp 61) 25 50 (.agg #[.int .i64 0, .int .i64 0]) 2 16 rfl Try.underlying25 infoRec rfl (by omega) (by omega) (w3.heap.size + 1) lv l.length (l.flatMap Rc.rcs) 1 1 [.int .i64 v8, .int .i64 v9] rfl (by show Value.slice (some ⟨w22.heap.size, 0, none⟩) 1 1 = _; simp) X23.out.own rfl (by intro x hx; simp only [List.mem_cons, List.not_mem_nil, or_false] at hx; rcases hx with rfl | rfl <;> rfl) HLIM.out HSZ.out ?_; intro v30 w30 hown hgr hat; obtain ⟨A30, c30, rfl⟩ := own_form hown; have S30 := Lib.hid (X23.out.s.grown hgr (fun k hk => own_lt X23.out.own k hk)); have mc : w30.cell? ⟨w3.heap.size, 10, none⟩ = some lv := S30.out.m.cell 10; have mf := S30.out.m.frozen 10; have HOW := Lib.hid hown; clear hown hgr hat))
      have S31 := Lib.hid (show Sg w w3.heap.size (C12 1 vf vt vi vq vs (.slice A30 (l.length + 1) c30) (.slice none 0 0)) y9 b9 (w30.setCell ⟨w3.heap.size, 10, none⟩ (.slice A30 (l.length + 1) c30)) from S30.out.set 10 _)
      have O31 := Lib.hid (show (w30.setCell ⟨w3.heap.size, 10, none⟩ (.slice A30 (l.length + 1) c30)).ownsRow (w3.heap.size + 1) 50 2 (.slice A30 (l.length + 1) c30) (l ++ [(v8, v9)]).length ((l ++ [(v8, v9)]).flatMap Rc.rcs) from own_fr (by rw [List.length_append, List.flatMap_append]; exact HOW.out) ((Fr.refl (fun k => k = w3.heap.size) w30).set (p := ⟨w3.heap.size, 10, none⟩) (fun _ => rfl) _) (fun k hk e => by have := own_lt HOW.out k hk; omega))
      have L31 := Lib.hid (LR.out.next HRD.out)
      have hwk : wrap64 ((k : Int) + 1) = ((k + 1 : Nat) : Int) := by rw [IntWalk.wrap64_in _ ⟨by omega, by have := HLT9.out; omega⟩]; rfl
      have HWK := Lib.hid hwk
      clear t0 t1 t10 xc xf mc mf hwk S30 HOW X22 X23 HRD
      go_wp2_with fail
      go_roundw
      case rel => exact ⟨k + 1, l ++ [(v8, v9)], y9, b9, _, by have := HLT9.out; omega, by rw [HWK.out], S31, O31, L31⟩
      case measure =>
        rw [HWK.out]
        have := HLT9.out
        simp [intOf]
        omega
  · have kk1 : (kk == 1) = false := by simpa using hk1
    have kk2 : decide (kk = 1) = false := decide_eq_false hk1
    have HK1 := Lib.hid hk1
    clear hk1
    go_wp2_with fail
    generalize (w3.alloc (.cells #[.int .u8 kk, .int .i64 0, .int .i64 0, .int .i64 0, .int .i64 0, .int .i64 0, .int .i64 0, .int .i64 0, .int .i64 0, .int .i64 0, .slice none 0 0, .slice none 0 0] 34)) = w4 at S4 ⊢
    refine (HN.out 4 _ _ _ S4.out.rd (by omega) (by omega)).mono ?_
    rintro e w5 ⟨n, y2, b2, rfl, hr, hf, hs⟩
    have HS2 := Lib.hid hs
    have S5 := Lib.hid (S4.out.fr hf hr)
    clear hr hf hs S4
    go_wp2_with fail
    have hn64 := HS2.out.1.1
    unfold I64 at hn64
    have HYL := Lib.hid (show y2.length ≤ 6000 by
      have a1 := HS1.out.1.2; have a2 := HS2.out.1.2; have := HL.out
      omega)
    have GM := Lib.hid (fun (l : List Upd) (ys : List Int) (b : Bool) (k : Nat) (hl : LoopR rd3 y2 b2 k l ys b) (hkn : k ≤ n.toNat) (hend : b = true ∨ n ≤ k) => show (b = false → getM xs = fin ⟨kk, 0, 0, 0, 0, T0, [], l⟩ ys) ∧ (b = true → getM xs = none) from by
      have := getM_two HS1.out (by rw [hkk]; exact HK1.out) HS2.out hl hkn hend HIN.out
      rw [hkk] at this
      exact this)
    have OW0 := Lib.hid (World.ownsRow_nil w5 (w3.heap.size + 1) 59 8)
    have LR0 := Lib.hid (LoopR.zero (rd := rd3) y2 b2)
    clear HS1 HS2 hkk kk1 kk2
    go_loopw [10] (fun i wr => ∃ (k : Nat) (l : List Upd) (ys : List Int) (b : Bool) (lv : Value), k ≤ n.toNat ∧ i = .int .i64 k ∧ Hid (Sg w w3.heap.size (C12 kk 0 0 0 0 T0 (.slice none 0 0) lv) ys b wr) ∧ Hid (wr.ownsRow (w3.heap.size + 1) 59 8 lv l.length (l.flatMap Upd.ucs)) ∧ Hid (LoopR rd3 y2 b2 k l ys b)) (fun i _ => n.toNat - (intOf i).toNat)
    case atStart => exact ⟨0, [], y2, b2, .slice none 0 0, Nat.zero_le _, rfl, S5, OW0, LR0⟩
    case round =>
      clear S5 OW0 LR0
      obtain ⟨k, l, ys, b, lv, hk, rfl, SG, OW, LR⟩ := hrel
      by_cases hlt : (k : Int) < n
      rotate_left
      · have hd : decide ((k : Int) < n) = false := decide_eq_false hlt
        have hend : b = true ∨ n ≤ k := .inr (by omega)
        clear hlt
        cases b with
        | true =>
          have HNO := Lib.hid ((GM.out l ys true k LR.out hk (.inl rfl)).2 rfl)
          obtain ⟨⟨A9, c9, hb9, _, _⟩, _⟩ := SG.out.rd
          have r1 : wr.cell? ⟨w.heap.size + 1, 1, none⟩ = some (.bool true) := hb9.cell 1
          have zc : ∀ o, wr.cell? ⟨w.heap.size, o, none⟩ = (#[.int .u8 0, .int .i64 0, .int .i64 0, .int .i64 0, .int .i64 0, .int .i64 0, .int .i64 0, .int .i64 0, .int .i64 0, .int .i64 0, .slice none 0 0, .slice none 0 0] : Array Value)[o]? := fun o => by rw [SG.out.z.cell]; simp [zcs]
          have zf := fun o => SG.out.z.frozen o
          clear hb9
          go_wp2_with fail
          exact g_none SG.out.z SG.out.b HNO.out _ rfl rfl
        | false =>
          have HO := Lib.hid ((GM.out l ys false k LR.out hk (hend.resolve_left (by decide) |> Or.inr)).1 rfl)
          have hlen : l.length ≤ 6000 := by
            rcases LR.out with ⟨_, _, h3⟩ | ⟨h9, _⟩
            · have := rdN_len _ _ _ _ h3
              have h5 := rdN_room rd3_less _ _ _ _ h3
              have := HYL.out
              omega
            · cases h9
          obtain ⟨⟨A9, c9, hb9, _, _⟩, _⟩ := SG.out.rd
          have r0 : wr.cell? ⟨w.heap.size + 1, 0, none⟩ = some (.slice A9 ys.length c9) := hb9.cell 0
          have r1 : wr.cell? ⟨w.heap.size + 1, 1, none⟩ = some (.bool false) := hb9.cell 1
          obtain ⟨A8, c8, rfl⟩ := own_form OW.out
          have zc : ∀ o, wr.cell? ⟨w.heap.size, o, none⟩ = (#[.int .u8 0, .int .i64 0, .int .i64 0, .int .i64 0, .int .i64 0, .int .i64 0, .int .i64 0, .int .i64 0, .int .i64 0, .int .i64 0, .slice none 0 0, .slice none 0 0] : Array Value)[o]? := fun o => by rw [SG.out.z.cell]; simp [zcs]
          have zf := fun o => SG.out.z.frozen o
          have mc : ∀ o, wr.cell? ⟨w3.heap.size, o, none⟩ = (#[.int .u8 kk, .int .i64 0, .int .i64 0, .int .i64 0, .int .i64 0, .int .i64 0, .int .i64 0, .int .i64 0, .int .i64 0, .int .i64 0, .slice none 0 0, .slice A8 l.length c8] : Array Value)[o]? := fun o => by rw [SG.out.m.cell]; simp [C12, T0]
          have HLE := Lib.hid hlen
          clear hb9 hlen
          by_cases hy0 : ys.length = 0
          rotate_left
          · have g1 : decide ((0 : Int) < ys.length) = true := decide_eq_true (by omega)
            have g2 : decide (0 < ys.length) = true := decide_eq_true (by omega)
            have HNO := Lib.hid (may_refused HO.out (.inl hy0))
            clear hy0
            go_wp2_with fail
            exact g_none SG.out.z SG.out.b HNO.out _ rfl rfl
          have g1 : decide ((0 : Int) < ys.length) = false := decide_eq_false (by omega)
          have g2 : decide (0 < ys.length) = false := decide_eq_false (by omega)
          have HY0 := Lib.hid hy0
          have HMG := Lib.hid (fun (W : World) (hf : Fr (fun k => k = w.heap.size) wr W) => show Mg W ⟨kk, 0, 0, 0, 0, T0, [], l⟩ none 0 A8 c8 from ⟨Rd.nil _ _ _, own_fr_upds OW.out (show l.length ≤ 9223372036854775807 by have := HLE.out; omega) hf (fun k hk e => by have := HM.out; omega)⟩)
          have HC := Lib.hid (refmay_any ⟨kk, 0, 0, 0, 0, T0, [], l⟩ none A8 0 c8 wr (HMG.out wr (Fr.refl _ _)))
          obtain ⟨mb, hmb⟩ : ∃ b, b = mayB ⟨kk, 0, 0, 0, 0, T0, [], l⟩ := ⟨_, rfl⟩
          rw [← hmb] at HC
          have HMB := Lib.hid hmb
          clear hmb
          rw [Msg.cs_eq] at HC
          dsimp only [List.length_nil, T0] at HC
          clear hy0
          go_wp2_with fail
          refine HC.out.mono ?_
          rintro e w40 ⟨rfl, hb40⟩
          have SG2 := Lib.hid (SG.out.below hb40)
          have HMG2 := Lib.hid (fun (W : World) (hf : Fr (fun k => k = w.heap.size) w40 W) => HMG.out W ((Fr.of_below hb40).trans hf (fun _ _ h => h)))
          clear hb40 HC r0 r1 zc zf mc
          have zc : ∀ o, w40.cell? ⟨w.heap.size, o, none⟩ = (#[.int .u8 0, .int .i64 0, .int .i64 0, .int .i64 0, .int .i64 0, .int .i64 0, .int .i64 0, .int .i64 0, .int .i64 0, .int .i64 0, .slice none 0 0, .slice none 0 0] : Array Value)[o]? := fun o => by rw [SG2.out.z.cell]; simp [zcs]
          have zf := fun o => SG2.out.z.frozen o
          have mc : ∀ o, w40.cell? ⟨w3.heap.size, o, none⟩ = (#[.int .u8 kk, .int .i64 0, .int .i64 0, .int .i64 0, .int .i64 0, .int .i64 0, .int .i64 0, .int .i64 0, .int .i64 0, .int .i64 0, .slice none 0 0, .slice A8 l.length c8] : Array Value)[o]? := fun o => by rw [SG2.out.m.cell]; simp [C12, T0]
          cases mb with
          | false =>
            have HNO := Lib.hid (may_refused HO.out (.inr HMB.out.symm))
            go_wp2_with fail
            exact g_none SG2.out.z SG2.out.b HNO.out _ rfl rfl
          | true =>
            have HYES := Lib.hid (may_taken HO.out HY0.out HMB.out.symm)
            go_wp2_with fail
            exact g_some SG2.out.z SG2.out.b HMG2.out HYES.out _ rfl rfl
      have hd : decide ((k : Int) < n) = true := decide_eq_true hlt
      by_cases hbt : b = true
      · subst hbt
        have hend : true = true ∨ n ≤ k := .inl rfl
        obtain ⟨⟨A19, c19, hb19, _, _⟩, _⟩ := SG.out.rd
        have rr1 : wr.cell? ⟨w.heap.size + 1, 1, none⟩ = some (.bool true) := hb19.cell 1
        clear hb19
        have HNO := Lib.hid ((GM.out l ys true k LR.out hk (.inl rfl)).2 rfl)
        have zc : ∀ o, wr.cell? ⟨w.heap.size, o, none⟩ = (#[.int .u8 0, .int .i64 0, .int .i64 0, .int .i64 0, .int .i64 0, .int .i64 0, .int .i64 0, .int .i64 0, .int .i64 0, .int .i64 0, .slice none 0 0, .slice none 0 0] : Array Value)[o]? := fun o => by rw [SG.out.z.cell]; simp [zcs]
        have zf := fun o => SG.out.z.frozen o
        go_wp2_with fail
        exact g_none SG.out.z SG.out.b HNO.out _ rfl rfl
      obtain rfl : b = false := by cases b with | true => exact absurd rfl hbt | false => rfl
      clear hbt
      have HLEN := Lib.hid (show l.length = k ∧ k ≤ 6000 by
        rcases LR.out with ⟨_, _, h3⟩ | ⟨h9, _⟩
        · have h4 := rdN_len _ _ _ _ h3
          have h5 := rdN_room rd3_less _ _ _ _ h3
          have := HYL.out
          exact ⟨h4, by omega⟩
        · cases h9)
      obtain ⟨⟨A19, c19, hb19, _, _⟩, _⟩ := SG.out.rd
      have rr1 : wr.cell? ⟨w.heap.size + 1, 1, none⟩ = some (.bool false) := hb19.cell 1
      have HK9 := Lib.hid hk
      have HLT9 := Lib.hid hlt
      clear hb19
      go_wp2_with fail
      refine (HN.out 1 _ _ _ SG.out.rd (by omega) (by omega)).mono ?_
      rintro e w20 ⟨v8, y8, b8, rfl, hr, hf, hs⟩
      have H8 := Lib.hid hs
      have S20 := Lib.hid (SG.out.fr hf hr)
      have O20 := Lib.hid (own_fr OW.out hf (fun k hk e => by have := own_lt OW.out k hk; have := HM.out; omega))
      have X20 := Lib.hid (show Sx w w3.heap.size (C12 kk 0 0 0 0 T0 (.slice none 0 0) lv) y8 b8 w20.heap.size 59 [.int .i64 v8, .bool false, .int .i64 0, .int .i64 0, .int .i64 0, .int .i64 0, .int .i64 0, .int .i64 0] 59 8 lv l.length (l.flatMap Upd.ucs) (w20.alloc (.cells #[.int .i64 v8, .bool false, .int .i64 0, .int .i64 0, .int .i64 0, .int .i64 0, .int .i64 0, .int .i64 0] 59)) from Sx.new S20.out O20.out _ [.int .i64 v8, .bool false, .int .i64 0, .int .i64 0, .int .i64 0, .int .i64 0, .int .i64 0, .int .i64 0])
      clear hr hf hs rr1 hd hlt
      go_wp2_with fail
      generalize (w20.alloc (.cells #[.int .i64 v8, .bool false, .int .i64 0, .int .i64 0, .int .i64 0, .int .i64 0, .int .i64 0, .int .i64 0] 59)) = w21 at X20 ⊢
      refine (HN.out 1 _ _ _ X20.out.s.rd (by omega) (by omega)).mono ?_
      rintro e w22 ⟨v9, y9, b9, rfl, hr, hf, hs⟩
      have H9 := Lib.hid hs
      have X22 := Lib.hid (X20.out.fr hf hr)
      have xc : w22.cell? ⟨w20.heap.size, 1, none⟩ = some (.bool false) := X22.out.x.cell 1
      have xf := X22.out.x.frozen 1
      clear hr hf hs S20 O20 X20
      by_cases hv1 : 1 < v9
      · have gv1 : decide (1 < v9) = true := decide_eq_true hv1
        have gv2 : (v9 == 1) = false := by simp; omega
        have gv3 : decide (v9 = 1) = false := decide_eq_false (by omega)
        have HV1 := Lib.hid (And.intro gv1 gv3)
        obtain ⟨⟨A29, c29, hb29, _, _⟩, _⟩ := X22.out.s.rd
        have rb : w22.cell? ⟨w.heap.size + 1, 1, none⟩ = some (.bool b9) := hb29.cell 1
        have rf := hb29.frozen 1
        have X23 := Lib.hid X22.out.bad
        have xc2 : (w22.setCell ⟨w.heap.size + 1, 1, none⟩ (.bool true)).cell? ⟨w20.heap.size, 1, none⟩ = some (.bool false) := X23.out.x.cell 1
        have xf2 := X23.out.x.frozen 1
        clear hb29 hv1
        have X24 := Lib.hid (show Sx w w3.heap.size (C12 kk 0 0 0 0 T0 (.slice none 0 0) lv) y9 true w20.heap.size 59 [.int .i64 v8, .bool false, .int .i64 0, .int .i64 0, .int .i64 0, .int .i64 0, .int .i64 0, .int .i64 0] 59 8 lv l.length (l.flatMap Upd.ucs) ((w22.setCell ⟨w.heap.size + 1, 1, none⟩ (.bool true)).setCell ⟨w20.heap.size, 1, none⟩ (.bool false)) from X23.out.setx 1 _)
        go_wp2_with fail
        clear xc xf X22
        generalize ((w22.setCell ⟨w.heap.size + 1, 1, none⟩ (.bool true)).setCell ⟨w20.heap.size, 1, none⟩ (.bool false)) = w24 at X24 ⊢
        refine (HT.out _ _ _ X24.out.s.rd).mono ?_
        rintro e w25 ⟨us, y10, b10, rfl, hr, hf, hs⟩
        have H10 := Lib.hid hs
        have X25 := Lib.hid (X24.out.fr hf hr)
        have xc0 : w25.cell? ⟨w20.heap.size, 2, none⟩ = some (.int .i64 0) := X25.out.x.cell 2
        have xc1 : w25.cell? ⟨w20.heap.size, 3, none⟩ = some (.int .i64 0) := X25.out.x.cell 3
        have xc2 : w25.cell? ⟨w20.heap.size, 4, none⟩ = some (.int .i64 0) := X25.out.x.cell 4
        have xc3 : w25.cell? ⟨w20.heap.size, 5, none⟩ = some (.int .i64 0) := X25.out.x.cell 5
        have xc4 : w25.cell? ⟨w20.heap.size, 6, none⟩ = some (.int .i64 0) := X25.out.x.cell 6
        have xf := fun o => X25.out.x.frozen o
        have X26 := Lib.hid (show Sx w w3.heap.size (C12 kk 0 0 0 0 T0 (.slice none 0 0) lv) y10 b10 w20.heap.size 59 [.int .i64 v8, .bool false, .int .i64 us.d, .int .i64 us.e, .int .i64 us.a, .int .i64 us.b, .int .i64 us.c, .int .i64 0] 59 8 lv l.length (l.flatMap Upd.ucs) (((((w25.setCell ⟨w20.heap.size, 2, none⟩ (.int .i64 us.d)).setCell ⟨w20.heap.size, 3, none⟩ (.int .i64 us.e)).setCell ⟨w20.heap.size, 4, none⟩ (.int .i64 us.a)).setCell ⟨w20.heap.size, 5, none⟩ (.int .i64 us.b)).setCell ⟨w20.heap.size, 6, none⟩ (.int .i64 us.c)) from ((((X25.out.setx 2 _).setx 3 _).setx 4 _).setx 5 _).setx 6 _)
        clear hr hf hs X24 X25
        go_wp2_with fail
        clear xc0 xc1 xc2 xc3 xc4 xf
        generalize (((((w25.setCell ⟨w20.heap.size, 2, none⟩ (.int .i64 us.d)).setCell ⟨w20.heap.size, 3, none⟩ (.int .i64 us.e)).setCell ⟨w20.heap.size, 4, none⟩ (.int .i64 us.a)).setCell ⟨w20.heap.size, 5, none⟩ (.int .i64 us.b)).setCell ⟨w20.heap.size, 6, none⟩ (.int .i64 us.c)) = w26 at X26 ⊢
        refine (HN.out 8 _ _ _ X26.out.s.rd (by omega) (by omega)).mono ?_
        rintro e w27 ⟨v11, y11, b11, rfl, hr, hf, hs⟩
        have HRD := Lib.hid (show (b11 = false ∧ rd3 ys = some (⟨v8, false, us, v11⟩, y11)) ∨ (b11 = true ∧ rd3 ys = none) from by
          have := step_rd3 H8.out H9.out (b3 := true) (by rw [HV1.out.1]; simp) H10.out hs
          rw [show decide (v9 = 1) = false from HV1.out.2] at this
          exact this)
        have X27 := Lib.hid (X26.out.fr hf hr)
        have X28 := Lib.hid (show Sx w w3.heap.size (C12 kk 0 0 0 0 T0 (.slice none 0 0) lv) y11 b11 w20.heap.size 59 [.int .i64 v8, .bool false, .int .i64 us.d, .int .i64 us.e, .int .i64 us.a, .int .i64 us.b, .int .i64 us.c, .int .i64 v11] 59 8 lv l.length (l.flatMap Upd.ucs) (w27.setCell ⟨w20.heap.size, 7, none⟩ (.int .i64 v11)) from X27.out.setx 7 _)
        have xc : w27.cell? ⟨w20.heap.size, 7, none⟩ = some (.int .i64 0) := X27.out.x.cell 7
        have xf := X27.out.x.frozen 7
        have t0 : (w27.setCell ⟨w20.heap.size, 7, none⟩ (.int .i64 v11)).cell? ⟨w20.heap.size, 0, none⟩ = some (.int .i64 v8) := X28.out.x.cell 0
        have t1 : (w27.setCell ⟨w20.heap.size, 7, none⟩ (.int .i64 v11)).cell? ⟨w20.heap.size, 1, none⟩ = some (.bool false) := X28.out.x.cell 1
        have t2 : (w27.setCell ⟨w20.heap.size, 7, none⟩ (.int .i64 v11)).cell? ⟨w20.heap.size, 2, none⟩ = some (.int .i64 us.d) := X28.out.x.cell 2
        have t3 : (w27.setCell ⟨w20.heap.size, 7, none⟩ (.int .i64 v11)).cell? ⟨w20.heap.size, 3, none⟩ = some (.int .i64 us.e) := X28.out.x.cell 3
        have t4 : (w27.setCell ⟨w20.heap.size, 7, none⟩ (.int .i64 v11)).cell? ⟨w20.heap.size, 4, none⟩ = some (.int .i64 us.a) := X28.out.x.cell 4
        have t5 : (w27.setCell ⟨w20.heap.size, 7, none⟩ (.int .i64 v11)).cell? ⟨w20.heap.size, 5, none⟩ = some (.int .i64 us.b) := X28.out.x.cell 5
        have t6 : (w27.setCell ⟨w20.heap.size, 7, none⟩ (.int .i64 v11)).cell? ⟨w20.heap.size, 6, none⟩ = some (.int .i64 us.c) := X28.out.x.cell 6
        have t7 : (w27.setCell ⟨w20.heap.size, 7, none⟩ (.int .i64 v11)).cell? ⟨w20.heap.size, 7, none⟩ = some (.int .i64 v11) := X28.out.x.cell 7
        have t11 : (w27.setCell ⟨w20.heap.size, 7, none⟩ (.int .i64 v11)).cell? ⟨w3.heap.size, 11, none⟩ = some lv := X28.out.s.m.cell 11
        have HLIM := Lib.hid (show (l.length + 1) * 64 ≤ 140737488355328 by have := HLEN.out; omega)
        have HSZ := Lib.hid (show w3.heap.size + 1 ≤ (w27.setCell ⟨w20.heap.size, 7, none⟩ (.int .i64 v11)).heap.size from X28.out.s.m.lt)
        clear hr hf hs X26
        go_wp2_with (at_builtin; (refine own_append_lit (W := (w27.setCell ⟨w20.heap.size, 7, none⟩ (.int .i64 v11))) rfl (.tmp 98) (.tmp 100) 32 59 (.agg #[.int .i64 0, .bool false, .int .i64 0, .int .i64 0, .int .i64 0, .int .i64 0, .int .i64 0, .int .i64 0]) 8 64 rfl Try.underlying32 infoU rfl (by omega) (by omega) (w3.heap.size + 1) lv l.length (l.flatMap Upd.ucs) 1 1 [.int .i64 v8, .bool false, .int .i64 us.d, .int .i64 us.e, .int .i64 us.a, .int .i64 us.b, .int .i64 us.c, .int .i64 v11] rfl (by show Value.slice (some ⟨w27.heap.size, 0, none⟩) 1 1 = _; simp) X28.out.own rfl (by intro x hx; simp only [List.mem_cons, List.not_mem_nil, or_false] at hx; rcases hx with rfl | rfl | rfl | rfl | rfl | rfl | rfl | rfl <;> rfl) HLIM.out HSZ.out ?_; intro v30 w30 hown hgr hat; obtain ⟨A30, c30, rfl⟩ := own_form hown; have S30 := Lib.hid (X28.out.s.grown hgr (fun k hk => own_lt X28.out.own k hk)); have mc : w30.cell? ⟨w3.heap.size, 11, none⟩ = some lv := S30.out.m.cell 11; have mf := S30.out.m.frozen 11; have HOW := Lib.hid hown; clear hown hgr hat))
        have S31 := Lib.hid (show Sg w w3.heap.size (C12 kk 0 0 0 0 T0 (.slice none 0 0) (.slice A30 (l.length + 1) c30)) y11 b11 (w30.setCell ⟨w3.heap.size, 11, none⟩ (.slice A30 (l.length + 1) c30)) from S30.out.set 11 _)
        have O31 := Lib.hid (show (w30.setCell ⟨w3.heap.size, 11, none⟩ (.slice A30 (l.length + 1) c30)).ownsRow (w3.heap.size + 1) 59 8 (.slice A30 (l.length + 1) c30) (l ++ [(⟨v8, false, us, v11⟩ : Upd)]).length ((l ++ [(⟨v8, false, us, v11⟩ : Upd)]).flatMap Upd.ucs) from own_fr (by rw [List.length_append, List.flatMap_append]; exact HOW.out) ((Fr.refl (fun k => k = w3.heap.size) w30).set (p := ⟨w3.heap.size, 11, none⟩) (fun _ => rfl) _) (fun k hk e => by have := own_lt HOW.out k hk; omega))
        have L31 := Lib.hid (LR.out.next HRD.out)
        have hwk : wrap64 ((k : Int) + 1) = ((k + 1 : Nat) : Int) := by rw [IntWalk.wrap64_in _ ⟨by omega, by have := HLT9.out; omega⟩]; rfl
        have HWK := Lib.hid hwk
        clear t0 t1 t2 t3 t4 t5 t6 t7 t11 xc xf mc mf hwk S30 HOW X27 X28 HRD
        go_wp2_with fail
        go_roundw
        case rel => exact ⟨k + 1, l ++ [(⟨v8, false, us, v11⟩ : Upd)], y11, b11, _, by have := HLT9.out; omega, by rw [HWK.out], S31, O31, L31⟩
        case measure =>
          rw [HWK.out]
          have := HLT9.out
          simp [intOf]
          omega
      · have gv1 : decide (1 < v9) = false := decide_eq_false hv1
        by_cases hv2 : v9 = 1
        · have gv2 : (v9 == 1) = true := by simpa using hv2
          have gv3 : decide (v9 = 1) = true := decide_eq_true hv2
          have HV1 := Lib.hid (And.intro gv1 gv3)
          clear hv1 hv2
          have X24 := Lib.hid (show Sx w w3.heap.size (C12 kk 0 0 0 0 T0 (.slice none 0 0) lv) y9 b9 w20.heap.size 59 [.int .i64 v8, .bool true, .int .i64 0, .int .i64 0, .int .i64 0, .int .i64 0, .int .i64 0, .int .i64 0] 59 8 lv l.length (l.flatMap Upd.ucs) (w22.setCell ⟨w20.heap.size, 1, none⟩ (.bool true)) from X22.out.setx 1 _)
          go_wp2_with fail
          clear xc xf X22
          generalize (w22.setCell ⟨w20.heap.size, 1, none⟩ (.bool true)) = w24 at X24 ⊢
          refine (HT.out _ _ _ X24.out.s.rd).mono ?_
          rintro e w25 ⟨us, y10, b10, rfl, hr, hf, hs⟩
          have H10 := Lib.hid hs
          have X25 := Lib.hid (X24.out.fr hf hr)
          have xc0 : w25.cell? ⟨w20.heap.size, 2, none⟩ = some (.int .i64 0) := X25.out.x.cell 2
          have xc1 : w25.cell? ⟨w20.heap.size, 3, none⟩ = some (.int .i64 0) := X25.out.x.cell 3
          have xc2 : w25.cell? ⟨w20.heap.size, 4, none⟩ = some (.int .i64 0) := X25.out.x.cell 4
          have xc3 : w25.cell? ⟨w20.heap.size, 5, none⟩ = some (.int .i64 0) := X25.out.x.cell 5
          have xc4 : w25.cell? ⟨w20.heap.size, 6, none⟩ = some (.int .i64 0) := X25.out.x.cell 6
          have xf := fun o => X25.out.x.frozen o
          have X26 := Lib.hid (show Sx w w3.heap.size (C12 kk 0 0 0 0 T0 (.slice none 0 0) lv) y10 b10 w20.heap.size 59 [.int .i64 v8, .bool true, .int .i64 us.d, .int .i64 us.e, .int .i64 us.a, .int .i64 us.b, .int .i64 us.c, .int .i64 0] 59 8 lv l.length (l.flatMap Upd.ucs) (((((w25.setCell ⟨w20.heap.size, 2, none⟩ (.int .i64 us.d)).setCell ⟨w20.heap.size, 3, none⟩ (.int .i64 us.e)).setCell ⟨w20.heap.size, 4, none⟩ (.int .i64 us.a)).setCell ⟨w20.heap.size, 5, none⟩ (.int .i64 us.b)).setCell ⟨w20.heap.size, 6, none⟩ (.int .i64 us.c)) from ((((X25.out.setx 2 _).setx 3 _).setx 4 _).setx 5 _).setx 6 _)
          clear hr hf hs X24 X25
          go_wp2_with fail
          clear xc0 xc1 xc2 xc3 xc4 xf
          generalize (((((w25.setCell ⟨w20.heap.size, 2, none⟩ (.int .i64 us.d)).setCell ⟨w20.heap.size, 3, none⟩ (.int .i64 us.e)).setCell ⟨w20.heap.size, 4, none⟩ (.int .i64 us.a)).setCell ⟨w20.heap.size, 5, none⟩ (.int .i64 us.b)).setCell ⟨w20.heap.size, 6, none⟩ (.int .i64 us.c)) = w26 at X26 ⊢
          refine (HN.out 8 _ _ _ X26.out.s.rd (by omega) (by omega)).mono ?_
          rintro e w27 ⟨v11, y11, b11, rfl, hr, hf, hs⟩
          have HRD := Lib.hid (show (b11 = false ∧ rd3 ys = some (⟨v8, true, us, v11⟩, y11)) ∨ (b11 = true ∧ rd3 ys = none) from by
            have := step_rd3 H8.out H9.out (b3 := b9) (by rw [HV1.out.1]; simp) H10.out hs
            rw [show decide (v9 = 1) = true from HV1.out.2] at this
            exact this)
          have X27 := Lib.hid (X26.out.fr hf hr)
          have X28 := Lib.hid (show Sx w w3.heap.size (C12 kk 0 0 0 0 T0 (.slice none 0 0) lv) y11 b11 w20.heap.size 59 [.int .i64 v8, .bool true, .int .i64 us.d, .int .i64 us.e, .int .i64 us.a, .int .i64 us.b, .int .i64 us.c, .int .i64 v11] 59 8 lv l.length (l.flatMap Upd.ucs) (w27.setCell ⟨w20.heap.size, 7, none⟩ (.int .i64 v11)) from X27.out.setx 7 _)
          have xc : w27.cell? ⟨w20.heap.size, 7, none⟩ = some (.int .i64 0) := X27.out.x.cell 7
          have xf := X27.out.x.frozen 7
          have t0 : (w27.setCell ⟨w20.heap.size, 7, none⟩ (.int .i64 v11)).cell? ⟨w20.heap.size, 0, none⟩ = some (.int .i64 v8) := X28.out.x.cell 0
          have t1 : (w27.setCell ⟨w20.heap.size, 7, none⟩ (.int .i64 v11)).cell? ⟨w20.heap.size, 1, none⟩ = some (.bool true) := X28.out.x.cell 1
          have t2 : (w27.setCell ⟨w20.heap.size, 7, none⟩ (.int .i64 v11)).cell? ⟨w20.heap.size, 2, none⟩ = some (.int .i64 us.d) := X28.out.x.cell 2
          have t3 : (w27.setCell ⟨w20.heap.size, 7, none⟩ (.int .i64 v11)).cell? ⟨w20.heap.size, 3, none⟩ = some (.int .i64 us.e) := X28.out.x.cell 3
          have t4 : (w27.setCell ⟨w20.heap.size, 7, none⟩ (.int .i64 v11)).cell? ⟨w20.heap.size, 4, none⟩ = some (.int .i64 us.a) := X28.out.x.cell 4
          have t5 : (w27.setCell ⟨w20.heap.size, 7, none⟩ (.int .i64 v11)).cell? ⟨w20.heap.size, 5, none⟩ = some (.int .i64 us.b) := X28.out.x.cell 5
          have t6 : (w27.setCell ⟨w20.heap.size, 7, none⟩ (.int .i64 v11)).cell? ⟨w20.heap.size, 6, none⟩ = some (.int .i64 us.c) := X28.out.x.cell 6
          have t7 : (w27.setCell ⟨w20.heap.size, 7, none⟩ (.int .i64 v11)).cell? ⟨w20.heap.size, 7, none⟩ = some (.int .i64 v11) := X28.out.x.cell 7
          have t11 : (w27.setCell ⟨w20.heap.size, 7, none⟩ (.int .i64 v11)).cell? ⟨w3.heap.size, 11, none⟩ = some lv := X28.out.s.m.cell 11
          have HLIM := Lib.hid (show (l.length + 1) * 64 ≤ 140737488355328 by have := HLEN.out; omega)
          have HSZ := Lib.hid (show w3.heap.size + 1 ≤ (w27.setCell ⟨w20.heap.size, 7, none⟩ (.int .i64 v11)).heap.size from X28.out.s.m.lt)
          clear hr hf hs X26
          go_wp2_with (at_builtin; (refine own_append_lit (W := (w27.setCell ⟨w20.heap.size, 7, none⟩ (.int .i64 v11))) rfl (.tmp 98) (.tmp 100) 32 59 (.agg #[.int .i64 0, .bool false, .int .i64 0, .int .i64 0, .int .i64 0, .int .i64 0, .int .i64 0, .int .i64 0]) 8 64 rfl Try.underlying32 infoU rfl (by omega) (by omega) (w3.heap.size + 1) lv l.length (l.flatMap Upd.ucs) 1 1 [.int .i64 v8, .bool true, .int .i64 us.d, .int .i64 us.e, .int .i64 us.a, .int .i64 us.b, .int .i64 us.c, .int .i64 v11] rfl (by show Value.slice (some ⟨w27.heap.size, 0, none⟩) 1 1 = _; simp) X28.out.own rfl (by intro x hx; simp only [List.mem_cons, List.not_mem_nil, or_false] at hx; rcases hx with rfl | rfl | rfl | rfl | rfl | rfl | rfl | rfl <;> rfl) HLIM.out HSZ.out ?_; intro v30 w30 hown hgr hat; obtain ⟨A30, c30, rfl⟩ := own_form hown; have S30 := Lib.hid (X28.out.s.grown hgr (fun k hk => own_lt X28.out.own k hk)); have mc : w30.cell? ⟨w3.heap.size, 11, none⟩ = some lv := S30.out.m.cell 11; have mf := S30.out.m.frozen 11; have HOW := Lib.hid hown; clear hown hgr hat))
          have S31 := Lib.hid (show Sg w w3.heap.size (C12 kk 0 0 0 0 T0 (.slice none 0 0) (.slice A30 (l.length + 1) c30)) y11 b11 (w30.setCell ⟨w3.heap.size, 11, none⟩ (.slice A30 (l.length + 1) c30)) from S30.out.set 11 _)
          have O31 := Lib.hid (show (w30.setCell ⟨w3.heap.size, 11, none⟩ (.slice A30 (l.length + 1) c30)).ownsRow (w3.heap.size + 1) 59 8 (.slice A30 (l.length + 1) c30) (l ++ [(⟨v8, true, us, v11⟩ : Upd)]).length ((l ++ [(⟨v8, true, us, v11⟩ : Upd)]).flatMap Upd.ucs) from own_fr (by rw [List.length_append, List.flatMap_append]; exact HOW.out) ((Fr.refl (fun k => k = w3.heap.size) w30).set (p := ⟨w3.heap.size, 11, none⟩) (fun _ => rfl) _) (fun k hk e => by have := own_lt HOW.out k hk; omega))
          have L31 := Lib.hid (LR.out.next HRD.out)
          have hwk : wrap64 ((k : Int) + 1) = ((k + 1 : Nat) : Int) := by rw [IntWalk.wrap64_in _ ⟨by omega, by have := HLT9.out; omega⟩]; rfl
          have HWK := Lib.hid hwk
          clear t0 t1 t2 t3 t4 t5 t6 t7 t11 xc xf mc mf hwk S30 HOW X27 X28 HRD
          go_wp2_with fail
          go_roundw
          case rel => exact ⟨k + 1, l ++ [(⟨v8, true, us, v11⟩ : Upd)], y11, b11, _, by have := HLT9.out; omega, by rw [HWK.out], S31, O31, L31⟩
          case measure =>
            rw [HWK.out]
            have := HLT9.out
            simp [intOf]
            omega
        · have gv2 : (v9 == 1) = false := by simpa using hv2
          have gv3 : decide (v9 = 1) = false := decide_eq_false hv2
          have HV1 := Lib.hid (And.intro gv1 gv3)
          clear hv1 hv2
          have X24 := Lib.hid (show Sx w w3.heap.size (C12 kk 0 0 0 0 T0 (.slice none 0 0) lv) y9 b9 w20.heap.size 59 [.int .i64 v8, .bool false, .int .i64 0, .int .i64 0, .int .i64 0, .int .i64 0, .int .i64 0, .int .i64 0] 59 8 lv l.length (l.flatMap Upd.ucs) (w22.setCell ⟨w20.heap.size, 1, none⟩ (.bool false)) from X22.out.setx 1 _)
          go_wp2_with fail
          clear xc xf X22
          generalize (w22.setCell ⟨w20.heap.size, 1, none⟩ (.bool false)) = w24 at X24 ⊢
          refine (HT.out _ _ _ X24.out.s.rd).mono ?_
          rintro e w25 ⟨us, y10, b10, rfl, hr, hf, hs⟩
          have H10 := Lib.hid hs
          have X25 := Lib.hid (X24.out.fr hf hr)
          have xc0 : w25.cell? ⟨w20.heap.size, 2, none⟩ = some (.int .i64 0) := X25.out.x.cell 2
          have xc1 : w25.cell? ⟨w20.heap.size, 3, none⟩ = some (.int .i64 0) := X25.out.x.cell 3
          have xc2 : w25.cell? ⟨w20.heap.size, 4, none⟩ = some (.int .i64 0) := X25.out.x.cell 4
          have xc3 : w25.cell? ⟨w20.heap.size, 5, none⟩ = some (.int .i64 0) := X25.out.x.cell 5
          have xc4 : w25.cell? ⟨w20.heap.size, 6, none⟩ = some (.int .i64 0) := X25.out.x.cell 6
          have xf := fun o => X25.out.x.frozen o
          have X26 := Lib.hid (show Sx w w3.heap.size (C12 kk 0 0 0 0 T0 (.slice none 0 0) lv) y10 b10 w20.heap.size 59 [.int .i64 v8, .bool false, .int .i64 us.d, .int .i64 us.e, .int .i64 us.a, .int .i64 us.b, .int .i64 us.c, .int .i64 0] 59 8 lv l.length (l.flatMap Upd.ucs) (((((w25.setCell ⟨w20.heap.size, 2, none⟩ (.int .i64 us.d)).setCell ⟨w20.heap.size, 3, none⟩ (.int .i64 us.e)).setCell ⟨w20.heap.size, 4, none⟩ (.int .i64 us.a)).setCell ⟨w20.heap.size, 5, none⟩ (.int .i64 us.b)).setCell ⟨w20.heap.size, 6, none⟩ (.int .i64 us.c)) from ((((X25.out.setx 2 _).setx 3 _).setx 4 _).setx 5 _).setx 6 _)
          clear hr hf hs X24 X25
          go_wp2_with fail
          clear xc0 xc1 xc2 xc3 xc4 xf
          generalize (((((w25.setCell ⟨w20.heap.size, 2, none⟩ (.int .i64 us.d)).setCell ⟨w20.heap.size, 3, none⟩ (.int .i64 us.e)).setCell ⟨w20.heap.size, 4, none⟩ (.int .i64 us.a)).setCell ⟨w20.heap.size, 5, none⟩ (.int .i64 us.b)).setCell ⟨w20.heap.size, 6, none⟩ (.int .i64 us.c)) = w26 at X26 ⊢
          refine (HN.out 8 _ _ _ X26.out.s.rd (by omega) (by omega)).mono ?_
          rintro e w27 ⟨v11, y11, b11, rfl, hr, hf, hs⟩
          have HRD := Lib.hid (show (b11 = false ∧ rd3 ys = some (⟨v8, false, us, v11⟩, y11)) ∨ (b11 = true ∧ rd3 ys = none) from by
            have := step_rd3 H8.out H9.out (b3 := b9) (by rw [HV1.out.1]; simp) H10.out hs
            rw [show decide (v9 = 1) = false from HV1.out.2] at this
            exact this)
          have X27 := Lib.hid (X26.out.fr hf hr)
          have X28 := Lib.hid (show Sx w w3.heap.size (C12 kk 0 0 0 0 T0 (.slice none 0 0) lv) y11 b11 w20.heap.size 59 [.int .i64 v8, .bool false, .int .i64 us.d, .int .i64 us.e, .int .i64 us.a, .int .i64 us.b, .int .i64 us.c, .int .i64 v11] 59 8 lv l.length (l.flatMap Upd.ucs) (w27.setCell ⟨w20.heap.size, 7, none⟩ (.int .i64 v11)) from X27.out.setx 7 _)
          have xc : w27.cell? ⟨w20.heap.size, 7, none⟩ = some (.int .i64 0) := X27.out.x.cell 7
          have xf := X27.out.x.frozen 7
          have t0 : (w27.setCell ⟨w20.heap.size, 7, none⟩ (.int .i64 v11)).cell? ⟨w20.heap.size, 0, none⟩ = some (.int .i64 v8) := X28.out.x.cell 0
          have t1 : (w27.setCell ⟨w20.heap.size, 7, none⟩ (.int .i64 v11)).cell? ⟨w20.heap.size, 1, none⟩ = some (.bool false) := X28.out.x.cell 1
          have t2 : (w27.setCell ⟨w20.heap.size, 7, none⟩ (.int .i64 v11)).cell? ⟨w20.heap.size, 2, none⟩ = some (.int .i64 us.d) := X28.out.x.cell 2
          have t3 : (w27.setCell ⟨w20.heap.size, 7, none⟩ (.int .i64 v11)).cell? ⟨w20.heap.size, 3, none⟩ = some (.int .i64 us.e) := X28.out.x.cell 3
          have t4 : (w27.setCell ⟨w20.heap.size, 7, none⟩ (.int .i64 v11)).cell? ⟨w20.heap.size, 4, none⟩ = some (.int .i64 us.a) := X28.out.x.cell 4
          have t5 : (w27.setCell ⟨w20.heap.size, 7, none⟩ (.int .i64 v11)).cell? ⟨w20.heap.size, 5, none⟩ = some (.int .i64 us.b) := X28.out.x.cell 5
          have t6 : (w27.setCell ⟨w20.heap.size, 7, none⟩ (.int .i64 v11)).cell? ⟨w20.heap.size, 6, none⟩ = some (.int .i64 us.c) := X28.out.x.cell 6
          have t7 : (w27.setCell ⟨w20.heap.size, 7, none⟩ (.int .i64 v11)).cell? ⟨w20.heap.size, 7, none⟩ = some (.int .i64 v11) := X28.out.x.cell 7
          have t11 : (w27.setCell ⟨w20.heap.size, 7, none⟩ (.int .i64 v11)).cell? ⟨w3.heap.size, 11, none⟩ = some lv := X28.out.s.m.cell 11
          have HLIM := Lib.hid (show (l.length + 1) * 64 ≤ 140737488355328 by have := HLEN.out; omega)
          have HSZ := Lib.hid (show w3.heap.size + 1 ≤ (w27.setCell ⟨w20.heap.size, 7, none⟩ (.int .i64 v11)).heap.size from X28.out.s.m.lt)
          clear hr hf hs X26
          go_wp2_with (at_builtin; (refine own_append_lit (W := (w27.setCell ⟨w20.heap.size, 7, none⟩ (.int .i64 v11))) rfl (.tmp 98) (.tmp 100) 32 59 (.agg #[.int .i64 0, .bool false, .int .i64 0, .int .i64 0, .int .i64 0, .int .i64 0, .int .i64 0, .int .i64 0]) 8 64 rfl Try.underlying32 infoU rfl (by omega) (by omega) (w3.heap.size + 1) lv l.length (l.flatMap Upd.ucs) 1 1 [.int .i64 v8, .bool false, .int .i64 us.d, .int .i64 us.e, .int .i64 us.a, .int .i64 us.b, .int .i64 us.c, .int .i64 v11] rfl (by show Value.slice (some ⟨w27.heap.size, 0, none⟩) 1 1 = _; simp) X28.out.own rfl (by intro x hx; simp only [List.mem_cons, List.not_mem_nil, or_false] at hx; rcases hx with rfl | rfl | rfl | rfl | rfl | rfl | rfl | rfl <;> rfl) HLIM.out HSZ.out ?_; intro v30 w30 hown hgr hat; obtain ⟨A30, c30, rfl⟩ := own_form hown; have S30 := Lib.hid (X28.out.s.grown hgr (fun k hk => own_lt X28.out.own k hk)); have mc : w30.cell? ⟨w3.heap.size, 11, none⟩ = some lv := S30.out.m.cell 11; have mf := S30.out.m.frozen 11; have HOW := Lib.hid hown; clear hown hgr hat))
          have S31 := Lib.hid (show Sg w w3.heap.size (C12 kk 0 0 0 0 T0 (.slice none 0 0) (.slice A30 (l.length + 1) c30)) y11 b11 (w30.setCell ⟨w3.heap.size, 11, none⟩ (.slice A30 (l.length + 1) c30)) from S30.out.set 11 _)
          have O31 := Lib.hid (show (w30.setCell ⟨w3.heap.size, 11, none⟩ (.slice A30 (l.length + 1) c30)).ownsRow (w3.heap.size + 1) 59 8 (.slice A30 (l.length + 1) c30) (l ++ [(⟨v8, false, us, v11⟩ : Upd)]).length ((l ++ [(⟨v8, false, us, v11⟩ : Upd)]).flatMap Upd.ucs) from own_fr (by rw [List.length_append, List.flatMap_append]; exact HOW.out) ((Fr.refl (fun k => k = w3.heap.size) w30).set (p := ⟨w3.heap.size, 11, none⟩) (fun _ => rfl) _) (fun k hk e => by have := own_lt HOW.out k hk; omega))
          have L31 := Lib.hid (LR.out.next HRD.out)
          have hwk : wrap64 ((k : Int) + 1) = ((k + 1 : Nat) : Int) := by rw [IntWalk.wrap64_in _ ⟨by omega, by have := HLT9.out; omega⟩]; rfl
          have HWK := Lib.hid hwk
          clear t0 t1 t2 t3 t4 t5 t6 t7 t11 xc xf mc mf hwk S30 HOW X27 X28 HRD
          go_wp2_with fail
          go_roundw
          case rel => exact ⟨k + 1, l ++ [(⟨v8, false, us, v11⟩ : Upd)], y11, b11, _, by have := HLT9.out; omega, by rw [HWK.out], S31, O31, L31⟩
          case measure =>
            rw [HWK.out]
            have := HLT9.out
            simp [intOf]
            omega
end Go.Proofs.Yteiohcgohgcjfaa
