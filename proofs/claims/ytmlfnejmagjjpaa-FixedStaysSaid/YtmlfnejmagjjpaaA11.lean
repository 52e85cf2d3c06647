/- The statement's works (the chapter's examples) returns true. -/
import Derived.Test.YtmlfnejmagjjpaaRows
import Derived.Test.YtmlfnejmagjjpaaWords
import Derived.Test.YtmlfnejmagjjpaaFxPlain
import Derived.Test.YtmlfnejmagjjpaaA10
namespace Go.Proofs.Ytmlfnejmagjjpaa
open Go.RowKit Go.Proofs.Tail

def oneR : Fx.R := ⟨0, 1, [0, 1, 2]⟩
def twoR : Fx.R := ⟨0, 1, [0, 2, 0]⟩
def r3 : Fx.R := ⟨0, 1, [0, 1]⟩
def r4 : Fx.R := ⟨1, 0, [0, 2]⟩
theorem pos_of2 (x y : Int) (h : 0 ≤ x) (k : 0 ≤ y) : Fx.pos [x, y] := by
  intro i hi
  match i, hi with
  | 0, _ => exact h
  | 1, _ => exact k
theorem le_of2 (x y x' y' : Int) (h : x ≤ x') (k : y ≤ y') : Fx.le [x, y] [x', y'] := by
  intro i hi
  match i, hi with
  | 0, _ => exact h
  | 1, _ => exact k
theorem two_form {b : List Int} (h : b.length = 2) : ∃ x y, b = [x, y] := by
  match b, h with
  | [x, y], _ => exact ⟨x, y, rfl⟩
theorem great_tops {tops : List Int} {rules : List Fx.R} (hp : Fx.pos tops) (h : ∀ r ∈ rules, Fx.ok r tops) : Fx.Great tops rules tops := ⟨⟨rfl, hp, Fx.le_refl _, h⟩, fun _ hb => hb.2.2.1⟩
theorem g1 : Fx.Great [2, 2] [oneR] [2, 2] := great_tops (pos_of2 _ _ (by decide) (by decide)) (by intro r hr; simp at hr; subst hr; show Fx.nd _ _ ≤ _; decide)
theorem g3 : Fx.Great [2, 1] [twoR] [2, 1] := great_tops (pos_of2 _ _ (by decide) (by decide)) (by intro r hr; simp at hr; subst hr; show Fx.nd _ _ ≤ _; decide)
theorem g2 : Fx.Great [2, 1] [oneR] [1, 1] := by
  refine ⟨⟨rfl, pos_of2 _ _ (by decide) (by decide), le_of2 _ _ _ _ (by decide) (by decide), by intro r hr; simp at hr; subst hr; show Fx.nd _ _ ≤ _; decide⟩, ?_⟩
  rintro b ⟨hl, hp, ht, hk⟩
  obtain ⟨x, y, rfl⟩ := two_form hl
  have h1 : x ≤ 2 := ht 0 (by simp)
  have h2 : y ≤ 1 := ht 1 (by simp)
  have h3 : 0 ≤ x := hp 0 (by simp)
  have h4 := hk oneR (by simp)
  refine le_of2 _ _ _ _ ?_ h2
  rcases Int.lt_or_le x 2 with h | h
  · omega
  · have : x = 2 := by omega
    subst this
    have h5 : Fx.nd [0, 1, 2] 2 ≤ y := h4
    have h6 : Fx.nd [0, 1, 2] 2 = 2 := by decide
    omega
theorem g4 : Fx.Great [1, 1] [r3, r4] [0, 0] := by
  refine ⟨⟨rfl, pos_of2 _ _ (by decide) (by decide), le_of2 _ _ _ _ (by decide) (by decide), by intro r hr; simp at hr; rcases hr with rfl | rfl <;> (show Fx.nd _ _ ≤ _; decide)⟩, ?_⟩
  rintro b ⟨hl, hp, ht, hk⟩
  obtain ⟨x, y, rfl⟩ := two_form hl
  have h1 : x ≤ 1 := ht 0 (by simp)
  have h2 : y ≤ 1 := ht 1 (by simp)
  have h3 : 0 ≤ x := hp 0 (by simp)
  have h3' : 0 ≤ y := hp 1 (by simp)
  have h4 : Fx.nd [0, 1] x ≤ y := hk r3 (by simp)
  have h5 : Fx.nd [0, 2] y ≤ x := hk r4 (by simp)
  have hy : y = 0 := by
    rcases Int.lt_or_le y 1 with h | h
    · omega
    · have : y = 1 := by omega
      subst this
      have : Fx.nd [0, 2] 1 = 2 := by decide
      omega
  subst hy
  have hx : x = 0 := by
    rcases Int.lt_or_le x 1 with h | h
    · omega
    · have : x = 1 := by omega
      subst this
      have : Fx.nd [0, 1] 1 = 1 := by decide
      omega
  subst hx
  exact Fx.le_refl _
theorem ints_lit (w : World) (e : TypeId) (xs : List Int) (hx : xs.length ≤ 1000) : Ints (w.alloc (.cells (ints xs).toArray e)) (some ⟨w.heap.size, 0, none⟩) xs.length xs.length xs :=
  ⟨rfl, Nat.le_refl _, by omega, fun _ => ⟨w.heap.size, 0, rfl, fun j x hj => by
    show World.cell? _ _ = _
    rw [Nat.mul_one, Nat.zero_add]
    exact box_cell w (ints xs) e j _ (by simp [ints, hj])⟩⟩
/-- A rule's three cells. -/
def ruleCells (r : Fx.R) (A : Option Addr) (n c : Nat) : List Value := [.int .i64 r.x, .int .i64 r.y, .slice A n c]
theorem rules_lit1 (w : World) (e : TypeId) (r : Fx.R) (A : Option Addr) (n c : Nat) (h : Ints w A n c r.need) :
    Rules (w.alloc (.cells (ruleCells r A n c).toArray e)) (some ⟨w.heap.size, 0, none⟩) 1 1 [r] :=
  ⟨rfl, Nat.le_refl _, by omega, fun _ => ⟨w.heap.size, 0, rfl, fun j x hj => by
    match j, hj with
    | 0, hj =>
      obtain rfl : r = x := by simpa using hj
      exact ⟨A, n, c, box_cell w _ e 0 _ rfl, box_cell w _ e 1 _ rfl, box_cell w _ e 2 _ rfl, h.below RInt.stays (below_new _ _)⟩
    | j + 1, hj => simp at hj⟩⟩
theorem rules_lit2 (w : World) (e : TypeId) (r s : Fx.R) (A B : Option Addr) (n c m d : Nat) (h : Ints w A n c r.need) (k : Ints w B m d s.need) :
    Rules (w.alloc (.cells (ruleCells r A n c ++ ruleCells s B m d).toArray e)) (some ⟨w.heap.size, 0, none⟩) 2 2 [r, s] :=
  ⟨rfl, Nat.le_refl _, by omega, fun _ => ⟨w.heap.size, 0, rfl, fun j x hj => by
    match j, hj with
    | 0, hj =>
      obtain rfl : r = x := by simpa using hj
      exact ⟨A, n, c, box_cell w _ e 0 _ rfl, box_cell w _ e 1 _ rfl, box_cell w _ e 2 _ rfl, h.below RInt.stays (below_new _ _)⟩
    | 1, hj =>
      obtain rfl : s = x := by simpa using hj
      exact ⟨B, m, d, box_cell w _ e 3 _ rfl, box_cell w _ e 4 _ rfl, box_cell w _ e 5 _ rfl, k.below RInt.stays (below_new _ _)⟩
    | j + 2, hj => simp at hj⟩⟩
/-- What Solve hands back, where the answer is known. -/
def KnownQ (a : List Int) (w : World) (e : Ending) (w' : World) : Prop :=
  ∃ A c, e = .returned (.tuple #[.slice A a.length c, .int .i64 0]) ∧ Below w.heap.size w w' ∧ Ints w' A a.length c a
theorem known {tops : List Int} {rules : List Fx.R} {a : List Int} (hE : mayE tops rules = 0) (hg : Fx.Great tops rules a) {w w' : World} {e : Ending} (h : SolveQ tops rules w e w') : KnownQ a w e w' := by
  obtain ⟨v, rfl, hb, _, h2⟩ := h
  obtain ⟨a', hg', hown⟩ := h2 hE
  obtain rfl := Fx.great_unique hg hg'
  have hl := hg.1.1
  have hbig := mayE_big hE
  obtain ⟨A, c, rfl, hR⟩ := own_ints hown (by omega)
  exact ⟨A, c, by rw [hE, hl], hb, by rw [hl]; exact hR⟩
theorem lit2 (w : World) (x y : Int) (B : Nat) (hB : w.heap.size = B) : Ints (w.alloc (.cells #[.int .i64 x, .int .i64 y] 3)) (some ⟨B, 0, none⟩) 2 2 [x, y] := by subst hB; exact ints_lit w 3 [x, y] (by simp)
theorem lit3 (w : World) (x y z : Int) (B : Nat) (hB : w.heap.size = B) : Ints (w.alloc (.cells #[.int .i64 x, .int .i64 y, .int .i64 z] 3)) (some ⟨B, 0, none⟩) 3 3 [x, y, z] := by subst hB; exact ints_lit w 3 [x, y, z] (by simp)
theorem rule1 (w : World) (r : Fx.R) (A : Option Addr) (n c : Nat) (h : Ints w A n c r.need) (B : Nat) (hB : w.heap.size = B) :
    Rules (w.alloc (.cells #[.int .i64 r.x, .int .i64 r.y, .slice A n c] 35)) (some ⟨B, 0, none⟩) 1 1 [r] := by subst hB; exact rules_lit1 w 35 r A n c h
theorem rule2 (w : World) (r s : Fx.R) (A A' : Option Addr) (n c m d : Nat) (h : Ints w A n c r.need) (k : Ints w A' m d s.need) (B : Nat) (hB : w.heap.size = B) :
    Rules (w.alloc (.cells #[.int .i64 r.x, .int .i64 r.y, .slice A n c, .int .i64 s.x, .int .i64 s.y, .slice A' m d] 35)) (some ⟨B, 0, none⟩) 2 2 [r, s] := by subst hB; exact rules_lit2 w 35 r s A A' n c m d h k
theorem same_yes {xs ys : List Int} {w : World} {e : Ending} {w' : World} (h : GivesB (SameQ xs ys) w e w') (he : xs = ys) : Gives (.bool true) w e w' := by
  obtain ⟨b, rfl, hq, hb⟩ := h
  rw [(hq.2 he)]
  exact ⟨rfl, hb⟩
set_option maxRecDepth 100000 in
set_option maxHeartbeats 800000 in
theorem works_any (w : World) : Calls Try.prog 9 #[] w (Gives (.bool true) w) := by
  go_enter Try.func9, Try.ntmps9
  go_wp2_with fail
  have R1 := (rule1 _ oneR _ 3 3 (lit3 w 0 1 2 _ rfl) (w.heap.size + 1) (by simp)).below RRule.stays (below_new _ (.cells #[.int .i64 2, .int .i64 2] 3))
  have B1 := Lib.hid (below_alloc (below_alloc (below_new w (.cells #[.int .i64 0, .int .i64 1, .int .i64 2] 3)) (.cells #[.int .i64 0, .int .i64 1, .slice (some ⟨w.heap.size, 0, none⟩) 3 3] 35)) (.cells #[.int .i64 2, .int .i64 2] 3))
  refine (solve_any _ _ _ _ _ _ [oneR] [2, 2] _ R1 (lit2 _ 2 2 _ (by simp))).mono ?_
  intro e wa hq
  obtain ⟨A1, c1, rfl, hb1, I1⟩ := known (by decide) g1 hq
  have RA := Lib.hid (R1.below RRule.stays hb1)
  have BA := Lib.hid (below_then B1.out hb1)
  have IA := Lib.hid I1
  clear R1 B1 hq hb1 I1
  go_wp2_with fail
  have N := Lib.hid (below_new wa (.cells #[.int .i64 2, .int .i64 1] 3))
  refine (solve_any _ _ _ _ _ _ [oneR] [2, 1] _ (RA.out.below RRule.stays N.out) (lit2 _ 2 1 _ rfl)).mono ?_
  intro e wb hq
  obtain ⟨A2, c2, rfl, hb2, I2⟩ := known (by decide) g2 hq
  have H := Lib.hid (below_then N.out hb2)
  have RB := Lib.hid (RA.out.below RRule.stays H.out)
  have IB1 := Lib.hid (IA.out.below RInt.stays H.out)
  have BB := Lib.hid (below_then BA.out H.out)
  have IB2 := Lib.hid I2
  clear N hq hb2 I2 RA IA BA H
  go_wp2_with fail
  have N := Lib.hid (below_alloc (below_alloc (below_new wb (.cells #[.int .i64 2, .int .i64 1] 3)) (.cells #[.int .i64 0, .int .i64 2, .int .i64 0] 3)) (.cells #[.int .i64 0, .int .i64 1, .slice (some ⟨wb.heap.size + 1, 0, none⟩) 3 3] 35))
  refine (solve_any _ _ _ _ _ _ [twoR] [2, 1] _ (rule1 _ twoR _ 3 3 (lit3 _ 0 2 0 _ (by simp)) _ (by simp)) ((lit2 wb 2 1 _ rfl).below RInt.stays (below_alloc (below_new _ _) _))).mono ?_
  intro e wc hq
  obtain ⟨A3, c3, rfl, hb3, I3⟩ := known (by decide) g3 hq
  have H := Lib.hid (below_then N.out hb3)
  have RC := Lib.hid (RB.out.below RRule.stays H.out)
  have IC1 := Lib.hid (IB1.out.below RInt.stays H.out)
  have IC2 := Lib.hid (IB2.out.below RInt.stays H.out)
  have BC := Lib.hid (below_then BB.out H.out)
  have IC3 := Lib.hid I3
  clear N hq hb3 I3 RB IB1 IB2 BB H
  go_wp2_with fail
  have N := Lib.hid (below_alloc (below_alloc (below_alloc (below_new wc (.cells #[.int .i64 1, .int .i64 1] 3)) (.cells #[.int .i64 0, .int .i64 1] 3)) (.cells #[.int .i64 0, .int .i64 2] 3)) (.cells #[.int .i64 0, .int .i64 1, .slice (some ⟨wc.heap.size + 1, 0, none⟩) 2 2, .int .i64 1, .int .i64 0, .slice (some ⟨wc.heap.size + 1 + 1, 0, none⟩) 2 2] 35))
  refine (solve_any _ _ _ _ _ _ [r3, r4] [1, 1] _ (rule2 _ r3 r4 _ _ 2 2 2 2 ((lit2 _ 0 1 _ (by simp)).below RInt.stays (below_new _ _)) (lit2 _ 0 2 _ (by simp)) _ (by simp)) ((lit2 wc 1 1 _ rfl).below RInt.stays (below_alloc (below_alloc (below_new _ _) _) _))).mono ?_
  intro e wd hq
  obtain ⟨A4, c4, rfl, hb4, I4⟩ := known (by decide) g4 hq
  have H := Lib.hid (below_then N.out hb4)
  have RD := Lib.hid (RC.out.below RRule.stays H.out)
  have ID1 := Lib.hid (IC1.out.below RInt.stays H.out)
  have ID2 := Lib.hid (IC2.out.below RInt.stays H.out)
  have ID3 := Lib.hid (IC3.out.below RInt.stays H.out)
  have BD := Lib.hid (below_then BC.out H.out)
  have ID4 := Lib.hid I4
  clear N hq hb4 I4 RC IC1 IC2 IC3 BC H
  go_wp2_with fail
  refine (same_any _ _ _ _ _ _ [2, 2] [2, 2] _ (ID1.out.below RInt.stays (below_new _ _)) (lit2 _ 2 2 _ rfl)).mono ?_
  intro e we hq
  obtain ⟨rfl, hb⟩ := same_yes hq rfl
  have H := Lib.hid (below_then (below_new _ _) hb)
  have ID2_0 := Lib.hid (ID2.out.below RInt.stays H.out)
  have ID3_0 := Lib.hid (ID3.out.below RInt.stays H.out)
  have ID4_0 := Lib.hid (ID4.out.below RInt.stays H.out)
  have RD_0 := Lib.hid (RD.out.below RRule.stays H.out)
  have B_0 := Lib.hid (below_then BD.out H.out)
  clear hq hb H ID1 ID2 ID3 ID4 RD BD
  go_wp2_with fail
  refine (same_any _ _ _ _ _ _ [1, 1] [1, 1] _ (ID2_0.out.below RInt.stays (below_new _ _)) (lit2 _ 1 1 _ rfl)).mono ?_
  intro e wf hq
  obtain ⟨rfl, hb⟩ := same_yes hq rfl
  have H := Lib.hid (below_then (below_new _ _) hb)
  have ID2_1 := Lib.hid (ID2_0.out.below RInt.stays H.out)
  have ID3_1 := Lib.hid (ID3_0.out.below RInt.stays H.out)
  have ID4_1 := Lib.hid (ID4_0.out.below RInt.stays H.out)
  have RD_1 := Lib.hid (RD_0.out.below RRule.stays H.out)
  have B_1 := Lib.hid (below_then B_0.out H.out)
  clear hq hb H ID2_0 ID3_0 ID4_0 RD_0 B_0
  go_wp2_with fail
  refine (same_any _ _ _ _ _ _ [2, 1] [2, 1] _ (ID3_1.out.below RInt.stays (below_new _ _)) (lit2 _ 2 1 _ rfl)).mono ?_
  intro e wg hq
  obtain ⟨rfl, hb⟩ := same_yes hq rfl
  have H := Lib.hid (below_then (below_new _ _) hb)
  have ID2_2 := Lib.hid (ID2_1.out.below RInt.stays H.out)
  have ID4_2 := Lib.hid (ID4_1.out.below RInt.stays H.out)
  have RD_2 := Lib.hid (RD_1.out.below RRule.stays H.out)
  have B_2 := Lib.hid (below_then B_1.out H.out)
  clear hq hb H ID2_1 ID3_1 ID4_1 RD_1 B_1
  go_wp2_with fail
  refine (same_any _ _ _ _ _ _ [0, 0] [0, 0] _ (ID4_2.out.below RInt.stays (below_new _ _)) (lit2 _ 0 0 _ rfl)).mono ?_
  intro e wh hq
  obtain ⟨rfl, hb⟩ := same_yes hq rfl
  have H := Lib.hid (below_then (below_new _ _) hb)
  have ID2_3 := Lib.hid (ID2_2.out.below RInt.stays H.out)
  have RD_3 := Lib.hid (RD_2.out.below RRule.stays H.out)
  have B_3 := Lib.hid (below_then B_2.out H.out)
  clear hq hb H ID2_2 ID4_2 RD_2 B_2
  go_wp2_with fail
  refine (holds_any _ _ _ _ _ _ [oneR] [1, 1] _ RD_3.out ID2_3.out).mono ?_
  rw [show (![oneR].any (badB [1, 1])) = true by decide]
  rintro e wi ⟨rfl, hb⟩
  have RI := Lib.hid (RD_3.out.below RRule.stays hb)
  have BI := Lib.hid (below_then B_3.out hb)
  clear hb
  go_wp2_with fail
  refine (holds_any _ _ _ _ _ _ [oneR] [2, 1] _ (RI.out.below RRule.stays (below_new _ _)) (lit2 _ 2 1 _ rfl)).mono ?_
  rw [show (![oneR].any (badB [2, 1])) = false by decide]
  rintro e wj ⟨rfl, hb⟩
  have BJ := Lib.hid (below_then BI.out (below_then (below_new _ _) hb))
  clear hb
  go_wp2
  go_ret
  exact .bool rfl BJ.out
end Go.Proofs.Ytmlfnejmagjjpaa
