/- The walk of CountsPlays. -/
import Derived.Test.YtebpepjlhanopaaRows
import Derived.IntWalk
import Derived.Deep.RegionHeld3
import Derived.Test.YtebpepjlhanopaaWords
import Derived.Test.YtebpepjlhanopaaByts
import Derived.Test.YtebpepjlhanopaaFrame
import Derived.Test.YtebpepjlhanopaaElems
import Derived.Test.YtebpepjlhanopaaMapOwn
import Derived.Test.YtebpepjlhanopaaS1
import Derived.Test.YtebpepjlhanopaaS2
import Derived.Test.YtebpepjlhanopaaEqs
import Derived.Test.YtebpepjlhanopaaU1
import Derived.Test.YtebpepjlhanopaaU4
import Derived.Test.YtebpepjlhanopaaA1
import Derived.Test.YtebpepjlhanopaaA2
import Derived.Test.YtebpepjlhanopaaP1
import Derived.Test.YtebpepjlhanopaaB1
import Derived.Test.YtebpepjlhanopaaM1
import Derived.Test.YtebpepjlhanopaaM2
import Derived.Test.YtebpepjlhanopaaM3
import Derived.Test.YtebpepjlhanopaaM7
import Derived.Test.YtebpepjlhanopaaM8
import Derived.Test.YtebpepjlhanopaaR0
import Derived.Test.YtebpepjlhanopaaR1
import Derived.Test.YtebpepjlhanopaaR2
import Derived.Test.YtebpepjlhanopaaR4
import Derived.Test.YtebpepjlhanopaaP4
import Derived.Test.YtebpepjlhanopaaL0b
import Derived.Test.YtebpepjlhanopaaW1
namespace Go.Proofs.Ytebpepjlhanopaa
open Go Go.RowKit Go.Proofs.Tail Go.Sort
set_option linter.unusedSimpArgs false
set_option linter.unusedVariables false
theorem GivesTms.rwm {xs : List T} {wr : World} {e : Ending} {w' : World} {m : Nat} (hm : xs.length = m) (hl : m ≤ 1000000) (h : GivesTms xs wr e w') : ∃ A c, e = .returned (.slice A m c) ∧ w'.ownsRow wr.heap.size 28 5 (.slice A m c) m (recT xs) ∧ Tms w' A m c xs ∧ Below wr.heap.size wr w' := by
  subst hm
  obtain ⟨A, c, h1, h2, h3⟩ := h.rw_ hl
  exact ⟨A, c, h1, h2.own, h2.tms, h3⟩
/-- What a round holds: the counts, the document's in its box, the time. -/
structure Pl (w wr : World) (P b B : Nat) (d : Int) (k : Nat) (t : T) (C : List (T × Int)) (A : Option Addr) (n c : Nat) : Prop where
  cw : Cw w wr P b d k C
  bm : Blk wr B [.int .i64 d, .slice A n c] 40
  co : Cos wr A n c C
  bx : Bx wr w.heap.size t
  hb : Below w.heap.size w wr
  lt : w.heap.size < B
theorem Pl.below {w wr wx : World} {P b B : Nat} {d : Int} {k : Nat} {t : T} {C : List (T × Int)} {A : Option Addr} {n c : Nat} (h : Pl w wr P b B d k t C A n c) (hb : Below wr.heap.size wr wx) : Pl w wx P b B d k t C A n c :=
  ⟨h.cw.below hb, h.bm.then hb, h.co.below RCo.stays hb, h.bx.below hb, below_then h.hb hb, h.lt⟩
/-- One's own counts turn. -/
theorem Pl.turn {w wr wx : World} {P b B : Nat} {d : Int} {k k' : Nat} {t : T} {C C' : List (T × Int)} {A : Option Addr} {n c : Nat} (h : Pl w wr P b B d k t C A n c) (hc : Cw w wx P b d k' C') (hf : Fr (fun k => k = b) wr wx) :
    Cw w wx P b d k' C' ∧ Blk wx B [.int .i64 d, .slice A n c] 40 ∧ Cos wx A n c C ∧ Bx wx w.heap.size t ∧ Below w.heap.size w wx :=
  ⟨hc, map_blk h.cw hf h.bm, map_cos h.cw hf h.co, map_bx h.cw hf h.bx, fr_below h.hb hf h.cw.q⟩
/-- Other counts turn. -/
theorem Pl.other {w wr wx : World} {P b B P' b' : Nat} {d : Int} {k k' : Nat} {t : T} {C C' : List (T × Int)} {A : Option Addr} {n c : Nat} (h : Pl w wr P b B d k t C A n c) (h' : Cw w wr P' b' d k' C') (hne : b ≠ b') (hf : Fr (fun k => k = b') wr wx) : Pl w wx P b B d k t C A n c :=
  ⟨h.cw.fr h'.cs hne hf, map_blk h' hf h.bm, map_cos h' hf h.co, map_bx h' hf h.bx, fr_below h.hb hf h'.q, h.lt⟩
theorem cos_blk2 {wr wx : World} {B : Nat} {v0 v1 : Value} {ty : TypeId} {A : Option Addr} {n c : Nat} {C : List (T × Int)} (hB : Blk wr B [v0, v1] ty) (h : Cos wr A n c C) (hf : Fr (fun k => k = B) wr wx) : Cos wx A n c C :=
  ⟨h.len, h.cap, h.big, fun hn => by
    obtain ⟨b, off, rfl, hr⟩ := h.at_ hn
    have hne : b ≠ B := by
      rintro rfl
      have hl : 0 < C.length := by rw [h.len]; exact hn
      have := (hr 0 _ (List.getElem?_eq_getElem hl)).2
      rw [hB.cell] at this
      simp at this
    refine ⟨b, off, rfl, fun j x hj => ?_⟩
    have hx := hr j x hj
    have key : ∀ (o : Nat) (v : Value), wr.cell? ⟨b, o, none⟩ = some v → wx.cell? ⟨b, o, none⟩ = some v := fun o v hc => (World.cell?_of_block (hf.block b (World.block_lt_of_cell? wr _ hc) hne)).trans hc
    exact ⟨⟨key _ _ hx.1.c0, key _ _ hx.1.c1, key _ _ hx.1.c2, key _ _ hx.1.c3, key _ _ hx.1.c4⟩, key _ _ hx.2⟩⟩
/-- The document's counts are stored into their box. -/
theorem Pl.store {w wr : World} {P b B : Nat} {d : Int} {k : Nat} {t : T} {C' : List (T × Int)} {A A' : Option Addr} {n c n' c' : Nat} (hc : Cw w wr P b d k C') (hm : Blk wr B [.int .i64 d, .slice A n c] 40) (hx : Bx wr w.heap.size t) (hb : Below w.heap.size w wr) (hlt : w.heap.size < B) (ho : Cos wr A' n' c' C') :
    Pl w ((wr.setCell ⟨B, 0, none⟩ (.int .i64 d)).setCell ⟨B, 1, none⟩ (.slice A' n' c')) P b B d k t C' A' n' c' := by
  have hf : Fr (fun k => k = B) wr ((wr.setCell ⟨B, 0, none⟩ (.int .i64 d)).setCell ⟨B, 1, none⟩ (.slice A' n' c')) := ((Fr.refl (fun k => k = B) wr).set (p := ⟨B, 0, none⟩) (fun _ => rfl) _).set (p := ⟨B, 1, none⟩) (fun _ => rfl) _
  have hPB : P ≠ B := by
    rintro rfl
    have h1 := hc.cs.blk.cell 1
    have h2 := hm.cell 1
    rw [h1] at h2
    simp at h2
  have hbB : b ≠ B := by
    rintro rfl
    obtain ⟨L, ⟨es, clock, hmm, _⟩, _⟩ := hc.cs.mp
    have := hm.h
    rw [hmm] at this
    cases this
  refine ⟨⟨hc.cs.fr hf hPB hbB, hc.good, hc.p, hc.q⟩, (hm.set 0 _).set 1 _, cos_blk2 hm ho hf, ⟨?_⟩, ?_, hlt⟩
  · exact (hf.block _ hx.lt (by omega)).trans hx.h
  · exact (hb.setCell (by dsimp only; omega) _).setCell (by dsimp only; omega) _
theorem store_other {w wr : World} {P b B : Nat} {d : Int} {k : Nat} {C : List (T × Int)} {A A' : Option Addr} {n c n' c' : Nat} (hc : Cw w wr P b d k C) (hm : Blk wr B [.int .i64 d, .slice A n c] 40) : Cw w ((wr.setCell ⟨B, 0, none⟩ (.int .i64 d)).setCell ⟨B, 1, none⟩ (.slice A' n' c')) P b d k C := by
  have hf : Fr (fun k => k = B) wr ((wr.setCell ⟨B, 0, none⟩ (.int .i64 d)).setCell ⟨B, 1, none⟩ (.slice A' n' c')) := ((Fr.refl (fun k => k = B) wr).set (p := ⟨B, 0, none⟩) (fun _ => rfl) _).set (p := ⟨B, 1, none⟩) (fun _ => rfl) _
  have hPB : P ≠ B := by
    rintro rfl
    have h1 := hc.cs.blk.cell 1
    have h2 := hm.cell 1
    rw [h1] at h2
    simp at h2
  have hbB : b ≠ B := by
    rintro rfl
    obtain ⟨L, ⟨es, clock, hmm, _⟩, _⟩ := hc.cs.mp
    have := hm.h
    rw [hmm] at this
    cases this
  exact ⟨hc.cs.fr hf hPB hbB, hc.good, hc.p, hc.q⟩
/-- The new counts in a new box, in either order. -/
structure Nb (wd wz : World) (B : Nat) (d : Int) (C : List (T × Int)) (A : Option Addr) (n c : Nat) : Prop where
  hb : Below wd.heap.size wd wz
  bm : Blk wz B [.int .i64 d, .slice A n c] 40
  co : Cos wz A n c C
  lt : wd.heap.size ≤ B
theorem Nb.behind {wd w3 : World} {d : Int} {C : List (T × Int)} {A : Option Addr} {n c : Nat} (hb : Below wd.heap.size wd w3) (ho : Cos w3 A n c C) : Nb wd (w3.alloc (.cells #[.int .i64 d, .slice A n c] 40)) w3.heap.size d C A n c :=
  ⟨below_then hb (below_new _ _), Blk.new w3 [.int .i64 d, .slice A n c] _ _ rfl, ho.below RCo.stays (below_new _ _), hb.size⟩
theorem Nb.ahead {wd w3 : World} {B : Nat} {d : Int} {C : List (T × Int)} {A : Option Addr} {n c : Nat} (hB : wd.heap.size = B) (hb : Below (wd.alloc (.cells #[.int .i64 0, .slice none 0 0] 40)).heap.size (wd.alloc (.cells #[.int .i64 0, .slice none 0 0] 40)) w3) (ho : Cos w3 A n c C) :
    Nb wd ((w3.setCell ⟨B, 0, none⟩ (.int .i64 d)).setCell ⟨B, 1, none⟩ (.slice A n c)) B d C A n c := by
  subst hB
  have hk := (Blk.new wd [.int .i64 0, .slice none 0 0] 40 _ rfl).then hb
  have hf : Fr (fun k => k = wd.heap.size) w3 ((w3.setCell ⟨wd.heap.size, 0, none⟩ (.int .i64 d)).setCell ⟨wd.heap.size, 1, none⟩ (.slice A n c)) := ((Fr.refl (fun k => k = wd.heap.size) w3).set (p := ⟨wd.heap.size, 0, none⟩) (fun _ => rfl) _).set (p := ⟨wd.heap.size, 1, none⟩) (fun _ => rfl) _
  have hb0 := below_then (below_new wd (.cells #[.int .i64 0, .slice none 0 0] 40)) hb
  exact ⟨(hb0.setCell (by exact Nat.le_refl _) _).setCell (by exact Nat.le_refl _) _, (hk.set 0 _).set 1 _, cos_blk2 hk ho hf, Nat.le_refl _⟩
set_option maxRecDepth 100000 in
set_option maxHeartbeats 16000000 in
theorem law_plays (d : Int) (A : Option Addr) (n c : Nat) (ls : List (T × Int)) (t : T) (w : World) (hX : Cos w A n c ls) :
    Calls Try.prog 5 #[.int .i64 d, .slice A n c, .agg #[.int .i64 t.d, .int .i64 t.e, .int .i64 t.a, .int .i64 t.b, .int .i64 t.c]] w (Gives (.bool true) w) := by
  have HB0 := Lib.hid (below_new w (.cells #[.int .i64 t.d, .int .i64 t.e, .int .i64 t.a, .int .i64 t.b, .int .i64 t.c] 28))
  have HT0 := Lib.hid (Bx.new w t _ rfl)
  have HU := Lib.hid hX
  have hbig := hX.big
  by_cases h60 : 60 < n
  · have d1 : decide (60 < (n : Int)) = true := decide_eq_true (by omega)
    clear h60 hX
    go_enter Try.func5, Try.ntmps5
    go_wp2_with fail
    refine (works_any _).mono ?_
    rintro e wz ⟨rfl, hb⟩
    have HBZ := Lib.hid (below_then HB0.out hb)
    clear hb
    go_wp2_with fail
    go_ret
    exact .bool rfl HBZ.out
  · have d1 : decide (60 < (n : Int)) = false := decide_eq_false (by omega)
    have hl60 : n ≤ 60 := by omega
    clear h60 hX
    by_cases hd : 0 ≤ d ∧ d ≤ 3
    · have hd0 : ¬ d < 0 := by omega
      have hd3 : ¬ 3 < d := by omega
      have HN := Lib.hid (new_law (w := w) (wr := w.alloc (.cells #[.int .i64 t.d, .int .i64 t.e, .int .i64 t.a, .int .i64 t.b, .int .i64 t.c] 28)) (d := d) HB0.out.size hd.1 hd.2)
      clear hd
      go_enter Try.func5, Try.ntmps5
      go_wp2_with fail
      refine HN.out.mono ?_
      rintro e w1 ⟨P, b, rfl, hc, hp, hq, hb⟩
      have hb1 := below_new w1 (.cells #[.int .i64 d, .slice none 0 0] 40)
      have H0 := Lib.hid (show Pl w (w1.alloc (.cells #[.int .i64 d, .slice none 0 0] 40)) P b w1.heap.size d 0 t [] none 0 0 from
        ⟨hc.below hb1, Blk.new w1 [.int .i64 d, .slice none 0 0] _ _ rfl, Rd.nil _ _ _, (HT0.out.below hb).below hb1, below_then (below_then HB0.out hb) hb1, by have := hb.size; simp at this; omega⟩)
      have HLB := Lib.hid (And.intro hc.lt.1 hc.lt.2)
      generalize hBB : w1.heap.size = B at H0
      clear hc hp hq hb hb1 HN HT0 HB0
      go_wp2_with fail
      clear hBB HLB
      go_loopw [9] (fun i wr => ∃ (k : Nat) (C : List (T × Int)) (A2 : Option Addr) (n2 c2 : Nat), k ≤ n ∧ i = .int .i64 k ∧ Hid (Pl w wr P b B d k t C A2 n2 c2)) (fun i _ => n - (intOf i).toNat)
      case atStart => exact ⟨0, [], none, 0, 0, Nat.zero_le _, rfl, H0⟩
      case round =>
        clear H0
        obtain ⟨k, C, A2, n2, c2, hk, rfl, HP⟩ := hrel
        by_cases hlt : k < n
        · have e1 : decide ((k : Int) < n) = true := decide_eq_true (by omega)
          have e1' : decide (k < n) = true := decide_eq_true (by omega)
          have hk0 : (0 : Int) ≤ k := by omega
          have hkn : (k : Int) < n := by omega
          have HN2 := Lib.hid (show n2 ≤ k from by rw [← HP.out.co.len]; exact HP.out.cw.good.len)
          have HC2L := Lib.hid HP.out.co.len
          obtain ⟨bl, off, x, rfl, hx, hcx⟩ := HU.out.elem hlt
          have HRW := Lib.hid hcx
          have HRX := Lib.hid (RCo.stays _ _ _ _ _ HP.out.hb hcx)
          clear hx hcx
          go_wp2_with fail
          refine (copy_law HP.out.hb.size HP.out.cw).mono ?_
          rintro e w2 ⟨P', b', rfl, hc, _, hq, hb⟩
          have HNE := Lib.hid (show b ≠ b' by have := HP.out.cw.lt.2; omega)
          have HD := Lib.hid (hc.below (below_drew (Below.refl _ _)))
          replace HP := Lib.hid ((HP.out.below hb).below (below_drew (Below.refl _ _)))
          replace HRX := Lib.hid (RCo.stays _ _ _ _ _ (below_drew (Below.refl _ _)) (RCo.stays _ _ _ _ _ hb HRX.out))
          clear hc hq hb
          obtain ⟨c0, c1, c2', c3, c4⟩ := HRX.out.1
          have c5 := HRX.out.2
          have C1 := Lib.hid (add_law x.1 x.2 HP.out.cw)
          go_wp2_with fail
          go_region_held3 (fun w' => w'.cell? ⟨bl, off + k * 6, none⟩ = some (.int .i64 x.1.d) ∧ w'.cell? ⟨bl, off + k * 6 + 1, none⟩ = some (.int .i64 x.1.e) ∧ w'.cell? ⟨bl, off + k * 6 + 2, none⟩ = some (.int .i64 x.1.a) ∧ w'.cell? ⟨bl, off + k * 6 + 3, none⟩ = some (.int .i64 x.1.b) ∧ w'.cell? ⟨bl, off + k * 6 + 4, none⟩ = some (.int .i64 x.1.c) ∧ w'.cell? ⟨bl, off + k * 6 + 5, none⟩ = some (.int .i64 x.2))
            (first | exact ⟨c0, c1, c2', c3, c4, c5⟩ | exact ⟨z0, z1, z2, z3, z4, z5⟩)
            (first | (go_at_call 11; (with_reducible refine C1.out.mono ?_); rintro e w3 ⟨rfl, hc2, hf2⟩; have z0 := map_cell HP.out.cw hf2 c0; have z1 := map_cell HP.out.cw hf2 c1; have z2 := map_cell HP.out.cw hf2 c2'; have z3 := map_cell HP.out.cw hf2 c3; have z4 := map_cell HP.out.cw hf2 c4; have z5 := map_cell HP.out.cw hf2 c5))
          have HCAN := Lib.hid HP.out.cw.good
          have HLT := Lib.hid HP.out.lt
          have HQD := Lib.hid (HP.out.turn hc2 hf2)
          replace HRX := Lib.hid (map_rco HP.out.cw hf2 HRX.out)
          replace HD := Lib.hid (HD.out.fr HP.out.cw.cs HNE.out.symm hf2)
          clear c0 c1 c2' c3 c4 c5 z0 z1 z2 z3 z4 z5 hc2 hf2 C1 HP
          obtain ⟨c0, c1, c2', c3, c4⟩ := HRX.out.1
          have c5 := HRX.out.2
          have m0 : w3.cell? ⟨B, 0, none⟩ = some (.int .i64 d) := HQD.out.2.1.cell 0
          have m1 : w3.cell? ⟨B, 1, none⟩ = some (.slice A2 n2 c2) := HQD.out.2.1.cell 1
          have HSK := Lib.hid (show ∀ W, Below w3.heap.size w3 W → (W.cell? ⟨B, 0, none⟩ = some (.int .i64 d) ∧ W.cell? ⟨B, 1, none⟩ = some (.slice A2 n2 c2) ∧ W.cell? ⟨bl, off + k * 6, none⟩ = some (.int .i64 x.1.d) ∧ W.cell? ⟨bl, off + k * 6 + 1, none⟩ = some (.int .i64 x.1.e) ∧ W.cell? ⟨bl, off + k * 6 + 2, none⟩ = some (.int .i64 x.1.a) ∧ W.cell? ⟨bl, off + k * 6 + 3, none⟩ = some (.int .i64 x.1.b) ∧ W.cell? ⟨bl, off + k * 6 + 4, none⟩ = some (.int .i64 x.1.c) ∧ W.cell? ⟨bl, off + k * 6 + 5, none⟩ = some (.int .i64 x.2)) from fun W h => ⟨below_cell h m0, below_cell h m1, below_cell h c0, below_cell h c1, below_cell h c2', below_cell h c3, below_cell h c4, below_cell h c5⟩)
          have CR := Lib.hid (show ∀ W, Below w3.heap.size w3 W → Calls Try.prog 17 #[.agg #[.int .i64 d, .slice A2 n2 c2], .agg #[.int .i64 x.1.d, .int .i64 x.1.e, .int .i64 x.1.a, .int .i64 x.1.b, .int .i64 x.1.c], .int .i64 x.2] W (RAdds d C x.1 x.2 W) from fun W h => refadd_any d A2 n2 c2 C x.1 x.2 W (HQD.out.2.2.1.below RCo.stays h) HCAN.out.can (by have := HN2.out; omega) (HCAN.out.bound x.1))
          go_wp2_with fail
          go_region_held3 (fun w' => w'.cell? ⟨B, 0, none⟩ = some (.int .i64 d) ∧ w'.cell? ⟨B, 1, none⟩ = some (.slice A2 n2 c2) ∧ w'.cell? ⟨bl, off + k * 6, none⟩ = some (.int .i64 x.1.d) ∧ w'.cell? ⟨bl, off + k * 6 + 1, none⟩ = some (.int .i64 x.1.e) ∧ w'.cell? ⟨bl, off + k * 6 + 2, none⟩ = some (.int .i64 x.1.a) ∧ w'.cell? ⟨bl, off + k * 6 + 3, none⟩ = some (.int .i64 x.1.b) ∧ w'.cell? ⟨bl, off + k * 6 + 4, none⟩ = some (.int .i64 x.1.c) ∧ w'.cell? ⟨bl, off + k * 6 + 5, none⟩ = some (.int .i64 x.2))
            (first | exact HSK.out _ (below_drew (Below.refl _ _)) | exact HSK.out _ (below_drew (below_new _ _)) | exact HSK.out _ HB4.out | exact HSK.out _ (below_alloc HB4.out _) | exact HSK.out _ (((HB4.out).setCell (by exact Nat.le_refl _) _).setCell (by exact Nat.le_refl _) _) | exact HSK.out _ ((HB4.out).setCell (by exact Nat.le_refl _) _))
            (first | (go_at_call 17; first
                | ((with_reducible refine (CR.out _ (below_drew (Below.refl _ _))).mono ?_); rintro e w4 ⟨A3, n3, c3', rfl, ho4, hb4⟩; have HB4 := Lib.hid (below_then (below_drew (Below.refl _ _)) hb4))
                | ((with_reducible refine (CR.out _ (below_drew (below_new _ _))).mono ?_); rintro e w4 ⟨A3, n3, c3', rfl, ho4, hb5⟩; have hb4 := below_then (below_drew (Below.refl _ _)) hb5; have HB4 := Lib.hid (below_then (below_new _ _) hb4); have q0 := below_cell hb4 (box_cell w3 [.int .i64 0, .slice none 0 0] 40 0 _ rfl); have q1 := below_cell hb4 (box_cell w3 [.int .i64 0, .slice none 0 0] 40 1 _ rfl); have fq := fun (o : Nat) => Blk.frozen (Blk.then (Blk.new w3 [.int .i64 0, .slice none 0 0] 40 _ rfl) hb4) o)))
          · as_aux_lemma =>
              have HNB := Lib.hid (Nb.behind (d := d) HB4.out ho4)
              obtain ⟨wz, hwz⟩ : ∃ q, q = w4.alloc (.cells #[.int .i64 d, .slice A3 n3 c3'] 40) := ⟨_, rfl⟩
              rw [← hwz] at HNB ⊢
              clear hwz ho4 HB4 hb4
              clear m0 m1 c0 c1 c2' c3 c4 c5 HSK CR
              have HQZ := Lib.hid (show Cw w wz P b d (k + 1) (addC d C x.1 x.2) ∧ Blk wz B [.int .i64 d, .slice A2 n2 c2] 40 ∧ Cos wz A2 n2 c2 C ∧ Bx wz w.heap.size t ∧ Below w.heap.size w wz from ⟨HQD.out.1.below HNB.out.hb, HQD.out.2.1.then HNB.out.hb, HQD.out.2.2.1.below RCo.stays HNB.out.hb, HQD.out.2.2.2.1.below HNB.out.hb, below_then HQD.out.2.2.2.2 HNB.out.hb⟩)
              replace HD := Lib.hid (HD.out.below HNB.out.hb)
              clear HQD HRX
              have HRX := Lib.hid (RCo.stays _ _ _ _ _ HQZ.out.2.2.2.2 HRW.out)
              have z0 := fun p : After wz => cell_after HRX.out.1.c0 p
              have z1 := fun p : After wz => cell_after HRX.out.1.c1 p
              have z2 := fun p : After wz => cell_after HRX.out.1.c2 p
              have z3 := fun p : After wz => cell_after HRX.out.1.c3 p
              have z4 := fun p : After wz => cell_after HRX.out.1.c4 p
              have m0 := fun p : After wz => ((HQZ.out.2.1.then p.below).cell 0)
              have m1 := fun p : After wz => ((HQZ.out.2.1.then p.below).cell 1)
              have K1 := Lib.hid (fun p : After wz => count_law x.1 (HD.out.below p.below))
              have K2 := Lib.hid (fun p : After wz => refcount_any d A2 n2 c2 C x.1 p.val (HQZ.out.2.2.1.below RCo.stays p.below) HCAN.out.can)
              have hs1 : (addE d C x.1 x.2 != addE d C x.1 x.2) = false := by simp
              have hs2 : (cnt C x.1 != cnt C x.1) = false := by simp
              go_wp2_with fail
              refine quiet_after (by kernel_rfl) (by kernel_rfl) ?_
              repeat (first | go_big_quiet_step ((first | (go_at_call 13; with_reducible exact calls_after (K1.out _)) | (go_at_call 18; with_reducible exact calls_after (K2.out _)))) | quiet_step ((first | (go_at_call 13; with_reducible exact calls_after (K1.out _)) | (go_at_call 18; with_reducible exact calls_after (K2.out _)))))
              refine wpQuiet_nil ?_
              intro wq hw'
              obtain ⟨p, rfl⟩ := hw'
              obtain ⟨w5, hbq⟩ := p
              dsimp only
              have HNB5 := Lib.hid (And.intro (HNB.out.bm.then hbq) (HNB.out.co.below RCo.stays hbq))
              replace HD := Lib.hid (HD.out.below hbq)
              have HQ5 := Lib.hid (show Cw w w5 P b d (k + 1) (addC d C x.1 x.2) ∧ Blk w5 B [.int .i64 d, .slice A2 n2 c2] 40 ∧ Bx w5 w.heap.size t ∧ Below w.heap.size w w5 from ⟨HQZ.out.1.below hbq, HQZ.out.2.1.then hbq, HQZ.out.2.2.2.1.below hbq, below_then HQZ.out.2.2.2.2 hbq⟩)
              clear z0 z1 z2 z3 z4 m0 m1 K1 K2 hbq HQZ HNB HRX hs1 hs2
              have r0 := HNB5.out.1.cell 0
              have r1 := HNB5.out.1.cell 1
              have m0 := HQ5.out.2.1.cell 0
              have m1 := HQ5.out.2.1.cell 1
              have fm := HQ5.out.2.1.frozen
              have HPL := Lib.hid (Pl.store HQ5.out.1 HQ5.out.2.1 HQ5.out.2.2.1 HQ5.out.2.2.2 HLT.out HNB5.out.2)
              have HDS := Lib.hid (store_other (A' := A3) (n' := n3) (c' := c3') HD.out HQ5.out.2.1)
              clear HD HQ5 HNB5 HCAN
              go_wp2_with fail
              generalize addC d C x.1 x.2 = C2 at *
              generalize (w5.setCell ⟨B, 0, none⟩ (.int .i64 d)).setCell ⟨B, 1, none⟩ (.slice A3 n3 c3') = w6 at *
              clear r0 r1 m0 m1 fm
              have HRX := Lib.hid (RCo.stays _ _ _ _ _ HPL.out.hb HRW.out)
              have z0 := fun p : After w6 => cell_after HRX.out.1.c0 p
              have z1 := fun p : After w6 => cell_after HRX.out.1.c1 p
              have z2 := fun p : After w6 => cell_after HRX.out.1.c2 p
              have z3 := fun p : After w6 => cell_after HRX.out.1.c3 p
              have z4 := fun p : After w6 => cell_after HRX.out.1.c4 p
              have y0 := fun p : After w6 => (HPL.out.bx.below p.below).cells.1
              have y1 := fun p : After w6 => (HPL.out.bx.below p.below).cells.2.1
              have y2 := fun p : After w6 => (HPL.out.bx.below p.below).cells.2.2.1
              have y3 := fun p : After w6 => (HPL.out.bx.below p.below).cells.2.2.2.1
              have y4 := fun p : After w6 => (HPL.out.bx.below p.below).cells.2.2.2.2
              have m0 := fun p : After w6 => ((HPL.out.bm.then p.below).cell 0)
              have m1 := fun p : After w6 => ((HPL.out.bm.then p.below).cell 1)
              have K1 := Lib.hid (fun p : After w6 => count_law x.1 (HPL.out.cw.below p.below))
              have K2 := Lib.hid (fun p : After w6 => refcount_any d A3 n3 c3' C2 x.1 p.val (HPL.out.co.below RCo.stays p.below) HPL.out.cw.good.can)
              have K3 := Lib.hid (fun p : After w6 => count_law t (HPL.out.cw.below p.below))
              have K4 := Lib.hid (fun p : After w6 => refcount_any d A3 n3 c3' C2 t p.val (HPL.out.co.below RCo.stays p.below) HPL.out.cw.good.can)
              have hs1 : (cnt C2 x.1 != cnt C2 x.1) = false := by simp
              have hs2 : (cnt C2 t != cnt C2 t) = false := by simp
              go_wp2_with fail
              refine quiet_after (by kernel_rfl) (by kernel_rfl) ?_
              repeat (first | go_big_quiet_step ((first | (go_at_call 13; first | with_reducible exact calls_after (K1.out _) | with_reducible exact calls_after (K3.out _)) | (go_at_call 18; first | with_reducible exact calls_after (K2.out _) | with_reducible exact calls_after (K4.out _)))) | quiet_step ((first | (go_at_call 13; first | with_reducible exact calls_after (K1.out _) | with_reducible exact calls_after (K3.out _)) | (go_at_call 18; first | with_reducible exact calls_after (K2.out _) | with_reducible exact calls_after (K4.out _)))))
              refine wpQuiet_nil ?_
              intro wq hw'
              obtain ⟨p, rfl⟩ := hw'
              obtain ⟨w7, hbq⟩ := p
              dsimp only
              replace HPL := Lib.hid (HPL.out.below hbq)
              have HD := Lib.hid (HDS.out.below hbq)
              have HC2L := Lib.hid (show C2.length ≤ 61 from Nat.le_trans HPL.out.cw.good.len (by omega))
              have HN3 := Lib.hid (show n3 ≤ 61 by rw [← HPL.out.co.len]; exact HC2L.out)
              clear z0 z1 z2 z3 z4 y0 y1 y2 y3 y4 m0 m1 K1 K2 K3 K4 hs1 HDS hbq HRX
              have hk61 : k + 1 ≤ 1000000 := by omega
              obtain ⟨xs, hxs⟩ : ∃ xs, C2.map Prod.fst = xs := ⟨_, rfl⟩
              obtain ⟨m5, hm⟩ : ∃ m, xs.length = m := ⟨_, rfl⟩
              have HXS := Lib.hid hxs
              have HLM := Lib.hid hm
              have HML := Lib.hid (show m5 ≤ 61 by rw [← hm, ← hxs, List.length_map]; exact HC2L.out)
              clear hxs hm
              go_wp2_with fail
              refine (times_law HPL.out.cw hk61).mono ?_
              rintro e w8 h8
              rw [HXS.out] at h8
              obtain ⟨A5, c5, rfl, ho8, hr8, hb8⟩ := h8.rwm HLM.out (by have := HML.out; omega)
              have HRA := Lib.hid hr8
              have HRO := Lib.hid ho8
              have HBT := Lib.hid hb8
              clear h8 hr8 ho8 hb8
              go_wp2_with fail
              refine (front_law (HPL.out.cw.below HBT.out) hk61).mono ?_
              rintro e w9 h9
              obtain ⟨A6, c6, rfl, hr9, hb9⟩ := h9.rw_ (by have := HC2L.out; have := @front_len C2; omega)
              have HRF := Lib.hid hr9.tms
              replace HRA := Lib.hid (HRA.out.below At.stays hb9)
              replace HRO := Lib.hid (own_below HRO.out hb9)
              replace HBT := Lib.hid (below_then HBT.out hb9)
              clear h9 hr9 hb9
              have m0 := (HPL.out.bm.then HBT.out).cell 0
              have m1 := (HPL.out.bm.then HBT.out).cell 1
              go_wp2_with fail
              refine (reftimes_any d A3 n3 c3' C2 _ (HPL.out.co.below RCo.stays HBT.out) (by have := HN3.out; omega)).mono ?_
              rintro e w10 h10
              rw [HXS.out] at h10
              obtain ⟨A7, c7, rfl, _, hr10, hb10⟩ := h10.rwm HLM.out (by have := HML.out; omega)
              replace HRA := Lib.hid (HRA.out.below At.stays hb10)
              replace HRO := Lib.hid (own_below HRO.out hb10)
              replace HRF := Lib.hid (HRF.out.below At.stays hb10)
              replace HBT := Lib.hid (below_then HBT.out hb10)
              have HS := Lib.hid (refsame_any A5 A7 _ c5 _ c7 _ _ w10 HRA.out hr10)
              simp only [decide_true] at HS
              clear h10 hr10 hb10 m0 m1
              go_wp2_with fail
              refine HS.out.mono ?_
              rintro e w11 ⟨rfl, hb11⟩
              replace HRA := Lib.hid (HRA.out.below At.stays hb11)
              replace HRO := Lib.hid (own_below HRO.out hb11)
              replace HRF := Lib.hid (HRF.out.below At.stays hb11)
              replace HBT := Lib.hid (below_then HBT.out hb11)
              clear hb11 HS
              have m0 := (HPL.out.bm.then HBT.out).cell 0
              have m1 := (HPL.out.bm.then HBT.out).cell 1
              go_wp2_with fail
              refine (reffront_any d A3 n3 c3' C2 _ (HPL.out.co.below RCo.stays HBT.out) (by have := HN3.out; omega)).mono ?_
              rintro e w12 h12
              obtain ⟨A8, c8, rfl, hr12, hb12⟩ := h12.rw_ (by have := HC2L.out; have := @front_len C2; omega)
              replace HRA := Lib.hid (HRA.out.below At.stays hb12)
              replace HRO := Lib.hid (own_below HRO.out hb12)
              replace HRF := Lib.hid (HRF.out.below At.stays hb12)
              replace HBT := Lib.hid (below_then HBT.out hb12)
              have HS := Lib.hid (refsame_any A6 A8 _ c6 _ c8 _ _ w12 HRF.out hr12.tms)
              simp only [decide_true] at HS
              clear h12 hr12 hb12 m0 m1 HRF HRA
              go_wp2_with fail
              refine HS.out.mono ?_
              rintro e w13 ⟨rfl, hb13⟩
              have HRV := Lib.hid (show ∃ ms, w13.ownsRow w7.heap.size 28 5 (.slice A5 m5 c5) m5 ms from ⟨_, own_below HRO.out hb13⟩)
              replace HBT := Lib.hid (below_then HBT.out hb13)
              clear hb13 HS HRO
              have hm5 : m5 ≤ 61 := HML.out
              go_wp2_with fail
              go_loopw [16] (fun i wq => ∃ q : Nat, q ≤ m5 ∧ i = .int .i64 q ∧ Hid (∃ ms, wq.ownsRow w7.heap.size 28 5 (.slice A5 m5 c5) m5 ms) ∧ Hid (Below w7.heap.size w7 wq)) (fun i _ => m5 - (intOf i).toNat)
              case atStart => exact ⟨0, Nat.zero_le _, rfl, HRV, HBT⟩
              case round =>
                clear HRV HBT
                obtain ⟨q, hq, rfl, HRV, HBT⟩ := hrel
                by_cases hqm : q < m5
                · have f1 : decide ((q : Int) < m5) = true := decide_eq_true (by omega)
                  have f1' : decide (q < m5) = true := decide_eq_true (by omega)
                  have hq0 : (0 : Int) ≤ q := by omega
                  have hqm' : (q : Int) < m5 := by omega
                  obtain ⟨ms, hown⟩ := HRV.out
                  obtain ⟨g, cap, eg, hbg, hgl, _⟩ := own_form hown (by omega)
                  injection eg with eg1 _ eg3
                  subst eg1 eg3
                  have hml := hown.1
                  obtain ⟨um, hge⟩ : ∃ u, ms[q * 5 + 1]? = some u := ⟨_, List.getElem?_eq_getElem (show q * 5 + 1 < ms.length by omega)⟩
                  have hcl := hown.cells (g := g) rfl _ _ hge
                  rw [add_plain] at hcl
                  have hfz := hown.frozenAt (q * 5 + 1)
                  have HS2 := Lib.hid (hown.stored (q * 5 + 1) (.int .i64 (-9))).1
                  have HB2 := Lib.hid (HBT.out.setCell (p := ⟨g, q * 5 + 1, none⟩) hbg (.int .i64 (-9)))
                  clear hown hml hge HRV HBT
                  go_wp2_with fail
                  go_roundw
                  case rel => exact ⟨q + 1, by omega, by go_num, Lib.hid ⟨_, HS2.out⟩, HB2⟩
                  case measure => simp [intOf]; omega
                · have hqm' : q = m5 := by omega
                  subst hqm'
                  have f1 : decide ((q : Int) < q) = false := decide_eq_false (by omega)
                  have f1' : decide (q < q) = false := decide_eq_false (by omega)
                  have HP2 := Lib.hid (HPL.out.below HBT.out)
                  replace HD := Lib.hid (HD.out.below HBT.out)
                  clear HRV HBT HPL
                  obtain ⟨y0, y1, y2, y3, y4⟩ := HP2.out.bx.cells
                  go_wp2_with fail
                  refine (add_law t 5 HD.out).mono ?_
                  rintro e w14 ⟨rfl, hc, hf⟩
                  have HP3 := Lib.hid (HP2.out.other HD.out HNE.out hf)
                  clear hc hf HD HP2 y0 y1 y2 y3 y4
                  obtain ⟨y0, y1, y2, y3, y4⟩ := HP3.out.bx.cells
                  have m0 := HP3.out.bm.cell 0
                  have m1 := HP3.out.bm.cell 1
                  have HSK := Lib.hid (show ∀ W, Below w14.heap.size w14 W → (W.cell? ⟨w.heap.size, 0, none⟩ = some (.int .i64 t.d) ∧ W.cell? ⟨w.heap.size, 1, none⟩ = some (.int .i64 t.e) ∧ W.cell? ⟨w.heap.size, 2, none⟩ = some (.int .i64 t.a) ∧ W.cell? ⟨w.heap.size, 3, none⟩ = some (.int .i64 t.b) ∧ W.cell? ⟨w.heap.size, 4, none⟩ = some (.int .i64 t.c) ∧ W.cell? ⟨B, 0, none⟩ = some (.int .i64 d) ∧ W.cell? ⟨B, 1, none⟩ = some (.slice A3 n3 c3')) from fun W h => ⟨below_cell h y0, below_cell h y1, below_cell h y2, below_cell h y3, below_cell h y4, below_cell h m0, below_cell h m1⟩)
                  have HBQ := Lib.hid (below_drew (Below.refl w14.heap.size w14))
                  go_wp2_with fail
                  go_region_held3 (fun w' => w'.cell? ⟨w.heap.size, 0, none⟩ = some (.int .i64 t.d) ∧ w'.cell? ⟨w.heap.size, 1, none⟩ = some (.int .i64 t.e) ∧ w'.cell? ⟨w.heap.size, 2, none⟩ = some (.int .i64 t.a) ∧ w'.cell? ⟨w.heap.size, 3, none⟩ = some (.int .i64 t.b) ∧ w'.cell? ⟨w.heap.size, 4, none⟩ = some (.int .i64 t.c) ∧ w'.cell? ⟨B, 0, none⟩ = some (.int .i64 d) ∧ w'.cell? ⟨B, 1, none⟩ = some (.slice A3 n3 c3'))
                    (first | exact HSK.out _ HBQ.out)
                    (first
                      | (go_at_call 13; (with_reducible refine (count_law t (HP3.out.cw.below HBQ.out)).mono ?_); rintro e wa ⟨rfl, hba⟩; replace HBQ := Lib.hid (below_then HBQ.out hba); clear hba)
                      | (go_at_call 18; (with_reducible refine (refcount_any d A3 n3 c3' C2 t _ (HP3.out.co.below RCo.stays HBQ.out) HP3.out.cw.good.can).mono ?_); rintro e wa ⟨rfl, hba⟩; replace HBQ := Lib.hid (below_then HBQ.out hba); clear hba)
                      | (go_at_call 12; (with_reducible refine (times_law (HP3.out.cw.below HBQ.out) hk61).mono ?_); rintro e wa hta; rw [HXS.out] at hta; obtain ⟨A15, c15, rfl, _, hr15, hb15⟩ := GivesTms.rwm HLM.out (by have := HML.out; omega) hta; have HR15 := Lib.hid hr15; replace HBQ := Lib.hid (below_then HBQ.out hb15); clear hta hr15 hb15)
                      | (go_at_call 19; (with_reducible refine (reftimes_any d A3 n3 c3' C2 _ (HP3.out.co.below RCo.stays HBQ.out) (by have := HN3.out; omega)).mono ?_); rintro e wb htb; rw [HXS.out] at htb; obtain ⟨A16, c16, rfl, _, hr16, hb16⟩ := GivesTms.rwm HLM.out (by have := HML.out; omega) htb; replace HBQ := Lib.hid (below_then HBQ.out hb16); have HSM := Lib.hid (refsame_any A15 A16 _ c15 _ c16 _ _ wb (HR15.out.below At.stays hb16) hr16); simp only [decide_true] at HSM; clear htb hr16 hb16 HR15)
                      | (go_at_call 14; (with_reducible refine HSM.out.mono ?_); rintro e wa ⟨rfl, hba⟩; replace HBQ := Lib.hid (below_then HBQ.out hba); clear hba))
                  all_goals
                    have HPF := Lib.hid (HP3.out.below HBQ.out)
                    clear y0 y1 y2 y3 y4 m0 m1 HSK HBQ HP3
                    go_wp2_with fail
                    go_roundw
                    case rel => exact ⟨k + 1, C2, A3, n3, c3', by omega, by go_num, HPF⟩
                    case measure => simp [intOf]; omega
          · as_aux_lemma =>
              have HNB := Lib.hid (Nb.ahead (d := d) (B := w3.heap.size) rfl hb4 ho4)
              obtain ⟨wz, hwz⟩ : ∃ q, q = (w4.setCell ⟨w3.heap.size, 0, none⟩ (.int .i64 d)).setCell ⟨w3.heap.size, 1, none⟩ (.slice A3 n3 c3') := ⟨_, rfl⟩
              rw [← hwz] at HNB ⊢
              clear hwz ho4 HB4 hb4
              clear m0 m1 c0 c1 c2' c3 c4 c5 HSK CR
              have HQZ := Lib.hid (show Cw w wz P b d (k + 1) (addC d C x.1 x.2) ∧ Blk wz B [.int .i64 d, .slice A2 n2 c2] 40 ∧ Cos wz A2 n2 c2 C ∧ Bx wz w.heap.size t ∧ Below w.heap.size w wz from ⟨HQD.out.1.below HNB.out.hb, HQD.out.2.1.then HNB.out.hb, HQD.out.2.2.1.below RCo.stays HNB.out.hb, HQD.out.2.2.2.1.below HNB.out.hb, below_then HQD.out.2.2.2.2 HNB.out.hb⟩)
              replace HD := Lib.hid (HD.out.below HNB.out.hb)
              clear HQD HRX
              have HRX := Lib.hid (RCo.stays _ _ _ _ _ HQZ.out.2.2.2.2 HRW.out)
              have z0 := fun p : After wz => cell_after HRX.out.1.c0 p
              have z1 := fun p : After wz => cell_after HRX.out.1.c1 p
              have z2 := fun p : After wz => cell_after HRX.out.1.c2 p
              have z3 := fun p : After wz => cell_after HRX.out.1.c3 p
              have z4 := fun p : After wz => cell_after HRX.out.1.c4 p
              have m0 := fun p : After wz => ((HQZ.out.2.1.then p.below).cell 0)
              have m1 := fun p : After wz => ((HQZ.out.2.1.then p.below).cell 1)
              have K1 := Lib.hid (fun p : After wz => count_law x.1 (HD.out.below p.below))
              have K2 := Lib.hid (fun p : After wz => refcount_any d A2 n2 c2 C x.1 p.val (HQZ.out.2.2.1.below RCo.stays p.below) HCAN.out.can)
              have hs1 : (addE d C x.1 x.2 != addE d C x.1 x.2) = false := by simp
              have hs2 : (cnt C x.1 != cnt C x.1) = false := by simp
              go_wp2_with fail
              refine quiet_after (by kernel_rfl) (by kernel_rfl) ?_
              repeat (first | go_big_quiet_step ((first | (go_at_call 13; with_reducible exact calls_after (K1.out _)) | (go_at_call 18; with_reducible exact calls_after (K2.out _)))) | quiet_step ((first | (go_at_call 13; with_reducible exact calls_after (K1.out _)) | (go_at_call 18; with_reducible exact calls_after (K2.out _)))))
              refine wpQuiet_nil ?_
              intro wq hw'
              obtain ⟨p, rfl⟩ := hw'
              obtain ⟨w5, hbq⟩ := p
              dsimp only
              have HNB5 := Lib.hid (And.intro (HNB.out.bm.then hbq) (HNB.out.co.below RCo.stays hbq))
              replace HD := Lib.hid (HD.out.below hbq)
              have HQ5 := Lib.hid (show Cw w w5 P b d (k + 1) (addC d C x.1 x.2) ∧ Blk w5 B [.int .i64 d, .slice A2 n2 c2] 40 ∧ Bx w5 w.heap.size t ∧ Below w.heap.size w w5 from ⟨HQZ.out.1.below hbq, HQZ.out.2.1.then hbq, HQZ.out.2.2.2.1.below hbq, below_then HQZ.out.2.2.2.2 hbq⟩)
              clear z0 z1 z2 z3 z4 m0 m1 K1 K2 hbq HQZ HNB HRX hs1 hs2
              have r0 := HNB5.out.1.cell 0
              have r1 := HNB5.out.1.cell 1
              have m0 := HQ5.out.2.1.cell 0
              have m1 := HQ5.out.2.1.cell 1
              have fm := HQ5.out.2.1.frozen
              have HPL := Lib.hid (Pl.store HQ5.out.1 HQ5.out.2.1 HQ5.out.2.2.1 HQ5.out.2.2.2 HLT.out HNB5.out.2)
              have HDS := Lib.hid (store_other (A' := A3) (n' := n3) (c' := c3') HD.out HQ5.out.2.1)
              clear HD HQ5 HNB5 HCAN
              go_wp2_with fail
              generalize addC d C x.1 x.2 = C2 at *
              generalize (w5.setCell ⟨B, 0, none⟩ (.int .i64 d)).setCell ⟨B, 1, none⟩ (.slice A3 n3 c3') = w6 at *
              clear r0 r1 m0 m1 fm
              have HRX := Lib.hid (RCo.stays _ _ _ _ _ HPL.out.hb HRW.out)
              have z0 := fun p : After w6 => cell_after HRX.out.1.c0 p
              have z1 := fun p : After w6 => cell_after HRX.out.1.c1 p
              have z2 := fun p : After w6 => cell_after HRX.out.1.c2 p
              have z3 := fun p : After w6 => cell_after HRX.out.1.c3 p
              have z4 := fun p : After w6 => cell_after HRX.out.1.c4 p
              have y0 := fun p : After w6 => (HPL.out.bx.below p.below).cells.1
              have y1 := fun p : After w6 => (HPL.out.bx.below p.below).cells.2.1
              have y2 := fun p : After w6 => (HPL.out.bx.below p.below).cells.2.2.1
              have y3 := fun p : After w6 => (HPL.out.bx.below p.below).cells.2.2.2.1
              have y4 := fun p : After w6 => (HPL.out.bx.below p.below).cells.2.2.2.2
              have m0 := fun p : After w6 => ((HPL.out.bm.then p.below).cell 0)
              have m1 := fun p : After w6 => ((HPL.out.bm.then p.below).cell 1)
              have K1 := Lib.hid (fun p : After w6 => count_law x.1 (HPL.out.cw.below p.below))
              have K2 := Lib.hid (fun p : After w6 => refcount_any d A3 n3 c3' C2 x.1 p.val (HPL.out.co.below RCo.stays p.below) HPL.out.cw.good.can)
              have K3 := Lib.hid (fun p : After w6 => count_law t (HPL.out.cw.below p.below))
              have K4 := Lib.hid (fun p : After w6 => refcount_any d A3 n3 c3' C2 t p.val (HPL.out.co.below RCo.stays p.below) HPL.out.cw.good.can)
              have hs1 : (cnt C2 x.1 != cnt C2 x.1) = false := by simp
              have hs2 : (cnt C2 t != cnt C2 t) = false := by simp
              go_wp2_with fail
              refine quiet_after (by kernel_rfl) (by kernel_rfl) ?_
              repeat (first | go_big_quiet_step ((first | (go_at_call 13; first | with_reducible exact calls_after (K1.out _) | with_reducible exact calls_after (K3.out _)) | (go_at_call 18; first | with_reducible exact calls_after (K2.out _) | with_reducible exact calls_after (K4.out _)))) | quiet_step ((first | (go_at_call 13; first | with_reducible exact calls_after (K1.out _) | with_reducible exact calls_after (K3.out _)) | (go_at_call 18; first | with_reducible exact calls_after (K2.out _) | with_reducible exact calls_after (K4.out _)))))
              refine wpQuiet_nil ?_
              intro wq hw'
              obtain ⟨p, rfl⟩ := hw'
              obtain ⟨w7, hbq⟩ := p
              dsimp only
              replace HPL := Lib.hid (HPL.out.below hbq)
              have HD := Lib.hid (HDS.out.below hbq)
              have HC2L := Lib.hid (show C2.length ≤ 61 from Nat.le_trans HPL.out.cw.good.len (by omega))
              have HN3 := Lib.hid (show n3 ≤ 61 by rw [← HPL.out.co.len]; exact HC2L.out)
              clear z0 z1 z2 z3 z4 y0 y1 y2 y3 y4 m0 m1 K1 K2 K3 K4 hs1 HDS hbq HRX
              have hk61 : k + 1 ≤ 1000000 := by omega
              obtain ⟨xs, hxs⟩ : ∃ xs, C2.map Prod.fst = xs := ⟨_, rfl⟩
              obtain ⟨m5, hm⟩ : ∃ m, xs.length = m := ⟨_, rfl⟩
              have HXS := Lib.hid hxs
              have HLM := Lib.hid hm
              have HML := Lib.hid (show m5 ≤ 61 by rw [← hm, ← hxs, List.length_map]; exact HC2L.out)
              clear hxs hm
              go_wp2_with fail
              refine (times_law HPL.out.cw hk61).mono ?_
              rintro e w8 h8
              rw [HXS.out] at h8
              obtain ⟨A5, c5, rfl, ho8, hr8, hb8⟩ := h8.rwm HLM.out (by have := HML.out; omega)
              have HRA := Lib.hid hr8
              have HRO := Lib.hid ho8
              have HBT := Lib.hid hb8
              clear h8 hr8 ho8 hb8
              go_wp2_with fail
              refine (front_law (HPL.out.cw.below HBT.out) hk61).mono ?_
              rintro e w9 h9
              obtain ⟨A6, c6, rfl, hr9, hb9⟩ := h9.rw_ (by have := HC2L.out; have := @front_len C2; omega)
              have HRF := Lib.hid hr9.tms
              replace HRA := Lib.hid (HRA.out.below At.stays hb9)
              replace HRO := Lib.hid (own_below HRO.out hb9)
              replace HBT := Lib.hid (below_then HBT.out hb9)
              clear h9 hr9 hb9
              have m0 := (HPL.out.bm.then HBT.out).cell 0
              have m1 := (HPL.out.bm.then HBT.out).cell 1
              go_wp2_with fail
              refine (reftimes_any d A3 n3 c3' C2 _ (HPL.out.co.below RCo.stays HBT.out) (by have := HN3.out; omega)).mono ?_
              rintro e w10 h10
              rw [HXS.out] at h10
              obtain ⟨A7, c7, rfl, _, hr10, hb10⟩ := h10.rwm HLM.out (by have := HML.out; omega)
              replace HRA := Lib.hid (HRA.out.below At.stays hb10)
              replace HRO := Lib.hid (own_below HRO.out hb10)
              replace HRF := Lib.hid (HRF.out.below At.stays hb10)
              replace HBT := Lib.hid (below_then HBT.out hb10)
              have HS := Lib.hid (refsame_any A5 A7 _ c5 _ c7 _ _ w10 HRA.out hr10)
              simp only [decide_true] at HS
              clear h10 hr10 hb10 m0 m1
              go_wp2_with fail
              refine HS.out.mono ?_
              rintro e w11 ⟨rfl, hb11⟩
              replace HRA := Lib.hid (HRA.out.below At.stays hb11)
              replace HRO := Lib.hid (own_below HRO.out hb11)
              replace HRF := Lib.hid (HRF.out.below At.stays hb11)
              replace HBT := Lib.hid (below_then HBT.out hb11)
              clear hb11 HS
              have m0 := (HPL.out.bm.then HBT.out).cell 0
              have m1 := (HPL.out.bm.then HBT.out).cell 1
              go_wp2_with fail
              refine (reffront_any d A3 n3 c3' C2 _ (HPL.out.co.below RCo.stays HBT.out) (by have := HN3.out; omega)).mono ?_
              rintro e w12 h12
              obtain ⟨A8, c8, rfl, hr12, hb12⟩ := h12.rw_ (by have := HC2L.out; have := @front_len C2; omega)
              replace HRA := Lib.hid (HRA.out.below At.stays hb12)
              replace HRO := Lib.hid (own_below HRO.out hb12)
              replace HRF := Lib.hid (HRF.out.below At.stays hb12)
              replace HBT := Lib.hid (below_then HBT.out hb12)
              have HS := Lib.hid (refsame_any A6 A8 _ c6 _ c8 _ _ w12 HRF.out hr12.tms)
              simp only [decide_true] at HS
              clear h12 hr12 hb12 m0 m1 HRF HRA
              go_wp2_with fail
              refine HS.out.mono ?_
              rintro e w13 ⟨rfl, hb13⟩
              have HRV := Lib.hid (show ∃ ms, w13.ownsRow w7.heap.size 28 5 (.slice A5 m5 c5) m5 ms from ⟨_, own_below HRO.out hb13⟩)
              replace HBT := Lib.hid (below_then HBT.out hb13)
              clear hb13 HS HRO
              have hm5 : m5 ≤ 61 := HML.out
              go_wp2_with fail
              go_loopw [16] (fun i wq => ∃ q : Nat, q ≤ m5 ∧ i = .int .i64 q ∧ Hid (∃ ms, wq.ownsRow w7.heap.size 28 5 (.slice A5 m5 c5) m5 ms) ∧ Hid (Below w7.heap.size w7 wq)) (fun i _ => m5 - (intOf i).toNat)
              case atStart => exact ⟨0, Nat.zero_le _, rfl, HRV, HBT⟩
              case round =>
                clear HRV HBT
                obtain ⟨q, hq, rfl, HRV, HBT⟩ := hrel
                by_cases hqm : q < m5
                · have f1 : decide ((q : Int) < m5) = true := decide_eq_true (by omega)
                  have f1' : decide (q < m5) = true := decide_eq_true (by omega)
                  have hq0 : (0 : Int) ≤ q := by omega
                  have hqm' : (q : Int) < m5 := by omega
                  obtain ⟨ms, hown⟩ := HRV.out
                  obtain ⟨g, cap, eg, hbg, hgl, _⟩ := own_form hown (by omega)
                  injection eg with eg1 _ eg3
                  subst eg1 eg3
                  have hml := hown.1
                  obtain ⟨um, hge⟩ : ∃ u, ms[q * 5 + 1]? = some u := ⟨_, List.getElem?_eq_getElem (show q * 5 + 1 < ms.length by omega)⟩
                  have hcl := hown.cells (g := g) rfl _ _ hge
                  rw [add_plain] at hcl
                  have hfz := hown.frozenAt (q * 5 + 1)
                  have HS2 := Lib.hid (hown.stored (q * 5 + 1) (.int .i64 (-9))).1
                  have HB2 := Lib.hid (HBT.out.setCell (p := ⟨g, q * 5 + 1, none⟩) hbg (.int .i64 (-9)))
                  clear hown hml hge HRV HBT
                  go_wp2_with fail
                  go_roundw
                  case rel => exact ⟨q + 1, by omega, by go_num, Lib.hid ⟨_, HS2.out⟩, HB2⟩
                  case measure => simp [intOf]; omega
                · have hqm' : q = m5 := by omega
                  subst hqm'
                  have f1 : decide ((q : Int) < q) = false := decide_eq_false (by omega)
                  have f1' : decide (q < q) = false := decide_eq_false (by omega)
                  have HP2 := Lib.hid (HPL.out.below HBT.out)
                  replace HD := Lib.hid (HD.out.below HBT.out)
                  clear HRV HBT HPL
                  obtain ⟨y0, y1, y2, y3, y4⟩ := HP2.out.bx.cells
                  go_wp2_with fail
                  refine (add_law t 5 HD.out).mono ?_
                  rintro e w14 ⟨rfl, hc, hf⟩
                  have HP3 := Lib.hid (HP2.out.other HD.out HNE.out hf)
                  clear hc hf HD HP2 y0 y1 y2 y3 y4
                  obtain ⟨y0, y1, y2, y3, y4⟩ := HP3.out.bx.cells
                  have m0 := HP3.out.bm.cell 0
                  have m1 := HP3.out.bm.cell 1
                  have HSK := Lib.hid (show ∀ W, Below w14.heap.size w14 W → (W.cell? ⟨w.heap.size, 0, none⟩ = some (.int .i64 t.d) ∧ W.cell? ⟨w.heap.size, 1, none⟩ = some (.int .i64 t.e) ∧ W.cell? ⟨w.heap.size, 2, none⟩ = some (.int .i64 t.a) ∧ W.cell? ⟨w.heap.size, 3, none⟩ = some (.int .i64 t.b) ∧ W.cell? ⟨w.heap.size, 4, none⟩ = some (.int .i64 t.c) ∧ W.cell? ⟨B, 0, none⟩ = some (.int .i64 d) ∧ W.cell? ⟨B, 1, none⟩ = some (.slice A3 n3 c3')) from fun W h => ⟨below_cell h y0, below_cell h y1, below_cell h y2, below_cell h y3, below_cell h y4, below_cell h m0, below_cell h m1⟩)
                  have HBQ := Lib.hid (below_drew (Below.refl w14.heap.size w14))
                  go_wp2_with fail
                  go_region_held3 (fun w' => w'.cell? ⟨w.heap.size, 0, none⟩ = some (.int .i64 t.d) ∧ w'.cell? ⟨w.heap.size, 1, none⟩ = some (.int .i64 t.e) ∧ w'.cell? ⟨w.heap.size, 2, none⟩ = some (.int .i64 t.a) ∧ w'.cell? ⟨w.heap.size, 3, none⟩ = some (.int .i64 t.b) ∧ w'.cell? ⟨w.heap.size, 4, none⟩ = some (.int .i64 t.c) ∧ w'.cell? ⟨B, 0, none⟩ = some (.int .i64 d) ∧ w'.cell? ⟨B, 1, none⟩ = some (.slice A3 n3 c3'))
                    (first | exact HSK.out _ HBQ.out)
                    (first
                      | (go_at_call 13; (with_reducible refine (count_law t (HP3.out.cw.below HBQ.out)).mono ?_); rintro e wa ⟨rfl, hba⟩; replace HBQ := Lib.hid (below_then HBQ.out hba); clear hba)
                      | (go_at_call 18; (with_reducible refine (refcount_any d A3 n3 c3' C2 t _ (HP3.out.co.below RCo.stays HBQ.out) HP3.out.cw.good.can).mono ?_); rintro e wa ⟨rfl, hba⟩; replace HBQ := Lib.hid (below_then HBQ.out hba); clear hba)
                      | (go_at_call 12; (with_reducible refine (times_law (HP3.out.cw.below HBQ.out) hk61).mono ?_); rintro e wa hta; rw [HXS.out] at hta; obtain ⟨A15, c15, rfl, _, hr15, hb15⟩ := GivesTms.rwm HLM.out (by have := HML.out; omega) hta; have HR15 := Lib.hid hr15; replace HBQ := Lib.hid (below_then HBQ.out hb15); clear hta hr15 hb15)
                      | (go_at_call 19; (with_reducible refine (reftimes_any d A3 n3 c3' C2 _ (HP3.out.co.below RCo.stays HBQ.out) (by have := HN3.out; omega)).mono ?_); rintro e wb htb; rw [HXS.out] at htb; obtain ⟨A16, c16, rfl, _, hr16, hb16⟩ := GivesTms.rwm HLM.out (by have := HML.out; omega) htb; replace HBQ := Lib.hid (below_then HBQ.out hb16); have HSM := Lib.hid (refsame_any A15 A16 _ c15 _ c16 _ _ wb (HR15.out.below At.stays hb16) hr16); simp only [decide_true] at HSM; clear htb hr16 hb16 HR15)
                      | (go_at_call 14; (with_reducible refine HSM.out.mono ?_); rintro e wa ⟨rfl, hba⟩; replace HBQ := Lib.hid (below_then HBQ.out hba); clear hba))
                  all_goals
                    have HPF := Lib.hid (HP3.out.below HBQ.out)
                    clear y0 y1 y2 y3 y4 m0 m1 HSK HBQ HP3
                    go_wp2_with fail
                    go_roundw
                    case rel => exact ⟨k + 1, C2, A3, n3, c3', by omega, by go_num, HPF⟩
                    case measure => simp [intOf]; omega
        · have hkn : k = n := by omega
          subst hkn
          have e1 : decide ((k : Int) < k) = false := decide_eq_false (by omega)
          have e1' : decide (k < k) = false := decide_eq_false (by omega)
          have HB := Lib.hid HP.out.hb
          go_wp2_with fail
          refine (works_any _).mono ?_
          rintro e wz ⟨rfl, hb⟩
          have HBZ := Lib.hid (below_then HB.out hb)
          clear hb
          go_wp2_with fail
          go_ret
          exact .bool rfl HBZ.out
    · have HN := Lib.hid (new_not d (w.alloc (.cells #[.int .i64 t.d, .int .i64 t.e, .int .i64 t.a, .int .i64 t.b, .int .i64 t.c] 28)) (by omega))
      by_cases hd0 : d < 0
      · clear hd
        go_enter Try.func5, Try.ntmps5
        go_wp2_with fail
        refine HN.out.mono ?_
        rintro e w1 ⟨rfl, hb⟩
        have HB := Lib.hid (below_then HB0.out hb)
        clear hb HN
        go_wp2_with fail
        refine (works_any _).mono ?_
        rintro e wz ⟨rfl, hb⟩
        have HBZ := Lib.hid (below_then HB.out hb)
        clear hb
        go_wp2_with fail
        go_ret
        exact .bool rfl HBZ.out
      · have hd3 : 3 < d := by omega
        clear hd
        go_enter Try.func5, Try.ntmps5
        go_wp2_with fail
        refine HN.out.mono ?_
        rintro e w1 ⟨rfl, hb⟩
        have HB := Lib.hid (below_then HB0.out hb)
        clear hb HN
        go_wp2_with fail
        refine (works_any _).mono ?_
        rintro e wz ⟨rfl, hb⟩
        have HBZ := Lib.hid (below_then HB.out hb)
        clear hb
        go_wp2_with fail
        go_ret
        exact .bool rfl HBZ.out
end Go.Proofs.Ytebpepjlhanopaa
