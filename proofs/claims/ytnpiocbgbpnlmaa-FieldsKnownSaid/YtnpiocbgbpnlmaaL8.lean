/- The walk of FieldsKnown. -/
import Derived.Test.YtnpiocbgbpnlmaaRows
import Derived.Test.YtnpiocbgbpnlmaaWords
import Derived.Test.YtnpiocbgbpnlmaaByts
import Derived.Test.YtnpiocbgbpnlmaaStrs
import Derived.Test.YtnpiocbgbpnlmaaFrame
import Derived.Test.YtnpiocbgbpnlmaaElems
import Derived.Test.YtnpiocbgbpnlmaaA1
import Derived.Test.YtnpiocbgbpnlmaaA4
import Derived.Test.YtnpiocbgbpnlmaaA5
import Derived.Test.YtnpiocbgbpnlmaaA8
import Derived.Test.YtnpiocbgbpnlmaaA9
import Derived.Test.YtnpiocbgbpnlmaaA10
import Derived.Test.YtnpiocbgbpnlmaaA11
import Derived.Test.YtnpiocbgbpnlmaaA12
import Derived.Test.YtnpiocbgbpnlmaaP1
import Derived.Lib.SlBytesConst
import Derived.IntWalk
import Derived.Test.YtnpiocbgbpnlmaaL3
import Derived.Test.YtnpiocbgbpnlmaaL4
import Derived.Test.YtnpiocbgbpnlmaaL5
import Derived.Test.YtnpiocbgbpnlmaaL6
import Derived.Test.YtnpiocbgbpnlmaaL7
namespace Go.Proofs.Ytnpiocbgbpnlmaa
open Go Go.Lib Go.RowKit Go.Proofs.Tail
set_option linter.unusedSimpArgs false
set_option linter.unusedVariables false
/-- A row of things of one's own, not in block C. -/
structure Kt (w : World) (base C : Nat) (v : Value) (L : Nat) : Prop where
  ex : ∃ ts cs, ts.length = L ∧ Cells 3 VThc cs ts ∧ w.ownsRow base 42 3 v L cs
  ne : ∀ b, v.ownBlock = some b → b ≠ C
theorem Kt.nil (w : World) (base C : Nat) : Kt w base C (.slice none 0 0) 0 := ⟨⟨[], [], rfl, Cells.nil _ _, World.ownsRow_nil _ _ _ _⟩, fun b h => by simp [Value.ownBlock] at h⟩
theorem Kt.below {w w' : World} {base C : Nat} {v : Value} {L : Nat} (h : Kt w base C v L) (hb : Below w.heap.size w w') : Kt w' base C v L := by
  obtain ⟨⟨ts, cs, h1, h2, h3⟩, h4⟩ := h
  exact ⟨⟨ts, cs, h1, h2, own_below h3 hb⟩, h4⟩
theorem Kt.new {w w' : World} {base C : Nat} {v : Value} {L : Nat} (h : Kt w base C v L) (hb : Below w.heap.size w w') : Kt w' base w.heap.size v L := by
  obtain ⟨⟨ts, cs, h1, h2, h3⟩, h4⟩ := h
  exact ⟨⟨ts, cs, h1, h2, own_below h3 hb⟩, fun b hb => by have := h3.lt b hb; omega⟩
theorem Rd.take {α : Type} {k : Nat} {R : World → Nat → Nat → α → Prop} {w : World} {A : Option Addr} {n c : Nat} {xs : List α} (h : Rd k R w A n c xs) {m : Nat} (hm : m ≤ n) : Rd k R w A m c (xs.take m) :=
  ⟨by rw [List.length_take, h.len]; omega, Nat.le_trans hm h.cap, Nat.le_trans hm h.big, fun hp => by
    obtain ⟨b, off, rfl, hc⟩ := h.at_ (by omega)
    refine ⟨b, off, rfl, fun j x hj => hc j x ?_⟩
    rw [List.getElem?_take] at hj
    split at hj
    · exact hj
    · cases hj⟩
def NS : List Value := [.int .u64 0, .int .u64 1, .int .u64 127, .int .u64 128, .int .u64 255, .int .u64 256, .int .u64 32768, .int .u64 65535, .int .u64 65536, .int .u64 2147483648, .int .u64 4294967295, .int .u64 4294967296, .int .u64 9223372036854775808, .int .u64 18446744073709551615]
def SS : List Value := [.int .i8 1, .int .i8 2, .int .i8 4, .int .i8 8, .int .i8 0, .int .i8 3, .int .i8 (-1)]
theorem nums_at {w : World} {B k : Nat} (D : Blk w B NS 40) (hk : k < 14) : ∃ x : Int, 0 ≤ x ∧ x < 18446744073709551616 ∧ w.cell? ⟨B, k, none⟩ = some (.int .u64 x) := by
  rw [D.cell]
  have : k = 0 ∨ k = 1 ∨ k = 2 ∨ k = 3 ∨ k = 4 ∨ k = 5 ∨ k = 6 ∨ k = 7 ∨ k = 8 ∨ k = 9 ∨ k = 10 ∨ k = 11 ∨ k = 12 ∨ k = 13 := by omega
  rcases this with rfl | rfl | rfl | rfl | rfl | rfl | rfl | rfl | rfl | rfl | rfl | rfl | rfl | rfl
  all_goals exact ⟨_, by decide, by decide, rfl⟩
theorem sizes_at {w : World} {B k : Nat} (D : Blk w B SS 39) (hk : k < 7) : ∃ x : Int, -128 ≤ x ∧ x ≤ 127 ∧ w.cell? ⟨B, k, none⟩ = some (.int .i8 x) := by
  rw [D.cell]
  have : k = 0 ∨ k = 1 ∨ k = 2 ∨ k = 3 ∨ k = 4 ∨ k = 5 ∨ k = 6 := by omega
  rcases this with rfl | rfl | rfl | rfl | rfl | rfl | rfl
  all_goals exact ⟨_, by decide, by decide, rfl⟩
theorem byts_new (w : World) (cs : List Value) (xs : List Int) (f : Nat × Nat) (h : cs = byV xs) (hb : xs.length ≤ 100) : Byts (w.alloc (.cells cs.toArray 5 f)) (some ⟨w.heap.size, 0, none⟩) xs.length xs.length xs := by
  subst h
  refine ⟨rfl, Nat.le_refl _, by omega, fun _ => ⟨w.heap.size, 0, rfl, fun j x hj => ?_⟩⟩
  have hh := heap_alloc_new w (.cells (byV xs).toArray 5 f)
  unfold RByte World.cell?
  dsimp only
  rw [hh, Nat.zero_add, Nat.mul_one]
  simp [byV, hj]
theorem asks_new (w : World) (x : Int) (h0 : -40 ≤ x) (h1 : x < 200) : Rd 1 RI16 (w.alloc (.cells #[.int .i16 1, .int .i16 2, .int .i16 x, .int .i16 4, .int .i16 8, .int .i16 (x * 2), .int .i16 0, .int .i16 1] 38)) (some ⟨w.heap.size, 0, none⟩) 8 8 [1, 2, x, 4, 8, x * 2, 0, 1] :=
  ⟨rfl, by omega, by omega, fun _ => ⟨w.heap.size, 0, rfl, fun j y hj => by
    have D := Blk.new w [.int .i16 1, .int .i16 2, .int .i16 x, .int .i16 4, .int .i16 8, .int .i16 (x * 2), .int .i16 0, .int .i16 1] 38 _ rfl
    unfold RI16
    rw [D.cell]
    match j, hj with
    | 0, hj => injection hj with hj; rw [← hj]; exact ⟨rfl, by omega, by omega⟩
    | 1, hj => injection hj with hj; rw [← hj]; exact ⟨rfl, by omega, by omega⟩
    | 2, hj => injection hj with hj; rw [← hj]; exact ⟨rfl, by omega, by omega⟩
    | 3, hj => injection hj with hj; rw [← hj]; exact ⟨rfl, by omega, by omega⟩
    | 4, hj => injection hj with hj; rw [← hj]; exact ⟨rfl, by omega, by omega⟩
    | 5, hj => injection hj with hj; rw [← hj]; exact ⟨rfl, by omega, by omega⟩
    | 6, hj => injection hj with hj; rw [← hj]; exact ⟨rfl, by omega, by omega⟩
    | 7, hj => injection hj with hj; rw [← hj]; exact ⟨rfl, by omega, by omega⟩
    | j + 8, hj => simp at hj⟩⟩
set_option maxRecDepth 100000 in
set_option maxHeartbeats 32000000 in
theorem law_known (w : World) : Calls Try.prog 8 #[] w (Gives (.bool true) w) := by
  have kc := fun (w : World) (C : Array Value) (n c : Nat) => Lib.run_convert_bytes_const (P := Try.prog) w 23 5 C n c Try.underlying23 Try.underlying5
  go_enter Try.func8, Try.ntmps8
  go_wp2_with fail
  have D0 := Lib.hid (Blk.new w NS 40 _ rfl)
  have HB := Lib.hid (below_new w (.cells NS.toArray 40))
  have K0 := Lib.hid (show ∃ L, L ≤ 40 ∧ Kt (w.alloc (.cells NS.toArray 40)) (w.heap.size + 1) w.heap.size (.slice none 0 0) L from ⟨0, by omega, Kt.nil _ _ _⟩)
  go_loopw [1, 11] (fun v i wr => ∃ k : Nat, k ≤ 14 ∧ i = .int .i64 k ∧ Hid (∃ L, L ≤ 40 ∧ Kt wr (w.heap.size + 1) w.heap.size v L) ∧ Hid (Blk wr w.heap.size NS 40) ∧ Hid (Below w.heap.size w wr)) (fun _ i _ => 14 - (intOf i).toNat)
  case atStart => exact ⟨0, by omega, rfl, K0, D0, HB⟩
  case round =>
    clear K0 D0 HB
    obtain ⟨k, hk, rfl, KX, D1, HB⟩ := hrel
    by_cases h14 : k < 14
    · obtain ⟨x, x0, x1, hc⟩ := nums_at D1.out h14
      have HX := Lib.hid x1
      have hd14 : decide ((k : Int) < 14) = true := decide_eq_true (by omega)
      obtain ⟨L, hL, KL⟩ := KX.out
      have KL := Lib.hid KL
      clear x1 KX
      go_wp2_with fail
      have D2 := Lib.hid (Blk.new wr SS 39 _ rfl)
      have D1' := Lib.hid (D1.out.then (below_new wr (.cells SS.toArray 39)))
      have K0 := Lib.hid (KL.out.new (below_new wr (.cells SS.toArray 39)))
      have HB1 := Lib.hid (below_then HB.out (below_new wr (.cells SS.toArray 39)))
      clear hc KL D1 HB
      obtain ⟨wq, hq⟩ : ∃ q, q = wr := ⟨_, rfl⟩
      subst hq
      go_loopw [1, 17] (fun v i wx => ∃ j : Nat, j ≤ 7 ∧ i = .int .i64 j ∧ Hid (Kt wx (w.heap.size + 1) wq.heap.size v (L + j)) ∧ Hid (Blk wx w.heap.size NS 40) ∧ Hid (Blk wx wq.heap.size SS 39) ∧ Hid (Below w.heap.size w wx)) (fun _ i _ => 7 - (intOf i).toNat)
      case atStart => exact ⟨0, by omega, rfl, K0, D1', D2, HB1⟩
      case round =>
        clear K0 D1' D2 HB1
        obtain ⟨j, hj, rfl, KX, D1, D2, HB⟩ := hrel
        by_cases h7 : j < 7
        · obtain ⟨s, s0, s1, hc⟩ := sizes_at D2.out h7
          have m0 : 0 ≤ x % 4 := by omega
          have m1 : x % 4 ≤ 3 := by omega
          have hwl := D2.out.lt
          have hw0 := D1.out.lt
          obtain ⟨⟨ts, cs, hl, hcs, ho⟩, hne⟩ := KX.out
          have HL := Lib.hid hl
          have HCS := Lib.hid hcs
          have HO := Lib.hid ho
          have HNE := Lib.hid hne
          clear KX hl hcs ho hne
          go_wp2_with (at_builtin; go_must (refine own_append_one (W := wr) rfl (.tmp 21) (.tmp 29) 22 42 (.agg #[.int .i8 0, .int .u64 0, .string ⟨#[]⟩]) 3 32 rfl Try.underlying22 infoTh rfl (by omega) (by omega) (w.heap.size + 1) u1 (L + j) cs 1 _ rfl rfl HO.out rfl (by simp [Value.oneCell']) (by omega) (by omega) ?_); intro v1 w2 hown hgr hat)
          have hb8 : (ByteArray.extract ⟨#[97, 98, 0]⟩ 0 (x % 4).toNat).size ≤ 140737488351232 := by
            rw [ByteArray.size_extract]
            have : (⟨#[97, 98, 0]⟩ : ByteArray).size = 3 := rfl
            omega
          have hx1 := HX.out
          have hok : Th.ok ⟨s, x, ByteArray.extract ⟨#[97, 98, 0]⟩ 0 (x % 4).toNat⟩ := ⟨s0, s1, by dsimp only; omega, hx1, hb8⟩
          have K3 : Hid (Kt w2 (w.heap.size + 1) wq.heap.size v1 (L + (j + 1))) := Lib.hid ⟨⟨ts ++ [⟨s, x, ByteArray.extract ⟨#[97, 98, 0]⟩ 0 (x % 4).toNat⟩], _, by rw [List.length_append, HL.out]; rfl, HCS.out.snoc (x := ⟨s, x, ByteArray.extract ⟨#[97, 98, 0]⟩ 0 (x % 4).toNat⟩) ⟨rfl, hok⟩ rfl, hown⟩, fun b hb => by
            rcases hat with e | ⟨b', e, hl⟩
            · exact HNE.out b (e ▸ hb)
            · rw [hb] at e; injection e with e; omega⟩
          have hgx : ∀ b, u1.ownBlock = some b → w.heap.size < b := fun b hb => by have := own_lt HO.out b hb; omega
          have HB3 := Lib.hid (below_grown HB.out hgr (fun b hb => by have := hgx b hb; omega))
          have D3 := Lib.hid (D1.out.grown hgr (fun e => by have := hgx _ e; omega))
          have D4 := Lib.hid (D2.out.grown hgr (fun e => HNE.out _ e rfl))
          clear hown hgr hat HO HCS HL HNE HB D1 D2 hgx hok hb8 hx1 hwl hw0 hc
          go_roundw
          case rel => exact ⟨j + 1, by omega, by go_num, K3, D3, D4, HB3⟩
          case measure => simp [intOf]; omega
        · have hj7 : j = 7 := by omega
          subst hj7
          clear D2
          have h77 : decide ((7 : Int) < 7) = false := by decide
          obtain ⟨⟨ts, cs, hl, hcs, ho⟩, hne⟩ := KX.out
          obtain ⟨A, c, ev, hR⟩ := ths_own ho hl (by omega) hcs
          subst ev
          by_cases h40 : 40 < L + 7
          · have hd : decide ((40 : Int) < (L : Int) + 7) = true := decide_eq_true (by omega)
            have h7c : 7 ≤ c := by have := hR.cap; omega
            have HR := Lib.hid hR
            obtain ⟨g, cap, eg, _⟩ := own_form ho (by omega)
            injection eg with eg1 eg2 eg3
            subst eg1 eg3
            have R1 := Lib.hid (hR.below RTh.stays (below_new wr (.cells #[.int .u8 114, .int .u8 97, .int .u8 119] 5 (3, 4))))
            have C1 := Lib.hid (law_written _ _ (L + 7) c 3 3 ts [114, 97, 119] _ R1.out (byts_new wr _ [114, 97, 119] (3, 4) rfl (by decide)))
            have HB1 := Lib.hid (below_then HB.out (below_new wr (.cells #[.int .u8 114, .int .u8 97, .int .u8 119] 5 (3, 4))))
            clear KX ho hcs hl hne hR HB h40
            go_wp2_with fail
            (with_reducible refine C1.out.mono ?_)
            rintro e w1 ⟨rfl, hb⟩
            have R2 := Lib.hid (R1.out.below RTh.stays hb)
            have HB2 := Lib.hid (below_then HB1.out hb)
            have D2 := Lib.hid ((D1.out.then (below_new wr _)).then hb)
            clear hb C1 R1 HB1 D1
            have C1 := Lib.hid (law_both _ _ (L + 7) c 7 c ts (ts.take 7) w1 R2.out (Rd.take R2.out (by omega)))
            go_wp2_with fail
            (with_reducible refine C1.out.mono ?_)
            rintro e w2 ⟨rfl, hb⟩
            have R3 := Lib.hid ((R2.out.below RTh.stays hb).below RTh.stays (below_new w2 (.cells #[.int .u8 255] 5)))
            have HB3 := Lib.hid (below_then (below_then HB2.out hb) (below_new w2 (.cells #[.int .u8 255] 5)))
            have D3 := Lib.hid ((D2.out.then hb).then (below_new w2 (.cells #[.int .u8 255] 5)))
            clear hb C1 R2 HB2 D2
            have C1 := Lib.hid (law_unread _ _ _ (L + 7) c 0 0 1 1 ts [] [255] _ R3.out (Rd.nil _ _ _) (byts_new w2 _ [255] (0, 0) rfl (by decide)) (by unfold InB; decide) (by unfold InB; decide))
            go_wp2_with fail
            (with_reducible refine C1.out.mono ?_)
            rintro e w3 ⟨rfl, hb⟩
            have R4 := Lib.hid ((R3.out.below RTh.stays hb).below RTh.stays (below_new w3 (.cells #[.int .u8 97, .int .u8 98, .int .u8 99] 5 (3, 4))))
            have HB4 := Lib.hid (below_then (below_then HB3.out hb) (below_new w3 (.cells #[.int .u8 97, .int .u8 98, .int .u8 99] 5 (3, 4))))
            have D4 := Lib.hid ((D3.out.then hb).then (below_new w3 (.cells #[.int .u8 97, .int .u8 98, .int .u8 99] 5 (3, 4))))
            clear hb C1 R3 HB3 D3
            have C1 := Lib.hid (law_spoilt _ _ (L + 7) c 3 3 ts [97, 98, 99] _ R4.out (byts_new w3 _ [97, 98, 99] (3, 4) rfl (by decide)) (by unfold InB; decide))
            go_wp2_with fail
            (with_reducible refine C1.out.mono ?_)
            rintro e w4 ⟨rfl, hb⟩
            have HB5 := Lib.hid (below_then HB4.out hb)
            have D5 := Lib.hid (D4.out.then hb)
            have K5 := Lib.hid (show ∃ L, L ≤ 40 ∧ Kt w4 (w.heap.size + 1) w.heap.size (.slice none 0 0) L from ⟨0, by omega, Kt.nil _ _ _⟩)
            clear hb C1 R4 HB4 D4
            go_wp2_with fail
            go_roundw
            case rel => exact ⟨k + 1, by omega, by go_num, K5, D5, HB5⟩
            case measure => simp [intOf]; omega
          · have hd : decide ((40 : Int) < (L : Int) + 7) = false := decide_eq_false (by omega)
            have K3 := Lib.hid (show ∃ L', L' ≤ 40 ∧ Kt wr (w.heap.size + 1) w.heap.size (.slice A (L + 7) c) L' from ⟨L + 7, by omega, ⟨⟨ts, cs, hl, hcs, ho⟩, fun b hb => by have := own_lt ho b hb; omega⟩⟩)
            clear KX ho hcs hl hne hR
            go_wp2_with fail
            go_roundw
            case rel => exact ⟨k + 1, by omega, by go_num, K3, D1, HB⟩
            case measure => simp [intOf]; omega
    · clear KX D1
      go_wp2_with fail
      have HB0 := HB
      go_loopw [6] (fun i wx => ∃ x : Int, -40 ≤ x ∧ x ≤ 202 ∧ i = .int .i16 x ∧ Hid (Below w.heap.size w wx)) (fun i _ => (202 - intOf i).toNat)
      case atStart => exact ⟨-40, by omega, by omega, rfl, HB0⟩
      case round =>
        clear HB0 HB
        obtain ⟨x, x0, x1, rfl, HB⟩ := hrel
        by_cases h200 : x < 200
        · have hz1 : IntKind.i16.wrap (x * 2) = x * 2 := IntWalk.i16_in _ ⟨by omega, by omega⟩
          have hz2 : IntKind.i16.wrap (x + 3) = x + 3 := IntWalk.i16_in _ ⟨by omega, by omega⟩
          have HB1 := Lib.hid (below_then HB.out (below_new wr (.cells (byV [48, 49, 50, 51, 52, 53, 54, 55, 56, 57, 97, 98, 99, 100, 101, 102, 103, 104, 105, 106]).toArray 5 (20, 21))))
          have R1 := Lib.hid (byts_new wr _ [48, 49, 50, 51, 52, 53, 54, 55, 56, 57, 97, 98, 99, 100, 101, 102, 103, 104, 105, 106] (20, 21) rfl (by decide))
          generalize hw1 : wr.alloc (.cells (byV [48, 49, 50, 51, 52, 53, 54, 55, 56, 57, 97, 98, 99, 100, 101, 102, 103, 104, 105, 106]).toArray 5 (20, 21)) = w1 at *
          have HB2 := Lib.hid (below_then HB1.out (below_new w1 (.cells #[.int .i16 1, .int .i16 2, .int .i16 x, .int .i16 4, .int .i16 8, .int .i16 (x * 2), .int .i16 0, .int .i16 1] 38)))
          have C1 := Lib.hid (law_read _ _ _ _ _ _ _ _ _ (R1.out.below RByte.stays (below_new w1 (.cells #[.int .i16 1, .int .i16 2, .int .i16 x, .int .i16 4, .int .i16 8, .int .i16 (x * 2), .int .i16 0, .int .i16 1] 38))) (by unfold InB; decide) (asks_new w1 x x0 h200))
          subst hw1
          rw [World.size_alloc] at C1
          have C1 : Hid (Calls Try.prog 4 #[.slice (some ⟨wr.heap.size, 0, none⟩) 20 20, .slice (some ⟨wr.heap.size + 1, 0, none⟩) 8 8] ((wr.alloc (.cells #[.int .u8 48, .int .u8 49, .int .u8 50, .int .u8 51, .int .u8 52, .int .u8 53, .int .u8 54, .int .u8 55, .int .u8 56, .int .u8 57, .int .u8 97, .int .u8 98, .int .u8 99, .int .u8 100, .int .u8 101, .int .u8 102, .int .u8 103, .int .u8 104, .int .u8 105, .int .u8 106] 5 (20, 21))).alloc (.cells #[.int .i16 1, .int .i16 2, .int .i16 x, .int .i16 4, .int .i16 8, .int .i16 (x * 2), .int .i16 0, .int .i16 1] 38)) (Gives (.bool true) ((wr.alloc (.cells #[.int .u8 48, .int .u8 49, .int .u8 50, .int .u8 51, .int .u8 52, .int .u8 53, .int .u8 54, .int .u8 55, .int .u8 56, .int .u8 57, .int .u8 97, .int .u8 98, .int .u8 99, .int .u8 100, .int .u8 101, .int .u8 102, .int .u8 103, .int .u8 104, .int .u8 105, .int .u8 106] 5 (20, 21))).alloc (.cells #[.int .i16 1, .int .i16 2, .int .i16 x, .int .i16 4, .int .i16 8, .int .i16 (x * 2), .int .i16 0, .int .i16 1] 38)))) := C1
          have HB2 : Hid (Below w.heap.size w ((wr.alloc (.cells #[.int .u8 48, .int .u8 49, .int .u8 50, .int .u8 51, .int .u8 52, .int .u8 53, .int .u8 54, .int .u8 55, .int .u8 56, .int .u8 57, .int .u8 97, .int .u8 98, .int .u8 99, .int .u8 100, .int .u8 101, .int .u8 102, .int .u8 103, .int .u8 104, .int .u8 105, .int .u8 106] 5 (20, 21))).alloc (.cells #[.int .i16 1, .int .i16 2, .int .i16 x, .int .i16 4, .int .i16 8, .int .i16 (x * 2), .int .i16 0, .int .i16 1] 38))) := HB2
          clear HB
          go_wp2_with fail
          (with_reducible refine C1.out.mono ?_)
          rintro e w4 ⟨rfl, hb⟩
          have HB5 := Lib.hid (below_then HB2.out hb)
          clear hb C1 HB2 HB1 R1
          go_wp2_with fail
          go_roundw
          case rel => exact ⟨x + 3, by omega, by omega, rfl, HB5⟩
          case measure => simp [intOf]; omega
        · clear kc
          go_wp2_with fail
          refine (word_nil _).mono ?_
          rintro e w1 ⟨rfl, hb⟩
          have HB1 := Lib.hid (below_then HB.out hb)
          clear hb HB
          go_wp2_with fail
          refine (wraw_nil _ _ _ _).mono ?_
          rintro e w2 ⟨rfl, rfl⟩
          have HB2 := Lib.hid (below_then HB1.out (below_new w1 (.cells #[.int .u8 1] 5)))
          generalize w1.alloc (.cells #[.int .u8 1] 5) = w2 at *
          clear HB1
          go_wp2_with fail
          refine (out_nil _).mono ?_
          rintro e w3 ⟨rfl, rfl⟩
          go_wp2_with fail
          refine (bad_nil _).mono ?_
          rintro e w3 ⟨rfl, rfl⟩
          go_wp2_with fail
          refine (left_nil _).mono ?_
          rintro e w3 ⟨rfl, rfl⟩
          go_wp2_with fail
          refine (rlong_nil _).mono ?_
          rintro e w3 ⟨rfl, hb⟩
          have HB3 := Lib.hid (below_then HB2.out hb)
          clear hb HB2
          go_wp2_with fail
          refine (rraw_nil _ _).mono ?_
          rintro e w4 ⟨v, rfl, ho, hb⟩
          obtain ⟨A4, c4, rfl, _⟩ := own_byts ho (by simp)
          have HB4 := Lib.hid (below_then HB3.out hb)
          clear hb HB3 ho
          go_wp2_with fail
          refine (law_both none none 0 0 0 0 [] [] w4 (Rd.nil _ _ _) (Rd.nil _ _ _)).mono ?_
          rintro e w5 ⟨rfl, hb⟩
          have HB5 := Lib.hid (below_then HB4.out hb)
          clear hb HB4
          go_wp2_with fail
          refine (works_any _).mono ?_
          rintro e w6 ⟨rfl, hb⟩
          have HB6 := Lib.hid (below_then HB5.out hb)
          clear hb HB5
          go_wp2_with fail
          go_ret
          exact .bool rfl HB6.out
end Go.Proofs.Ytnpiocbgbpnlmaa
