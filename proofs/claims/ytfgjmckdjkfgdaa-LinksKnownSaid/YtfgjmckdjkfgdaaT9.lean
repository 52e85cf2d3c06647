/- The walk of LinksKnown. -/
import Derived.Test.YtfgjmckdjkfgdaaRows
import Derived.IntWalk
import Derived.Lib.SlBytesConst
import Derived.Test.YtfgjmckdjkfgdaaWords
import Derived.Test.YtfgjmckdjkfgdaaByts
import Derived.Test.YtfgjmckdjkfgdaaStrs
import Derived.Test.YtfgjmckdjkfgdaaFrame
import Derived.Test.YtfgjmckdjkfgdaaElems
import Derived.Test.YtfgjmckdjkfgdaaHeads
import Derived.Test.YtfgjmckdjkfgdaaN1
import Derived.Test.YtfgjmckdjkfgdaaN10
import Derived.Test.YtfgjmckdjkfgdaaN11
import Derived.Test.YtfgjmckdjkfgdaaN12
import Derived.Test.YtfgjmckdjkfgdaaN13
import Derived.Test.YtfgjmckdjkfgdaaN14
import Derived.Test.YtfgjmckdjkfgdaaN15
import Derived.Test.YtfgjmckdjkfgdaaT1
import Derived.Test.YtfgjmckdjkfgdaaT5
import Derived.Test.YtfgjmckdjkfgdaaT6
import Derived.Test.YtfgjmckdjkfgdaaT7
import Derived.Test.YtfgjmckdjkfgdaaT8
import Derived.Test.YtfgjmckdjkfgdaaO2
namespace Go.Proofs.Ytfgjmckdjkfgdaa
open Go Go.RowKit Go.Proofs.Tail
set_option linter.unusedSimpArgs false
set_option linter.unusedVariables false
def knownL : List CallS := [⟨0, 0, 1, [97]⟩, ⟨0, 1, 0, [98]⟩, ⟨0, 1, 1, [99]⟩, ⟨0, 0, 2, []⟩, ⟨0, (-1), 0, []⟩, ⟨4, 0, 1, []⟩, ⟨4, 0, 1, []⟩, ⟨4, 2, 0, []⟩, ⟨4, 0, (-1), []⟩, ⟨0, 0, 1, [100]⟩, ⟨7, 5, 0, []⟩, ⟨7, (-1), 0, []⟩, ⟨7, 0, 0, []⟩, ⟨4, 1, 1, []⟩]
def knownC (a b c d : Nat) : List Value := [.int .u8 0, .int .i64 0, .int .i64 1, .slice (some ⟨a, 0, none⟩) 1 1, .int .u8 0, .int .i64 1, .int .i64 0, .slice (some ⟨b, 0, none⟩) 1 1, .int .u8 0, .int .i64 1, .int .i64 1, .slice (some ⟨c, 0, none⟩) 1 1, .int .u8 0, .int .i64 0, .int .i64 2, .slice none 0 0, .int .u8 0, .int .i64 (-1), .int .i64 0, .slice none 0 0, .int .u8 4, .int .i64 0, .int .i64 1, .slice none 0 0, .int .u8 4, .int .i64 0, .int .i64 1, .slice none 0 0, .int .u8 4, .int .i64 2, .int .i64 0, .slice none 0 0, .int .u8 4, .int .i64 0, .int .i64 (-1), .slice none 0 0, .int .u8 0, .int .i64 0, .int .i64 1, .slice (some ⟨d, 0, none⟩) 1 1, .int .u8 7, .int .i64 5, .int .i64 0, .slice none 0 0, .int .u8 7, .int .i64 (-1), .int .i64 0, .slice none 0 0, .int .u8 7, .int .i64 0, .int .i64 0, .slice none 0 0, .int .u8 4, .int .i64 1, .int .i64 1, .slice none 0 0]
set_option maxRecDepth 100000 in
theorem known_calls {w : World} {B a b c d : Nat} (hb : Blk w B (knownC a b c d) 32) (ha : Byts w (some ⟨a, 0, none⟩) 1 1 [97]) (hb' : Byts w (some ⟨b, 0, none⟩) 1 1 [98]) (hc : Byts w (some ⟨c, 0, none⟩) 1 1 [99]) (hd : Byts w (some ⟨d, 0, none⟩) 1 1 [100]) :
    Cls w (some ⟨B, 0, none⟩) 14 14 knownL :=
  ⟨rfl, by omega, by omega, fun _ => ⟨B, 0, rfl, fun j x hj => by
    match j, hj with
    | 0, hj => cases hj; exact ⟨⟨by decide, by decide⟩, hb.cell 0, hb.cell 1, hb.cell 2, _, 1, hb.cell 3, ha⟩
    | 1, hj => cases hj; exact ⟨⟨by decide, by decide⟩, hb.cell 4, hb.cell 5, hb.cell 6, _, 1, hb.cell 7, hb'⟩
    | 2, hj => cases hj; exact ⟨⟨by decide, by decide⟩, hb.cell 8, hb.cell 9, hb.cell 10, _, 1, hb.cell 11, hc⟩
    | 3, hj => cases hj; exact ⟨⟨by decide, by decide⟩, hb.cell 12, hb.cell 13, hb.cell 14, none, 0, hb.cell 15, Rd.nil _ _ _⟩
    | 4, hj => cases hj; exact ⟨⟨by decide, by decide⟩, hb.cell 16, hb.cell 17, hb.cell 18, none, 0, hb.cell 19, Rd.nil _ _ _⟩
    | 5, hj => cases hj; exact ⟨⟨by decide, by decide⟩, hb.cell 20, hb.cell 21, hb.cell 22, none, 0, hb.cell 23, Rd.nil _ _ _⟩
    | 6, hj => cases hj; exact ⟨⟨by decide, by decide⟩, hb.cell 24, hb.cell 25, hb.cell 26, none, 0, hb.cell 27, Rd.nil _ _ _⟩
    | 7, hj => cases hj; exact ⟨⟨by decide, by decide⟩, hb.cell 28, hb.cell 29, hb.cell 30, none, 0, hb.cell 31, Rd.nil _ _ _⟩
    | 8, hj => cases hj; exact ⟨⟨by decide, by decide⟩, hb.cell 32, hb.cell 33, hb.cell 34, none, 0, hb.cell 35, Rd.nil _ _ _⟩
    | 9, hj => cases hj; exact ⟨⟨by decide, by decide⟩, hb.cell 36, hb.cell 37, hb.cell 38, _, 1, hb.cell 39, hd⟩
    | 10, hj => cases hj; exact ⟨⟨by decide, by decide⟩, hb.cell 40, hb.cell 41, hb.cell 42, none, 0, hb.cell 43, Rd.nil _ _ _⟩
    | 11, hj => cases hj; exact ⟨⟨by decide, by decide⟩, hb.cell 44, hb.cell 45, hb.cell 46, none, 0, hb.cell 47, Rd.nil _ _ _⟩
    | 12, hj => cases hj; exact ⟨⟨by decide, by decide⟩, hb.cell 48, hb.cell 49, hb.cell 50, none, 0, hb.cell 51, Rd.nil _ _ _⟩
    | 13, hj => cases hj; exact ⟨⟨by decide, by decide⟩, hb.cell 52, hb.cell 53, hb.cell 54, none, 0, hb.cell 55, Rd.nil _ _ _⟩
    | j + 14, hj => simp [knownL] at hj⟩⟩
theorem one_in {N : NetS} (hE : N.E = 1) : inN N 0 0 := ⟨by omega, by omega, by omega, by omega⟩
theorem one_len {N : NetS} (hE : N.E = 1) : lenN N 0 0 = (N.q 0).length := by unfold lenN; rw [if_pos (one_in hE)]; rfl
theorem one_code {N : NetS} (hE : N.E = 1) (n : Nat) (hn : n ≤ 1048576) : sendE N 0 0 n = if 4096 ≤ (N.q 0).length then 31 else 0 := by
  unfold sendE
  rw [if_neg (not_not_intro (one_in hE)), if_neg (by omega)]
  rfl
theorem one_send {N : NetS} (hE : N.E = 1) (xs : List Int) (hn : xs.length ≤ 1048576) (hl : (N.q 0).length < 4096) : (sendN N 0 0 xs).E = 1 ∧ ((sendN N 0 0 xs).q 0).length = (N.q 0).length + 1 ∧ (sendN N 0 0 xs).s = wrap64 (N.s + 1) := by
  have h0 : sendE N 0 0 xs.length = 0 := by rw [one_code hE _ hn, if_neg (by omega)]
  unfold sendN
  rw [h0, if_pos rfl]
  refine ⟨hE, ?_, rfl⟩
  show (upd N.q (ix 0 0) (N.q (ix 0 0) ++ [xs]) 0).length = _
  simp [upd, ix]
set_option maxRecDepth 100000 in
set_option maxHeartbeats 32000000 in
theorem law_known (w : World) : Calls Try.prog 5 #[] w (Gives (.bool true) w) := by
  have kc := fun (w : World) (C : Array Value) (n c : Nat) => Lib.run_convert_bytes_const (P := Try.prog) w 30 5 C n c Try.underlying30 Try.underlying5
  have M1 := Lib.hid (nil_take w)
  have M2 := Lib.hid (nil_first w)
  have M3 := Lib.hid (nil_clear w)
  have M4 := Lib.hid (nil_send w)
  have M5 := Lib.hid (ends_nil w)
  have M6 := Lib.hid (nil_len w)
  have M7 := Lib.hid (links_nil w)
  go_enter Try.func5, Try.ntmps5
  go_wp2_with (first
    | (go_at_call 12; (with_reducible refine M1.out.mono ?_); rintro e wz ⟨rfl, rfl⟩)
    | (go_at_call 18; (with_reducible refine M2.out.mono ?_); rintro e wz ⟨rfl, rfl⟩)
    | (go_at_call 13; (with_reducible refine M3.out.mono ?_); rintro e wz ⟨rfl, rfl⟩)
    | (go_at_call 14; (with_reducible refine M4.out.mono ?_); rintro e wz ⟨rfl, rfl⟩)
    | (go_at_call 19; (with_reducible refine M5.out.mono ?_); rintro e wz ⟨rfl, rfl⟩)
    | (go_at_call 20; (with_reducible refine M6.out.mono ?_); rintro e wz ⟨rfl, rfl⟩))
  refine M7.out.mono ?_
  rintro e w1 ⟨v, rfl, hv, hb1⟩
  obtain ⟨A8, c8, rfl⟩ := (OwnAt.of hv).form
  have HB1 := Lib.hid hb1
  have M8 := Lib.hid (nil_sent w1)
  have M9 := Lib.hid (nil_taken w1)
  have HN := Lib.hid (ns_new 1 hb1)
  clear hv hb1 M1 M2 M3 M4 M5 M6 M7
  go_wp2_with (first
    | (go_at_call 16; (with_reducible refine M8.out.mono ?_); rintro e wz ⟨rfl, rfl⟩)
    | (go_at_call 17; (with_reducible refine M9.out.mono ?_); rintro e wz ⟨rfl, rfl⟩))
  refine HN.out.mono ?_
  rintro e w2 ⟨rfl, hn2, _⟩
  have HN2 := Lib.hid hn2
  clear hn2 HN M8 M9
  generalize (fun b => b = w1.heap.size : Nat → Prop) = E0 at *
  generalize w1.heap.size = P at *
  go_wp2_with (at_make; (refine own_makeB rfl _ _ 30 5 rfl Try.underlying30 infoB w2.heap.size 1048577 .i64 .i64 rfl rfl (by omega) (Nat.le_refl _) ?_); intro w3 ys hys hb3; have HY := Lib.hid hys; have HN3 := Lib.hid (HN2.out.then hb3); clear hys hb3)
  have hyl : ys.length = 1048577 := HY.out.len
  have C1 := Lib.hid (ns_send HN3.out 0 0 HY.out)
  have hcode : sendE ⟨endsN 1, fun _ => [], 0, 0⟩ 0 0 ys.length = 3 := by
    unfold sendE
    rw [if_neg (not_not_intro (one_in rfl)), if_pos (by omega)]
  have hsame : sendN ⟨endsN 1, fun _ => [], 0, 0⟩ 0 0 ys = ⟨endsN 1, fun _ => [], 0, 0⟩ := by
    unfold sendN
    rw [hcode, if_neg (by omega)]
  rw [hcode, hsame] at C1
  have HLO := Lib.hid (show ¬ E0 w2.heap.size from fun h => by have := HN2.out.net.lt _ h; omega)
  have hsl := slice_oneB (g := w2.heap.size) (n := 1048577) (by omega)
  have HYL := Lib.hid hyl
  clear hyl hcode hsame
  go_wp2_with fail
  refine C1.out.mono ?_
  rintro e w4 ⟨rfl, hn4, hf4⟩
  have HN4 := Lib.hid hn4
  have hy4 := byts_drop (byts_fr HY.out hf4 (fun a ha => by cases ha; exact HLO.out)) (m := 1) (c' := 1048577 - 1) (by omega) (Nat.le_refl _)
  have C2 := Lib.hid (ns_send hn4 0 0 hy4)
  have hdl : (ys.drop 1).length = 1048576 := by rw [List.length_drop, HYL.out]
  have hc2 : sendE ⟨endsN 1, fun _ => [], 0, 0⟩ 0 0 (ys.drop 1).length = 0 := by rw [one_code rfl _ (by omega)]; rfl
  rw [hc2] at C2
  obtain ⟨f1, f2, f3⟩ := one_send (N := ⟨endsN 1, fun _ => [], 0, 0⟩) rfl (ys.drop 1) (by omega) (by decide)
  have HF := Lib.hid (And.intro f1 (And.intro (show ((sendN ⟨endsN 1, fun _ => [], 0, 0⟩ 0 0 (ys.drop 1)).q 0).length = 1 from f2) (show (sendN ⟨endsN 1, fun _ => [], 0, 0⟩ 0 0 (ys.drop 1)).s = 1 by rw [f3]; decide +kernel)))
  clear hn4 hf4 hy4 hdl hc2 f1 f2 f3 C1 HN2 HN3 HLO HY HYL
  generalize sendN ⟨endsN 1, fun _ => [], 0, 0⟩ 0 0 (ys.drop 1) = N1 at *
  generalize grewD E0 w3 w4 = E1 at *
  go_wp2_with fail
  refine C2.out.mono ?_
  rintro e w5 ⟨rfl, hn5, _⟩
  have K0 := Lib.hid hn5
  clear hn5 C2 HN4 hsl
  generalize grewD E1 w4 w5 = E2 at *
  go_wp2_with fail
  refine (nnew_any 0 w5).mono ?_
  rintro e v1 ⟨rfl, hk, hbk⟩
  have G1 := Lib.hid (nends_any hk)
  rw [show (⟨endsN 0, fun _ => [], 0, 0⟩ : NetS).E = 1 from by decide] at G1
  have K1 := Lib.hid (K0.out.then hbk)
  clear hk hbk K0
  go_wp2_with fail
  with_reducible refine G1.out.mono ?_
  rintro e wz ⟨rfl, rfl⟩
  clear G1
  go_wp2_with fail
  refine (nnew_any (-5) v1).mono ?_
  rintro e v2 ⟨rfl, hk, hbk⟩
  have G2 := Lib.hid (nends_any hk)
  rw [show (⟨endsN (-5), fun _ => [], 0, 0⟩ : NetS).E = 1 from by decide] at G2
  have K2 := Lib.hid (K1.out.then hbk)
  clear hk hbk K1
  go_wp2_with fail
  with_reducible refine G2.out.mono ?_
  rintro e wz ⟨rfl, rfl⟩
  clear G2
  go_wp2_with fail
  refine (nnew_any 64 v2).mono ?_
  rintro e v3 ⟨rfl, hk, hbk⟩
  have G3 := Lib.hid (nends_any hk)
  rw [show (⟨endsN 64, fun _ => [], 0, 0⟩ : NetS).E = 64 from by decide] at G3
  have K3 := Lib.hid (K2.out.then hbk)
  clear hk hbk K2
  go_wp2_with fail
  with_reducible refine G3.out.mono ?_
  rintro e wz ⟨rfl, rfl⟩
  clear G3
  go_wp2_with fail
  refine (nnew_any 65 v3).mono ?_
  rintro e v4 ⟨rfl, hk, hbk⟩
  have G4 := Lib.hid (nends_any hk)
  rw [show (⟨endsN 65, fun _ => [], 0, 0⟩ : NetS).E = 64 from by decide] at G4
  have K4 := Lib.hid (K3.out.then hbk)
  clear hk hbk K3
  go_wp2_with fail
  with_reducible refine G4.out.mono ?_
  rintro e wz ⟨rfl, rfl⟩
  clear G4
  go_wp2_with fail
  have H0 : Hid (∃ D N, NS w D P N v4 ∧ N.E = 1 ∧ (N.q 0).length = 0 + 1 ∧ N.s = ((0 + 1 : Nat) : Int)) := Lib.hid ⟨_, _, K4.out, HF.out.1, HF.out.2.1, HF.out.2.2⟩
  clear K4 HF
  go_loopw [9, 10] (fun t i wr => ∃ k : Nat, k ≤ 4095 ∧ i = .int .i64 k ∧ t = .bool true ∧ Hid (∃ D N, NS w D P N wr ∧ N.E = 1 ∧ (N.q 0).length = k + 1 ∧ N.s = ((k + 1 : Nat) : Int))) (fun _ i _ => 4095 - (intOf i).toNat)
  case atStart => exact ⟨0, by omega, rfl, rfl, H0⟩
  case round =>
    clear H0
    obtain ⟨k, hk, rfl, rfl, H0⟩ := hrel
    obtain ⟨D, N, hn, he, hl, hs⟩ := H0.out
    by_cases hlt : k < 4095
    · have hd : decide ((k : Int) < 4095) = true := decide_eq_true (by omega)
      have hd' : decide (k < 4095) = true := decide_eq_true hlt
      have C := Lib.hid (ns_send hn 0 0 (Rd.nil 1 RByte wr))
      have hc : sendE N 0 0 ([] : List Int).length = 0 := by rw [one_code he _ (by decide), if_neg (by omega)]
      rw [hc] at C
      obtain ⟨f1, f2, f3⟩ := one_send he [] (by decide) (by omega)
      have HF := Lib.hid (And.intro f1 (And.intro (show ((sendN N 0 0 []).q 0).length = (k + 1) + 1 by rw [f2, hl]) (show (sendN N 0 0 []).s = (((k + 1) + 1 : Nat) : Int) by rw [f3, hs]; exact wrap_small (x := k + 1 + 1) (by omega))))
      clear hn he hl hs hc f1 f2 f3 H0
      go_wp2_with fail
      refine C.out.mono ?_
      rintro e w6 ⟨rfl, hn6, _⟩
      have HN : Hid (∃ D N, NS w D P N w6 ∧ N.E = 1 ∧ (N.q 0).length = (k + 1) + 1 ∧ N.s = (((k + 1) + 1 : Nat) : Int)) := Lib.hid ⟨_, _, hn6, HF.out⟩
      clear hn6 C HF
      go_wp2_with fail
      go_roundw
      case rel => exact ⟨k + 1, by omega, by go_num, rfl, HN⟩
      case measure => simp [intOf]; omega
    · have hd : decide ((k : Int) < 4095) = false := decide_eq_false (by omega)
      have hd' : decide (k < 4095) = false := decide_eq_false hlt
      have hk2 : k = 4095 := by omega
      subst hk2
      have C := Lib.hid (ns_send hn 0 0 (Rd.nil 1 RByte wr))
      have hc : sendE N 0 0 ([] : List Int).length = 31 := by rw [one_code he _ (by decide), if_pos (by omega)]
      have hsame : sendN N 0 0 [] = N := by unfold sendN; rw [hc, if_neg (by omega)]
      rw [hc, hsame] at C
      have HE := Lib.hid (And.intro he (And.intro hl hs))
      clear hn he hl hs hc hsame H0 hlt hd' hk
      go_wp2_with fail
      refine C.out.mono ?_
      rintro e w6 ⟨rfl, hn6, _⟩
      have L1 := Lib.hid (ns_len hn6 0 0)
      rw [one_len HE.out.1, HE.out.2.1] at L1
      have L2 := Lib.hid (ns_sent hn6)
      rw [HE.out.2.2] at L2
      have HB := Lib.hid hn6.b
      have q0 : (convert 30 30 (.slice (some ⟨w6.heap.size, 0, none⟩) 1 1)).run Try.prog (World.alloc w6 (.cells #[.int .u8 97] 5)) = .ok (.slice (some ⟨w6.heap.size, 0, none⟩) 1 1) (World.alloc w6 (.cells #[.int .u8 97] 5 (1, 2))) := by
        have := kc w6 #[.int .u8 97] 1 1
        simpa using this
      have q1 : (convert 30 30 (.slice (some ⟨w6.heap.size + 1, 0, none⟩) 1 1)).run Try.prog (World.alloc (World.alloc w6 (.cells #[.int .u8 97] 5 (1, 2))) (.cells #[.int .u8 98] 5)) = .ok (.slice (some ⟨w6.heap.size + 1, 0, none⟩) 1 1) (World.alloc (World.alloc w6 (.cells #[.int .u8 97] 5 (1, 2))) (.cells #[.int .u8 98] 5 (1, 2))) := by
        have := kc (World.alloc w6 (.cells #[.int .u8 97] 5 (1, 2))) #[.int .u8 98] 1 1
        simpa using this
      have q2 : (convert 30 30 (.slice (some ⟨w6.heap.size + 2, 0, none⟩) 1 1)).run Try.prog (World.alloc (World.alloc (World.alloc w6 (.cells #[.int .u8 97] 5 (1, 2))) (.cells #[.int .u8 98] 5 (1, 2))) (.cells #[.int .u8 99] 5)) = .ok (.slice (some ⟨w6.heap.size + 2, 0, none⟩) 1 1) (World.alloc (World.alloc (World.alloc w6 (.cells #[.int .u8 97] 5 (1, 2))) (.cells #[.int .u8 98] 5 (1, 2))) (.cells #[.int .u8 99] 5 (1, 2))) := by
        have := kc (World.alloc (World.alloc w6 (.cells #[.int .u8 97] 5 (1, 2))) (.cells #[.int .u8 98] 5 (1, 2))) #[.int .u8 99] 1 1
        simpa using this
      have q3 : (convert 30 30 (.slice (some ⟨w6.heap.size + 3, 0, none⟩) 1 1)).run Try.prog (World.alloc (World.alloc (World.alloc (World.alloc w6 (.cells #[.int .u8 97] 5 (1, 2))) (.cells #[.int .u8 98] 5 (1, 2))) (.cells #[.int .u8 99] 5 (1, 2))) (.cells #[.int .u8 100] 5)) = .ok (.slice (some ⟨w6.heap.size + 3, 0, none⟩) 1 1) (World.alloc (World.alloc (World.alloc (World.alloc w6 (.cells #[.int .u8 97] 5 (1, 2))) (.cells #[.int .u8 98] 5 (1, 2))) (.cells #[.int .u8 99] 5 (1, 2))) (.cells #[.int .u8 100] 5 (1, 2))) := by
        have := kc (World.alloc (World.alloc (World.alloc w6 (.cells #[.int .u8 97] 5 (1, 2))) (.cells #[.int .u8 98] 5 (1, 2))) (.cells #[.int .u8 99] 5 (1, 2))) #[.int .u8 100] 1 1
        simpa using this
      have n1 : (World.alloc w6 (.cells #[.int .u8 97] 5 (1, 2))).heap.size = w6.heap.size + 1 := by simp
      have n2 : (World.alloc (World.alloc w6 (.cells #[.int .u8 97] 5 (1, 2))) (.cells #[.int .u8 98] 5 (1, 2))).heap.size = w6.heap.size + 1 + 1 := by simp
      have n3 : (World.alloc (World.alloc (World.alloc w6 (.cells #[.int .u8 97] 5 (1, 2))) (.cells #[.int .u8 98] 5 (1, 2))) (.cells #[.int .u8 99] 5 (1, 2))).heap.size = w6.heap.size + 1 + 1 + 1 := by simp
      have n4 : (World.alloc (World.alloc (World.alloc (World.alloc w6 (.cells #[.int .u8 97] 5 (1, 2))) (.cells #[.int .u8 98] 5 (1, 2))) (.cells #[.int .u8 99] 5 (1, 2))) (.cells #[.int .u8 100] 5 (1, 2))).heap.size = w6.heap.size + 1 + 1 + 1 + 1 := by simp
      have ya := byts_new w6 _ [97] (1, 2) rfl (by decide)
      have yb := byts_new (World.alloc w6 (.cells #[.int .u8 97] 5 (1, 2))) _ [98] (1, 2) rfl (by decide)
      rw [n1] at yb
      have yc := byts_new (World.alloc (World.alloc w6 (.cells #[.int .u8 97] 5 (1, 2))) (.cells #[.int .u8 98] 5 (1, 2))) _ [99] (1, 2) rfl (by decide)
      rw [n2] at yc
      have yd := byts_new (World.alloc (World.alloc (World.alloc w6 (.cells #[.int .u8 97] 5 (1, 2))) (.cells #[.int .u8 98] 5 (1, 2))) (.cells #[.int .u8 99] 5 (1, 2))) _ [100] (1, 2) rfl (by decide)
      rw [n3] at yd
      have hblk : Blk (World.alloc (World.alloc (World.alloc (World.alloc (World.alloc w6 (.cells #[.int .u8 97] 5 (1, 2))) (.cells #[.int .u8 98] 5 (1, 2))) (.cells #[.int .u8 99] 5 (1, 2))) (.cells #[.int .u8 100] 5 (1, 2))) (.cells #[.int .u8 0, .int .i64 0, .int .i64 1, .slice (some ⟨w6.heap.size, 0, none⟩) 1 1, .int .u8 0, .int .i64 1, .int .i64 0, .slice (some ⟨w6.heap.size + 1, 0, none⟩) 1 1, .int .u8 0, .int .i64 1, .int .i64 1, .slice (some ⟨w6.heap.size + 1 + 1, 0, none⟩) 1 1, .int .u8 0, .int .i64 0, .int .i64 2, .slice none 0 0, .int .u8 0, .int .i64 (-1), .int .i64 0, .slice none 0 0, .int .u8 4, .int .i64 0, .int .i64 1, .slice none 0 0, .int .u8 4, .int .i64 0, .int .i64 1, .slice none 0 0, .int .u8 4, .int .i64 2, .int .i64 0, .slice none 0 0, .int .u8 4, .int .i64 0, .int .i64 (-1), .slice none 0 0, .int .u8 0, .int .i64 0, .int .i64 1, .slice (some ⟨w6.heap.size + 1 + 1 + 1, 0, none⟩) 1 1, .int .u8 7, .int .i64 5, .int .i64 0, .slice none 0 0, .int .u8 7, .int .i64 (-1), .int .i64 0, .slice none 0 0, .int .u8 7, .int .i64 0, .int .i64 0, .slice none 0 0, .int .u8 4, .int .i64 1, .int .i64 1, .slice none 0 0] 32)) (w6.heap.size + 1 + 1 + 1 + 1) (knownC (w6.heap.size) (w6.heap.size + 1) (w6.heap.size + 1 + 1) (w6.heap.size + 1 + 1 + 1)) 32 := Blk.new (World.alloc (World.alloc (World.alloc (World.alloc w6 (.cells #[.int .u8 97] 5 (1, 2))) (.cells #[.int .u8 98] 5 (1, 2))) (.cells #[.int .u8 99] 5 (1, 2))) (.cells #[.int .u8 100] 5 (1, 2))) (knownC (w6.heap.size) (w6.heap.size + 1) (w6.heap.size + 1 + 1) (w6.heap.size + 1 + 1 + 1)) _ _ n4
      have hC := known_calls hblk ((((ya.below RByte.stays (below_new _ _)).below RByte.stays (below_new _ _)).below RByte.stays (below_new _ _)).below RByte.stays (below_new _ _)) (((yb.below RByte.stays (below_new _ _)).below RByte.stays (below_new _ _)).below RByte.stays (below_new _ _)) ((yc.below RByte.stays (below_new _ _)).below RByte.stays (below_new _ _)) (yd.below RByte.stays (below_new _ _))
      have HC0 := Lib.hid hC
      have hb1 := HB.out.alloc HB.out.size (.cells #[.int .u8 97] 5 (1, 2))
      have hb2 := hb1.alloc hb1.size (.cells #[.int .u8 98] 5 (1, 2))
      have hb3 := hb2.alloc hb2.size (.cells #[.int .u8 99] 5 (1, 2))
      have hb4 := hb3.alloc hb3.size (.cells #[.int .u8 100] 5 (1, 2))
      have HB0 := Lib.hid (show Below w.heap.size w (World.alloc (World.alloc (World.alloc (World.alloc (World.alloc w6 (.cells #[.int .u8 97] 5 (1, 2))) (.cells #[.int .u8 98] 5 (1, 2))) (.cells #[.int .u8 99] 5 (1, 2))) (.cells #[.int .u8 100] 5 (1, 2))) (.cells #[.int .u8 0, .int .i64 0, .int .i64 1, .slice (some ⟨w6.heap.size, 0, none⟩) 1 1, .int .u8 0, .int .i64 1, .int .i64 0, .slice (some ⟨w6.heap.size + 1, 0, none⟩) 1 1, .int .u8 0, .int .i64 1, .int .i64 1, .slice (some ⟨w6.heap.size + 1 + 1, 0, none⟩) 1 1, .int .u8 0, .int .i64 0, .int .i64 2, .slice none 0 0, .int .u8 0, .int .i64 (-1), .int .i64 0, .slice none 0 0, .int .u8 4, .int .i64 0, .int .i64 1, .slice none 0 0, .int .u8 4, .int .i64 0, .int .i64 1, .slice none 0 0, .int .u8 4, .int .i64 2, .int .i64 0, .slice none 0 0, .int .u8 4, .int .i64 0, .int .i64 (-1), .slice none 0 0, .int .u8 0, .int .i64 0, .int .i64 1, .slice (some ⟨w6.heap.size + 1 + 1 + 1, 0, none⟩) 1 1, .int .u8 7, .int .i64 5, .int .i64 0, .slice none 0 0, .int .u8 7, .int .i64 (-1), .int .i64 0, .slice none 0 0, .int .u8 7, .int .i64 0, .int .i64 0, .slice none 0 0, .int .u8 4, .int .i64 1, .int .i64 1, .slice none 0 0] 32)) from hb4.alloc hb4.size _)
      clear hb1 hb2 hb3 hb4
      have P1 := Lib.hid (law_plays 2 _ _ _ knownL _ hC)
      clear ya yb yc yd hblk hC n1 n2 n3 n4 HB
      clear hn6 C hd
      go_wp2_with (first
        | (go_at_call 16; (with_reducible refine L2.out.mono ?_); rintro e wz ⟨rfl, rfl⟩)
        | (go_at_call 20; (with_reducible refine L1.out.mono ?_); rintro e wz ⟨rfl, rfl⟩))
      clear q0 q1 q2 q3 kc L1 L2
      refine P1.out.mono ?_
      rintro e x1 ⟨rfl, hb⟩
      have HC1 := Lib.hid (HC0.out.below RCall.stays hb)
      have HB1' := Lib.hid (HB0.out.trans (hb.mono HB0.out.size))
      have P2 := Lib.hid (law_plays 1 _ _ _ knownL _ HC1.out)
      clear hb P1 HC0 HB0
      go_wp2_with fail
      refine P2.out.mono ?_
      rintro e x2 ⟨rfl, hb⟩
      have HC2 := Lib.hid (HC1.out.below RCall.stays hb)
      have HB2' := Lib.hid (HB1'.out.trans (hb.mono HB1'.out.size))
      have P3 := Lib.hid (law_plays (-1) _ _ _ knownL _ HC2.out)
      clear hb P2 HC1 HB1'
      go_wp2_with fail
      refine P3.out.mono ?_
      rintro e x3 ⟨rfl, hb⟩
      have HC3 := Lib.hid (HC2.out.below RCall.stays hb)
      have HB3' := Lib.hid (HB2'.out.trans (hb.mono HB2'.out.size))
      have P4 := Lib.hid (law_order _ _ _ knownL _ HC3.out)
      clear hb P3 HC2 HB2'
      go_wp2_with fail
      refine P4.out.mono ?_
      rintro e x4 ⟨rfl, hb⟩
      have HB4' := Lib.hid (HB3'.out.trans (hb.mono HB3'.out.size))
      have P5 := Lib.hid (works_any x4)
      clear hb P4 HC3 HB3'
      go_wp2_with fail
      refine P5.out.mono ?_
      rintro e x5 ⟨rfl, hb⟩
      have HB5' := Lib.hid (HB4'.out.trans (hb.mono HB4'.out.size))
      clear hb P5 HB4'
      go_wp2_with fail
      go_ret
      exact .bool rfl HB5'.out
end Go.Proofs.Ytfgjmckdjkfgdaa
