/- Contract of the reference's Put. -/
import Derived.Test.YtainoghjelfnkaaRows
import Derived.IntWalk
import Derived.Test.YtainoghjelfnkaaWords
import Derived.Test.YtainoghjelfnkaaByts
import Derived.Test.YtainoghjelfnkaaStrs
import Derived.Test.YtainoghjelfnkaaFrame
import Derived.Test.YtainoghjelfnkaaElems
import Derived.Test.YtainoghjelfnkaaV1
import Derived.Test.YtainoghjelfnkaaV2
import Derived.Test.YtainoghjelfnkaaV10
namespace Go.Proofs.Ytainoghjelfnkaa
open Go Go.RowKit Go.Proofs.Tail Go.Sort
set_option linter.unusedSimpArgs false
set_option linter.unusedVariables false
theorem wrap_u (z : Int) : IntKind.u64.wrap z = z % 18446744073709551616 := by unfold IntKind.wrap; simp [IntKind.bits, IntKind.signed]
set_option maxRecDepth 100000 in
set_option maxHeartbeats 16000000 in
theorem refput_any (A : Option Addr) (n c : Nat) (xs : List Rc) (w : World) (hX : Recs w A n c xs) (hlim : n ≤ 1000000) :
    Calls Try.prog 26 #[.slice A n c] w (GivesBytes (putR xs) w) := by
  have HX := Lib.hid hX
  have LX := Lib.hid hX.len
  have hn64 : n ≤ 1000000 := hlim
  clear hX hlim
  have B0 := Lib.hid (Below.refl w.heap.size w)
  have O0 := Lib.hid (show w.ownsRow w.heap.size 5 1 (.slice none 0 0) (putR (xs.take 0)).length (byV (putR (xs.take 0))) from World.ownsRow_nil _ _ _ _)
  go_enter Try.func26, Try.ntmps26
  go_wp2_with fail
  go_loopw [3, 4] (fun v i wr => ∃ k : Nat, k ≤ n ∧ i = .int .i64 k ∧ Hid (wr.ownsRow w.heap.size 5 1 v (putR (xs.take k)).length (byV (putR (xs.take k)))) ∧ Hid (Below w.heap.size w wr)) (fun _ i _ => n - (intOf i).toNat)
  case atStart => exact ⟨0, Nat.zero_le _, rfl, O0, B0⟩
  case round =>
    clear O0 B0
    obtain ⟨k, hk, rfl, HO, HB⟩ := hrel
    by_cases hlt : k < n
    · have hd : decide ((k : Int) < n) = true := decide_eq_true (by omega)
      have hd' : decide (k < n) = true := decide_eq_true (by omega)
      have hkn : (k : Int) < n := by omega
      obtain ⟨x, hx⟩ : ∃ x, xs[k]? = some x := ⟨_, List.getElem?_eq_getElem (by rw [LX.out]; omega)⟩
      have hT := Lib.hid (putR_take hx)
      have HXK := Lib.hid hx
      have hlk : (putR (xs.take k)).length ≤ k * 16 := by rw [putR_length, List.length_take]; omega
      generalize putR (xs.take k) = ps at *
      have HLK := Lib.hid hlk
      clear hx hlk
      obtain ⟨wq, hq⟩ : ∃ q, q = wr := ⟨_, rfl⟩
      subst hq
      have O1 := Lib.hid (show wq.ownsRow w.heap.size 5 1 u3 (ps ++ (b8 x.1).take 0).length (byV (ps ++ (b8 x.1).take 0)) by rw [List.take_zero, List.append_nil]; exact HO.out)
      go_wp2_with fail
      go_loopw [3, 5] (fun v i wr => ∃ m : Nat, m ≤ 8 ∧ i = .int .i64 (7 - (m : Int)) ∧ Hid (wr.ownsRow w.heap.size 5 1 v (ps ++ (b8 x.1).take m).length (byV (ps ++ (b8 x.1).take m))) ∧ Hid (Below w.heap.size w wr)) (fun _ i _ => (intOf i + 8).toNat)
      case atStart => exact ⟨0, by omega, rfl, O1, HB⟩
      case round =>
        clear O1 HO HB
        obtain ⟨m, hm, rfl, HO, HB⟩ := hrel
        have hle := HB.out.size
        obtain ⟨bb, off, x', rfl, hx', hc⟩ := (HX.out.below RRc.stays HB.out).elem hlt
        obtain rfl : x' = x := by have := HXK.out; rw [hx'] at this; injection this
        have c0 := hc.c0
        have c1 := hc.c1
        clear hx' hc
        have hlr := HLK.out
        obtain rfl | rfl | rfl | rfl | rfl | rfl | rfl | rfl | rfl : m = 0 ∨ m = 1 ∨ m = 2 ∨ m = 3 ∨ m = 4 ∨ m = 5 ∨ m = 6 ∨ m = 7 ∨ m = 8 := by omega
        · have EZ := Lib.hid (show IntKind.u64.wrap x'.1 / 72057594037927936 % 256 = (b8 x'.1).getD 0 0 from by rw [wrap_u]; show _ = x'.1 / 72057594037927936 % 256; omega)
          go_wp2_with (at_builtin; (refine own_append_one (W := wr) rfl (.tmp 17) (.tmp 28) 37 5 (.int .u8 0) 1 1 rfl Try.underlying37 infoB rfl (by omega) (by omega) w.heap.size _ (ps ++ (b8 x'.1).take 0).length (byV (ps ++ (b8 x'.1).take 0)) 1 [.int .u8 _] rfl rfl HO.out rfl (by simp [Value.oneCell']) (by rw [List.length_append, List.length_take]; omega) hle ?_); intro v1 w2 hown hgr hat)
          have HB2 := Lib.hid (HB.out.grown hgr hle (fun k hk => own_lt HO.out k hk))
          rw [EZ.out] at hown
          have HN := Lib.hid (show w2.ownsRow w.heap.size 5 1 v1 (ps ++ (b8 x'.1).take 1).length (byV (ps ++ (b8 x'.1).take 1)) by
            have e1 : byV (ps ++ (b8 x'.1).take 1) = byV (ps ++ (b8 x'.1).take 0) ++ byV [(b8 x'.1).getD 0 0] := by rw [← byV_append, List.append_assoc]; rfl
            rw [e1, show (ps ++ (b8 x'.1).take 1).length = (ps ++ (b8 x'.1).take 0).length + 1 by rw [List.length_append, List.length_append]; rfl]
            exact hown)
          clear hown hgr hat HO HB EZ
          go_roundw
          case rel => exact ⟨1, by omega, rfl, HN, HB2⟩
          case measure => simp [intOf]
        · have EZ := Lib.hid (show IntKind.u64.wrap x'.1 / 281474976710656 % 256 = (b8 x'.1).getD 1 0 from by rw [wrap_u]; show _ = x'.1 / 281474976710656 % 256; omega)
          go_wp2_with (at_builtin; (refine own_append_one (W := wr) rfl (.tmp 17) (.tmp 28) 37 5 (.int .u8 0) 1 1 rfl Try.underlying37 infoB rfl (by omega) (by omega) w.heap.size _ (ps ++ (b8 x'.1).take 1).length (byV (ps ++ (b8 x'.1).take 1)) 1 [.int .u8 _] rfl rfl HO.out rfl (by simp [Value.oneCell']) (by rw [List.length_append, List.length_take]; omega) hle ?_); intro v1 w2 hown hgr hat)
          have HB2 := Lib.hid (HB.out.grown hgr hle (fun k hk => own_lt HO.out k hk))
          rw [EZ.out] at hown
          have HN := Lib.hid (show w2.ownsRow w.heap.size 5 1 v1 (ps ++ (b8 x'.1).take 2).length (byV (ps ++ (b8 x'.1).take 2)) by
            have e1 : byV (ps ++ (b8 x'.1).take 2) = byV (ps ++ (b8 x'.1).take 1) ++ byV [(b8 x'.1).getD 1 0] := by rw [← byV_append, List.append_assoc]; rfl
            rw [e1, show (ps ++ (b8 x'.1).take 2).length = (ps ++ (b8 x'.1).take 1).length + 1 by rw [List.length_append, List.length_append]; rfl]
            exact hown)
          clear hown hgr hat HO HB EZ
          go_roundw
          case rel => exact ⟨2, by omega, rfl, HN, HB2⟩
          case measure => simp [intOf]
        · have EZ := Lib.hid (show IntKind.u64.wrap x'.1 / 1099511627776 % 256 = (b8 x'.1).getD 2 0 from by rw [wrap_u]; show _ = x'.1 / 1099511627776 % 256; omega)
          go_wp2_with (at_builtin; (refine own_append_one (W := wr) rfl (.tmp 17) (.tmp 28) 37 5 (.int .u8 0) 1 1 rfl Try.underlying37 infoB rfl (by omega) (by omega) w.heap.size _ (ps ++ (b8 x'.1).take 2).length (byV (ps ++ (b8 x'.1).take 2)) 1 [.int .u8 _] rfl rfl HO.out rfl (by simp [Value.oneCell']) (by rw [List.length_append, List.length_take]; omega) hle ?_); intro v1 w2 hown hgr hat)
          have HB2 := Lib.hid (HB.out.grown hgr hle (fun k hk => own_lt HO.out k hk))
          rw [EZ.out] at hown
          have HN := Lib.hid (show w2.ownsRow w.heap.size 5 1 v1 (ps ++ (b8 x'.1).take 3).length (byV (ps ++ (b8 x'.1).take 3)) by
            have e1 : byV (ps ++ (b8 x'.1).take 3) = byV (ps ++ (b8 x'.1).take 2) ++ byV [(b8 x'.1).getD 2 0] := by rw [← byV_append, List.append_assoc]; rfl
            rw [e1, show (ps ++ (b8 x'.1).take 3).length = (ps ++ (b8 x'.1).take 2).length + 1 by rw [List.length_append, List.length_append]; rfl]
            exact hown)
          clear hown hgr hat HO HB EZ
          go_roundw
          case rel => exact ⟨3, by omega, rfl, HN, HB2⟩
          case measure => simp [intOf]
        · have EZ := Lib.hid (show IntKind.u64.wrap x'.1 / 4294967296 % 256 = (b8 x'.1).getD 3 0 from by rw [wrap_u]; show _ = x'.1 / 4294967296 % 256; omega)
          go_wp2_with (at_builtin; (refine own_append_one (W := wr) rfl (.tmp 17) (.tmp 28) 37 5 (.int .u8 0) 1 1 rfl Try.underlying37 infoB rfl (by omega) (by omega) w.heap.size _ (ps ++ (b8 x'.1).take 3).length (byV (ps ++ (b8 x'.1).take 3)) 1 [.int .u8 _] rfl rfl HO.out rfl (by simp [Value.oneCell']) (by rw [List.length_append, List.length_take]; omega) hle ?_); intro v1 w2 hown hgr hat)
          have HB2 := Lib.hid (HB.out.grown hgr hle (fun k hk => own_lt HO.out k hk))
          rw [EZ.out] at hown
          have HN := Lib.hid (show w2.ownsRow w.heap.size 5 1 v1 (ps ++ (b8 x'.1).take 4).length (byV (ps ++ (b8 x'.1).take 4)) by
            have e1 : byV (ps ++ (b8 x'.1).take 4) = byV (ps ++ (b8 x'.1).take 3) ++ byV [(b8 x'.1).getD 3 0] := by rw [← byV_append, List.append_assoc]; rfl
            rw [e1, show (ps ++ (b8 x'.1).take 4).length = (ps ++ (b8 x'.1).take 3).length + 1 by rw [List.length_append, List.length_append]; rfl]
            exact hown)
          clear hown hgr hat HO HB EZ
          go_roundw
          case rel => exact ⟨4, by omega, rfl, HN, HB2⟩
          case measure => simp [intOf]
        · have EZ := Lib.hid (show IntKind.u64.wrap x'.1 / 16777216 % 256 = (b8 x'.1).getD 4 0 from by rw [wrap_u]; show _ = x'.1 / 16777216 % 256; omega)
          go_wp2_with (at_builtin; (refine own_append_one (W := wr) rfl (.tmp 17) (.tmp 28) 37 5 (.int .u8 0) 1 1 rfl Try.underlying37 infoB rfl (by omega) (by omega) w.heap.size _ (ps ++ (b8 x'.1).take 4).length (byV (ps ++ (b8 x'.1).take 4)) 1 [.int .u8 _] rfl rfl HO.out rfl (by simp [Value.oneCell']) (by rw [List.length_append, List.length_take]; omega) hle ?_); intro v1 w2 hown hgr hat)
          have HB2 := Lib.hid (HB.out.grown hgr hle (fun k hk => own_lt HO.out k hk))
          rw [EZ.out] at hown
          have HN := Lib.hid (show w2.ownsRow w.heap.size 5 1 v1 (ps ++ (b8 x'.1).take 5).length (byV (ps ++ (b8 x'.1).take 5)) by
            have e1 : byV (ps ++ (b8 x'.1).take 5) = byV (ps ++ (b8 x'.1).take 4) ++ byV [(b8 x'.1).getD 4 0] := by rw [← byV_append, List.append_assoc]; rfl
            rw [e1, show (ps ++ (b8 x'.1).take 5).length = (ps ++ (b8 x'.1).take 4).length + 1 by rw [List.length_append, List.length_append]; rfl]
            exact hown)
          clear hown hgr hat HO HB EZ
          go_roundw
          case rel => exact ⟨5, by omega, rfl, HN, HB2⟩
          case measure => simp [intOf]
        · have EZ := Lib.hid (show IntKind.u64.wrap x'.1 / 65536 % 256 = (b8 x'.1).getD 5 0 from by rw [wrap_u]; show _ = x'.1 / 65536 % 256; omega)
          go_wp2_with (at_builtin; (refine own_append_one (W := wr) rfl (.tmp 17) (.tmp 28) 37 5 (.int .u8 0) 1 1 rfl Try.underlying37 infoB rfl (by omega) (by omega) w.heap.size _ (ps ++ (b8 x'.1).take 5).length (byV (ps ++ (b8 x'.1).take 5)) 1 [.int .u8 _] rfl rfl HO.out rfl (by simp [Value.oneCell']) (by rw [List.length_append, List.length_take]; omega) hle ?_); intro v1 w2 hown hgr hat)
          have HB2 := Lib.hid (HB.out.grown hgr hle (fun k hk => own_lt HO.out k hk))
          rw [EZ.out] at hown
          have HN := Lib.hid (show w2.ownsRow w.heap.size 5 1 v1 (ps ++ (b8 x'.1).take 6).length (byV (ps ++ (b8 x'.1).take 6)) by
            have e1 : byV (ps ++ (b8 x'.1).take 6) = byV (ps ++ (b8 x'.1).take 5) ++ byV [(b8 x'.1).getD 5 0] := by rw [← byV_append, List.append_assoc]; rfl
            rw [e1, show (ps ++ (b8 x'.1).take 6).length = (ps ++ (b8 x'.1).take 5).length + 1 by rw [List.length_append, List.length_append]; rfl]
            exact hown)
          clear hown hgr hat HO HB EZ
          go_roundw
          case rel => exact ⟨6, by omega, rfl, HN, HB2⟩
          case measure => simp [intOf]
        · have EZ := Lib.hid (show IntKind.u64.wrap x'.1 / 256 % 256 = (b8 x'.1).getD 6 0 from by rw [wrap_u]; show _ = x'.1 / 256 % 256; omega)
          go_wp2_with (at_builtin; (refine own_append_one (W := wr) rfl (.tmp 17) (.tmp 28) 37 5 (.int .u8 0) 1 1 rfl Try.underlying37 infoB rfl (by omega) (by omega) w.heap.size _ (ps ++ (b8 x'.1).take 6).length (byV (ps ++ (b8 x'.1).take 6)) 1 [.int .u8 _] rfl rfl HO.out rfl (by simp [Value.oneCell']) (by rw [List.length_append, List.length_take]; omega) hle ?_); intro v1 w2 hown hgr hat)
          have HB2 := Lib.hid (HB.out.grown hgr hle (fun k hk => own_lt HO.out k hk))
          rw [EZ.out] at hown
          have HN := Lib.hid (show w2.ownsRow w.heap.size 5 1 v1 (ps ++ (b8 x'.1).take 7).length (byV (ps ++ (b8 x'.1).take 7)) by
            have e1 : byV (ps ++ (b8 x'.1).take 7) = byV (ps ++ (b8 x'.1).take 6) ++ byV [(b8 x'.1).getD 6 0] := by rw [← byV_append, List.append_assoc]; rfl
            rw [e1, show (ps ++ (b8 x'.1).take 7).length = (ps ++ (b8 x'.1).take 6).length + 1 by rw [List.length_append, List.length_append]; rfl]
            exact hown)
          clear hown hgr hat HO HB EZ
          go_roundw
          case rel => exact ⟨7, by omega, rfl, HN, HB2⟩
          case measure => simp [intOf]
        · have EZ := Lib.hid (show IntKind.u64.wrap x'.1 % 256 = (b8 x'.1).getD 7 0 from by rw [wrap_u]; show _ = x'.1 % 256; omega)
          go_wp2_with (at_builtin; (refine own_append_one (W := wr) rfl (.tmp 17) (.tmp 28) 37 5 (.int .u8 0) 1 1 rfl Try.underlying37 infoB rfl (by omega) (by omega) w.heap.size _ (ps ++ (b8 x'.1).take 7).length (byV (ps ++ (b8 x'.1).take 7)) 1 [.int .u8 _] rfl rfl HO.out rfl (by simp [Value.oneCell']) (by rw [List.length_append, List.length_take]; omega) hle ?_); intro v1 w2 hown hgr hat)
          have HB2 := Lib.hid (HB.out.grown hgr hle (fun k hk => own_lt HO.out k hk))
          rw [EZ.out] at hown
          have HN := Lib.hid (show w2.ownsRow w.heap.size 5 1 v1 (ps ++ (b8 x'.1).take 8).length (byV (ps ++ (b8 x'.1).take 8)) by
            have e1 : byV (ps ++ (b8 x'.1).take 8) = byV (ps ++ (b8 x'.1).take 7) ++ byV [(b8 x'.1).getD 7 0] := by rw [← byV_append, List.append_assoc]; rfl
            rw [e1, show (ps ++ (b8 x'.1).take 8).length = (ps ++ (b8 x'.1).take 7).length + 1 by rw [List.length_append, List.length_append]; rfl]
            exact hown)
          clear hown hgr hat HO HB EZ
          go_roundw
          case rel => exact ⟨8, by omega, rfl, HN, HB2⟩
          case measure => simp [intOf]
        · obtain ⟨wq2, hq2⟩ : ∃ q, q = wr := ⟨_, rfl⟩
          subst hq2
          rw [show (7 - ((8 : Nat) : Int)) = -1 from rfl]
          have O2 := Lib.hid (show wq2.ownsRow w.heap.size 5 1 u3 ((ps ++ b8 x'.1) ++ (b8 x'.2).take 0).length (byV ((ps ++ b8 x'.1) ++ (b8 x'.2).take 0)) by rw [List.take_zero, List.append_nil]; exact HO.out)
          have HLP := Lib.hid (show (ps ++ b8 x'.1).length ≤ k * 16 + 8 by rw [List.length_append]; simp [b8]; omega)
          clear HO hlr
          generalize ps ++ b8 x'.1 = ps2 at *
          clear c0 c1 hle
          go_wp2_with fail
          go_loopw [3, 6] (fun v i wr => ∃ m : Nat, m ≤ 8 ∧ i = .int .i64 (7 - (m : Int)) ∧ Hid (wr.ownsRow w.heap.size 5 1 v (ps2 ++ (b8 x'.2).take m).length (byV (ps2 ++ (b8 x'.2).take m))) ∧ Hid (Below w.heap.size w wr)) (fun _ i _ => (intOf i + 8).toNat)
          case atStart => exact ⟨0, by omega, rfl, O2, HB⟩
          case round =>
            clear O2 HB
            obtain ⟨m, hm, rfl, HO, HB⟩ := hrel
            have hle := HB.out.size
            obtain ⟨b3, o3, x2, e3, hx2, hc⟩ := (HX.out.below RRc.stays HB.out).elem hlt
            cases e3
            obtain rfl : x2 = x' := by have := HXK.out; rw [hx2] at this; injection this
            have c0 := hc.c0
            have c1 := hc.c1
            clear hx2 hc
            have hlr := HLP.out
            obtain rfl | rfl | rfl | rfl | rfl | rfl | rfl | rfl | rfl : m = 0 ∨ m = 1 ∨ m = 2 ∨ m = 3 ∨ m = 4 ∨ m = 5 ∨ m = 6 ∨ m = 7 ∨ m = 8 := by omega
            · have EZ := Lib.hid (show IntKind.u64.wrap x2.2 / 72057594037927936 % 256 = (b8 x2.2).getD 0 0 from by rw [wrap_u]; show _ = x2.2 / 72057594037927936 % 256; omega)
              go_wp2_with (at_builtin; (refine own_append_one (W := wr) rfl (.tmp 34) (.tmp 45) 37 5 (.int .u8 0) 1 1 rfl Try.underlying37 infoB rfl (by omega) (by omega) w.heap.size _ (ps2 ++ (b8 x2.2).take 0).length (byV (ps2 ++ (b8 x2.2).take 0)) 1 [.int .u8 _] rfl rfl HO.out rfl (by simp [Value.oneCell']) (by rw [List.length_append, List.length_take]; omega) hle ?_); intro v1 w2 hown hgr hat)
              have HB2 := Lib.hid (HB.out.grown hgr hle (fun k hk => own_lt HO.out k hk))
              rw [EZ.out] at hown
              have HN := Lib.hid (show w2.ownsRow w.heap.size 5 1 v1 (ps2 ++ (b8 x2.2).take 1).length (byV (ps2 ++ (b8 x2.2).take 1)) by
                have e1 : byV (ps2 ++ (b8 x2.2).take 1) = byV (ps2 ++ (b8 x2.2).take 0) ++ byV [(b8 x2.2).getD 0 0] := by rw [← byV_append, List.append_assoc]; rfl
                rw [e1, show (ps2 ++ (b8 x2.2).take 1).length = (ps2 ++ (b8 x2.2).take 0).length + 1 by rw [List.length_append, List.length_append]; rfl]
                exact hown)
              clear hown hgr hat HO HB EZ
              go_roundw
              case rel => exact ⟨1, by omega, rfl, HN, HB2⟩
              case measure => simp [intOf]
            · have EZ := Lib.hid (show IntKind.u64.wrap x2.2 / 281474976710656 % 256 = (b8 x2.2).getD 1 0 from by rw [wrap_u]; show _ = x2.2 / 281474976710656 % 256; omega)
              go_wp2_with (at_builtin; (refine own_append_one (W := wr) rfl (.tmp 34) (.tmp 45) 37 5 (.int .u8 0) 1 1 rfl Try.underlying37 infoB rfl (by omega) (by omega) w.heap.size _ (ps2 ++ (b8 x2.2).take 1).length (byV (ps2 ++ (b8 x2.2).take 1)) 1 [.int .u8 _] rfl rfl HO.out rfl (by simp [Value.oneCell']) (by rw [List.length_append, List.length_take]; omega) hle ?_); intro v1 w2 hown hgr hat)
              have HB2 := Lib.hid (HB.out.grown hgr hle (fun k hk => own_lt HO.out k hk))
              rw [EZ.out] at hown
              have HN := Lib.hid (show w2.ownsRow w.heap.size 5 1 v1 (ps2 ++ (b8 x2.2).take 2).length (byV (ps2 ++ (b8 x2.2).take 2)) by
                have e1 : byV (ps2 ++ (b8 x2.2).take 2) = byV (ps2 ++ (b8 x2.2).take 1) ++ byV [(b8 x2.2).getD 1 0] := by rw [← byV_append, List.append_assoc]; rfl
                rw [e1, show (ps2 ++ (b8 x2.2).take 2).length = (ps2 ++ (b8 x2.2).take 1).length + 1 by rw [List.length_append, List.length_append]; rfl]
                exact hown)
              clear hown hgr hat HO HB EZ
              go_roundw
              case rel => exact ⟨2, by omega, rfl, HN, HB2⟩
              case measure => simp [intOf]
            · have EZ := Lib.hid (show IntKind.u64.wrap x2.2 / 1099511627776 % 256 = (b8 x2.2).getD 2 0 from by rw [wrap_u]; show _ = x2.2 / 1099511627776 % 256; omega)
              go_wp2_with (at_builtin; (refine own_append_one (W := wr) rfl (.tmp 34) (.tmp 45) 37 5 (.int .u8 0) 1 1 rfl Try.underlying37 infoB rfl (by omega) (by omega) w.heap.size _ (ps2 ++ (b8 x2.2).take 2).length (byV (ps2 ++ (b8 x2.2).take 2)) 1 [.int .u8 _] rfl rfl HO.out rfl (by simp [Value.oneCell']) (by rw [List.length_append, List.length_take]; omega) hle ?_); intro v1 w2 hown hgr hat)
              have HB2 := Lib.hid (HB.out.grown hgr hle (fun k hk => own_lt HO.out k hk))
              rw [EZ.out] at hown
              have HN := Lib.hid (show w2.ownsRow w.heap.size 5 1 v1 (ps2 ++ (b8 x2.2).take 3).length (byV (ps2 ++ (b8 x2.2).take 3)) by
                have e1 : byV (ps2 ++ (b8 x2.2).take 3) = byV (ps2 ++ (b8 x2.2).take 2) ++ byV [(b8 x2.2).getD 2 0] := by rw [← byV_append, List.append_assoc]; rfl
                rw [e1, show (ps2 ++ (b8 x2.2).take 3).length = (ps2 ++ (b8 x2.2).take 2).length + 1 by rw [List.length_append, List.length_append]; rfl]
                exact hown)
              clear hown hgr hat HO HB EZ
              go_roundw
              case rel => exact ⟨3, by omega, rfl, HN, HB2⟩
              case measure => simp [intOf]
            · have EZ := Lib.hid (show IntKind.u64.wrap x2.2 / 4294967296 % 256 = (b8 x2.2).getD 3 0 from by rw [wrap_u]; show _ = x2.2 / 4294967296 % 256; omega)
              go_wp2_with (at_builtin; (refine own_append_one (W := wr) rfl (.tmp 34) (.tmp 45) 37 5 (.int .u8 0) 1 1 rfl Try.underlying37 infoB rfl (by omega) (by omega) w.heap.size _ (ps2 ++ (b8 x2.2).take 3).length (byV (ps2 ++ (b8 x2.2).take 3)) 1 [.int .u8 _] rfl rfl HO.out rfl (by simp [Value.oneCell']) (by rw [List.length_append, List.length_take]; omega) hle ?_); intro v1 w2 hown hgr hat)
              have HB2 := Lib.hid (HB.out.grown hgr hle (fun k hk => own_lt HO.out k hk))
              rw [EZ.out] at hown
              have HN := Lib.hid (show w2.ownsRow w.heap.size 5 1 v1 (ps2 ++ (b8 x2.2).take 4).length (byV (ps2 ++ (b8 x2.2).take 4)) by
                have e1 : byV (ps2 ++ (b8 x2.2).take 4) = byV (ps2 ++ (b8 x2.2).take 3) ++ byV [(b8 x2.2).getD 3 0] := by rw [← byV_append, List.append_assoc]; rfl
                rw [e1, show (ps2 ++ (b8 x2.2).take 4).length = (ps2 ++ (b8 x2.2).take 3).length + 1 by rw [List.length_append, List.length_append]; rfl]
                exact hown)
              clear hown hgr hat HO HB EZ
              go_roundw
              case rel => exact ⟨4, by omega, rfl, HN, HB2⟩
              case measure => simp [intOf]
            · have EZ := Lib.hid (show IntKind.u64.wrap x2.2 / 16777216 % 256 = (b8 x2.2).getD 4 0 from by rw [wrap_u]; show _ = x2.2 / 16777216 % 256; omega)
              go_wp2_with (at_builtin; (refine own_append_one (W := wr) rfl (.tmp 34) (.tmp 45) 37 5 (.int .u8 0) 1 1 rfl Try.underlying37 infoB rfl (by omega) (by omega) w.heap.size _ (ps2 ++ (b8 x2.2).take 4).length (byV (ps2 ++ (b8 x2.2).take 4)) 1 [.int .u8 _] rfl rfl HO.out rfl (by simp [Value.oneCell']) (by rw [List.length_append, List.length_take]; omega) hle ?_); intro v1 w2 hown hgr hat)
              have HB2 := Lib.hid (HB.out.grown hgr hle (fun k hk => own_lt HO.out k hk))
              rw [EZ.out] at hown
              have HN := Lib.hid (show w2.ownsRow w.heap.size 5 1 v1 (ps2 ++ (b8 x2.2).take 5).length (byV (ps2 ++ (b8 x2.2).take 5)) by
                have e1 : byV (ps2 ++ (b8 x2.2).take 5) = byV (ps2 ++ (b8 x2.2).take 4) ++ byV [(b8 x2.2).getD 4 0] := by rw [← byV_append, List.append_assoc]; rfl
                rw [e1, show (ps2 ++ (b8 x2.2).take 5).length = (ps2 ++ (b8 x2.2).take 4).length + 1 by rw [List.length_append, List.length_append]; rfl]
                exact hown)
              clear hown hgr hat HO HB EZ
              go_roundw
              case rel => exact ⟨5, by omega, rfl, HN, HB2⟩
              case measure => simp [intOf]
            · have EZ := Lib.hid (show IntKind.u64.wrap x2.2 / 65536 % 256 = (b8 x2.2).getD 5 0 from by rw [wrap_u]; show _ = x2.2 / 65536 % 256; omega)
              go_wp2_with (at_builtin; (refine own_append_one (W := wr) rfl (.tmp 34) (.tmp 45) 37 5 (.int .u8 0) 1 1 rfl Try.underlying37 infoB rfl (by omega) (by omega) w.heap.size _ (ps2 ++ (b8 x2.2).take 5).length (byV (ps2 ++ (b8 x2.2).take 5)) 1 [.int .u8 _] rfl rfl HO.out rfl (by simp [Value.oneCell']) (by rw [List.length_append, List.length_take]; omega) hle ?_); intro v1 w2 hown hgr hat)
              have HB2 := Lib.hid (HB.out.grown hgr hle (fun k hk => own_lt HO.out k hk))
              rw [EZ.out] at hown
              have HN := Lib.hid (show w2.ownsRow w.heap.size 5 1 v1 (ps2 ++ (b8 x2.2).take 6).length (byV (ps2 ++ (b8 x2.2).take 6)) by
                have e1 : byV (ps2 ++ (b8 x2.2).take 6) = byV (ps2 ++ (b8 x2.2).take 5) ++ byV [(b8 x2.2).getD 5 0] := by rw [← byV_append, List.append_assoc]; rfl
                rw [e1, show (ps2 ++ (b8 x2.2).take 6).length = (ps2 ++ (b8 x2.2).take 5).length + 1 by rw [List.length_append, List.length_append]; rfl]
                exact hown)
              clear hown hgr hat HO HB EZ
              go_roundw
              case rel => exact ⟨6, by omega, rfl, HN, HB2⟩
              case measure => simp [intOf]
            · have EZ := Lib.hid (show IntKind.u64.wrap x2.2 / 256 % 256 = (b8 x2.2).getD 6 0 from by rw [wrap_u]; show _ = x2.2 / 256 % 256; omega)
              go_wp2_with (at_builtin; (refine own_append_one (W := wr) rfl (.tmp 34) (.tmp 45) 37 5 (.int .u8 0) 1 1 rfl Try.underlying37 infoB rfl (by omega) (by omega) w.heap.size _ (ps2 ++ (b8 x2.2).take 6).length (byV (ps2 ++ (b8 x2.2).take 6)) 1 [.int .u8 _] rfl rfl HO.out rfl (by simp [Value.oneCell']) (by rw [List.length_append, List.length_take]; omega) hle ?_); intro v1 w2 hown hgr hat)
              have HB2 := Lib.hid (HB.out.grown hgr hle (fun k hk => own_lt HO.out k hk))
              rw [EZ.out] at hown
              have HN := Lib.hid (show w2.ownsRow w.heap.size 5 1 v1 (ps2 ++ (b8 x2.2).take 7).length (byV (ps2 ++ (b8 x2.2).take 7)) by
                have e1 : byV (ps2 ++ (b8 x2.2).take 7) = byV (ps2 ++ (b8 x2.2).take 6) ++ byV [(b8 x2.2).getD 6 0] := by rw [← byV_append, List.append_assoc]; rfl
                rw [e1, show (ps2 ++ (b8 x2.2).take 7).length = (ps2 ++ (b8 x2.2).take 6).length + 1 by rw [List.length_append, List.length_append]; rfl]
                exact hown)
              clear hown hgr hat HO HB EZ
              go_roundw
              case rel => exact ⟨7, by omega, rfl, HN, HB2⟩
              case measure => simp [intOf]
            · have EZ := Lib.hid (show IntKind.u64.wrap x2.2 % 256 = (b8 x2.2).getD 7 0 from by rw [wrap_u]; show _ = x2.2 % 256; omega)
              go_wp2_with (at_builtin; (refine own_append_one (W := wr) rfl (.tmp 34) (.tmp 45) 37 5 (.int .u8 0) 1 1 rfl Try.underlying37 infoB rfl (by omega) (by omega) w.heap.size _ (ps2 ++ (b8 x2.2).take 7).length (byV (ps2 ++ (b8 x2.2).take 7)) 1 [.int .u8 _] rfl rfl HO.out rfl (by simp [Value.oneCell']) (by rw [List.length_append, List.length_take]; omega) hle ?_); intro v1 w2 hown hgr hat)
              have HB2 := Lib.hid (HB.out.grown hgr hle (fun k hk => own_lt HO.out k hk))
              rw [EZ.out] at hown
              have HN := Lib.hid (show w2.ownsRow w.heap.size 5 1 v1 (ps2 ++ (b8 x2.2).take 8).length (byV (ps2 ++ (b8 x2.2).take 8)) by
                have e1 : byV (ps2 ++ (b8 x2.2).take 8) = byV (ps2 ++ (b8 x2.2).take 7) ++ byV [(b8 x2.2).getD 7 0] := by rw [← byV_append, List.append_assoc]; rfl
                rw [e1, show (ps2 ++ (b8 x2.2).take 8).length = (ps2 ++ (b8 x2.2).take 7).length + 1 by rw [List.length_append, List.length_append]; rfl]
                exact hown)
              clear hown hgr hat HO HB EZ
              go_roundw
              case rel => exact ⟨8, by omega, rfl, HN, HB2⟩
              case measure => simp [intOf]
            · have HN := Lib.hid (show wr.ownsRow w.heap.size 5 1 u3 (putR (xs.take (k + 1))).length (byV (putR (xs.take (k + 1)))) by rw [hT.out]; exact HO.out)
              clear c0 c1 HO
              go_wp2_with fail
              go_roundw
              case rel => exact ⟨k + 1, by omega, by go_num, HN, HB⟩
              case measure => simp [intOf]; omega
    · have hkn : k = n := by omega
      subst hkn
      have hd : decide ((k : Int) < k) = false := decide_eq_false (by omega)
      have hd' : decide (k < k) = false := decide_eq_false (by omega)
      rw [List.take_of_length_le (by rw [LX.out]; exact Nat.le_refl _)] at HO
      go_wp2_with fail
      go_ret
      exact ⟨_, rfl, HO.out, HB.out⟩
end Go.Proofs.Ytainoghjelfnkaa
