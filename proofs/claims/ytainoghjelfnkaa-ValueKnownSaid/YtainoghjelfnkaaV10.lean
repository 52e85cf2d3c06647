/- Contract of value.Put. -/
import Derived.Test.YtainoghjelfnkaaRows
import Derived.Test.YtainoghjelfnkaaWords
import Derived.Test.YtainoghjelfnkaaByts
import Derived.Test.YtainoghjelfnkaaStrs
import Derived.Test.YtainoghjelfnkaaFrame
import Derived.Test.YtainoghjelfnkaaElems
import Derived.Test.YtainoghjelfnkaaV1
import Derived.Test.YtainoghjelfnkaaV2
namespace Go.Proofs.Ytainoghjelfnkaa
open Go Go.RowKit Go.Proofs.Tail Go.Sort
set_option linter.unusedSimpArgs false
set_option linter.unusedVariables false
/-- A number's eight bytes. -/
def b8 (n : Int) : List Int := [n / 72057594037927936 % 256, n / 281474976710656 % 256, n / 1099511627776 % 256, n / 4294967296 % 256, n / 16777216 % 256, n / 65536 % 256, n / 256 % 256, n % 256]
theorem b8_in (n : Int) : InB (b8 n) := by
  intro x hx
  simp only [b8, List.mem_cons, List.not_mem_nil, or_false] at hx
  rcases hx with rfl | rfl | rfl | rfl | rfl | rfl | rfl | rfl <;> omega
def putR (xs : List Rc) : List Int := xs.flatMap fun x => b8 x.1 ++ b8 x.2
theorem putR_length (xs : List Rc) : (putR xs).length = xs.length * 16 := by
  induction xs with
  | nil => rfl
  | cons x xs ih => simp only [putR, List.flatMap_cons, List.length_append, List.length_cons] at *; rw [ih]; simp [b8]; omega
theorem putR_take {xs : List Rc} {k : Nat} {x : Rc} (h : xs[k]? = some x) : putR (xs.take (k + 1)) = putR (xs.take k) ++ b8 x.1 ++ b8 x.2 := by
  have hk := (List.getElem?_eq_some_iff.1 h).1
  rw [putR, List.take_succ_eq_append_getElem hk, List.flatMap_append, ← putR, (List.getElem?_eq_some_iff.1 h).2]
  simp
theorem infoB : (Try.prog.info? 5).map (fun i => (i.zero, i.size, i.bytes)) = some (some (.int .u8 0), 1, 1) := by kernel_rfl
def GivesBytes (xs : List Int) (w : World) (e : Ending) (w' : World) : Prop := ∃ v, e = .returned v ∧ w'.ownsRow w.heap.size 5 1 v xs.length (byV xs) ∧ Below w.heap.size w w'
@[go_sem] theorem index2_0 (x y : Int) (w : World) : (Instr.index 49 (.agg #[.int .i64 x, .int .i64 y]) (.int .i64 0)).run Try.prog w = .ok (.int .i64 x) w := by
  have u5 := Try.underlying2
  have a5 := Try.isAgg2
  have z5 := Try.sizeOf2
  unfold Instr.index
  simp only [Sem.run_bind, run_underlying Try.underlying49, asIntOf, Sem.run_pure, Result.andThen_ok]
  go_simp
@[go_sem] theorem index2_1 (x y : Int) (w : World) : (Instr.index 49 (.agg #[.int .i64 x, .int .i64 y]) (.int .i64 1)).run Try.prog w = .ok (.int .i64 y) w := by
  have u5 := Try.underlying2
  have a5 := Try.isAgg2
  have z5 := Try.sizeOf2
  unfold Instr.index
  simp only [Sem.run_bind, run_underlying Try.underlying49, asIntOf, Sem.run_pure, Result.andThen_ok]
  go_simp
set_option maxRecDepth 100000 in
set_option maxHeartbeats 16000000 in
theorem put_any (A : Option Addr) (n c : Nat) (xs : List Rc) (w : World) (hX : Recs w A n c xs) (hlim : n ≤ 1000000) :
    Calls Try.prog 22 #[.slice A n c] w (GivesBytes (putR xs) w) := by
  have HX := Lib.hid hX
  have HL := Lib.hid hX.len
  have hn64 : n ≤ 1000000 := hlim
  clear hX hlim
  have B0 := Lib.hid (Below.refl w.heap.size w)
  have O0 := Lib.hid (show w.ownsRow w.heap.size 5 1 (.slice none 0 0) (putR (xs.take 0)).length (byV (putR (xs.take 0))) from World.ownsRow_nil _ _ _ _)
  go_enter Try.func22, Try.ntmps22
  go_wp2_with fail
  go_loopw [3, 11] (fun v i wr => ∃ k : Nat, k ≤ n ∧ i = .int .i64 k ∧ Hid (wr.ownsRow w.heap.size 5 1 v (putR (xs.take k)).length (byV (putR (xs.take k)))) ∧ Hid (Below w.heap.size w wr)) (fun _ i _ => n - (intOf i).toNat)
  case atStart => exact ⟨0, Nat.zero_le _, rfl, O0, B0⟩
  case round =>
    clear O0 B0
    obtain ⟨k, hk, rfl, HO, HB⟩ := hrel
    by_cases hlt : k < n
    · have hd : decide ((k : Int) < n) = true := decide_eq_true (by omega)
      have hd' : decide (k < n) = true := decide_eq_true (by omega)
      obtain ⟨b, off, x, rfl, hx, hc⟩ := (HX.out.below RRc.stays HB.out).elem hlt
      have c0 := hc.c0
      have c1 := hc.c1
      have hT := Lib.hid (putR_take hx)
      have hlk : (putR (xs.take k)).length ≤ k * 16 := by rw [putR_length, List.length_take]; omega
      generalize putR (xs.take k) = ps at *
      have HLK := Lib.hid hlk
      have B1 := Lib.hid (HB.out.alloc HB.out.size (.cells #[.int .i64 x.1, .int .i64 x.2] 32))
      have O1 := Lib.hid (show (wr.alloc (.cells #[.int .i64 x.1, .int .i64 x.2] 32)).ownsRow w.heap.size 5 1 u3 (ps ++ (b8 x.1 ++ b8 x.2).take (8 * 0)).length (byV (ps ++ (b8 x.1 ++ b8 x.2).take (8 * 0))) by rw [Nat.mul_zero, List.take_zero, List.append_nil]; exact HO.out.alloc _)
      clear hx hc hlk
      go_wp2_with fail
      clear c0 c1 HO HB
      obtain ⟨wq, hq⟩ : ∃ q, q = wr := ⟨_, rfl⟩
      subst hq
      go_loopw [3, 20] (fun v i wr => ∃ q : Nat, ∃ z : Int, (q = 0 ∧ z = 0 ∨ q = 1 ∧ z = 1 ∨ q = 2 ∧ z = 2) ∧ i = .int .i64 z ∧ Hid (wr.ownsRow w.heap.size 5 1 v (ps ++ (b8 x.1 ++ b8 x.2).take (8 * q)).length (byV (ps ++ (b8 x.1 ++ b8 x.2).take (8 * q)))) ∧ Hid (Below w.heap.size w wr)) (fun _ i _ => 2 - (intOf i).toNat)
      case atStart => exact ⟨0, 0, .inl ⟨rfl, rfl⟩, rfl, O1, B1⟩
      case round =>
        clear O1 B1
        obtain ⟨q, z, hq, rfl, HO, HB⟩ := hrel
        obtain ⟨wp, hwp⟩ : ∃ q, q = wr := ⟨_, rfl⟩
        subst hwp
        obtain ⟨rfl, rfl⟩ | ⟨rfl, rfl⟩ | ⟨rfl, rfl⟩ := hq
        · generalize hrs : ps ++ (b8 x.1 ++ b8 x.2).take (8 * 0) = rs at *
          have hlr : rs.length ≤ k * 16 + 16 := by rw [← hrs, List.length_append, List.length_take]; have := HLK.out; simp [b8]; omega
          have HRS := Lib.hid hrs
          clear hrs
          have O2 := Lib.hid (show wp.ownsRow w.heap.size 5 1 u3 (rs ++ (b8 x.1).take 0).length (byV (rs ++ (b8 x.1).take 0)) by rw [List.take_zero, List.append_nil]; exact HO.out)
          go_wp2_with fail
          go_loopw [3, 8] (fun v i wr => ∃ m : Nat, m ≤ 8 ∧ i = .int .i64 (56 - 8 * (m : Int)) ∧ Hid (wr.ownsRow w.heap.size 5 1 v (rs ++ (b8 x.1).take m).length (byV (rs ++ (b8 x.1).take m))) ∧ Hid (Below w.heap.size w wr)) (fun _ i _ => (intOf i + 8).toNat)
          case atStart => exact ⟨0, by omega, rfl, O2, HB⟩
          case round =>
            clear O2 HO HB
            obtain ⟨m, hm, rfl, HO, HB⟩ := hrel
            have hle := HB.out.size
            obtain rfl | rfl | rfl | rfl | rfl | rfl | rfl | rfl | rfl : m = 0 ∨ m = 1 ∨ m = 2 ∨ m = 3 ∨ m = 4 ∨ m = 5 ∨ m = 6 ∨ m = 7 ∨ m = 8 := by omega
            · go_wp2_with (at_builtin; (refine own_append_one (W := wr) rfl (.tmp 27) (.tmp 32) 37 5 (.int .u8 0) 1 1 rfl Try.underlying37 infoB rfl (by omega) (by omega) w.heap.size u3 (rs ++ (b8 x.1).take 0).length (byV (rs ++ (b8 x.1).take 0)) 1 [.int .u8 _] rfl rfl HO.out rfl (by simp [Value.oneCell']) (by rw [List.length_append, List.length_take]; omega) hle ?_); intro v1 w2 hown hgr hat)
              have HB2 := Lib.hid (HB.out.grown hgr hle (fun k hk => own_lt HO.out k hk))
              have HN := Lib.hid (show w2.ownsRow w.heap.size 5 1 v1 (rs ++ (b8 x.1).take 1).length (byV (rs ++ (b8 x.1).take 1)) by
                have e1 : byV (rs ++ (b8 x.1).take 1) = byV (rs ++ (b8 x.1).take 0) ++ byV [(b8 x.1).getD 0 0] := by rw [← byV_append, List.append_assoc]; rfl
                rw [e1, show (rs ++ (b8 x.1).take 1).length = (rs ++ (b8 x.1).take 0).length + 1 by rw [List.length_append, List.length_append]; rfl]
                exact hown)
              clear hown hgr hat HO HB
              go_roundw
              case rel => exact ⟨1, by omega, rfl, HN, HB2⟩
              case measure => simp [intOf]
            · go_wp2_with (at_builtin; (refine own_append_one (W := wr) rfl (.tmp 27) (.tmp 32) 37 5 (.int .u8 0) 1 1 rfl Try.underlying37 infoB rfl (by omega) (by omega) w.heap.size u3 (rs ++ (b8 x.1).take 1).length (byV (rs ++ (b8 x.1).take 1)) 1 [.int .u8 _] rfl rfl HO.out rfl (by simp [Value.oneCell']) (by rw [List.length_append, List.length_take]; omega) hle ?_); intro v1 w2 hown hgr hat)
              have HB2 := Lib.hid (HB.out.grown hgr hle (fun k hk => own_lt HO.out k hk))
              have HN := Lib.hid (show w2.ownsRow w.heap.size 5 1 v1 (rs ++ (b8 x.1).take 2).length (byV (rs ++ (b8 x.1).take 2)) by
                have e1 : byV (rs ++ (b8 x.1).take 2) = byV (rs ++ (b8 x.1).take 1) ++ byV [(b8 x.1).getD 1 0] := by rw [← byV_append, List.append_assoc]; rfl
                rw [e1, show (rs ++ (b8 x.1).take 2).length = (rs ++ (b8 x.1).take 1).length + 1 by rw [List.length_append, List.length_append]; rfl]
                exact hown)
              clear hown hgr hat HO HB
              go_roundw
              case rel => exact ⟨2, by omega, rfl, HN, HB2⟩
              case measure => simp [intOf]
            · go_wp2_with (at_builtin; (refine own_append_one (W := wr) rfl (.tmp 27) (.tmp 32) 37 5 (.int .u8 0) 1 1 rfl Try.underlying37 infoB rfl (by omega) (by omega) w.heap.size u3 (rs ++ (b8 x.1).take 2).length (byV (rs ++ (b8 x.1).take 2)) 1 [.int .u8 _] rfl rfl HO.out rfl (by simp [Value.oneCell']) (by rw [List.length_append, List.length_take]; omega) hle ?_); intro v1 w2 hown hgr hat)
              have HB2 := Lib.hid (HB.out.grown hgr hle (fun k hk => own_lt HO.out k hk))
              have HN := Lib.hid (show w2.ownsRow w.heap.size 5 1 v1 (rs ++ (b8 x.1).take 3).length (byV (rs ++ (b8 x.1).take 3)) by
                have e1 : byV (rs ++ (b8 x.1).take 3) = byV (rs ++ (b8 x.1).take 2) ++ byV [(b8 x.1).getD 2 0] := by rw [← byV_append, List.append_assoc]; rfl
                rw [e1, show (rs ++ (b8 x.1).take 3).length = (rs ++ (b8 x.1).take 2).length + 1 by rw [List.length_append, List.length_append]; rfl]
                exact hown)
              clear hown hgr hat HO HB
              go_roundw
              case rel => exact ⟨3, by omega, rfl, HN, HB2⟩
              case measure => simp [intOf]
            · go_wp2_with (at_builtin; (refine own_append_one (W := wr) rfl (.tmp 27) (.tmp 32) 37 5 (.int .u8 0) 1 1 rfl Try.underlying37 infoB rfl (by omega) (by omega) w.heap.size u3 (rs ++ (b8 x.1).take 3).length (byV (rs ++ (b8 x.1).take 3)) 1 [.int .u8 _] rfl rfl HO.out rfl (by simp [Value.oneCell']) (by rw [List.length_append, List.length_take]; omega) hle ?_); intro v1 w2 hown hgr hat)
              have HB2 := Lib.hid (HB.out.grown hgr hle (fun k hk => own_lt HO.out k hk))
              have HN := Lib.hid (show w2.ownsRow w.heap.size 5 1 v1 (rs ++ (b8 x.1).take 4).length (byV (rs ++ (b8 x.1).take 4)) by
                have e1 : byV (rs ++ (b8 x.1).take 4) = byV (rs ++ (b8 x.1).take 3) ++ byV [(b8 x.1).getD 3 0] := by rw [← byV_append, List.append_assoc]; rfl
                rw [e1, show (rs ++ (b8 x.1).take 4).length = (rs ++ (b8 x.1).take 3).length + 1 by rw [List.length_append, List.length_append]; rfl]
                exact hown)
              clear hown hgr hat HO HB
              go_roundw
              case rel => exact ⟨4, by omega, rfl, HN, HB2⟩
              case measure => simp [intOf]
            · go_wp2_with (at_builtin; (refine own_append_one (W := wr) rfl (.tmp 27) (.tmp 32) 37 5 (.int .u8 0) 1 1 rfl Try.underlying37 infoB rfl (by omega) (by omega) w.heap.size u3 (rs ++ (b8 x.1).take 4).length (byV (rs ++ (b8 x.1).take 4)) 1 [.int .u8 _] rfl rfl HO.out rfl (by simp [Value.oneCell']) (by rw [List.length_append, List.length_take]; omega) hle ?_); intro v1 w2 hown hgr hat)
              have HB2 := Lib.hid (HB.out.grown hgr hle (fun k hk => own_lt HO.out k hk))
              have HN := Lib.hid (show w2.ownsRow w.heap.size 5 1 v1 (rs ++ (b8 x.1).take 5).length (byV (rs ++ (b8 x.1).take 5)) by
                have e1 : byV (rs ++ (b8 x.1).take 5) = byV (rs ++ (b8 x.1).take 4) ++ byV [(b8 x.1).getD 4 0] := by rw [← byV_append, List.append_assoc]; rfl
                rw [e1, show (rs ++ (b8 x.1).take 5).length = (rs ++ (b8 x.1).take 4).length + 1 by rw [List.length_append, List.length_append]; rfl]
                exact hown)
              clear hown hgr hat HO HB
              go_roundw
              case rel => exact ⟨5, by omega, rfl, HN, HB2⟩
              case measure => simp [intOf]
            · go_wp2_with (at_builtin; (refine own_append_one (W := wr) rfl (.tmp 27) (.tmp 32) 37 5 (.int .u8 0) 1 1 rfl Try.underlying37 infoB rfl (by omega) (by omega) w.heap.size u3 (rs ++ (b8 x.1).take 5).length (byV (rs ++ (b8 x.1).take 5)) 1 [.int .u8 _] rfl rfl HO.out rfl (by simp [Value.oneCell']) (by rw [List.length_append, List.length_take]; omega) hle ?_); intro v1 w2 hown hgr hat)
              have HB2 := Lib.hid (HB.out.grown hgr hle (fun k hk => own_lt HO.out k hk))
              have HN := Lib.hid (show w2.ownsRow w.heap.size 5 1 v1 (rs ++ (b8 x.1).take 6).length (byV (rs ++ (b8 x.1).take 6)) by
                have e1 : byV (rs ++ (b8 x.1).take 6) = byV (rs ++ (b8 x.1).take 5) ++ byV [(b8 x.1).getD 5 0] := by rw [← byV_append, List.append_assoc]; rfl
                rw [e1, show (rs ++ (b8 x.1).take 6).length = (rs ++ (b8 x.1).take 5).length + 1 by rw [List.length_append, List.length_append]; rfl]
                exact hown)
              clear hown hgr hat HO HB
              go_roundw
              case rel => exact ⟨6, by omega, rfl, HN, HB2⟩
              case measure => simp [intOf]
            · go_wp2_with (at_builtin; (refine own_append_one (W := wr) rfl (.tmp 27) (.tmp 32) 37 5 (.int .u8 0) 1 1 rfl Try.underlying37 infoB rfl (by omega) (by omega) w.heap.size u3 (rs ++ (b8 x.1).take 6).length (byV (rs ++ (b8 x.1).take 6)) 1 [.int .u8 _] rfl rfl HO.out rfl (by simp [Value.oneCell']) (by rw [List.length_append, List.length_take]; omega) hle ?_); intro v1 w2 hown hgr hat)
              have HB2 := Lib.hid (HB.out.grown hgr hle (fun k hk => own_lt HO.out k hk))
              have HN := Lib.hid (show w2.ownsRow w.heap.size 5 1 v1 (rs ++ (b8 x.1).take 7).length (byV (rs ++ (b8 x.1).take 7)) by
                have e1 : byV (rs ++ (b8 x.1).take 7) = byV (rs ++ (b8 x.1).take 6) ++ byV [(b8 x.1).getD 6 0] := by rw [← byV_append, List.append_assoc]; rfl
                rw [e1, show (rs ++ (b8 x.1).take 7).length = (rs ++ (b8 x.1).take 6).length + 1 by rw [List.length_append, List.length_append]; rfl]
                exact hown)
              clear hown hgr hat HO HB
              go_roundw
              case rel => exact ⟨7, by omega, rfl, HN, HB2⟩
              case measure => simp [intOf]
            · go_wp2_with (at_builtin; (refine own_append_one (W := wr) rfl (.tmp 27) (.tmp 32) 37 5 (.int .u8 0) 1 1 rfl Try.underlying37 infoB rfl (by omega) (by omega) w.heap.size u3 (rs ++ (b8 x.1).take 7).length (byV (rs ++ (b8 x.1).take 7)) 1 [.int .u8 _] rfl rfl HO.out rfl (by simp [Value.oneCell']) (by rw [List.length_append, List.length_take]; omega) hle ?_); intro v1 w2 hown hgr hat)
              have HB2 := Lib.hid (HB.out.grown hgr hle (fun k hk => own_lt HO.out k hk))
              have HN := Lib.hid (show w2.ownsRow w.heap.size 5 1 v1 (rs ++ (b8 x.1).take 8).length (byV (rs ++ (b8 x.1).take 8)) by
                have e1 : byV (rs ++ (b8 x.1).take 8) = byV (rs ++ (b8 x.1).take 7) ++ byV [(b8 x.1).getD 7 0] := by rw [← byV_append, List.append_assoc]; rfl
                rw [e1, show (rs ++ (b8 x.1).take 8).length = (rs ++ (b8 x.1).take 7).length + 1 by rw [List.length_append, List.length_append]; rfl]
                exact hown)
              clear hown hgr hat HO HB
              go_roundw
              case rel => exact ⟨8, by omega, rfl, HN, HB2⟩
              case measure => simp [intOf]
            · have HN := Lib.hid (show wr.ownsRow w.heap.size 5 1 u3 (ps ++ (b8 x.1 ++ b8 x.2).take (8 * 1)).length (byV (ps ++ (b8 x.1 ++ b8 x.2).take (8 * 1))) by
                have h1 := HO.out
                have e1 : rs ++ (b8 x.1).take 8 = ps ++ (b8 x.1 ++ b8 x.2).take (8 * 1) := by rw [← HRS.out, List.append_assoc]; rfl
                rwa [e1] at h1)
              clear HO
              go_wp2_with fail
              go_roundw
              case rel => exact ⟨1, 1, .inr (.inl ⟨rfl, rfl⟩), rfl, HN, HB⟩
              case measure => simp [intOf]
        · generalize hrs : ps ++ (b8 x.1 ++ b8 x.2).take (8 * 1) = rs at *
          have hlr : rs.length ≤ k * 16 + 16 := by rw [← hrs, List.length_append, List.length_take]; have := HLK.out; simp [b8]; omega
          have HRS := Lib.hid hrs
          clear hrs
          have O2 := Lib.hid (show wp.ownsRow w.heap.size 5 1 u3 (rs ++ (b8 x.2).take 0).length (byV (rs ++ (b8 x.2).take 0)) by rw [List.take_zero, List.append_nil]; exact HO.out)
          go_wp2_with fail
          go_loopw [3, 8] (fun v i wr => ∃ m : Nat, m ≤ 8 ∧ i = .int .i64 (56 - 8 * (m : Int)) ∧ Hid (wr.ownsRow w.heap.size 5 1 v (rs ++ (b8 x.2).take m).length (byV (rs ++ (b8 x.2).take m))) ∧ Hid (Below w.heap.size w wr)) (fun _ i _ => (intOf i + 8).toNat)
          case atStart => exact ⟨0, by omega, rfl, O2, HB⟩
          case round =>
            clear O2 HO HB
            obtain ⟨m, hm, rfl, HO, HB⟩ := hrel
            have hle := HB.out.size
            obtain rfl | rfl | rfl | rfl | rfl | rfl | rfl | rfl | rfl : m = 0 ∨ m = 1 ∨ m = 2 ∨ m = 3 ∨ m = 4 ∨ m = 5 ∨ m = 6 ∨ m = 7 ∨ m = 8 := by omega
            · go_wp2_with (at_builtin; (refine own_append_one (W := wr) rfl (.tmp 27) (.tmp 32) 37 5 (.int .u8 0) 1 1 rfl Try.underlying37 infoB rfl (by omega) (by omega) w.heap.size u3 (rs ++ (b8 x.2).take 0).length (byV (rs ++ (b8 x.2).take 0)) 1 [.int .u8 _] rfl rfl HO.out rfl (by simp [Value.oneCell']) (by rw [List.length_append, List.length_take]; omega) hle ?_); intro v1 w2 hown hgr hat)
              have HB2 := Lib.hid (HB.out.grown hgr hle (fun k hk => own_lt HO.out k hk))
              have HN := Lib.hid (show w2.ownsRow w.heap.size 5 1 v1 (rs ++ (b8 x.2).take 1).length (byV (rs ++ (b8 x.2).take 1)) by
                have e1 : byV (rs ++ (b8 x.2).take 1) = byV (rs ++ (b8 x.2).take 0) ++ byV [(b8 x.2).getD 0 0] := by rw [← byV_append, List.append_assoc]; rfl
                rw [e1, show (rs ++ (b8 x.2).take 1).length = (rs ++ (b8 x.2).take 0).length + 1 by rw [List.length_append, List.length_append]; rfl]
                exact hown)
              clear hown hgr hat HO HB
              go_roundw
              case rel => exact ⟨1, by omega, rfl, HN, HB2⟩
              case measure => simp [intOf]
            · go_wp2_with (at_builtin; (refine own_append_one (W := wr) rfl (.tmp 27) (.tmp 32) 37 5 (.int .u8 0) 1 1 rfl Try.underlying37 infoB rfl (by omega) (by omega) w.heap.size u3 (rs ++ (b8 x.2).take 1).length (byV (rs ++ (b8 x.2).take 1)) 1 [.int .u8 _] rfl rfl HO.out rfl (by simp [Value.oneCell']) (by rw [List.length_append, List.length_take]; omega) hle ?_); intro v1 w2 hown hgr hat)
              have HB2 := Lib.hid (HB.out.grown hgr hle (fun k hk => own_lt HO.out k hk))
              have HN := Lib.hid (show w2.ownsRow w.heap.size 5 1 v1 (rs ++ (b8 x.2).take 2).length (byV (rs ++ (b8 x.2).take 2)) by
                have e1 : byV (rs ++ (b8 x.2).take 2) = byV (rs ++ (b8 x.2).take 1) ++ byV [(b8 x.2).getD 1 0] := by rw [← byV_append, List.append_assoc]; rfl
                rw [e1, show (rs ++ (b8 x.2).take 2).length = (rs ++ (b8 x.2).take 1).length + 1 by rw [List.length_append, List.length_append]; rfl]
                exact hown)
              clear hown hgr hat HO HB
              go_roundw
              case rel => exact ⟨2, by omega, rfl, HN, HB2⟩
              case measure => simp [intOf]
            · go_wp2_with (at_builtin; (refine own_append_one (W := wr) rfl (.tmp 27) (.tmp 32) 37 5 (.int .u8 0) 1 1 rfl Try.underlying37 infoB rfl (by omega) (by omega) w.heap.size u3 (rs ++ (b8 x.2).take 2).length (byV (rs ++ (b8 x.2).take 2)) 1 [.int .u8 _] rfl rfl HO.out rfl (by simp [Value.oneCell']) (by rw [List.length_append, List.length_take]; omega) hle ?_); intro v1 w2 hown hgr hat)
              have HB2 := Lib.hid (HB.out.grown hgr hle (fun k hk => own_lt HO.out k hk))
              have HN := Lib.hid (show w2.ownsRow w.heap.size 5 1 v1 (rs ++ (b8 x.2).take 3).length (byV (rs ++ (b8 x.2).take 3)) by
                have e1 : byV (rs ++ (b8 x.2).take 3) = byV (rs ++ (b8 x.2).take 2) ++ byV [(b8 x.2).getD 2 0] := by rw [← byV_append, List.append_assoc]; rfl
                rw [e1, show (rs ++ (b8 x.2).take 3).length = (rs ++ (b8 x.2).take 2).length + 1 by rw [List.length_append, List.length_append]; rfl]
                exact hown)
              clear hown hgr hat HO HB
              go_roundw
              case rel => exact ⟨3, by omega, rfl, HN, HB2⟩
              case measure => simp [intOf]
            · go_wp2_with (at_builtin; (refine own_append_one (W := wr) rfl (.tmp 27) (.tmp 32) 37 5 (.int .u8 0) 1 1 rfl Try.underlying37 infoB rfl (by omega) (by omega) w.heap.size u3 (rs ++ (b8 x.2).take 3).length (byV (rs ++ (b8 x.2).take 3)) 1 [.int .u8 _] rfl rfl HO.out rfl (by simp [Value.oneCell']) (by rw [List.length_append, List.length_take]; omega) hle ?_); intro v1 w2 hown hgr hat)
              have HB2 := Lib.hid (HB.out.grown hgr hle (fun k hk => own_lt HO.out k hk))
              have HN := Lib.hid (show w2.ownsRow w.heap.size 5 1 v1 (rs ++ (b8 x.2).take 4).length (byV (rs ++ (b8 x.2).take 4)) by
                have e1 : byV (rs ++ (b8 x.2).take 4) = byV (rs ++ (b8 x.2).take 3) ++ byV [(b8 x.2).getD 3 0] := by rw [← byV_append, List.append_assoc]; rfl
                rw [e1, show (rs ++ (b8 x.2).take 4).length = (rs ++ (b8 x.2).take 3).length + 1 by rw [List.length_append, List.length_append]; rfl]
                exact hown)
              clear hown hgr hat HO HB
              go_roundw
              case rel => exact ⟨4, by omega, rfl, HN, HB2⟩
              case measure => simp [intOf]
            · go_wp2_with (at_builtin; (refine own_append_one (W := wr) rfl (.tmp 27) (.tmp 32) 37 5 (.int .u8 0) 1 1 rfl Try.underlying37 infoB rfl (by omega) (by omega) w.heap.size u3 (rs ++ (b8 x.2).take 4).length (byV (rs ++ (b8 x.2).take 4)) 1 [.int .u8 _] rfl rfl HO.out rfl (by simp [Value.oneCell']) (by rw [List.length_append, List.length_take]; omega) hle ?_); intro v1 w2 hown hgr hat)
              have HB2 := Lib.hid (HB.out.grown hgr hle (fun k hk => own_lt HO.out k hk))
              have HN := Lib.hid (show w2.ownsRow w.heap.size 5 1 v1 (rs ++ (b8 x.2).take 5).length (byV (rs ++ (b8 x.2).take 5)) by
                have e1 : byV (rs ++ (b8 x.2).take 5) = byV (rs ++ (b8 x.2).take 4) ++ byV [(b8 x.2).getD 4 0] := by rw [← byV_append, List.append_assoc]; rfl
                rw [e1, show (rs ++ (b8 x.2).take 5).length = (rs ++ (b8 x.2).take 4).length + 1 by rw [List.length_append, List.length_append]; rfl]
                exact hown)
              clear hown hgr hat HO HB
              go_roundw
              case rel => exact ⟨5, by omega, rfl, HN, HB2⟩
              case measure => simp [intOf]
            · go_wp2_with (at_builtin; (refine own_append_one (W := wr) rfl (.tmp 27) (.tmp 32) 37 5 (.int .u8 0) 1 1 rfl Try.underlying37 infoB rfl (by omega) (by omega) w.heap.size u3 (rs ++ (b8 x.2).take 5).length (byV (rs ++ (b8 x.2).take 5)) 1 [.int .u8 _] rfl rfl HO.out rfl (by simp [Value.oneCell']) (by rw [List.length_append, List.length_take]; omega) hle ?_); intro v1 w2 hown hgr hat)
              have HB2 := Lib.hid (HB.out.grown hgr hle (fun k hk => own_lt HO.out k hk))
              have HN := Lib.hid (show w2.ownsRow w.heap.size 5 1 v1 (rs ++ (b8 x.2).take 6).length (byV (rs ++ (b8 x.2).take 6)) by
                have e1 : byV (rs ++ (b8 x.2).take 6) = byV (rs ++ (b8 x.2).take 5) ++ byV [(b8 x.2).getD 5 0] := by rw [← byV_append, List.append_assoc]; rfl
                rw [e1, show (rs ++ (b8 x.2).take 6).length = (rs ++ (b8 x.2).take 5).length + 1 by rw [List.length_append, List.length_append]; rfl]
                exact hown)
              clear hown hgr hat HO HB
              go_roundw
              case rel => exact ⟨6, by omega, rfl, HN, HB2⟩
              case measure => simp [intOf]
            · go_wp2_with (at_builtin; (refine own_append_one (W := wr) rfl (.tmp 27) (.tmp 32) 37 5 (.int .u8 0) 1 1 rfl Try.underlying37 infoB rfl (by omega) (by omega) w.heap.size u3 (rs ++ (b8 x.2).take 6).length (byV (rs ++ (b8 x.2).take 6)) 1 [.int .u8 _] rfl rfl HO.out rfl (by simp [Value.oneCell']) (by rw [List.length_append, List.length_take]; omega) hle ?_); intro v1 w2 hown hgr hat)
              have HB2 := Lib.hid (HB.out.grown hgr hle (fun k hk => own_lt HO.out k hk))
              have HN := Lib.hid (show w2.ownsRow w.heap.size 5 1 v1 (rs ++ (b8 x.2).take 7).length (byV (rs ++ (b8 x.2).take 7)) by
                have e1 : byV (rs ++ (b8 x.2).take 7) = byV (rs ++ (b8 x.2).take 6) ++ byV [(b8 x.2).getD 6 0] := by rw [← byV_append, List.append_assoc]; rfl
                rw [e1, show (rs ++ (b8 x.2).take 7).length = (rs ++ (b8 x.2).take 6).length + 1 by rw [List.length_append, List.length_append]; rfl]
                exact hown)
              clear hown hgr hat HO HB
              go_roundw
              case rel => exact ⟨7, by omega, rfl, HN, HB2⟩
              case measure => simp [intOf]
            · go_wp2_with (at_builtin; (refine own_append_one (W := wr) rfl (.tmp 27) (.tmp 32) 37 5 (.int .u8 0) 1 1 rfl Try.underlying37 infoB rfl (by omega) (by omega) w.heap.size u3 (rs ++ (b8 x.2).take 7).length (byV (rs ++ (b8 x.2).take 7)) 1 [.int .u8 _] rfl rfl HO.out rfl (by simp [Value.oneCell']) (by rw [List.length_append, List.length_take]; omega) hle ?_); intro v1 w2 hown hgr hat)
              have HB2 := Lib.hid (HB.out.grown hgr hle (fun k hk => own_lt HO.out k hk))
              have HN := Lib.hid (show w2.ownsRow w.heap.size 5 1 v1 (rs ++ (b8 x.2).take 8).length (byV (rs ++ (b8 x.2).take 8)) by
                have e1 : byV (rs ++ (b8 x.2).take 8) = byV (rs ++ (b8 x.2).take 7) ++ byV [(b8 x.2).getD 7 0] := by rw [← byV_append, List.append_assoc]; rfl
                rw [e1, show (rs ++ (b8 x.2).take 8).length = (rs ++ (b8 x.2).take 7).length + 1 by rw [List.length_append, List.length_append]; rfl]
                exact hown)
              clear hown hgr hat HO HB
              go_roundw
              case rel => exact ⟨8, by omega, rfl, HN, HB2⟩
              case measure => simp [intOf]
            · have HN := Lib.hid (show wr.ownsRow w.heap.size 5 1 u3 (ps ++ (b8 x.1 ++ b8 x.2).take (8 * 2)).length (byV (ps ++ (b8 x.1 ++ b8 x.2).take (8 * 2))) by
                have h1 := HO.out
                have e1 : rs ++ (b8 x.2).take 8 = ps ++ (b8 x.1 ++ b8 x.2).take (8 * 2) := by rw [← HRS.out, List.append_assoc]; rfl
                rwa [e1] at h1)
              clear HO
              go_wp2_with fail
              go_roundw
              case rel => exact ⟨2, 2, .inr (.inr ⟨rfl, rfl⟩), rfl, HN, HB⟩
              case measure => simp [intOf]
        · have HN := Lib.hid (show wp.ownsRow w.heap.size 5 1 u3 (putR (xs.take (k + 1))).length (byV (putR (xs.take (k + 1)))) by rw [hT.out, List.append_assoc]; have := HO.out; rwa [show 8 * 2 = (b8 x.1 ++ b8 x.2).length from rfl, List.take_length] at this)
          clear HO
          go_wp2_with fail
          go_roundw
          case rel => exact ⟨k + 1, by omega, by go_num, HN, HB⟩
          case measure => simp [intOf]; omega
    · have hkn : k = n := by omega
      subst hkn
      have hd : decide ((k : Int) < k) = false := decide_eq_false (by omega)
      have hd' : decide (k < k) = false := decide_eq_false (by omega)
      have HN := Lib.hid (show wr.ownsRow w.heap.size 5 1 u3 (putR xs).length (byV (putR xs)) by have := HO.out; rwa [List.take_of_length_le (by rw [HL.out]; omega)] at this)
      clear HO
      go_wp2_with fail
      go_ret
      exact ⟨_, rfl, HN.out, HB.out⟩
end Go.Proofs.Ytainoghjelfnkaa
