/- Contracts of a nil Writer, a nil Reader. -/
import Derived.Test.YtnpiocbgbpnlmaaRows
import Derived.Test.YtnpiocbgbpnlmaaWords
import Derived.Test.YtnpiocbgbpnlmaaByts
import Derived.Test.YtnpiocbgbpnlmaaStrs
import Derived.Test.YtnpiocbgbpnlmaaFrame
import Derived.Test.YtnpiocbgbpnlmaaA1
import Derived.Test.YtnpiocbgbpnlmaaA5
import Derived.Test.YtnpiocbgbpnlmaaA6
namespace Go.Proofs.Ytnpiocbgbpnlmaa
open Go.RowKit Go.Proofs.Tail
set_option linter.unusedSimpArgs false
set_option linter.unusedVariables false
theorem wraw_nil (A : Option Addr) (n c : Nat) (w : World) : Calls Try.prog 12 #[.pointer none, .slice A n c] w (Tells (.tuple #[]) w) := by
  go_enter Try.func12, Try.ntmps12
  go_wp2_with fail
  go_end0
  exact ⟨rfl, rfl⟩
set_option maxRecDepth 100000 in
set_option maxHeartbeats 8000000 in
theorem number_nil (w : World) : Calls Try.prog 33 #[.pointer none, .int .u64 5, .int .i64 4] w (Gives (.tuple #[]) w) := by
  have HD := Lib.hid (Blk.new w [.int .u8 0, .int .u8 0, .int .u8 0, .int .u8 0, .int .u8 0, .int .u8 0, .int .u8 0, .int .u8 5] 73 _ rfl)
  go_enter Try.func33, Try.ntmps33
  go_wp2_with fail
  refine wp_loop_rounds 9 ?_
  iterate 9 (rw [rounds_succ]; go_wp2_with fail)
  refine (wraw_nil _ _ _ _).mono ?_
  rintro e w1 ⟨rfl, rfl⟩
  go_wp2_with fail
  go_end0
  exact ⟨rfl, below_new _ _⟩
theorem word_nil (w : World) : Calls Try.prog 24 #[.pointer none, .int .u32 5] w (Gives (.tuple #[]) w) := by
  go_enter Try.func24, Try.ntmps24
  go_wp2_with fail
  refine (number_nil _).mono ?_
  rintro e w1 ⟨rfl, hb⟩
  have HB := Lib.hid hb
  clear hb
  go_wp2_with fail
  go_end0
  exact ⟨rfl, HB.out⟩
theorem out_nil (w : World) : Calls Try.prog 14 #[.pointer none] w (Tells (.slice none 0 0) w) := by
  go_enter Try.func14, Try.ntmps14
  go_wp2_with fail
  go_ret
  exact ⟨rfl, rfl⟩
theorem bad_nil (w : World) : Calls Try.prog 21 #[.pointer none] w (Tells (.bool true) w) := by
  go_enter Try.func21, Try.ntmps21
  go_wp2_with fail
  go_ret
  exact ⟨rfl, rfl⟩
theorem left_nil (w : World) : Calls Try.prog 20 #[.pointer none] w (Tells (.int .i64 0) w) := by
  go_enter Try.func20, Try.ntmps20
  go_wp2_with fail
  go_ret
  exact ⟨rfl, rfl⟩
theorem next_nil (k : Int) (w : World) : Calls Try.prog 29 #[.pointer none, .int .i64 k] w (Tells (.slice none 0 0) w) := by
  go_enter Try.func29, Try.ntmps29
  go_wp2_with fail
  go_ret
  exact ⟨rfl, rfl⟩
set_option maxHeartbeats 4000000 in
theorem rraw_nil (k : Int) (w : World) : Calls Try.prog 16 #[.pointer none, .int .i64 k] w (GivesRow1 [] w) := by
  go_enter Try.func16, Try.ntmps16
  go_wp2_with fail
  refine (next_nil _ _).mono ?_
  rintro e w1 ⟨rfl, rfl⟩
  go_wp2_with fail
  refine (clone_any none 0 0 [] w (Rd.nil _ _ _) (by omega)).mono ?_
  rintro e w2 ⟨v, rfl, ho, hb⟩
  have HO := Lib.hid ho
  have HB := Lib.hid hb
  clear ho hb
  go_wp2_with fail
  go_ret
  exact ⟨_, rfl, HO.out, HB.out⟩
set_option maxRecDepth 100000 in
set_option maxHeartbeats 8000000 in
theorem rnum_nil (w : World) : Calls Try.prog 32 #[.pointer none, .int .i64 8] w (Gives (.int .u64 0) w) := by
  have HD := Lib.hid (Blk.new w [.int .u8 0, .int .u8 0, .int .u8 0, .int .u8 0, .int .u8 0, .int .u8 0, .int .u8 0, .int .u8 0] 73 _ rfl)
  have HB := Lib.hid (below_new w (.cells #[.int .u8 0, .int .u8 0, .int .u8 0, .int .u8 0, .int .u8 0, .int .u8 0, .int .u8 0, .int .u8 0] 73))
  have hw6 : IntKind.i64.wrap 0 = 0 := by decide
  go_enter Try.func32, Try.ntmps32
  go_wp2_with fail
  go_region_law (first
    | (go_simp; go_at_call 29; refine (next_nil _ _).mono ?_
       rintro e w1 ⟨rfl, rfl⟩)
    | (refine step_copy_splice rfl (.tmp 11) (.tmp 14) 23 23 rfl 5 Try.underlying23 (by kernel_rfl) _ _ _ _ _ _ rfl rfl w.heap.size 0 _ _ HD.out.drew.h (byV []) rfl (fun h => absurd h (by simp [byV])) (by simp [byV]) (byV_one _) w.heap.size _ (Below.refl _ _) (Nat.le_refl _) ?_
       intro w4 hg4 hb4))
  have HBB := Lib.hid (HB.out.drew.trans (hb4.mono (Nat.le_refl _)))
  have hz : bits .or .u64 0 0 = 0 := by decide
  have HB4 : Hid (Blk w4 w.heap.size [.int .u8 0, .int .u8 0, .int .u8 0, .int .u8 0, .int .u8 0, .int .u8 0, .int .u8 0, .int .u8 0] 73) := Lib.hid ⟨hg4.out⟩
  have l0 := HB4.out.cell
  clear hg4 hb4 HD HB
  go_wp2_with fail
  refine wp_loop_rounds 9 ?_
  iterate 9 (rw [rounds_succ]; go_wp2_with fail)
  go_ret
  exact ⟨rfl, HBB.out⟩
theorem rlong_nil (w : World) : Calls Try.prog 25 #[.pointer none] w (Gives (.int .u64 0) w) := by
  go_enter Try.func25, Try.ntmps25
  go_wp2_with fail
  refine (rnum_nil _).mono ?_
  rintro e w1 ⟨rfl, hb⟩
  have HB := Lib.hid hb
  clear hb
  go_wp2_with fail
  go_ret
  exact ⟨rfl, HB.out⟩
end Go.Proofs.Ytnpiocbgbpnlmaa
