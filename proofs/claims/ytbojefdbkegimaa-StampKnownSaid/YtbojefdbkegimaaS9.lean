/- Contract of stamp.Compare. -/
import Derived.Test.YtbojefdbkegimaaRows
import Derived.Deep.RegionHeld3
import Derived.Test.YtbojefdbkegimaaWords
import Derived.Test.YtbojefdbkegimaaS1
import Derived.Test.YtbojefdbkegimaaS2
import Derived.Test.YtbojefdbkegimaaS7
import Derived.Test.YtbojefdbkegimaaS8
namespace Go.Proofs.Ytbojefdbkegimaa
open Go.RowKit Go.Proofs.Tail
set_option linter.unusedSimpArgs false
set_option linter.unusedVariables false
theorem or_new (x y : Int) (B : Nat) (W : World) (hB : W.heap.size = B) : Calls Try.prog 35 #[.slice (some ⟨B, 0, none⟩) 2 2] (W.alloc (.cells #[.int .i64 x, .int .i64 y] 3)).drew (Tells (.int .i64 (orI x y)) (W.alloc (.cells #[.int .i64 x, .int .i64 y] 3)).drew) := by
  subst hB
  exact or_any x y _ _ (box_cell W [.int .i64 x, .int .i64 y] _ 0 _ rfl) (box_cell W [.int .i64 x, .int .i64 y] _ 1 _ rfl)
set_option maxRecDepth 100000 in
set_option maxHeartbeats 8000000 in
theorem cmp_any (s t : T) (w : World) : Calls Try.prog 28 #[.agg #[.int .i64 s.d, .int .i64 s.e, .int .i64 s.a, .int .i64 s.b, .int .i64 s.c], .agg #[.int .i64 t.d, .int .i64 t.e, .int .i64 t.a, .int .i64 t.b, .int .i64 t.c]] w (Gives (.int .i64 (cmpP s t 3)) w) := by
  have N0 := Lib.hid (Two.new w s t)
  have HS := Lib.hid compare_any
  have HO := Lib.hid or_new
  obtain ⟨⟨x0, x1, x2, x3, x4⟩, ⟨y0, y1, y2, y3, y4⟩⟩ := N0.out.cells
  clear x2 x3 x4 y2 y3 y4
  go_enter Try.func28, Try.ntmps28
  go_wp2_with fail
  go_region_held3 (fun w' => w'.cell? ⟨w.heap.size, 0, none⟩ = some (.int .i64 s.d) ∧ w'.cell? ⟨w.heap.size + 1, 0, none⟩ = some (.int .i64 t.d) ∧ w'.cell? ⟨w.heap.size, 1, none⟩ = some (.int .i64 s.e) ∧ w'.cell? ⟨w.heap.size + 1, 1, none⟩ = some (.int .i64 t.e))
    (go_keep)
    (first
      | (go_at_call 36; refine (HS.out _ _ _).mono ?_; rintro e w' ⟨rfl, rfl⟩)
      | (go_at_call 35; refine (HO.out _ _ _ _ (by simp)).mono ?_; rintro e w' ⟨rfl, rfl⟩))
  clear x0 x1 y0 y1
  have N1 := Lib.hid (Two.drew (N0.out.below (below_new _ (.cells #[.int .i64 (sgn s.d t.d), .int .i64 (sgn s.e t.e)] 3))))
  go_wp2_with fail
  go_loopw [5, 6, 19] (fun c _ i wr => ∃ k : Nat, k ≤ 3 ∧ i = .int .i64 k ∧ c = .int .i64 (cmpP s t k) ∧ Hid (Two w wr s t)) (fun _ _ i _ => 3 - (intOf i).toNat)
  case atStart => exact ⟨0, by omega, rfl, rfl, N1⟩
  case round =>
    clear N1
    obtain ⟨k, hk, rfl, rfl, N1⟩ := hrel
    obtain ⟨⟨x0, x1, x2, x3, x4⟩, ⟨y0, y1, y2, y3, y4⟩⟩ := N1.out.cells
    clear x0 x1 y0 y1
    by_cases h3 : k = 3
    · subst h3
      go_wp2
      go_ret
      exact .int rfl N1.out.b
    · obtain rfl | rfl | rfl : k = 0 ∨ k = 1 ∨ k = 2 := by omega
      · go_wp2_with fail
        go_region_held3 (fun w' => w'.cell? ⟨w.heap.size, 2, none⟩ = some (.int .i64 s.a) ∧ w'.cell? ⟨w.heap.size + 1, 2, none⟩ = some (.int .i64 t.a))
          (go_keep)
          (first
            | (go_at_call 36; refine (HS.out _ _ _).mono ?_; rintro e w' ⟨rfl, rfl⟩)
            | (go_at_call 35; refine (HO.out _ _ _ _ (by simp)).mono ?_; rintro e w' ⟨rfl, rfl⟩))
        go_wp2_with fail
        go_roundw
        case rel => exact ⟨1, by omega, rfl, by rw [cmpP]; rfl, Lib.hid (Two.drew (N1.out.below (below_new _ _)))⟩
        case measure => simp [intOf]
      · go_wp2_with fail
        go_region_held3 (fun w' => w'.cell? ⟨w.heap.size, 3, none⟩ = some (.int .i64 s.b) ∧ w'.cell? ⟨w.heap.size + 1, 3, none⟩ = some (.int .i64 t.b))
          (go_keep)
          (first
            | (go_at_call 36; refine (HS.out _ _ _).mono ?_; rintro e w' ⟨rfl, rfl⟩)
            | (go_at_call 35; refine (HO.out _ _ _ _ (by simp)).mono ?_; rintro e w' ⟨rfl, rfl⟩))
        go_wp2_with fail
        go_roundw
        case rel => exact ⟨2, by omega, rfl, by rw [cmpP]; rfl, Lib.hid (Two.drew (N1.out.below (below_new _ _)))⟩
        case measure => simp [intOf]
      · go_wp2_with fail
        go_region_held3 (fun w' => w'.cell? ⟨w.heap.size, 4, none⟩ = some (.int .i64 s.c) ∧ w'.cell? ⟨w.heap.size + 1, 4, none⟩ = some (.int .i64 t.c))
          (go_keep)
          (first
            | (go_at_call 36; refine (HS.out _ _ _).mono ?_; rintro e w' ⟨rfl, rfl⟩)
            | (go_at_call 35; refine (HO.out _ _ _ _ (by simp)).mono ?_; rintro e w' ⟨rfl, rfl⟩))
        go_wp2_with fail
        go_roundw
        case rel => exact ⟨3, by omega, rfl, by rw [cmpP]; rfl, Lib.hid (Two.drew (N1.out.below (below_new _ _)))⟩
        case measure => simp [intOf]
end Go.Proofs.Ytbojefdbkegimaa
