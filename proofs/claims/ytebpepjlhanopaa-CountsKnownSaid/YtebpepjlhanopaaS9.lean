/- Contract of stamp.Compare. -/
import Derived.Test.YtebpepjlhanopaaRows
import Derived.Deep.RegionHeld3
import Derived.Test.YtebpepjlhanopaaWords
import Derived.Test.YtebpepjlhanopaaS1
import Derived.Test.YtebpepjlhanopaaS2
import Derived.Test.YtebpepjlhanopaaS7
import Derived.Test.YtebpepjlhanopaaS8
import Derived.Test.YtebpepjlhanopaaSortOwn
namespace Go.Proofs.Ytebpepjlhanopaa
open Go Go.RowKit Go.Proofs.Tail Go.Sort
set_option linter.unusedSimpArgs false
set_option linter.unusedVariables false
theorem or_new (x y : Int) (B : Nat) (W : World) (hB : W.heap.size = B) : Calls Try.prog 47 #[.slice (some ⟨B, 0, none⟩) 2 2] (W.alloc (.cells #[.int .i64 x, .int .i64 y] 3)).drew (Tells (.int .i64 (orI x y)) (W.alloc (.cells #[.int .i64 x, .int .i64 y] 3)).drew) := by
  subst hB
  exact or_any x y _ _ (box_cell W [.int .i64 x, .int .i64 y] _ 0 _ rfl) (box_cell W [.int .i64 x, .int .i64 y] _ 1 _ rfl)
/-- Only grown. -/
def Gr (w w' : World) : Prop := ∃ q os, w' = grow (w.drewN q) os
theorem Gr.refl (w : World) : Gr w w := ⟨0, #[], by simp [grow, World.drewN]⟩
theorem Gr.alloc {w w' : World} (h : Gr w w') (o : Obj) : Gr w (w'.alloc o) := by
  obtain ⟨q, os, rfl⟩ := h
  exact ⟨q, os ++ #[o], by rw [alloc_eq_grow, grow_grow]⟩
theorem Gr.drew {w w' : World} (h : Gr w w') : Gr w w'.drew := by
  obtain ⟨q, os, rfl⟩ := h
  exact ⟨q + 1, os, by simp [grow, World.drewN, World.drew]; omega⟩
set_option maxRecDepth 100000 in
set_option maxHeartbeats 8000000 in
theorem cmp_any (s t : T) (w : World) : Calls Try.prog 29 #[.agg #[.int .i64 s.d, .int .i64 s.e, .int .i64 s.a, .int .i64 s.b, .int .i64 s.c], .agg #[.int .i64 t.d, .int .i64 t.e, .int .i64 t.a, .int .i64 t.b, .int .i64 t.c]] w fun e w' => e = .returned (.int .i64 (cmpP s t 3)) ∧ ∃ q os', w' = grow (w.drewN q) os' := by
  have N0 := Lib.hid (And.intro (Two.new w s t) (((Gr.refl w).alloc (.cells #[.int .i64 s.d, .int .i64 s.e, .int .i64 s.a, .int .i64 s.b, .int .i64 s.c] 28)).alloc (.cells #[.int .i64 t.d, .int .i64 t.e, .int .i64 t.a, .int .i64 t.b, .int .i64 t.c] 28)))
  have HS := Lib.hid compare_any
  have HO := Lib.hid or_new
  obtain ⟨⟨x0, x1, x2, x3, x4⟩, ⟨y0, y1, y2, y3, y4⟩⟩ := N0.out.1.cells
  clear x2 x3 x4 y2 y3 y4
  go_enter Try.func29, Try.ntmps29
  go_wp2_with fail
  go_region_held3 (fun w' => w'.cell? ⟨w.heap.size, 0, none⟩ = some (.int .i64 s.d) ∧ w'.cell? ⟨w.heap.size + 1, 0, none⟩ = some (.int .i64 t.d) ∧ w'.cell? ⟨w.heap.size, 1, none⟩ = some (.int .i64 s.e) ∧ w'.cell? ⟨w.heap.size + 1, 1, none⟩ = some (.int .i64 t.e))
    (go_keep)
    (first
      | (go_at_call 48; refine (HS.out _ _ _).mono ?_; rintro e w' ⟨rfl, rfl⟩)
      | (go_at_call 47; refine (HO.out _ _ _ _ (by simp)).mono ?_; rintro e w' ⟨rfl, rfl⟩))
  clear x0 x1 y0 y1
  have N1 := Lib.hid (And.intro (Two.drew (N0.out.1.below (below_new _ (.cells #[.int .i64 (sgn s.d t.d), .int .i64 (sgn s.e t.e)] 3)))) (N0.out.2.alloc (.cells #[.int .i64 (sgn s.d t.d), .int .i64 (sgn s.e t.e)] 3)).drew)
  go_wp2_with fail
  go_loopw [5, 6, 19] (fun c _ i wr => ∃ k : Nat, k ≤ 3 ∧ i = .int .i64 k ∧ c = .int .i64 (cmpP s t k) ∧ Hid (Two w wr s t ∧ Gr w wr)) (fun _ _ i _ => 3 - (intOf i).toNat)
  case atStart => exact ⟨0, by omega, rfl, rfl, N1⟩
  case round =>
    clear N1
    obtain ⟨k, hk, rfl, rfl, N1⟩ := hrel
    obtain ⟨⟨x0, x1, x2, x3, x4⟩, ⟨y0, y1, y2, y3, y4⟩⟩ := N1.out.1.cells
    clear x0 x1 y0 y1
    by_cases h3 : k = 3
    · subst h3
      go_wp2
      go_ret
      exact ⟨rfl, N1.out.2⟩
    · obtain rfl | rfl | rfl : k = 0 ∨ k = 1 ∨ k = 2 := by omega
      · go_wp2_with fail
        go_region_held3 (fun w' => w'.cell? ⟨w.heap.size, 2, none⟩ = some (.int .i64 s.a) ∧ w'.cell? ⟨w.heap.size + 1, 2, none⟩ = some (.int .i64 t.a))
          (go_keep)
          (first
            | (go_at_call 48; refine (HS.out _ _ _).mono ?_; rintro e w' ⟨rfl, rfl⟩)
            | (go_at_call 47; refine (HO.out _ _ _ _ (by simp)).mono ?_; rintro e w' ⟨rfl, rfl⟩))
        go_wp2_with fail
        go_roundw
        case rel => exact ⟨1, by omega, rfl, by rw [cmpP]; rfl, Lib.hid (And.intro (Two.drew (N1.out.1.below (below_new _ _))) (N1.out.2.alloc _).drew)⟩
        case measure => simp [intOf]
      · go_wp2_with fail
        go_region_held3 (fun w' => w'.cell? ⟨w.heap.size, 3, none⟩ = some (.int .i64 s.b) ∧ w'.cell? ⟨w.heap.size + 1, 3, none⟩ = some (.int .i64 t.b))
          (go_keep)
          (first
            | (go_at_call 48; refine (HS.out _ _ _).mono ?_; rintro e w' ⟨rfl, rfl⟩)
            | (go_at_call 47; refine (HO.out _ _ _ _ (by simp)).mono ?_; rintro e w' ⟨rfl, rfl⟩))
        go_wp2_with fail
        go_roundw
        case rel => exact ⟨2, by omega, rfl, by rw [cmpP]; rfl, Lib.hid (And.intro (Two.drew (N1.out.1.below (below_new _ _))) (N1.out.2.alloc _).drew)⟩
        case measure => simp [intOf]
      · go_wp2_with fail
        go_region_held3 (fun w' => w'.cell? ⟨w.heap.size, 4, none⟩ = some (.int .i64 s.c) ∧ w'.cell? ⟨w.heap.size + 1, 4, none⟩ = some (.int .i64 t.c))
          (go_keep)
          (first
            | (go_at_call 48; refine (HS.out _ _ _).mono ?_; rintro e w' ⟨rfl, rfl⟩)
            | (go_at_call 47; refine (HO.out _ _ _ _ (by simp)).mono ?_; rintro e w' ⟨rfl, rfl⟩))
        go_wp2_with fail
        go_roundw
        case rel => exact ⟨3, by omega, rfl, by rw [cmpP]; rfl, Lib.hid (And.intro (Two.drew (N1.out.1.below (below_new _ _))) (N1.out.2.alloc _).drew)⟩
        case measure => simp [intOf]
end Go.Proofs.Ytebpepjlhanopaa
