/- Contract of Copy. -/
import Derived.Test.YtebpepjlhanopaaRows
import Derived.Deep.RegionHeld3
import Derived.Shelf.SlMaps.Clone
import Derived.Test.YtebpepjlhanopaaWords
import Derived.Test.YtebpepjlhanopaaByts
import Derived.Test.YtebpepjlhanopaaFrame
import Derived.Test.YtebpepjlhanopaaElems
import Derived.Test.YtebpepjlhanopaaMapOwn
import Derived.Test.YtebpepjlhanopaaLayC
import Derived.Test.YtebpepjlhanopaaS1
import Derived.Test.YtebpepjlhanopaaS2
import Derived.Test.YtebpepjlhanopaaEqs
import Derived.Test.YtebpepjlhanopaaM1
import Derived.Test.YtebpepjlhanopaaM2
namespace Go.Proofs.Ytebpepjlhanopaa
open Go Go.RowKit Go.Proofs.Tail
set_option linter.unusedSimpArgs false
set_option linter.unusedVariables false
theorem mclone_any (b : Nat) (es : Array MapEntry) (clock : Nat) (w : World) (hb : w.heap[b]? = some (.map es clock)) :
    Calls Try.prog 33 #[.map (some b)] w fun e w' => e = .returned (.map (some w.heap.size)) ∧ w' = w.alloc (.map es clock) :=
  AnyW.maps_Clone { Try.cloneR with } b es clock w hb
theorem copy_nil (w : World) : Calls Try.prog 16 #[.pointer none] w (Gives (.pointer none) w) := by
  go_enter Try.func16, Try.ntmps16
  go_wp2
  go_ret
  exact ⟨rfl, Below.refl _ _⟩
set_option maxRecDepth 100000 in
set_option maxHeartbeats 8000000 in
theorem copy_any (P b : Nat) (d : Int) (C : List (T × Int)) (w : World) (h : Cs w P b d C) :
    Calls Try.prog 16 #[.pointer (some ⟨P, 0, none⟩)] w (GivesCs d C w) := by
  obtain ⟨L, ⟨es, clock, hm, he⟩, hcp⟩ := h.mp
  have HC := Lib.hid h
  have p0 : w.drew.cell? ⟨P, 0, none⟩ = some (.int .i64 d) := h.blk.drew.cell 0
  have p1 : w.drew.cell? ⟨P, 1, none⟩ = some (.map (some b)) := h.blk.drew.cell 1
  have hb1 := below_new w.drew (.map es clock)
  have q0 := below_cell hb1 p0
  have q1 := below_cell hb1 p1
  have hb2 := below_new (w.drew.alloc (.map es clock)) (.cells #[.int .i64 d, .map (some w.heap.size)] 54)
  have r0 := below_cell hb2 q0
  have r1 := below_cell hb2 q1
  have HCL := Lib.hid (mclone_any b es clock w.drew hm)
  have HN : Hid (Cs ((w.drew.alloc (.map es clock)).alloc (.cells #[.int .i64 d, .map (some w.heap.size)] 54)) (w.heap.size + 1) w.heap.size d C) := Lib.hid
    ⟨Blk.new _ [.int .i64 d, .map (some w.heap.size)] _ _ (by simp), L, (show Mp eT (w.drew.alloc (.map es clock)) w.heap.size L from ⟨es, clock, heap_alloc_new _ _, he⟩).below hb2, hcp⟩
  have HB : Hid (Below w.heap.size w ((w.drew.alloc (.map es clock)).alloc (.cells #[.int .i64 d, .map (some w.heap.size)] 54))) := Lib.hid (below_alloc (below_alloc (below_drew (Below.refl _ _)) _) _)
  clear h hm hb1 hb2
  go_enter Try.func16, Try.ntmps16
  go_wp2_with fail
  go_region_held3 (fun w' => w'.cell? ⟨P, 0, none⟩ = some (.int .i64 d) ∧ w'.cell? ⟨P, 1, none⟩ = some (.map (some b)))
    (first | exact ⟨p0, p1⟩ | exact ⟨q0, q1⟩ | exact ⟨r0, r1⟩)
    (first | (go_at_call 33; (with_reducible refine HCL.out.mono ?_); rintro e w5 ⟨rfl, rfl⟩))
  all_goals
    go_wp2_with fail
    go_ret
    exact ⟨_, _, rfl, HN.out, by omega, by omega, HB.out⟩
end Go.Proofs.Ytebpepjlhanopaa
