/- Contracts of Frontier, Copy. -/
import Derived.Test.YtebpepjlhanopaaRows
import Derived.Deep.RegionHeld3
import Derived.Shelf.SlMaps.Clone
import Derived.Test.YtebpepjlhanopaaWords
import Derived.Test.YtebpepjlhanopaaByts
import Derived.Test.YtebpepjlhanopaaFrame
import Derived.Test.YtebpepjlhanopaaElems
import Derived.Test.YtebpepjlhanopaaMapOwn
import Derived.Test.YtebpepjlhanopaaLayC
import Derived.Test.YtebpepjlhanopaaS1
import Derived.Test.YtebpepjlhanopaaS2
import Derived.Test.YtebpepjlhanopaaEqs
import Derived.Test.YtebpepjlhanopaaU1
import Derived.Test.YtebpepjlhanopaaA1
import Derived.Test.YtebpepjlhanopaaA2
import Derived.Test.YtebpepjlhanopaaP1
import Derived.Test.YtebpepjlhanopaaM1
import Derived.Test.YtebpepjlhanopaaM2
import Derived.Test.YtebpepjlhanopaaM6
import Derived.Test.YtebpepjlhanopaaM7
namespace Go.Proofs.Ytebpepjlhanopaa
open Go Go.RowKit Go.Proofs.Tail Go.Sort
set_option linter.unusedSimpArgs false
set_option linter.unusedVariables false
/-- Counts that are not 0, rising. -/
structure Canon (C : List (T × Int)) : Prop where
  srt : SSrt (C.map Prod.fst)
  nz : ∀ p ∈ C, p.2 ≠ 0
theorem ssrt_nodup {l : List T} (h : SSrt l) : l.Nodup := h.imp fun {a b} h e => by subst e; have := (cmp_zero (s := a) (t := a)).2 rfl; unfold cfT at h; omega
theorem cnt_cons (p : T × Int) (C : List (T × Int)) (t : T) : cnt (p :: C) t = if p.1 = t then p.2 else cnt C t := by
  unfold cnt
  rw [List.find?_cons]
  by_cases h : p.1 = t
  · simp [h]
  · simp [h]
theorem cnt_out {C : List (T × Int)} {t : T} (h : t ∉ C.map Prod.fst) : cnt C t = 0 := by
  induction C with
  | nil => rfl
  | cons p C ih =>
    rw [List.map_cons, List.mem_cons, not_or] at h
    rw [cnt_cons, if_neg (fun e => h.1 e.symm), ih h.2]
theorem cnt_mem {C : List (T × Int)} (hn : (C.map Prod.fst).Nodup) {t : T} {n : Int} (h : (t, n) ∈ C) : cnt C t = n := by
  induction C with
  | nil => cases h
  | cons p C ih =>
    rw [List.map_cons, List.nodup_cons] at hn
    rw [cnt_cons]
    rcases List.mem_cons.1 h with rfl | h
    · simp
    · rw [if_neg (fun e => hn.1 (by rw [e]; exact List.mem_map.2 ⟨_, h, rfl⟩)), ih hn.2 h]
theorem Canon.mem {C : List (T × Int)} (h : Canon C) (t : T) : t ∈ C.map Prod.fst ↔ cnt C t ≠ 0 := by
  constructor
  · intro hm
    obtain ⟨p, hp, rfl⟩ := List.mem_map.1 hm
    rw [cnt_mem (ssrt_nodup h.srt) (t := p.1) (n := p.2) hp]
    exact h.nz p hp
  · intro hc
    exact Classical.byContradiction fun hm => hc (cnt_out hm)
theorem Cpl.keys {L : List (T × Value)} {C : List (T × Int)} (h : Cpl L C) (hn : (L.map Prod.fst).Nodup) (hC : Canon C) : (L.map Prod.fst).Perm (C.map Prod.fst) := by
  refine (List.perm_ext_iff_of_nodup hn (ssrt_nodup hC.srt)).2 fun t => ?_
  rw [hC.mem]
  have h1 := h t
  have h2 := lk_none (L := L) (a := t)
  constructor
  · intro hm hc
    rw [hc, if_pos rfl] at h1
    exact h2.1 h1 hm
  · intro hc
    rw [if_neg hc] at h1
    exact Classical.byContradiction fun hm => by rw [h2.2 hm] at h1; cases h1
theorem sortT_ssrt {l : List T} (h : SSrt l) : sortT l = l := by
  refine List.Perm.eq_of_pairwise (fun a b _ _ h1 h2 => ?_) (sortT_sorted l) (h.imp fun {a b} h => leT_iff.2 (by unfold cfT; unfold cfT at h; omega)) (sortT_perm l)
  have h3 := leT_iff.1 h1
  have h4 := leT_iff.1 h2
  have h := cmp_anti a b 3
  unfold cfT at h3 h4
  exact cmp_zero.1 (by omega)
theorem Cpl.sorted {L : List (T × Value)} {C : List (T × Int)} (h : Cpl L C) (hn : (L.map Prod.fst).Nodup) (hC : Canon C) : sortT (L.map Prod.fst) = C.map Prod.fst := by
  rw [sortT_of_perm (h.keys hn hC), sortT_ssrt hC.srt]
theorem Cpl.len {L : List (T × Value)} {C : List (T × Int)} (h : Cpl L C) (hn : (L.map Prod.fst).Nodup) (hC : Canon C) : L.length = C.length := by
  have := (h.keys hn hC).length_eq
  simpa using this
theorem times_any (P b : Nat) (d : Int) (C : List (T × Int)) (w : World) (h : Cs w P b d C) (hC : Canon C) (hlim : C.length ≤ 1000000) :
    Calls Try.prog 12 #[.pointer (some ⟨P, 0, none⟩)] w (GivesTms (C.map Prod.fst) w) := by
  obtain ⟨L, h1, h2⟩ := h.mp
  have := times_map P b d L w h.blk h1 (by rw [h2.len h1.nd hC]; exact hlim)
  rw [h2.sorted h1.nd hC] at this
  exact this
set_option maxHeartbeats 4000000 in
theorem pos_any (B P b : Nat) (d : Int) (C : List (T × Int)) (t : T) (w : World) (hB : Blk w B [.pointer (some ⟨P, 0, none⟩)] 23) (hC : Cs w P b d C) :
    Calls Try.prog 31 #[.agg #[.int .i64 t.d, .int .i64 t.e, .int .i64 t.a, .int .i64 t.b, .int .i64 t.c], .pointer (some ⟨B, 0, none⟩)] w (Gives (.bool (decide (cnt C t ≤ 0))) w) := by
  have HB := Lib.hid (below_new w (.cells #[.int .i64 t.d, .int .i64 t.e, .int .i64 t.a, .int .i64 t.b, .int .i64 t.c] 28))
  have hC1 := hC.below (below_new w (.cells #[.int .i64 t.d, .int .i64 t.e, .int .i64 t.a, .int .i64 t.b, .int .i64 t.c] 28))
  have b0 := fun p : After (w.alloc (.cells #[.int .i64 t.d, .int .i64 t.e, .int .i64 t.a, .int .i64 t.b, .int .i64 t.c] 28)) => (((hB.then (below_new w (.cells #[.int .i64 t.d, .int .i64 t.e, .int .i64 t.a, .int .i64 t.b, .int .i64 t.c] 28))).then p.below).cell 0)
  have p1 := fun p : After (w.alloc (.cells #[.int .i64 t.d, .int .i64 t.e, .int .i64 t.a, .int .i64 t.b, .int .i64 t.c] 28)) => ((hC1.below p.below).blk.cell 1)
  have x0 := Bx.new w t _ rfl
  have y0 := fun p : After (w.alloc (.cells #[.int .i64 t.d, .int .i64 t.e, .int .i64 t.a, .int .i64 t.b, .int .i64 t.c] 28)) => (x0.below p.below).cells.1
  have y1 := fun p : After (w.alloc (.cells #[.int .i64 t.d, .int .i64 t.e, .int .i64 t.a, .int .i64 t.b, .int .i64 t.c] 28)) => (x0.below p.below).cells.2.1
  have y2 := fun p : After (w.alloc (.cells #[.int .i64 t.d, .int .i64 t.e, .int .i64 t.a, .int .i64 t.b, .int .i64 t.c] 28)) => (x0.below p.below).cells.2.2.1
  have y3 := fun p : After (w.alloc (.cells #[.int .i64 t.d, .int .i64 t.e, .int .i64 t.a, .int .i64 t.b, .int .i64 t.c] 28)) => (x0.below p.below).cells.2.2.2.1
  have y4 := fun p : After (w.alloc (.cells #[.int .i64 t.d, .int .i64 t.e, .int .i64 t.a, .int .i64 t.b, .int .i64 t.c] 28)) => (x0.below p.below).cells.2.2.2.2
  have lk := fun p : After (w.alloc (.cells #[.int .i64 t.d, .int .i64 t.e, .int .i64 t.a, .int .i64 t.b, .int .i64 t.c] 28)) => (hC1.below p.below).look t
  clear hC hC1 x0 hB
  go_enter Try.func31, Try.ntmps31
  go_wp2_with fail
  refine quiet_after (by kernel_rfl) (by kernel_rfl) ?_
  repeat (first | go_big_quiet_step (fail) | quiet_step (fail))
  refine wpQuiet_nil ?_
  intro wz hw'
  obtain ⟨p, rfl⟩ := hw'
  obtain ⟨w5, hbq⟩ := p
  dsimp only
  have HB5 := Lib.hid (below_then HB.out hbq)
  clear y0 y1 y2 y3 y4 p1 lk hbq b0
  go_wp2_with fail
  go_ret
  exact .bool rfl HB5.out
theorem enters_pos : ∀ args W, (callFunc 31 args).run Try.prog W = .ok (.enter 31 args) W := enters_of Try.func31 (by kernel_rfl) rfl
/-- The times with more than none. -/
def posC (C : List (T × Int)) : List T := (C.filter fun p => decide (0 < p.2)).map Prod.fst
theorem pos_filter {C : List (T × Int)} (hn : (C.map Prod.fst).Nodup) : (C.map Prod.fst).filter (fun x => !decide (cnt C x ≤ 0)) = posC C := by
  unfold posC
  rw [List.filter_map]
  congr 1
  apply List.filter_congr
  intro p hp
  simp only [Function.comp]
  rw [cnt_mem hn (t := p.1) (n := p.2) hp]
  by_cases h : p.2 ≤ 0
  · simp [h]
  · simp [h]; omega
/-- The frontier of counts. -/
def frontC (C : List (T × Int)) : List T := (ofT (posC C)).getD []
set_option maxHeartbeats 8000000 in
theorem front_any (P b : Nat) (d : Int) (C : List (T × Int)) (w : World) (h : Cs w P b d C) (hC : Canon C) (hlim : C.length ≤ 1000000) :
    Calls Try.prog 15 #[.pointer (some ⟨P, 0, none⟩)] w (GivesTms (frontC C) w) := by
  have hb0 := below_new w (.cells #[.pointer (some ⟨P, 0, none⟩)] 23)
  have HB := Lib.hid hb0
  have HX := Lib.hid (Blk.new w [.pointer (some ⟨P, 0, none⟩)] 23 _ rfl)
  have HC := Lib.hid (h.below hb0)
  have HT := Lib.hid (times_any P b d C _ (h.below hb0) hC hlim)
  have HN := Lib.hid (pos_filter (ssrt_nodup hC.srt))
  have HL := Lib.hid hlim
  have HPL := Lib.hid (show (posC C).length ≤ 1000000 by unfold posC; rw [List.length_map]; exact Nat.le_trans (List.length_filter_le _ _) hlim)
  clear h hC hlim hb0
  go_enter Try.func15, Try.ntmps15
  go_wp2_with fail
  refine HT.out.mono ?_
  rintro e w1 ⟨v, rfl, hrow, hb1⟩
  have HD := Lib.hid (delete_any _ v 31 (.pointer (some ⟨w.heap.size, 0, none⟩)) (fun x => decide (cnt C x ≤ 0)) _ w1 hrow (by rw [List.length_map]; exact HL.out) enters_pos (fun x W hf => pos_any w.heap.size P b d C x W
    ((HX.out.then hb1).fr hf (fun e => by have := own_lt hrow _ e; simp at this; omega)) ((HC.out.below hb1).fr hf (fun e => by have := own_lt hrow _ e; have := HC.out.lt.1; omega) (fun e => by have := own_lt hrow _ e; have := HC.out.lt.2; omega))))
  have HO1 := Lib.hid hrow
  have HB1 := Lib.hid (below_then HB.out hb1)
  have HS1 := Lib.hid (below_then HB.out hb1).size
  have hmf : ∀ (fn : Fn) (first cap : Array Value) (w : World), (Instr.makeFunc fn first cap).run Try.prog w = .ok (.func fn first cap) w := fun _ _ _ _ => rfl
  clear hrow hb1 HT HX HC
  go_wp2_with fail
  refine HD.out.mono ?_
  rintro e w2 ⟨v2, rfl, hrow2, hf2⟩
  rw [HN.out] at hrow2
  obtain ⟨A, c, rfl, hr⟩ := own_tms hrow2 (by have := HPL.out; omega)
  have HOF := Lib.hid (of_any A _ c (posC C) w2 hr (by have := HPL.out; omega))
  have HB2 := Lib.hid (show Below w.heap.size w w2 from ⟨hf2.os.trans HB1.out.os, hf2.tape.trans HB1.out.tape, hf2.output.trans HB1.out.output, Nat.le_trans HB1.out.size hf2.size, fun k hk => by
    refine (hf2.block k (Nat.lt_of_lt_of_le hk HB1.out.size) fun hc => ?_).trans (HB1.out.block k hk)
    have := own_lt HO1.out k hc
    simp at this
    omega⟩)
  clear hrow2 hf2 hr HO1 HB1 HD
  go_wp2_with fail
  refine HOF.out.mono ?_
  rintro e w3 ⟨v3, rfl, hrow3, hb3⟩
  have HO3 := Lib.hid hrow3
  have HB3 := Lib.hid (below_then HB2.out hb3)
  have HS := Lib.hid HB2.out.size
  clear hrow3 hb3 HOF HB2
  go_wp2_with fail
  go_ret
  exact ⟨_, rfl, own_base HO3.out HS.out, HB3.out⟩
theorem mclone_any (b : Nat) (es : Array MapEntry) (clock : Nat) (w : World) (hb : w.heap[b]? = some (.map es clock)) :
    Calls Try.prog 33 #[.map (some b)] w fun e w' => e = .returned (.map (some w.heap.size)) ∧ w' = w.alloc (.map es clock) :=
  AnyW.maps_Clone { Try.cloneR with } b es clock w hb
theorem copy_nil (w : World) : Calls Try.prog 16 #[.pointer none] w (Gives (.pointer none) w) := by
  go_enter Try.func16, Try.ntmps16
  go_wp2
  go_ret
  exact ⟨rfl, Below.refl _ _⟩
set_option maxRecDepth 100000 in
set_option maxHeartbeats 8000000 in
theorem copy_any (P b : Nat) (d : Int) (C : List (T × Int)) (w : World) (h : Cs w P b d C) :
    Calls Try.prog 16 #[.pointer (some ⟨P, 0, none⟩)] w (GivesCs d C w) := by
  obtain ⟨L, ⟨es, clock, hm, he⟩, hcp⟩ := h.mp
  have HC := Lib.hid h
  have p0 : w.drew.cell? ⟨P, 0, none⟩ = some (.int .i64 d) := h.blk.drew.cell 0
  have p1 : w.drew.cell? ⟨P, 1, none⟩ = some (.map (some b)) := h.blk.drew.cell 1
  have hb1 := below_new w.drew (.map es clock)
  have q0 := below_cell hb1 p0
  have q1 := below_cell hb1 p1
  have hb2 := below_new (w.drew.alloc (.map es clock)) (.cells #[.int .i64 d, .map (some w.heap.size)] 54)
  have r0 := below_cell hb2 q0
  have r1 := below_cell hb2 q1
  have HCL := Lib.hid (mclone_any b es clock w.drew hm)
  have HN : Hid (Cs ((w.drew.alloc (.map es clock)).alloc (.cells #[.int .i64 d, .map (some w.heap.size)] 54)) (w.heap.size + 1) w.heap.size d C) := Lib.hid
    ⟨Blk.new _ [.int .i64 d, .map (some w.heap.size)] _ _ (by simp), L, (show Mp eT (w.drew.alloc (.map es clock)) w.heap.size L from ⟨es, clock, heap_alloc_new _ _, he⟩).below hb2, hcp⟩
  have HB : Hid (Below w.heap.size w ((w.drew.alloc (.map es clock)).alloc (.cells #[.int .i64 d, .map (some w.heap.size)] 54))) := Lib.hid (below_alloc (below_alloc (below_drew (Below.refl _ _)) _) _)
  clear h hm hb1 hb2
  go_enter Try.func16, Try.ntmps16
  go_wp2_with fail
  go_region_held3 (fun w' => w'.cell? ⟨P, 0, none⟩ = some (.int .i64 d) ∧ w'.cell? ⟨P, 1, none⟩ = some (.map (some b)))
    (first | exact ⟨p0, p1⟩ | exact ⟨q0, q1⟩ | exact ⟨r0, r1⟩)
    (first | (go_at_call 33; (with_reducible refine HCL.out.mono ?_); rintro e w5 ⟨rfl, rfl⟩))
  all_goals
    go_wp2_with fail
    go_ret
    exact ⟨_, _, rfl, HN.out, by omega, by omega, HB.out⟩
end Go.Proofs.Ytebpepjlhanopaa
