/- plain: a message as the document has it. -/
import Derived.Test.YteiohcgohgcjfaaRows
import Derived.Deep.RegionHeld3
import Derived.IntWalk
import Derived.Test.YteiohcgohgcjfaaWords
import Derived.Test.YteiohcgohgcjfaaByts
import Derived.Test.YteiohcgohgcjfaaStrs
import Derived.Test.YteiohcgohgcjfaaFrame
import Derived.Test.YteiohcgohgcjfaaElems
import Derived.Test.YteiohcgohgcjfaaS1
import Derived.Test.YteiohcgohgcjfaaS2
import Derived.Test.YteiohcgohgcjfaaEqs
import Derived.Test.YteiohcgohgcjfaaD1
import Derived.Test.YteiohcgohgcjfaaD5
import Derived.Test.YteiohcgohgcjfaaE4
import Derived.Test.YteiohcgohgcjfaaE8
import Derived.Test.YteiohcgohgcjfaaE8b
import Derived.Test.YteiohcgohgcjfaaB0
import Derived.Test.YteiohcgohgcjfaaStepOwn
namespace Go.Proofs.Yteiohcgohgcjfaa
open Go Go.RowKit Go.Proofs.Tail
set_option linter.unusedSimpArgs false
set_option linter.unusedVariables false
theorem own_form {w : World} {base n size : Nat} {e : TypeId} {v : Value} {xs : List Value} (h : w.ownsRow base e size v n xs) : ∃ A c, v = .slice A n c := by
  rcases h.2 with ⟨rfl, rfl⟩ | ⟨g, cap, cur, rfl, _⟩
  · exact ⟨_, _, rfl⟩
  · exact ⟨_, _, rfl⟩
theorem take_ucs {U : List Upd} {k : Nat} {u : Upd} (h : U[k]? = some u) : (U.take (k + 1)).flatMap Upd.ucs = (U.take k).flatMap Upd.ucs ++ u.ucs := by
  rw [List.take_add_one, h, List.flatMap_append]
  simp
theorem infoU : (Try.prog.info? 59).map (fun i => (i.zero, i.size, i.bytes)) = some (some (.agg #[.int .i64 0, .bool false, .int .i64 0, .int .i64 0, .int .i64 0, .int .i64 0, .int .i64 0, .int .i64 0]), 8, 64) := by kernel_rfl
theorem ref_cells (W : World) (tmps : Array Value) (g : Nat) (cs : List Value) (hl : cs.length = 12) (hp : tmps.getD 2 undef = .pointer (some ⟨g, 0, none⟩)) (hB : Blk W g cs 34) : (results Try.f11 tmps).run Try.prog W = .ok (.agg cs.toArray) W :=
  results_cell_row rfl tmps W g _ _ _ _ hp hB.h Try.underlying34 rfl (by rw [show (Try.prog.info? 34).map (·.size) = some 12 by kernel_rfl]; simp [hl])
/-- What plain tells: the same message, its updates in a row of its own. -/
def GivesPl (m : Msg) (A : Option Addr) (c : Nat) (w : World) (e : Ending) (w' : World) : Prop := ∃ B d, e = .returned (.agg (m.cs A c B d).toArray) ∧ Mg w' m A c B d ∧ Below w.heap.size w w'
/-- The message without its updates. -/
def pcs (m : Msg) (A : Option Addr) (c : Nat) (v : Value) : List Value := [.int .u8 m.k, .int .i64 m.f, .int .i64 m.t, .int .i64 m.i, .int .i64 m.q, .int .i64 m.s.d, .int .i64 m.s.e, .int .i64 m.s.a, .int .i64 m.s.b, .int .i64 m.s.c, .slice A m.L.length c, v]
def zcs : List Value := [.int .u8 0, .int .i64 0, .int .i64 0, .int .i64 0, .int .i64 0, .int .i64 0, .int .i64 0, .int .i64 0, .int .i64 0, .int .i64 0, .slice none 0 0, .slice none 0 0]
/-- On the way: three blocks, the row. -/
structure Pl (w : World) (m : Msg) (A : Option Addr) (c : Nat) (C : Option Addr) (d : Nat) (j : Nat) (v : Value) (wr : World) : Prop where
  b1 : Blk wr w.heap.size (m.cs A c C d) 28
  b2 : Blk wr (w.heap.size + 1) zcs 34
  b3 : Blk wr (w.heap.size + 1 + 1) (pcs m A c v) 34
  own : wr.ownsRow (w.heap.size + 1 + 1 + 1) 59 8 v j ((m.U.take j).flatMap Upd.ucs)
  b : Below w.heap.size w wr
/-- What the region reads. -/
def Su (B n d b0 o0 b o : Nat) (u : Upd) (W : World) : Prop := W.cell? ⟨B, 11, none⟩ = some (.slice (some ⟨b0, o0, none⟩) n d) ∧ W.cell? ⟨b, o, none⟩ = some (.int .i64 u.n) ∧ W.cell? ⟨b, o + 1, none⟩ = some (.bool u.h) ∧ W.cell? ⟨b, o + 2, none⟩ = some (.int .i64 u.s.d) ∧ W.cell? ⟨b, o + 3, none⟩ = some (.int .i64 u.s.e) ∧
  W.cell? ⟨b, o + 4, none⟩ = some (.int .i64 u.s.a) ∧ W.cell? ⟨b, o + 5, none⟩ = some (.int .i64 u.s.b) ∧ W.cell? ⟨b, o + 6, none⟩ = some (.int .i64 u.s.c) ∧ W.cell? ⟨b, o + 7, none⟩ = some (.int .i64 u.m)
theorem Su.fr {B n d b0 o0 b o : Nat} {u : Upd} {W W' : World} {S : Nat → Prop} (h : Su B n d b0 o0 b o u W) (hf : Fr S W W') (h1 : ¬ S B) (h2 : ¬ S b) : Su B n d b0 o0 b o u W' := by
  obtain ⟨r0, r1, r2, r3, r4, r5, r6, r7, r8⟩ := h
  exact ⟨hf.cell r0 h1, hf.cell r1 h2, hf.cell r2 h2, hf.cell r3 h2, hf.cell r4 h2, hf.cell r5 h2, hf.cell r6 h2, hf.cell r7 h2, hf.cell r8 h2⟩
theorem Su.alloc {B n d b0 o0 b o : Nat} {u : Upd} {W : World} (h : Su B n d b0 o0 b o u W) (x : Obj) : Su B n d b0 o0 b o u (W.alloc x) := h.fr (S := fun _ => False) (Fr.of_below (below_new W x)) (fun h => h) (fun h => h)
theorem Su.drew {B n d b0 o0 b o : Nat} {u : Upd} {W : World} (h : Su B n d b0 o0 b o u W) : Su B n d b0 o0 b o u W.drew := h
theorem Pl.drew {w : World} {m : Msg} {A : Option Addr} {c : Nat} {C : Option Addr} {d j : Nat} {v : Value} {wr : World} (h : Pl w m A c C d j v wr) : Pl w m A c C d j v wr.drew := ⟨h.b1.drew, h.b2.drew, h.b3.drew, own_below h.own ((Below.refl _ wr).drew), h.b.drew⟩
theorem Pl.next {w wr w4 : World} {m : Msg} {A C A4 : Option Addr} {c d k c4 : Nat} {v : Value} {u : Upd} (h : Pl w m A c C d k v wr) (he : m.U[k]? = some u) (hlo : ∀ j, v.ownBlock = some j → w.heap.size + 1 + 1 + 1 ≤ j)
    (how : w4.ownsRow (w.heap.size + 1 + 1 + 1) 59 8 (.slice A4 (k + 1) c4) (k + 1) ((m.U.take k).flatMap Upd.ucs ++ u.ucs)) (hgr : (wr.alloc (.cells u.ucs.toArray 59)).grownBy w4 v.ownBlock) :
    Pl w m A c C d (k + 1) (.slice A4 (k + 1) c4) (w4.setCell ⟨w.heap.size + 1 + 1, 11, none⟩ (.slice A4 (k + 1) c4)) := by
  have hb := below_new wr (.cells u.ucs.toArray 59)
  have hne : ∀ j, j < w.heap.size + 1 + 1 + 1 → v.ownBlock ≠ some j := fun j hj e => by have := hlo j e; omega
  have k1 := (h.b1.then hb).grown hgr (hne _ (by omega))
  have k2 := (h.b2.then hb).grown hgr (hne _ (by omega))
  have k3 := (h.b3.then hb).grown hgr (hne _ (by omega))
  refine ⟨k1.other _ _ (by dsimp only; omega), k2.other _ _ (by dsimp only; omega), ?_, ?_, ?_⟩
  · have := k3.set 11 (.slice A4 (k + 1) c4)
    rw [show (pcs m A c v).set 11 (.slice A4 (k + 1) c4) = pcs m A c (.slice A4 (k + 1) c4) from rfl] at this
    exact this
  · rw [take_ucs he]
    exact own_fr how ((Fr.refl (fun b => b = w.heap.size + 1 + 1) w4).set (p := ⟨w.heap.size + 1 + 1, 11, none⟩) (fun _ => rfl) _) (fun j hj e => by have := own_lt how j hj; omega)
  · refine (below_grown (below_then h.b hb) hgr (fun j hj => by have := hlo j hj; omega)).setCell ?_ _
    show w.heap.size ≤ w.heap.size + 1 + 1
    omega
set_option maxRecDepth 100000 in
set_option maxHeartbeats 16000000 in
theorem plain_any (m : Msg) (A C : Option Addr) (c d : Nat) (w : World) (hm : Mg w m A c C d) (hn : m.U.length ≤ 100000) : Calls Try.prog 11 #[.agg (m.cs A c C d).toArray] w (GivesPl m A c w) := by
  rw [Msg.cs_eq]
  obtain ⟨w1, hw1⟩ : ∃ w1, w1 = w.alloc (.cells (m.cs A c C d).toArray 28) := ⟨_, rfl⟩
  obtain ⟨w2, hw2⟩ : ∃ w2, w2 = w1.alloc (.cells zcs.toArray 34) := ⟨_, rfl⟩
  obtain ⟨w3, hw3⟩ : ∃ w3, w3 = w2.alloc (.cells (pcs m A c (.slice none 0 0)).toArray 34) := ⟨_, rfl⟩
  have s1 : w1.heap.size = w.heap.size + 1 := by rw [hw1]; simp
  have s2 : w2.heap.size = w.heap.size + 1 + 1 := by rw [hw2]; simp [s1]
  have s3 : w3.heap.size = w.heap.size + 1 + 1 + 1 := by rw [hw3]; simp [s2]
  have y1 : Below w.heap.size w w1 := by rw [hw1]; exact below_new _ _
  have y2 : Below w1.heap.size w1 w2 := by rw [hw2]; exact below_new _ _
  have y3 : Below w2.heap.size w2 w3 := by rw [hw3]; exact below_new _ _
  have k1 : Blk w1 w.heap.size (m.cs A c C d) 28 := by rw [hw1]; exact Blk.new w _ _ _ rfl
  have k2 : Blk w2 (w.heap.size + 1) zcs 34 := by rw [hw2]; exact Blk.new w1 _ _ _ s1
  have k3 : Blk w3 (w.heap.size + 1 + 1) (pcs m A c (.slice none 0 0)) 34 := by rw [hw3]; exact Blk.new w2 _ _ _ s2
  have P0 := Lib.hid (show Pl w m A c C d 0 (.slice none 0 0) w3 from ⟨(k1.then y2).then y3, k2.then y3, k3, by rw [List.take_zero]; exact World.ownsRow_nil _ _ _ _, below_then (below_then y1 y2) y3⟩)
  have e1 := hw1.symm
  have e2 := hw2.symm
  rw [Msg.cs_eq] at e1
  have l1 : ∀ o, w1.cell? ⟨w.heap.size, o, none⟩ = (Mb.cs ⟨0, m, A, c, C, d⟩)[o]? := fun o => by rw [k1.cell, Mb.cs, ← Msg.cs_eq]; simp
  have l2 : ∀ o, w2.cell? ⟨w.heap.size, o, none⟩ = (Mb.cs ⟨0, m, A, c, C, d⟩)[o]? := fun o => by rw [(k1.then y2).cell, Mb.cs, ← Msg.cs_eq]; simp
  dsimp only [Mb.cs] at l1 l2
  unfold zcs at e2
  rw [hw3] at P0
  unfold pcs at P0
  have HM := Lib.hid hm
  have HN := Lib.hid hn
  clear s3 y3
  clear hw1 hw2 hw3 y1 y2 k1 k2 k3 hm hn
  go_enter Try.func11, Try.ntmps11
  go_wp2_with fail
  clear l1 l2 e1 e2
  go_loopw [4] (fun i wr => ∃ (j : Nat) (v : Value), j ≤ m.U.length ∧ i = .int .i64 j ∧ Hid (Pl w m A c C d j v wr)) (fun i _ => m.U.length - (intOf i).toNat)
  case atStart => exact ⟨0, _, Nat.zero_le _, rfl, P0⟩
  case round =>
    clear P0
    obtain ⟨k, v, hk, rfl, HP⟩ := hrel
    have l1 : ∀ o, wr.cell? ⟨w.heap.size, o, none⟩ = (Mb.cs ⟨0, m, A, c, C, d⟩)[o]? := fun o => by rw [HP.out.b1.cell, Mb.cs, ← Msg.cs_eq]; simp
    dsimp only [Mb.cs] at l1
    by_cases hlt : k < m.U.length
    · have hd : decide ((k : Int) < m.U.length) = true := decide_eq_true (by omega)
      have hd' : decide (k < m.U.length) = true := decide_eq_true hlt
      have hk0 : (0 : Int) ≤ k := by omega
      have hkn : (k : Int) < m.U.length := by omega
      obtain ⟨b1, o1, u, hC, ex, rx⟩ := HM.out.u.elem hlt
      subst hC
      obtain ⟨z0, z1, z2, z3, z4, z5, z6, z7⟩ := rx.below HP.out.b
      have c11 : wr.cell? ⟨w.heap.size + 1 + 1, 11, none⟩ = some v := HP.out.b3.cell 11
      have f11 : wr.frozen? ⟨w.heap.size + 1 + 1, 11, none⟩ = false := HP.out.b3.frozen 11
      have HNB := Lib.hid (show v.ownBlock ≠ some (w.heap.size + 1 + 1) from fun e => by have := own_lt HP.out.own _ e; omega)
      have HLT := Lib.hid (show w.heap.size + 1 + 1 < wr.heap.size from HP.out.b3.lt)
      have hlim : (k + 1) * 64 ≤ 140737488355328 := by have := HN.out; omega
      have HLIM := Lib.hid hlim
      have HLO := Lib.hid (show ∀ j, v.ownBlock = some j → w.heap.size + 1 + 1 + 1 ≤ j from fun j hj => (own_lt HP.out.own j hj))
      have HBL := Lib.hid (show b1 < w.heap.size from below_lt rx.c0)
      have HE := Lib.hid ex
      clear hlim ex rx
      have hSU : Su w.heap.size m.U.length d b1 o1 b1 (o1 + k * 8) u wr := ⟨by rw [l1]; rfl, z0, z1, z2, z3, z4, z5, z6, z7⟩
      have HOD := Lib.hid (own_below HP.out.own ((Below.refl _ wr).drew))
      go_wp2_with fail
      refine region_start (S := Su w.heap.size m.U.length d b1 o1 b1 (o1 + k * 8) u) 34 #[false, false, false, false, false, false, false, false, false, false, false, false, false, false, false, false, false, false, false, false, false, false, false, false, false, false, false, false, false, false, false, false, false, false] rfl rfl rfl hSU.drew ?_
      have hH := Lib.hid hSU.drew
      refine wpAnyH_take (i := 0) (oi := ⟨_, _, _, _, _, _⟩) (v := ?_) rfl (by kernel_rfl) (by kernel_rfl) (by kernel_rfl) (fun _ _ _ h => h) (Or.inl ⟨by rfl, ?_⟩) hH.out ?_
      rotate_left
      · intro W hS
        obtain ⟨r0, r1, r2, r3, r4, r5, r6, r7, r8⟩ := hS
        go_simp
        try with_reducible rfl
      simp only [Act.put, List.setIfInBounds_toArray, List.set_cons_zero, List.set_cons_succ]
      refine wpAnyH_take (i := 2) (oi := ⟨_, _, _, _, _, _⟩) (v := ?_) rfl (by kernel_rfl) (by kernel_rfl) (by kernel_rfl) (fun _ _ _ h => h) (Or.inl ⟨by rfl, ?_⟩) hH.out ?_
      rotate_left
      · intro W hS
        obtain ⟨r0, r1, r2, r3, r4, r5, r6, r7, r8⟩ := hS
        go_simp
        try with_reducible rfl
      simp only [Act.put, List.setIfInBounds_toArray, List.set_cons_zero, List.set_cons_succ]
      refine wpAnyH_take (i := 3) (oi := ⟨_, _, _, _, _, _⟩) (v := ?_) rfl (by kernel_rfl) (by kernel_rfl) (by kernel_rfl) (fun _ _ _ h => h) (Or.inl ⟨by rfl, ?_⟩) hH.out ?_
      rotate_left
      · intro W hS
        obtain ⟨r0, r1, r2, r3, r4, r5, r6, r7, r8⟩ := hS
        go_simp
        try with_reducible rfl
      simp only [Act.put, List.setIfInBounds_toArray, List.set_cons_zero, List.set_cons_succ]
      refine wpAnyH_take (i := 4) (oi := ⟨_, _, _, _, _, _⟩) (v := ?_) rfl (by kernel_rfl) (by kernel_rfl) (by kernel_rfl) (fun _ _ _ h => h) (Or.inl ⟨by rfl, ?_⟩) hH.out ?_
      rotate_left
      · intro W hS
        obtain ⟨r0, r1, r2, r3, r4, r5, r6, r7, r8⟩ := hS
        go_simp
        try with_reducible rfl
      simp only [Act.put, List.setIfInBounds_toArray, List.set_cons_zero, List.set_cons_succ]
      refine wpAnyH_take (i := 5) (oi := ⟨_, _, _, _, _, _⟩) (v := ?_) rfl (by kernel_rfl) (by kernel_rfl) (by kernel_rfl) (fun _ _ _ h => h) (Or.inl ⟨by rfl, ?_⟩) hH.out ?_
      rotate_left
      · intro W hS
        obtain ⟨r0, r1, r2, r3, r4, r5, r6, r7, r8⟩ := hS
        go_simp
        try with_reducible rfl
      simp only [Act.put, List.setIfInBounds_toArray, List.set_cons_zero, List.set_cons_succ]
      refine wpAnyH_take (i := 6) (oi := ⟨_, _, _, _, _, _⟩) (v := ?_) rfl (by kernel_rfl) (by kernel_rfl) (by kernel_rfl) (fun _ _ _ h => h) (Or.inl ⟨by rfl, ?_⟩) hH.out ?_
      rotate_left
      · intro W hS
        obtain ⟨r0, r1, r2, r3, r4, r5, r6, r7, r8⟩ := hS
        go_simp
        try with_reducible rfl
      simp only [Act.put, List.setIfInBounds_toArray, List.set_cons_zero, List.set_cons_succ]
      refine wpAnyH_take (i := 7) (oi := ⟨_, _, _, _, _, _⟩) (v := ?_) rfl (by kernel_rfl) (by kernel_rfl) (by kernel_rfl) (fun _ _ _ h => h) (Or.inl ⟨by rfl, ?_⟩) hH.out ?_
      rotate_left
      · intro W hS
        obtain ⟨r0, r1, r2, r3, r4, r5, r6, r7, r8⟩ := hS
        go_simp
        try with_reducible rfl
      simp only [Act.put, List.setIfInBounds_toArray, List.set_cons_zero, List.set_cons_succ]
      refine wpAnyH_take (i := 8) (oi := ⟨_, _, _, _, _, _⟩) (v := ?_) rfl (by kernel_rfl) (by kernel_rfl) (by kernel_rfl) (fun _ _ _ h => h) (Or.inl ⟨by rfl, ?_⟩) hH.out ?_
      rotate_left
      · intro W hS
        obtain ⟨r0, r1, r2, r3, r4, r5, r6, r7, r8⟩ := hS
        go_simp
        try with_reducible rfl
      simp only [Act.put, List.setIfInBounds_toArray, List.set_cons_zero, List.set_cons_succ]
      refine wpAnyH_take (i := 9) (oi := ⟨_, _, _, _, _, _⟩) (v := ?_) rfl (by kernel_rfl) (by kernel_rfl) (by kernel_rfl) (fun _ _ _ h => h) (Or.inl ⟨by rfl, ?_⟩) hH.out ?_
      rotate_left
      · intro W hS
        obtain ⟨r0, r1, r2, r3, r4, r5, r6, r7, r8⟩ := hS
        go_simp
        try with_reducible rfl
      simp only [Act.put, List.setIfInBounds_toArray, List.set_cons_zero, List.set_cons_succ]
      refine wpAnyH_take (i := 10) (oi := ⟨_, _, _, _, _, _⟩) (v := ?_) rfl (by kernel_rfl) (by kernel_rfl) (by kernel_rfl) (fun _ _ _ h => h) (Or.inl ⟨by rfl, ?_⟩) hH.out ?_
      rotate_left
      · intro W hS
        obtain ⟨r0, r1, r2, r3, r4, r5, r6, r7, r8⟩ := hS
        go_simp
        try with_reducible rfl
      simp only [Act.put, List.setIfInBounds_toArray, List.set_cons_zero, List.set_cons_succ]
      refine wpAnyH_take (i := 11) (oi := ⟨_, _, _, _, _, _⟩) (v := ?_) rfl (by kernel_rfl) (by kernel_rfl) (by kernel_rfl) (fun _ _ _ h => h) (Or.inl ⟨by rfl, ?_⟩) hH.out ?_
      rotate_left
      · intro W hS
        obtain ⟨r0, r1, r2, r3, r4, r5, r6, r7, r8⟩ := hS
        go_simp
        try with_reducible rfl
      simp only [Act.put, List.setIfInBounds_toArray, List.set_cons_zero, List.set_cons_succ]
      refine wpAnyH_take (i := 12) (oi := ⟨_, _, _, _, _, _⟩) (v := ?_) rfl (by kernel_rfl) (by kernel_rfl) (by kernel_rfl) (fun _ _ _ h => h) (Or.inl ⟨by rfl, ?_⟩) hH.out ?_
      rotate_left
      · intro W hS
        obtain ⟨r0, r1, r2, r3, r4, r5, r6, r7, r8⟩ := hS
        go_simp
        try with_reducible rfl
      simp only [Act.put, List.setIfInBounds_toArray, List.set_cons_zero, List.set_cons_succ]
      refine wpAnyH_take (i := 13) (oi := ⟨_, _, _, _, _, _⟩) (v := ?_) rfl (by kernel_rfl) (by kernel_rfl) (by kernel_rfl) (fun _ _ _ h => h) (Or.inl ⟨by rfl, ?_⟩) hH.out ?_
      rotate_left
      · intro W hS
        obtain ⟨r0, r1, r2, r3, r4, r5, r6, r7, r8⟩ := hS
        go_simp
        try with_reducible rfl
      simp only [Act.put, List.setIfInBounds_toArray, List.set_cons_zero, List.set_cons_succ]
      refine wpAnyH_take (i := 14) (oi := ⟨_, _, _, _, _, _⟩) (v := ?_) rfl (by kernel_rfl) (by kernel_rfl) (by kernel_rfl) (fun _ _ _ h => h) (Or.inl ⟨by rfl, ?_⟩) hH.out ?_
      rotate_left
      · intro W hS
        obtain ⟨r0, r1, r2, r3, r4, r5, r6, r7, r8⟩ := hS
        go_simp
        try with_reducible rfl
      simp only [Act.put, List.setIfInBounds_toArray, List.set_cons_zero, List.set_cons_succ]
      refine wpAnyH_take (i := 15) (oi := ⟨_, _, _, _, _, _⟩) (v := ?_) rfl (by kernel_rfl) (by kernel_rfl) (by kernel_rfl) (fun _ _ _ h => h) (Or.inl ⟨by rfl, ?_⟩) hH.out ?_
      rotate_left
      · intro W hS
        obtain ⟨r0, r1, r2, r3, r4, r5, r6, r7, r8⟩ := hS
        go_simp
        try with_reducible rfl
      simp only [Act.put, List.setIfInBounds_toArray, List.set_cons_zero, List.set_cons_succ]
      refine wpAnyH_take (i := 16) (oi := ⟨_, _, _, _, _, _⟩) (v := ?_) rfl (by kernel_rfl) (by kernel_rfl) (by kernel_rfl) (fun _ _ _ h => h) (Or.inl ⟨by rfl, ?_⟩) hH.out ?_
      rotate_left
      · intro W hS
        obtain ⟨r0, r1, r2, r3, r4, r5, r6, r7, r8⟩ := hS
        go_simp
        try with_reducible rfl
      simp only [Act.put, List.setIfInBounds_toArray, List.set_cons_zero, List.set_cons_succ]
      refine wpAnyH_take (i := 17) (oi := ⟨_, _, _, _, _, _⟩) (v := ?_) rfl (by kernel_rfl) (by kernel_rfl) (by kernel_rfl) (fun _ _ _ h => h) (Or.inl ⟨by rfl, ?_⟩) hH.out ?_
      rotate_left
      · intro W hS
        obtain ⟨r0, r1, r2, r3, r4, r5, r6, r7, r8⟩ := hS
        go_simp
        try with_reducible rfl
      simp only [Act.put, List.setIfInBounds_toArray, List.set_cons_zero, List.set_cons_succ]
      refine wpAnyH_take (i := 18) (oi := ⟨_, _, _, _, _, _⟩) (v := ?_) rfl (by kernel_rfl) (by kernel_rfl) (by kernel_rfl) (fun _ _ _ h => h) (Or.inl ⟨by rfl, ?_⟩) hH.out ?_
      rotate_left
      · intro W hS
        obtain ⟨r0, r1, r2, r3, r4, r5, r6, r7, r8⟩ := hS
        go_simp
        try with_reducible rfl
      simp only [Act.put, List.setIfInBounds_toArray, List.set_cons_zero, List.set_cons_succ]
      refine wpAnyH_take (i := 19) (oi := ⟨_, _, _, _, _, _⟩) (v := ?_) rfl (by kernel_rfl) (by kernel_rfl) (by kernel_rfl) (fun _ _ _ h => h) (Or.inl ⟨by rfl, ?_⟩) hH.out ?_
      rotate_left
      · intro W hS
        obtain ⟨r0, r1, r2, r3, r4, r5, r6, r7, r8⟩ := hS
        go_simp
        try with_reducible rfl
      simp only [Act.put, List.setIfInBounds_toArray, List.set_cons_zero, List.set_cons_succ]
      refine wpAnyH_take (i := 20) (oi := ⟨_, _, _, _, _, _⟩) (v := ?_) rfl (by kernel_rfl) (by kernel_rfl) (by kernel_rfl) (fun _ _ _ h => h) (Or.inl ⟨by rfl, ?_⟩) hH.out ?_
      rotate_left
      · intro W hS
        obtain ⟨r0, r1, r2, r3, r4, r5, r6, r7, r8⟩ := hS
        go_simp
        try with_reducible rfl
      simp only [Act.put, List.setIfInBounds_toArray, List.set_cons_zero, List.set_cons_succ]
      refine wpAnyH_take (i := 21) (oi := ⟨_, _, _, _, _, _⟩) (v := ?_) rfl (by kernel_rfl) (by kernel_rfl) (by kernel_rfl) (fun _ _ _ h => h) (Or.inl ⟨by rfl, ?_⟩) hH.out ?_
      rotate_left
      · intro W hS
        obtain ⟨r0, r1, r2, r3, r4, r5, r6, r7, r8⟩ := hS
        go_simp
        try with_reducible rfl
      simp only [Act.put, List.setIfInBounds_toArray, List.set_cons_zero, List.set_cons_succ]
      refine wpAnyH_take (i := 22) (oi := ⟨_, _, _, _, _, _⟩) (v := ?_) rfl (by kernel_rfl) (by kernel_rfl) (by kernel_rfl) (fun _ _ _ h => h) (Or.inl ⟨by rfl, ?_⟩) hH.out ?_
      rotate_left
      · intro W hS
        obtain ⟨r0, r1, r2, r3, r4, r5, r6, r7, r8⟩ := hS
        go_simp
        try with_reducible rfl
      simp only [Act.put, List.setIfInBounds_toArray, List.set_cons_zero, List.set_cons_succ]
      refine wpAnyH_take (i := 23) (oi := ⟨_, _, _, _, _, _⟩) (v := ?_) rfl (by kernel_rfl) (by kernel_rfl) (by kernel_rfl) (fun _ _ _ h => h) (Or.inl ⟨by rfl, ?_⟩) hH.out ?_
      rotate_left
      · intro W hS
        obtain ⟨r0, r1, r2, r3, r4, r5, r6, r7, r8⟩ := hS
        go_simp
        try with_reducible rfl
      simp only [Act.put, List.setIfInBounds_toArray, List.set_cons_zero, List.set_cons_succ]
      refine wpAnyH_take (i := 24) (oi := ⟨_, _, _, _, _, _⟩) (v := ?_) rfl (by kernel_rfl) (by kernel_rfl) (by kernel_rfl) (fun _ _ _ h => h) (Or.inl ⟨by rfl, ?_⟩) hH.out ?_
      rotate_left
      · intro W hS
        obtain ⟨r0, r1, r2, r3, r4, r5, r6, r7, r8⟩ := hS
        go_simp
        try with_reducible rfl
      simp only [Act.put, List.setIfInBounds_toArray, List.set_cons_zero, List.set_cons_succ]
      refine wpAnyH_take (i := 25) (oi := ⟨_, _, _, _, _, _⟩) (v := ?_) rfl (by kernel_rfl) (by kernel_rfl) (by kernel_rfl) (fun _ _ _ h => h) (Or.inl ⟨by rfl, ?_⟩) hH.out ?_
      rotate_left
      · intro W hS
        obtain ⟨r0, r1, r2, r3, r4, r5, r6, r7, r8⟩ := hS
        go_simp
        try with_reducible rfl
      simp only [Act.put, List.setIfInBounds_toArray, List.set_cons_zero, List.set_cons_succ]
      refine wpAnyH_take (i := 26) (oi := ⟨_, _, _, _, _, _⟩) (v := ?_) rfl (by kernel_rfl) (by kernel_rfl) (by kernel_rfl) (fun _ _ _ h => h) (Or.inl ⟨by rfl, ?_⟩) hH.out ?_
      rotate_left
      · intro W hS
        obtain ⟨r0, r1, r2, r3, r4, r5, r6, r7, r8⟩ := hS
        go_simp
        try with_reducible rfl
      simp only [Act.put, List.setIfInBounds_toArray, List.set_cons_zero, List.set_cons_succ]
      refine wpAnyH_take (i := 27) (oi := ⟨_, _, _, _, _, _⟩) (v := ?_) rfl (by kernel_rfl) (by kernel_rfl) (by kernel_rfl) (fun _ _ _ h => h) (Or.inl ⟨by rfl, ?_⟩) hH.out ?_
      rotate_left
      · intro W hS
        obtain ⟨r0, r1, r2, r3, r4, r5, r6, r7, r8⟩ := hS
        go_simp
        try with_reducible rfl
      simp only [Act.put, List.setIfInBounds_toArray, List.set_cons_zero, List.set_cons_succ]
      refine wpAnyH_take (i := 28) (oi := ⟨_, _, _, _, _, _⟩) (v := ?_) rfl (by kernel_rfl) (by kernel_rfl) (by kernel_rfl) (fun _ _ _ h => h) (Or.inl ⟨by rfl, ?_⟩) hH.out ?_
      rotate_left
      · intro W hS
        obtain ⟨r0, r1, r2, r3, r4, r5, r6, r7, r8⟩ := hS
        go_simp
        try with_reducible rfl
      simp only [Act.put, List.setIfInBounds_toArray, List.set_cons_zero, List.set_cons_succ]
      refine wpAnyH_take (i := 29) (oi := ⟨_, _, _, _, _, _⟩) (v := ?_) rfl (by kernel_rfl) (by kernel_rfl) (by kernel_rfl) (fun _ _ _ h => h) (Or.inl ⟨by rfl, ?_⟩) hH.out ?_
      rotate_left
      · intro W hS
        obtain ⟨r0, r1, r2, r3, r4, r5, r6, r7, r8⟩ := hS
        go_simp
        try with_reducible rfl
      simp only [Act.put, List.setIfInBounds_toArray, List.set_cons_zero, List.set_cons_succ]
      refine wpAnyH_ready (rs := [1, 30]) (by kernel_rfl) (by simp) ?_
      refine AllReadyH.cons (o := ⟨_, _, _, _, _, _⟩) rfl (fun K hK => ?_) (AllReadyH.cons (o := ⟨_, _, _, _, _, _⟩) rfl (fun K hK => ?_) AllReadyH.nil)
      · go_simp
        refine hK.out _ _ hH.out (fun hS => ?_)
        clear hH
        have hH := Lib.hid hS
        clear hS hK K
        simp only [Act.put, List.setIfInBounds_toArray, List.set_cons_zero, List.set_cons_succ]
        refine wpAnyH_ready (rs := [30]) (by kernel_rfl) (by simp) ?_
        refine AllReadyH.cons (o := ⟨_, _, _, _, _, _⟩) rfl (fun K hK => ?_) AllReadyH.nil
        go_simp
        refine hK.out _ _ (hH.out.alloc _) (fun hS => ?_)
        clear hH
        have hH := Lib.hid hS
        clear hS hK K
        simp only [Act.put, List.setIfInBounds_toArray, List.set_cons_zero, List.set_cons_succ]
        refine wpAnyH_ready (rs := [31]) (by kernel_rfl) (by simp) ?_
        refine AllReadyH.cons (o := ⟨_, _, _, _, _, _⟩) rfl (fun K hK => ?_) AllReadyH.nil
        refine step_own_append rfl (.tmp 28) (.tmp 57) 32 59 _ 8 64 rfl Try.underlying32 infoU rfl (by omega) (by omega) (w.heap.size + 1 + 1 + 1) v k ((m.U.take k).flatMap Upd.ucs) _ 1 1 u.ucs rfl rfl (HOD.out.alloc _) rfl (fun _ => ⟨_, rfl, fun j x hj => by rw [add_plain]; exact box_cell wr.drew u.ucs _ j x hj⟩) (by intro x hx; simp only [Upd.ucs, List.mem_cons, List.not_mem_nil, or_false] at hx; rcases hx with rfl | rfl | rfl | rfl | rfl | rfl | rfl | rfl <;> rfl) HLIM.out (by have := HLT.out; simp; omega) ?_
        intro v2 w4 hown hgr hat
        obtain ⟨A4, c4, rfl⟩ := own_form hown
        have c12 : w4.cell? ⟨w.heap.size + 1 + 1, 11, none⟩ = some v := hgr.cell (below_cell (below_new wr.drew _) c11) (fun e => HNB.out e.symm)
        have f12 : w4.frozen? ⟨w.heap.size + 1 + 1, 11, none⟩ = false := (World.frozen?_of_block (hgr.block (w.heap.size + 1 + 1) (Nat.lt_of_lt_of_le HLT.out (below_new wr.drew _).size) (fun e => HNB.out e.symm))).trans ((World.frozen?_of_block ((below_new wr.drew _).block (w.heap.size + 1 + 1) HLT.out)).trans f11)
        have HOW := Lib.hid hown
        have HGR := Lib.hid hgr
        clear hown hgr hat
        refine hK.out _ _ (hH.out.fr (S := fun b => v.ownBlock = some b) ((Fr.refl _ _).grown HGR.out (fun j hj _ => hj)) (fun e => by have := HLO.out _ e; omega) (fun e => by have := HLO.out _ e; have := HBL.out; omega)) (fun hS => ?_)
        clear hH
        have hH := Lib.hid hS
        clear hS hK K
        simp only [Act.put, List.setIfInBounds_toArray, List.set_cons_zero, List.set_cons_succ]
        refine wpAnyH_take (i := 32) (oi := ⟨_, _, _, _, _, _⟩) (v := ?_) rfl (by kernel_rfl) (by kernel_rfl) (by kernel_rfl) (fun _ _ _ h => h) (Or.inl ⟨by rfl, ?_⟩) hH.out ?_
        rotate_left
        · intro W hS
          obtain ⟨r0, r1, r2, r3, r4, r5, r6, r7, r8⟩ := hS
          go_simp
          try with_reducible rfl
        simp only [Act.put, List.setIfInBounds_toArray, List.set_cons_zero, List.set_cons_succ]
        refine wpAnyH_ready (rs := [33]) (by kernel_rfl) (by simp) ?_
        refine AllReadyH.cons (o := ⟨_, _, _, _, _, _⟩) rfl (fun K hK => ?_) AllReadyH.nil
        go_simp
        refine hK.out _ _ (hH.out.fr (S := fun b => b = w.heap.size + 1 + 1) ((Fr.refl (fun b => b = w.heap.size + 1 + 1) w4).set (p := ⟨w.heap.size + 1 + 1, 11, none⟩) (fun _ => rfl) _) (by omega) (by have := HBL.out; omega)) (fun hS => ?_)
        clear hH
        have hH := Lib.hid hS
        clear hS hK K
        simp only [Act.put, List.setIfInBounds_toArray, List.set_cons_zero, List.set_cons_succ]
        refine wpAnyH_done (by kernel_rfl) ?_ _
        clear hH
        have HS2 := Lib.hid (show Pl w m A c (some ⟨b1, o1, none⟩) d (k + 1) (.slice A4 (k + 1) c4) (w4.setCell ⟨w.heap.size + 1 + 1, 11, none⟩ (.slice A4 (k + 1) c4)) from HP.out.drew.next HE.out HLO.out HOW.out HGR.out)
        have HWW := Lib.hid (show wrap64 ((k : Int) + 1) = ((k + 1 : Nat) : Int) by rw [IntWalk.wrap64_in _ ⟨by omega, by have := HN.out; omega⟩]; rfl)
        have HMS := Lib.hid (show m.U.length - (k + 1) < m.U.length - k from Nat.sub_succ_lt_self _ k hlt)
        clear l1 z0 z1 z2 z3 z4 z5 z6 z7 c11 f11 c12 f12 hSU
        go_wp2_with fail
        go_roundw
        case rel => exact ⟨k + 1, _, by omega, by rw [HWW.out], HS2⟩
        case measure =>
          rw [HWW.out]
          exact HMS.out
      · go_simp
        refine hK.out _ _ (hH.out.alloc _) (fun hS => ?_)
        clear hH
        have hH := Lib.hid hS
        clear hS hK K
        simp only [Act.put, List.setIfInBounds_toArray, List.set_cons_zero, List.set_cons_succ]
        have c11' := below_cell (below_new wr (.cells u.ucs.toArray 59)) c11
        unfold Upd.ucs at c11'
        refine wpAnyH_ready (rs := [1]) (by kernel_rfl) (by simp) ?_
        refine AllReadyH.cons (o := ⟨_, _, _, _, _, _⟩) rfl (fun K hK => ?_) AllReadyH.nil
        go_simp
        refine hK.out _ _ hH.out (fun hS => ?_)
        clear hH
        have hH := Lib.hid hS
        clear hS hK K
        simp only [Act.put, List.setIfInBounds_toArray, List.set_cons_zero, List.set_cons_succ]
        clear c11'
        refine wpAnyH_ready (rs := [31]) (by kernel_rfl) (by simp) ?_
        refine AllReadyH.cons (o := ⟨_, _, _, _, _, _⟩) rfl (fun K hK => ?_) AllReadyH.nil
        refine step_own_append rfl (.tmp 28) (.tmp 57) 32 59 _ 8 64 rfl Try.underlying32 infoU rfl (by omega) (by omega) (w.heap.size + 1 + 1 + 1) v k ((m.U.take k).flatMap Upd.ucs) _ 1 1 u.ucs rfl rfl (HOD.out.alloc _) rfl (fun _ => ⟨_, rfl, fun j x hj => by rw [add_plain]; exact box_cell wr.drew u.ucs _ j x hj⟩) (by intro x hx; simp only [Upd.ucs, List.mem_cons, List.not_mem_nil, or_false] at hx; rcases hx with rfl | rfl | rfl | rfl | rfl | rfl | rfl | rfl <;> rfl) HLIM.out (by have := HLT.out; simp; omega) ?_
        intro v2 w4 hown hgr hat
        obtain ⟨A4, c4, rfl⟩ := own_form hown
        have c12 : w4.cell? ⟨w.heap.size + 1 + 1, 11, none⟩ = some v := hgr.cell (below_cell (below_new wr.drew _) c11) (fun e => HNB.out e.symm)
        have f12 : w4.frozen? ⟨w.heap.size + 1 + 1, 11, none⟩ = false := (World.frozen?_of_block (hgr.block (w.heap.size + 1 + 1) (Nat.lt_of_lt_of_le HLT.out (below_new wr.drew _).size) (fun e => HNB.out e.symm))).trans ((World.frozen?_of_block ((below_new wr.drew _).block (w.heap.size + 1 + 1) HLT.out)).trans f11)
        have HOW := Lib.hid hown
        have HGR := Lib.hid hgr
        clear hown hgr hat
        refine hK.out _ _ (hH.out.fr (S := fun b => v.ownBlock = some b) ((Fr.refl _ _).grown HGR.out (fun j hj _ => hj)) (fun e => by have := HLO.out _ e; omega) (fun e => by have := HLO.out _ e; have := HBL.out; omega)) (fun hS => ?_)
        clear hH
        have hH := Lib.hid hS
        clear hS hK K
        simp only [Act.put, List.setIfInBounds_toArray, List.set_cons_zero, List.set_cons_succ]
        refine wpAnyH_take (i := 32) (oi := ⟨_, _, _, _, _, _⟩) (v := ?_) rfl (by kernel_rfl) (by kernel_rfl) (by kernel_rfl) (fun _ _ _ h => h) (Or.inl ⟨by rfl, ?_⟩) hH.out ?_
        rotate_left
        · intro W hS
          obtain ⟨r0, r1, r2, r3, r4, r5, r6, r7, r8⟩ := hS
          go_simp
          try with_reducible rfl
        simp only [Act.put, List.setIfInBounds_toArray, List.set_cons_zero, List.set_cons_succ]
        refine wpAnyH_ready (rs := [33]) (by kernel_rfl) (by simp) ?_
        refine AllReadyH.cons (o := ⟨_, _, _, _, _, _⟩) rfl (fun K hK => ?_) AllReadyH.nil
        go_simp
        refine hK.out _ _ (hH.out.fr (S := fun b => b = w.heap.size + 1 + 1) ((Fr.refl (fun b => b = w.heap.size + 1 + 1) w4).set (p := ⟨w.heap.size + 1 + 1, 11, none⟩) (fun _ => rfl) _) (by omega) (by have := HBL.out; omega)) (fun hS => ?_)
        clear hH
        have hH := Lib.hid hS
        clear hS hK K
        simp only [Act.put, List.setIfInBounds_toArray, List.set_cons_zero, List.set_cons_succ]
        refine wpAnyH_done (by kernel_rfl) ?_ _
        clear hH
        have HS2 := Lib.hid (show Pl w m A c (some ⟨b1, o1, none⟩) d (k + 1) (.slice A4 (k + 1) c4) (w4.setCell ⟨w.heap.size + 1 + 1, 11, none⟩ (.slice A4 (k + 1) c4)) from HP.out.drew.next HE.out HLO.out HOW.out HGR.out)
        have HWW := Lib.hid (show wrap64 ((k : Int) + 1) = ((k + 1 : Nat) : Int) by rw [IntWalk.wrap64_in _ ⟨by omega, by have := HN.out; omega⟩]; rfl)
        have HMS := Lib.hid (show m.U.length - (k + 1) < m.U.length - k from Nat.sub_succ_lt_self _ k hlt)
        clear l1 z0 z1 z2 z3 z4 z5 z6 z7 c11 f11 c12 f12 hSU
        go_wp2_with fail
        go_roundw
        case rel => exact ⟨k + 1, _, by omega, by rw [HWW.out], HS2⟩
        case measure =>
          rw [HWW.out]
          exact HMS.out
    · have hd : decide ((k : Int) < m.U.length) = false := decide_eq_false (by omega)
      have hd' : decide (k < m.U.length) = false := decide_eq_false (by omega)
      obtain rfl : k = m.U.length := by omega
      have hown := HP.out.own
      rw [List.take_length] at hown
      obtain ⟨B, dd, rfl, hu⟩ := own_upds hown (by have := HN.out; omega)
      have c3 : ∀ o, wr.cell? ⟨w.heap.size + 1 + 1, o, none⟩ = (Mb.cs ⟨0, m, A, c, B, dd⟩)[o]? := fun o => by
        rw [HP.out.b3.cell, show pcs m A c (.slice B m.U.length dd) = m.cs A c B dd from rfl, Mb.cs, ← Msg.cs_eq]; simp
      dsimp only [Mb.cs] at c3
      have f2 := fun o => HP.out.b2.frozen o
      have c2 : ∀ o, wr.cell? ⟨w.heap.size + 1, o, none⟩ = (#[.int .u8 0, .int .i64 0, .int .i64 0, .int .i64 0, .int .i64 0, .int .i64 0, .int .i64 0, .int .i64 0, .int .i64 0, .int .i64 0, .slice none 0 0, .slice none 0 0] : Array Value)[o]? := fun o => by
        rw [HP.out.b2.cell]; simp [zcs]
      have HU := Lib.hid hown
      clear hown hu hlt
      go_wp2_with fail
      obtain ⟨hM, hf⟩ := set12 HP.out.b2 (.int .u8 m.k) (.int .i64 m.f) (.int .i64 m.t) (.int .i64 m.i) (.int .i64 m.q) (.int .i64 m.s.d) (.int .i64 m.s.e) (.int .i64 m.s.a) (.int .i64 m.s.b) (.int .i64 m.s.c) (.slice A m.L.length c) (.slice B m.U.length dd)
      have hB2 := HP.out.b.trans (hf.below HP.out.b.size (fun k hk h => by omega))
      have hown2 := own_beyond HU.out hf (fun k hk => by omega)
      obtain ⟨B2, d2, e2, hu2⟩ := own_upds hown2 (by have := HN.out; omega)
      injection e2 with e2 e3 e4
      subst e2; subst e4
      have hl2 := HM.out.l.below RRec.stays hB2
      generalize hgz : sets12 wr (w.heap.size + 1) (.int .u8 m.k) (.int .i64 m.f) (.int .i64 m.t) (.int .i64 m.i) (.int .i64 m.q) (.int .i64 m.s.d) (.int .i64 m.s.e) (.int .i64 m.s.a) (.int .i64 m.s.b) (.int .i64 m.s.c) (.slice A m.L.length c) (.slice B m.U.length dd) = wz at hM hf hB2 hown2 hu2 hl2
      unfold sets12 at hgz
      rw [hgz]
      refine bodyPost_ret (v := .agg (m.cs A c B dd).toArray) ?_ rfl ?_
      · exact ref_cells _ _ (w.heap.size + 1) (m.cs A c B dd) rfl rfl hM
      · exact ⟨B, dd, rfl, ⟨hl2, hu2⟩, hB2⟩
end Go.Proofs.Yteiohcgohgcjfaa
