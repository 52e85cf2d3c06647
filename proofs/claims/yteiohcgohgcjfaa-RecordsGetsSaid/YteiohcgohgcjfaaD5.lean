/- Messages; contracts of Same, may. -/
import Derived.Test.YteiohcgohgcjfaaRows
import Derived.IntWalk
import Derived.Test.YteiohcgohgcjfaaWords
import Derived.Test.YteiohcgohgcjfaaByts
import Derived.Test.YteiohcgohgcjfaaFrame
import Derived.Test.YteiohcgohgcjfaaElems
import Derived.Test.YteiohcgohgcjfaaS1
import Derived.Test.YteiohcgohgcjfaaS2
import Derived.Test.YteiohcgohgcjfaaEqs
import Derived.Test.YteiohcgohgcjfaaD1
import Derived.Test.YteiohcgohgcjfaaD2
import Derived.Test.YteiohcgohgcjfaaD3
import Derived.Test.YteiohcgohgcjfaaD4
namespace Go.Proofs.Yteiohcgohgcjfaa
open Go Go.RowKit Go.Proofs.Tail
set_option linter.unusedSimpArgs false
set_option linter.unusedVariables false
attribute [local go_sem high] eq_stamp
/-- A message. -/
structure Msg where
  k : Int
  f : Int
  t : Int
  i : Int
  q : Int
  s : T
  L : List Rc
  U : List Upd
/-- A message's cells, its rows lying at A and B. -/
def Msg.cs (m : Msg) (A : Option Addr) (c : Nat) (B : Option Addr) (d : Nat) : List Value := [.int .u8 m.k, .int .i64 m.f, .int .i64 m.t, .int .i64 m.i, .int .i64 m.q, .int .i64 m.s.d, .int .i64 m.s.e, .int .i64 m.s.a, .int .i64 m.s.b, .int .i64 m.s.c, .slice A m.L.length c, .slice B m.U.length d]
structure Mg (w : World) (m : Msg) (A : Option Addr) (c : Nat) (B : Option Addr) (d : Nat) : Prop where
  l : Recs w A m.L.length c m.L
  u : Upds w B m.U.length d m.U
theorem Mg.below {w w' : World} {m : Msg} {A : Option Addr} {c : Nat} {B : Option Addr} {d : Nat} (h : Mg w m A c B d) (hb : Below w.heap.size w w') : Mg w' m A c B d := ⟨h.l.below RRec.stays hb, h.u.below RUpd.stays hb⟩
def sameB (a b : Msg) : Bool := decide (a.L = b.L) && (decide (a.U = b.U) && (a.k == b.k && (a.f == b.f && (a.t == b.t && (a.i == b.i && (a.q == b.q && a.s.eqB b.s))))))
theorem sameB_iff {a b : Msg} : sameB a b = true ↔ a = b := by
  obtain ⟨k, f, t, i, q, s, L, U⟩ := a
  obtain ⟨k', f', t', i', q', s', L', U'⟩ := b
  unfold sameB
  simp only [Bool.and_eq_true, decide_eq_true_eq, beq_iff_eq, T.eqB_iff, Msg.mk.injEq]
  constructor
  · rintro ⟨h1, h2, h3, h4, h5, h6, h7, h8⟩; exact ⟨h3, h4, h5, h6, h7, h8, h1, h2⟩
  · rintro ⟨h3, h4, h5, h6, h7, h8, h1, h2⟩; exact ⟨h1, h2, h3, h4, h5, h6, h7, h8⟩
set_option maxRecDepth 100000 in
set_option maxHeartbeats 16000000 in
theorem same_any (a b : Msg) (A1 B1 A2 B2 : Option Addr) (c1 d1 c2 d2 : Nat) (w : World) (ha : Mg w a A1 c1 B1 d1) (hb : Mg w b A2 c2 B2 d2) :
    Calls Try.prog 17 #[.agg (a.cs A1 c1 B1 d1).toArray, .agg (b.cs A2 c2 B2 d2).toArray] w (Gives (.bool (sameB a b)) w) := by
  obtain ⟨w1, hw1⟩ : ∃ w1, w1 = w.alloc (.cells (a.cs A1 c1 B1 d1).toArray 28) := ⟨_, rfl⟩
  obtain ⟨w2, hw2⟩ : ∃ w2, w2 = w1.alloc (.cells (b.cs A2 c2 B2 d2).toArray 28) := ⟨_, rfl⟩
  have hb1 : Below w.heap.size w w1 := by rw [hw1]; exact below_new w _
  have hb2 : Below w1.heap.size w1 w2 := by rw [hw2]; exact below_new w1 _
  have hx1 : Blk w1 w.heap.size (a.cs A1 c1 B1 d1) 28 := by rw [hw1]; exact Blk.new w _ _ _ rfl
  have hx2 : Blk w2 w1.heap.size (b.cs A2 c2 B2 d2) 28 := by rw [hw2]; exact Blk.new w1 _ _ _ rfl
  have HX1 := Lib.hid (hx1.then hb2)
  have HX2 := Lib.hid hx2
  have HA := Lib.hid ((ha.below hb1).below hb2)
  have HB := Lib.hid ((hb.below hb1).below hb2)
  have HBB := Lib.hid (below_then hb1 hb2)
  have e1 := hw1.symm
  have e2 := hw2.symm
  have HE1 := Lib.hid (fun p : After w2 => eqrecs_any A1 A2 _ _ c1 c2 a.L b.L p.val (HA.out.l.below RRec.stays p.below) (HB.out.l.below RRec.stays p.below))
  have HE2 := Lib.hid (fun p : After w2 => equpds_any B1 B2 _ _ d1 d2 a.U b.U p.val (HA.out.u.below RUpd.stays p.below) (HB.out.u.below RUpd.stays p.below))
  have p6 : ∀ p : After w2, p.val.cell? ⟨w.heap.size, 10, none⟩ = some (.slice A1 a.L.length c1) := fun p => (HX1.out.then p.below).cell 10
  have p7 : ∀ p : After w2, p.val.cell? ⟨w.heap.size, 11, none⟩ = some (.slice B1 a.U.length d1) := fun p => (HX1.out.then p.below).cell 11
  have q6 : ∀ p : After w2, p.val.cell? ⟨w1.heap.size, 10, none⟩ = some (.slice A2 b.L.length c2) := fun p => (HX2.out.then p.below).cell 10
  have q7 : ∀ p : After w2, p.val.cell? ⟨w1.heap.size, 11, none⟩ = some (.slice B2 b.U.length d2) := fun p => (HX2.out.then p.below).cell 11
  unfold Msg.cs at e1 e2
  clear ha hb hb1 hb2 hx1 hx2 hw1 hw2
  unfold Msg.cs
  go_enter Try.func17, Try.ntmps17
  go_wp2_with fail
  clear e1 e2
  refine quiet_after (by kernel_rfl) (by kernel_rfl) ?_
  repeat (first
    | go_big_quiet_step ((first
      | (go_at_call 42; with_reducible exact calls_after (HE1.out _))
      | (go_at_call 43; with_reducible exact calls_after (HE2.out _))))
    | quiet_step ((first
      | (go_at_call 42; with_reducible exact calls_after (HE1.out _))
      | (go_at_call 43; with_reducible exact calls_after (HE2.out _)))))
  refine wpQuiet_nil ?_
  intro wz hw'
  obtain ⟨p, rfl⟩ := hw'
  obtain ⟨w5, hbq⟩ := p
  dsimp only
  have HB5 := Lib.hid (below_then HBB.out hbq)
  have a0 : w5.cell? ⟨w.heap.size, 0, none⟩ = some (.int .u8 a.k) := (HX1.out.then hbq).cell 0
  have a1 : w5.cell? ⟨w.heap.size, 1, none⟩ = some (.int .i64 a.f) := (HX1.out.then hbq).cell 1
  have a2 : w5.cell? ⟨w.heap.size, 2, none⟩ = some (.int .i64 a.t) := (HX1.out.then hbq).cell 2
  have a3 : w5.cell? ⟨w.heap.size, 3, none⟩ = some (.int .i64 a.i) := (HX1.out.then hbq).cell 3
  have a4 : w5.cell? ⟨w.heap.size, 4, none⟩ = some (.int .i64 a.q) := (HX1.out.then hbq).cell 4
  have a5 : w5.cell? ⟨w.heap.size, 5, none⟩ = some (.int .i64 a.s.d) := (HX1.out.then hbq).cell 5
  have a6 : w5.cell? ⟨w.heap.size, 6, none⟩ = some (.int .i64 a.s.e) := (HX1.out.then hbq).cell 6
  have a7 : w5.cell? ⟨w.heap.size, 7, none⟩ = some (.int .i64 a.s.a) := (HX1.out.then hbq).cell 7
  have a8 : w5.cell? ⟨w.heap.size, 8, none⟩ = some (.int .i64 a.s.b) := (HX1.out.then hbq).cell 8
  have a9 : w5.cell? ⟨w.heap.size, 9, none⟩ = some (.int .i64 a.s.c) := (HX1.out.then hbq).cell 9
  have a10 : w5.cell? ⟨w.heap.size, 10, none⟩ = some (.slice A1 a.L.length c1) := (HX1.out.then hbq).cell 10
  have a11 : w5.cell? ⟨w.heap.size, 11, none⟩ = some (.slice B1 a.U.length d1) := (HX1.out.then hbq).cell 11
  have b0 : w5.cell? ⟨w1.heap.size, 0, none⟩ = some (.int .u8 b.k) := (HX2.out.then hbq).cell 0
  have b1 : w5.cell? ⟨w1.heap.size, 1, none⟩ = some (.int .i64 b.f) := (HX2.out.then hbq).cell 1
  have b2 : w5.cell? ⟨w1.heap.size, 2, none⟩ = some (.int .i64 b.t) := (HX2.out.then hbq).cell 2
  have b3 : w5.cell? ⟨w1.heap.size, 3, none⟩ = some (.int .i64 b.i) := (HX2.out.then hbq).cell 3
  have b4 : w5.cell? ⟨w1.heap.size, 4, none⟩ = some (.int .i64 b.q) := (HX2.out.then hbq).cell 4
  have b5 : w5.cell? ⟨w1.heap.size, 5, none⟩ = some (.int .i64 b.s.d) := (HX2.out.then hbq).cell 5
  have b6 : w5.cell? ⟨w1.heap.size, 6, none⟩ = some (.int .i64 b.s.e) := (HX2.out.then hbq).cell 6
  have b7 : w5.cell? ⟨w1.heap.size, 7, none⟩ = some (.int .i64 b.s.a) := (HX2.out.then hbq).cell 7
  have b8 : w5.cell? ⟨w1.heap.size, 8, none⟩ = some (.int .i64 b.s.b) := (HX2.out.then hbq).cell 8
  have b9 : w5.cell? ⟨w1.heap.size, 9, none⟩ = some (.int .i64 b.s.c) := (HX2.out.then hbq).cell 9
  have b10 : w5.cell? ⟨w1.heap.size, 10, none⟩ = some (.slice A2 b.L.length c2) := (HX2.out.then hbq).cell 10
  have b11 : w5.cell? ⟨w1.heap.size, 11, none⟩ = some (.slice B2 b.U.length d2) := (HX2.out.then hbq).cell 11
  clear hbq HE1 HE2 p6 p7 q6 q7 HX1 HX2 HA HB HBB
  cases h1 : decide (a.L = b.L) with
  | false =>
    have HQ := Lib.hid (show sameB a b = false by unfold sameB; rw [h1]; rfl)
    clear h1
    go_wp2_with fail
    go_ret
    exact .bool HQ.out.symm HB5.out
  | true =>
    cases h2 : decide (a.U = b.U) with
    | false =>
      have HQ := Lib.hid (show sameB a b = false by unfold sameB; rw [h1]; rw [h2]; rfl)
      clear h1
      clear h2
      go_wp2_with fail
      go_ret
      exact .bool HQ.out.symm HB5.out
    | true =>
      cases h3 : a.k == b.k with
      | false =>
        have HQ := Lib.hid (show sameB a b = false by unfold sameB; rw [h1]; rw [h2]; rw [h3]; rfl)
        clear h1
        clear h2
        go_wp2_with fail
        go_ret
        exact .bool HQ.out.symm HB5.out
      | true =>
        cases h4 : a.f == b.f with
        | false =>
          have HQ := Lib.hid (show sameB a b = false by unfold sameB; rw [h1]; rw [h2]; rw [h3]; rw [h4]; rfl)
          clear h1
          clear h2
          go_wp2_with fail
          go_ret
          exact .bool HQ.out.symm HB5.out
        | true =>
          cases h5 : a.t == b.t with
          | false =>
            have HQ := Lib.hid (show sameB a b = false by unfold sameB; rw [h1]; rw [h2]; rw [h3]; rw [h4]; rw [h5]; rfl)
            clear h1
            clear h2
            go_wp2_with fail
            go_ret
            exact .bool HQ.out.symm HB5.out
          | true =>
            cases h6 : a.i == b.i with
            | false =>
              have HQ := Lib.hid (show sameB a b = false by unfold sameB; rw [h1]; rw [h2]; rw [h3]; rw [h4]; rw [h5]; rw [h6]; rfl)
              clear h1
              clear h2
              go_wp2_with fail
              go_ret
              exact .bool HQ.out.symm HB5.out
            | true =>
              cases h7 : a.q == b.q with
              | false =>
                have HQ := Lib.hid (show sameB a b = false by unfold sameB; rw [h1]; rw [h2]; rw [h3]; rw [h4]; rw [h5]; rw [h6]; rw [h7]; rfl)
                clear h1
                clear h2
                go_wp2_with fail
                go_ret
                exact .bool HQ.out.symm HB5.out
              | true =>
                cases h8 : T.eqB ⟨a.s.d, a.s.e, a.s.a, a.s.b, a.s.c⟩ ⟨b.s.d, b.s.e, b.s.a, b.s.b, b.s.c⟩ with
                | false =>
                  have HQ := Lib.hid (show sameB a b = false by unfold sameB; rw [h1]; rw [h2]; rw [h3]; rw [h4]; rw [h5]; rw [h6]; rw [h7]; exact h8)
                  clear h1
                  clear h2
                  go_wp2_with fail
                  go_ret
                  exact .bool HQ.out.symm HB5.out
                | true =>
                  have HQ := Lib.hid (show sameB a b = true by unfold sameB; rw [h1]; rw [h2]; rw [h3]; rw [h4]; rw [h5]; rw [h6]; rw [h7]; exact h8)
                  clear h1
                  clear h2
                  go_wp2_with fail
                  go_ret
                  exact .bool HQ.out.symm HB5.out
end Go.Proofs.Yteiohcgohgcjfaa
