/- What is deferred: it takes what is thrown, and lays the answer. -/
import Derived.Test.YteiohcgohgcjfaaRows
import Derived.Defers
import Derived.Recover
import Derived.Laws.Pointers
import Derived.IntWalk
import Derived.Test.YteiohcgohgcjfaaWords
import Derived.Test.YteiohcgohgcjfaaByts
import Derived.Test.YteiohcgohgcjfaaStrs
import Derived.Test.YteiohcgohgcjfaaFrame
import Derived.Test.YteiohcgohgcjfaaElems
import Derived.Test.YteiohcgohgcjfaaS1
import Derived.Test.YteiohcgohgcjfaaD1
import Derived.Test.YteiohcgohgcjfaaD5
import Derived.Test.YteiohcgohgcjfaaE1
namespace Go.Proofs.Yteiohcgohgcjfaa
open Go Go.RowKit Go.Proofs.Tail
set_option linter.unusedSimpArgs false
set_option linter.unusedVariables false
def sets12 (w : World) (g : Nat) (v0 v1 v2 v3 v4 v5 v6 v7 v8 v9 v10 v11 : Value) : World :=
  ((((((((((((w.setCell ⟨g, 0, none⟩ v0).setCell ⟨g, 1, none⟩ v1).setCell ⟨g, 2, none⟩ v2).setCell ⟨g, 3, none⟩ v3).setCell ⟨g, 4, none⟩ v4).setCell ⟨g, 5, none⟩ v5).setCell ⟨g, 6, none⟩ v6).setCell ⟨g, 7, none⟩ v7).setCell ⟨g, 8, none⟩ v8).setCell ⟨g, 9, none⟩ v9).setCell ⟨g, 10, none⟩ v10).setCell ⟨g, 11, none⟩ v11)
theorem set12 {w : World} {g : Nat} {t : TypeId} {c0 c1 c2 c3 c4 c5 c6 c7 c8 c9 c10 c11 : Value} (h : Blk w g [c0, c1, c2, c3, c4, c5, c6, c7, c8, c9, c10, c11] t) (v0 v1 v2 v3 v4 v5 v6 v7 v8 v9 v10 v11 : Value) :
    Blk (sets12 w g v0 v1 v2 v3 v4 v5 v6 v7 v8 v9 v10 v11) g [v0, v1, v2, v3, v4, v5, v6, v7, v8, v9, v10, v11] t ∧ Fr (fun b => b = g) w (sets12 w g v0 v1 v2 v3 v4 v5 v6 v7 v8 v9 v10 v11) :=
  ⟨(((((((((((h.set 0 v0).set 1 v1).set 2 v2).set 3 v3).set 4 v4).set 5 v5).set 6 v6).set 7 v7).set 8 v8).set 9 v9).set 10 v10).set 11 v11,
   ((((((((((((Fr.refl (fun b => b = g) w).set (p := ⟨g, 0, none⟩) (fun _ => rfl) v0).set (p := ⟨g, 1, none⟩) (fun _ => rfl) v1).set (p := ⟨g, 2, none⟩) (fun _ => rfl) v2).set (p := ⟨g, 3, none⟩) (fun _ => rfl) v3).set (p := ⟨g, 4, none⟩) (fun _ => rfl) v4).set (p := ⟨g, 5, none⟩) (fun _ => rfl) v5).set (p := ⟨g, 6, none⟩) (fun _ => rfl) v6).set (p := ⟨g, 7, none⟩) (fun _ => rfl) v7).set (p := ⟨g, 8, none⟩) (fun _ => rfl) v8).set (p := ⟨g, 9, none⟩) (fun _ => rfl) v9).set (p := ⟨g, 10, none⟩) (fun _ => rfl) v10).set (p := ⟨g, 11, none⟩) (fun _ => rfl) v11⟩
/-- The message that is none. -/
def mZero : List Value := [.int .u8 0, .int .i64 0, .int .i64 0, .int .i64 0, .int .i64 0, .int .i64 0, .int .i64 0, .int .i64 0, .int .i64 0, .int .i64 0, .slice none 0 0, .slice none 0 0]
/-- Both results' cells. -/
structure Res (w : World) (M Q : Nat) (cs : List Value) (x : Int) : Prop where
  m : Blk w M cs 28
  q : Blk w Q [.int .i64 x] 38
theorem assert_none (w : World) : (Instr.typeAssert (.iface 76 (.agg #[])) 20 76 false).run Try.prog w = .ok (.agg #[]) w := by
  have u20 := Try.underlying20
  have u76 := Try.underlying76
  unfold Instr.typeAssert
  go_simp
theorem catch_idle (p q : Addr) (w : World) :
    CallsD Try.prog 32 #[.pointer (some p), .pointer (some q)] .returning w fun e u' w' => e = .returned (.tuple #[]) ∧ u' = .returning ∧ w' = w := by
  refine callsD_of_wpS Try.func32 rfl fun c₀ cs hu => ?_
  apply wpS_seq
  apply wpS_region
  simp [wpOpsS, go_sem, recoverD, hu, Try.ntmps32, Exit.thenS]
  rw [show (#[.pointer (some p), .pointer (some q)] ++ ((Array.replicate 7 undef).setIfInBounds 1 .nilIface).setIfInBounds 0 .nilIface : Array Value) = #[.pointer (some p), .pointer (some q), .nilIface, .nilIface, undef, undef, undef, undef, undef] from rfl]
  refine wpS_of_wp ?_
  go_wp2_with fail
  cases c₀
  simp_all [bodyPostS, results, Try.results32]
set_option maxHeartbeats 4000000 in
set_option maxRecDepth 100000 in
theorem catch_panicking (M Q : Nat) (hne : Q ≠ M) (c0 c1 c2 c3 c4 c5 c6 c7 c8 c9 c10 c11 : Value) (x : Int) (older : List PanicEntry) (w : World) (hM : Blk w M [c0, c1, c2, c3, c4, c5, c6, c7, c8, c9, c10, c11] 28) (hQ : Blk w Q [.int .i64 x] 38) :
    CallsD Try.prog 32 #[.pointer (some ⟨M, 0, none⟩), .pointer (some ⟨Q, 0, none⟩)] (.panicking ({ v := .iface 76 (.agg #[]), recovered := false } :: older)) w fun e u' w' =>
      e = .returned (.tuple #[]) ∧ u' = .panicking ({ v := .iface 76 (.agg #[]), recovered := true } :: older) ∧ w' = (sets12 w M (.int .u8 0) (.int .i64 0) (.int .i64 0) (.int .i64 0) (.int .i64 0) (.int .i64 0) (.int .i64 0) (.int .i64 0) (.int .i64 0) (.int .i64 0) (.slice none 0 0) (.slice none 0 0)).setCell ⟨Q, 0, none⟩ (.int .i64 210) := by
  refine callsD_of_wpS Try.func32 rfl fun c₀ cs hu => ?_
  apply wpS_seq
  apply wpS_region
  simp [wpOpsS, go_sem, recoverD, hu, Try.ntmps32, Exit.thenS]
  rw [show (#[.pointer (some ⟨M, 0, none⟩), .pointer (some ⟨Q, 0, none⟩)] ++ ((Array.replicate 7 undef).setIfInBounds 1 (.iface 76 (.agg #[]))).setIfInBounds 0 (.iface 76 (.agg #[])) : Array Value) = #[.pointer (some ⟨M, 0, none⟩), .pointer (some ⟨Q, 0, none⟩), .iface 76 (.agg #[]), .iface 76 (.agg #[]), undef, undef, undef, undef, undef] from rfl]
  refine wpS_of_wp ?_
  have m0 := hM.cell 0
  have m1 := hM.cell 1
  have m2 := hM.cell 2
  have m3 := hM.cell 3
  have m4 := hM.cell 4
  have m5 := hM.cell 5
  have m6 := hM.cell 6
  have m7 := hM.cell 7
  have m8 := hM.cell 8
  have m9 := hM.cell 9
  have m10 := hM.cell 10
  have m11 := hM.cell 11
  have fm := fun o => hM.frozen o
  have q0 := hQ.cell 0
  have fq := hQ.frozen 0
  have hA := fun w => assert_none w
  have hne' : ¬ M = Q := fun e => hne e.symm
  clear hM hQ
  go_wp2_with fail
  exact ⟨rfl, _, rfl, .tuple #[], by simp [results, Try.results32], rfl, rfl, rfl⟩
theorem catch_thrown (M Q : Nat) (hne : Q ≠ M) (c0 c1 c2 c3 c4 c5 c6 c7 c8 c9 c10 c11 : Value) (x : Int) (older : List PanicEntry) (w : World) (hR : Res w M Q [c0, c1, c2, c3, c4, c5, c6, c7, c8, c9, c10, c11] x) :
    CallsD Try.prog 32 #[.pointer (some ⟨M, 0, none⟩), .pointer (some ⟨Q, 0, none⟩)] (.panicking ({ v := .iface 76 (.agg #[]), recovered := false } :: older)) w fun e u' w' =>
      e = .returned (.tuple #[]) ∧ u' = .panicking ({ v := .iface 76 (.agg #[]), recovered := true } :: older) ∧ Res w' M Q mZero 210 ∧ Fr (fun b => b = M ∨ b = Q) w w' := by
  refine (catch_panicking M Q hne c0 c1 c2 c3 c4 c5 c6 c7 c8 c9 c10 c11 x older w hR.m hR.q).mono ?_
  rintro e u' w' ⟨rfl, rfl, rfl⟩
  obtain ⟨h1, h2⟩ := set12 hR.m (.int .u8 0) (.int .i64 0) (.int .i64 0) (.int .i64 0) (.int .i64 0) (.int .i64 0) (.int .i64 0) (.int .i64 0) (.int .i64 0) (.int .i64 0) (.slice none 0 0) (.slice none 0 0)
  exact ⟨rfl, rfl, ⟨h1.other _ _ hne, (hR.q.fr h2 hne).set 0 _⟩, (h2.mono (fun _ _ h => .inl h)).set (fun _ => .inr rfl) _⟩
end Go.Proofs.Yteiohcgohgcjfaa
