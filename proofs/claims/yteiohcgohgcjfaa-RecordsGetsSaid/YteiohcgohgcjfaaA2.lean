/- Contracts of the Writer's Raw, number, Byte, Short, Word, Long, Out. -/
import Derived.Test.YteiohcgohgcjfaaRows
import Derived.Test.YteiohcgohgcjfaaWords
import Derived.Test.YteiohcgohgcjfaaByts
import Derived.Test.YteiohcgohgcjfaaStrs
import Derived.Test.YteiohcgohgcjfaaFrame
import Derived.Test.YteiohcgohgcjfaaA1
namespace Go.Proofs.Yteiohcgohgcjfaa
open Go.RowKit Go.Proofs.Tail
set_option linter.unusedSimpArgs false
set_option linter.unusedVariables false
/-- What a Writer writes into: its cell, its row. -/
def WS (P : Nat) (v : Value) (k : Nat) : Prop := k = P ∨ v.ownBlock = some k
theorem Wr.lt {w : World} {P : Nat} {v : Value} {xs : List Int} (h : Wr w P v xs) : P < w.heap.size := h.blk.lt
theorem Wr.fr {S : Nat → Prop} {w w' : World} {P : Nat} {v : Value} {xs : List Int} (h : Wr w P v xs) (hf : Fr S w w') (h1 : ¬ S P) (h2 : ∀ k, v.ownBlock = some k → ¬ S k) : Wr w' P v xs := ⟨h.blk.fr hf h1, own_fr h.own hf h2⟩
theorem Wr.below {w w' : World} {P : Nat} {v : Value} {xs : List Int} (h : Wr w P v xs) (hb : Below w.heap.size w w') : Wr w' P v xs := h.fr (Fr.of_below (S := fun _ => False) hb) (fun h => h) (fun _ _ h => h)
theorem Wr.new (w : World) (P : Nat) (hP : w.heap.size = P) : Wr (w.alloc (.cells #[.slice none 0 0] 64)) P (.slice none 0 0) [] := ⟨Blk.new w [.slice none 0 0] _ P hP, World.ownsRow_nil _ _ _ _⟩
def Wrote (P : Nat) (v : Value) (xs : List Int) (w : World) (e : Ending) (w' : World) : Prop :=
  e = .returned (.tuple #[]) ∧ ∃ v', Wr w' P v' xs ∧ Fr (WS P v) w w' ∧ (v'.ownBlock = v.ownBlock ∨ ∃ b, v'.ownBlock = some b ∧ w.heap.size ≤ b)
set_option maxHeartbeats 4000000 in
theorem raw_any (P : Nat) (v : Value) (xs ys : List Int) (A : Option Addr) (n c : Nat) (w : World) (hW : Wr w P v xs) (hR : Byts w A n c ys) (hlim : xs.length + n ≤ 140737488355328) :
    Calls Try.prog 51 #[.pointer (some ⟨P, 0, none⟩), .slice A n c] w (Wrote P v (xs ++ ys) w) := by
  have HW := Lib.hid hW
  have HR := Lib.hid hR
  have c0 : w.cell? ⟨P, 0, none⟩ = some v := hW.blk.cell 0
  have hP := Lib.hid hW.lt
  have hsz : P + 1 ≤ w.heap.size := hW.lt
  clear hW hR
  go_enter Try.func51, Try.ntmps51
  go_wp2_with (at_builtin; (refine own_append_bytes (W := w) rfl (.tmp 10) (.tmp 11) 36 5 rfl Try.underlying36 infoBy (P + 1) v xs A n c ys rfl rfl HW.out.own HR.out hlim hsz ?_); intro v1 w1 hown hgr hat; obtain ⟨A1, k1, rfl, _⟩ := own_bytes hown (by simp only [List.length_append]; have := HR.out.len; omega); have HO := Lib.hid hown; have HG := Lib.hid hgr; have HT := Lib.hid hat; have HB := Lib.hid (HW.out.blk.grown hgr (fun e => by have := own_lt HW.out.own _ e; omega)); have d0 := HB.out.cell 0; have d1 := HB.out.frozen 0; clear c0 hown hgr hat)
  go_end0
  simp only [← List.length_append]
  have HS := HB.out.set 0 (.slice A1 (xs ++ ys).length k1)
  have hne : ∀ k, Value.ownBlock (.slice A1 (xs ++ ys).length k1) = some k → ¬ k = P := fun k hk => by have := own_lt HO.out k hk; omega
  refine ⟨rfl, _, ⟨HS, own_fr HO.out ((Fr.refl (fun k => k = P) _).set (fun _ => rfl) _) hne⟩, ?_, ?_⟩
  · refine ((Fr.refl (WS P v) w).grown HG.out (fun k hk _ => .inr hk)).set (fun _ => .inl rfl) _
  · rcases HT.out with e | e
    · exact .inl e
    · exact .inr ⟨_, e, Nat.le_refl _⟩
end Go.Proofs.Yteiohcgohgcjfaa
