/-
  No cell of these rows narrows 'for every input' (looked for: loops, veiled, ifaces, maps, wideKeys, modest, calm, conditions, laid).
  DERIVED. THE GIVEN ROWS OF THIS SEAT. 6 by the template 'for every input the law returns true; each argument reads behind the call as it read before'; 0 by the template 'total and deterministic' (their statements: YtebpepjlhanopaaTotals.lean).
  GIVEN WITH THE SEED: the statements are not yours to turn. If you find one false, say at which input.
  Laid BY PROGRAM, IN A SANDBOX (cutbox-rows.mjs): the forced cells as the released guide's own fill.sh prints them over the translation cf38a2bd16adb9ca… (all of the seat's roots in one cut). By AI agents, Wed Nov 11 2026. No macro, syntax, notation, axiom, sorry.
-/
import Derived.Test.YtebpepjlhanopaaChecked
import GoSem.Claim
import GoSem.ClaimJoined
import GoSem.ClaimMapViews
import Derived.JoinedTies
import Derived.KernelRfl
namespace Go.Proofs.Ytebpepjlhanopaa
/- THE CELL 'sum', in the pinned program and in every row, IS THE sha256 OF THE DUMP (.gsa) THAT YtebpepjlhanopaaProg.lean LOADS. Nothing in Lean hashes anything: it is a label: what it is worth is what the hold of that sum in a sandbox is worth. -/
noncomputable def Try.pinned : Pinned := { name := "ytebpepjlhanopaa", sum := "cf38a2bd16adb9ca33614a5449797be7aa4ee672c78872e45a6a603d0f44bb63", checked := Try.checked }
namespace Rows
def none {H : Type} : Left H := { results := [], args := [] }

/-- 'tailracelaw07.CountsOrder': WHATEVER THE INPUT: true; the input reads as it did. -/
def countsOrderSpec : ChangeSpec := { name := "countsOrder", fn := fun _ => fun
  | [d1, d2, d3] => { results := [.lit (.bool true)], args := [d1, d2, d3] }
  | _ => none }
def countsOrderRow : OpenClaim := { program := "ytebpepjlhanopaa", sum := "cf38a2bd16adb9ca33614a5449797be7aa4ee672c78872e45a6a603d0f44bb63", func := "tailrace/tailracelaw07.CountsOrder", spec := "countsOrder", unfollowed := true, recurses := true, plainKeys := false, apart := false }
def CountsOrderSaid : Prop := countsOrderRow.holds Try.pinned (OpenSpec.ofChange countsOrderSpec)

/-- ITS FALSE NEIGHBOUR: 'it returns false'. Refute it at one input. -/
def countsOrderWrong : ChangeSpec := { name := "countsOrder", fn := fun _ => fun
  | [d1, d2, d3] => { results := [.lit (.bool false)], args := [d1, d2, d3] }
  | _ => none }
def CountsOrderWrongFalsely : Prop := countsOrderRow.holds Try.pinned (OpenSpec.ofChange countsOrderWrong)

/-- 'tailracelaw07.CountsUndone': WHATEVER THE INPUT: true; the input reads as it did. -/
def countsUndoneSpec : ChangeSpec := { name := "countsUndone", fn := fun _ => fun
  | [d1, d2, d3] => { results := [.lit (.bool true)], args := [d1, d2, d3] }
  | _ => none }
def countsUndoneRow : OpenClaim := { program := "ytebpepjlhanopaa", sum := "cf38a2bd16adb9ca33614a5449797be7aa4ee672c78872e45a6a603d0f44bb63", func := "tailrace/tailracelaw07.CountsUndone", spec := "countsUndone", unfollowed := true, recurses := true, plainKeys := false, apart := false }
def CountsUndoneSaid : Prop := countsUndoneRow.holds Try.pinned (OpenSpec.ofChange countsUndoneSpec)

/-- ITS FALSE NEIGHBOUR: 'it returns false'. Refute it at one input. -/
def countsUndoneWrong : ChangeSpec := { name := "countsUndone", fn := fun _ => fun
  | [d1, d2, d3] => { results := [.lit (.bool false)], args := [d1, d2, d3] }
  | _ => none }
def CountsUndoneWrongFalsely : Prop := countsUndoneRow.holds Try.pinned (OpenSpec.ofChange countsUndoneWrong)

/-- 'tailracelaw07.CountsPlays': WHATEVER THE INPUT: true; the input reads as it did. -/
def countsPlaysSpec : ChangeSpec := { name := "countsPlays", fn := fun _ => fun
  | [d1, d2, d3] => { results := [.lit (.bool true)], args := [d1, d2, d3] }
  | _ => none }
def countsPlaysRow : OpenClaim := { program := "ytebpepjlhanopaa", sum := "cf38a2bd16adb9ca33614a5449797be7aa4ee672c78872e45a6a603d0f44bb63", func := "tailrace/tailracelaw07.CountsPlays", spec := "countsPlays", inPlace := ["maps.clone"], unfollowed := true, recurses := true, plainKeys := false, apart := false }
def CountsPlaysSaid : Prop := countsPlaysRow.holds Try.pinned (OpenSpec.ofChange countsPlaysSpec)

/-- ITS FALSE NEIGHBOUR: 'it returns false'. Refute it at one input. -/
def countsPlaysWrong : ChangeSpec := { name := "countsPlays", fn := fun _ => fun
  | [d1, d2, d3] => { results := [.lit (.bool false)], args := [d1, d2, d3] }
  | _ => none }
def CountsPlaysWrongFalsely : Prop := countsPlaysRow.holds Try.pinned (OpenSpec.ofChange countsPlaysWrong)

/-- 'tailracelaw07.CountsRises': WHATEVER THE INPUT: true; the input reads as it did. -/
def countsRisesSpec : ChangeSpec := { name := "countsRises", fn := fun _ => fun
  | [d1, d2, d3] => { results := [.lit (.bool true)], args := [d1, d2, d3] }
  | _ => none }
def countsRisesRow : OpenClaim := { program := "ytebpepjlhanopaa", sum := "cf38a2bd16adb9ca33614a5449797be7aa4ee672c78872e45a6a603d0f44bb63", func := "tailrace/tailracelaw07.CountsRises", spec := "countsRises", unfollowed := true, recurses := true, plainKeys := false, apart := false }
def CountsRisesSaid : Prop := countsRisesRow.holds Try.pinned (OpenSpec.ofChange countsRisesSpec)

/-- ITS FALSE NEIGHBOUR: 'it returns false'. Refute it at one input. -/
def countsRisesWrong : ChangeSpec := { name := "countsRises", fn := fun _ => fun
  | [d1, d2, d3] => { results := [.lit (.bool false)], args := [d1, d2, d3] }
  | _ => none }
def CountsRisesWrongFalsely : Prop := countsRisesRow.holds Try.pinned (OpenSpec.ofChange countsRisesWrong)

/-- 'tailracelaw07.CountsKnown': WHATEVER THE INPUT: true; the input reads as it did. -/
def countsKnownSpec : ChangeSpec := { name := "countsKnown", fn := fun _ => fun
  | [] => { results := [.lit (.bool true)], args := [] }
  | _ => none }
def countsKnownRow : OpenClaim := { program := "ytebpepjlhanopaa", sum := "cf38a2bd16adb9ca33614a5449797be7aa4ee672c78872e45a6a603d0f44bb63", func := "tailrace/tailracelaw07.CountsKnown", spec := "countsKnown", inPlace := ["maps.clone"], unfollowed := true, recurses := true, plainKeys := false, apart := false }
def CountsKnownSaid : Prop := countsKnownRow.holds Try.pinned (OpenSpec.ofChange countsKnownSpec)

/-- ITS FALSE NEIGHBOUR: 'it returns false'. Refute it at one input. -/
def countsKnownWrong : ChangeSpec := { name := "countsKnown", fn := fun _ => fun
  | [] => { results := [.lit (.bool false)], args := [] }
  | _ => none }
def CountsKnownWrongFalsely : Prop := countsKnownRow.holds Try.pinned (OpenSpec.ofChange countsKnownWrong)

/-- 'tailracelaw07.CountsTwo': WHATEVER THE INPUT: true; the input reads as it did. -/
def countsTwoSpec : ChangeSpec := { name := "countsTwo", fn := fun _ => fun
  | [d1, d2, d3] => { results := [.lit (.bool true)], args := [d1, d2, d3] }
  | _ => none }
def countsTwoRow : OpenClaim := { program := "ytebpepjlhanopaa", sum := "cf38a2bd16adb9ca33614a5449797be7aa4ee672c78872e45a6a603d0f44bb63", func := "tailrace/tailracelaw07.CountsTwo", spec := "countsTwo", unfollowed := true, recurses := true, plainKeys := false, apart := false }
def CountsTwoSaid : Prop := countsTwoRow.holds Try.pinned (OpenSpec.ofChange countsTwoSpec)

/-- ITS FALSE NEIGHBOUR: 'it returns false'. Refute it at one input. -/
def countsTwoWrong : ChangeSpec := { name := "countsTwo", fn := fun _ => fun
  | [d1, d2, d3] => { results := [.lit (.bool false)], args := [d1, d2, d3] }
  | _ => none }
def CountsTwoWrongFalsely : Prop := countsTwoRow.holds Try.pinned (OpenSpec.ofChange countsTwoWrong)

/- THE SECOND FORM. 'bulk': how many values and letters a reading holds, each counted each time it is reached (what is shared counts as often as it is met; a slice's spare places count too). A statement '..UptoSaid' is the law's where the arguments, and the package variables that the reading takes, are together of bulk at most 1048576: NARROWER than '..Said'. Prove '..Said' where nothing that the law and all that it calls make is longer than what came in: it says more and counts as full. Else prove '..UptoSaid'. A law counts once. -/
mutual
def uptoBulk {H : Type} : DataW H → Nat
  | .lit (.string bytes) => bytes.length + 1
  | .lit _ => 1
  | .nil => 1
  | .ptr d => uptoBulk d + 1
  | .slice elems spare => uptoBulkAll elems + uptoBulkAll spare + 1
  | .agg parts => uptoBulkAll parts + 1
  | .iface _ d => uptoBulk d + 1
  | .map entries => uptoBulkEntries entries + 1
  | .held _ => 1
def uptoBulkAll {H : Type} : List (DataW H) → Nat
  | [] => 0
  | d :: r => uptoBulk d + uptoBulkAll r
def uptoBulkEntries {H : Type} : List (Lit × DataW H) → Nat
  | [] => 0
  | x :: r => uptoBulkEntry x + uptoBulkEntries r
def uptoBulkEntry {H : Type} : Lit × DataW H → Nat
  | (.string bytes, d) => bytes.length + uptoBulk d + 1
  | (_, d) => uptoBulk d + 1
 end
def uptoSmall : (H : Type) → List (DataW H) → Bool := fun _ ds => decide (uptoBulkAll ds ≤ 1048576)
def OpenSpec.upto (s : _root_.Go.ChangeSpec) : _root_.Go.OpenSpec := { _root_.Go.OpenSpec.ofChange s with cond := some uptoSmall }

/-- 'tailracelaw07.CountsOrder', WHERE WHAT IT READS IS OF BULK AT MOST 1048576: true; the input reads as it did. -/
def countsOrderUptoRow : OpenClaim := { program := "ytebpepjlhanopaa", sum := "cf38a2bd16adb9ca33614a5449797be7aa4ee672c78872e45a6a603d0f44bb63", func := "tailrace/tailracelaw07.CountsOrder", spec := "countsOrder", unfollowed := true, recurses := true, plainKeys := false, apart := false, narrowed := true }
def CountsOrderUptoSaid : Prop := countsOrderUptoRow.holds Try.pinned (OpenSpec.upto countsOrderSpec)

/-- 'tailracelaw07.CountsUndone', WHERE WHAT IT READS IS OF BULK AT MOST 1048576: true; the input reads as it did. -/
def countsUndoneUptoRow : OpenClaim := { program := "ytebpepjlhanopaa", sum := "cf38a2bd16adb9ca33614a5449797be7aa4ee672c78872e45a6a603d0f44bb63", func := "tailrace/tailracelaw07.CountsUndone", spec := "countsUndone", unfollowed := true, recurses := true, plainKeys := false, apart := false, narrowed := true }
def CountsUndoneUptoSaid : Prop := countsUndoneUptoRow.holds Try.pinned (OpenSpec.upto countsUndoneSpec)

/-- 'tailracelaw07.CountsPlays', WHERE WHAT IT READS IS OF BULK AT MOST 1048576: true; the input reads as it did. -/
def countsPlaysUptoRow : OpenClaim := { program := "ytebpepjlhanopaa", sum := "cf38a2bd16adb9ca33614a5449797be7aa4ee672c78872e45a6a603d0f44bb63", func := "tailrace/tailracelaw07.CountsPlays", spec := "countsPlays", inPlace := ["maps.clone"], unfollowed := true, recurses := true, plainKeys := false, apart := false, narrowed := true }
def CountsPlaysUptoSaid : Prop := countsPlaysUptoRow.holds Try.pinned (OpenSpec.upto countsPlaysSpec)

/-- 'tailracelaw07.CountsRises', WHERE WHAT IT READS IS OF BULK AT MOST 1048576: true; the input reads as it did. -/
def countsRisesUptoRow : OpenClaim := { program := "ytebpepjlhanopaa", sum := "cf38a2bd16adb9ca33614a5449797be7aa4ee672c78872e45a6a603d0f44bb63", func := "tailrace/tailracelaw07.CountsRises", spec := "countsRises", unfollowed := true, recurses := true, plainKeys := false, apart := false, narrowed := true }
def CountsRisesUptoSaid : Prop := countsRisesUptoRow.holds Try.pinned (OpenSpec.upto countsRisesSpec)

/-- 'tailracelaw07.CountsKnown', WHERE WHAT IT READS IS OF BULK AT MOST 1048576: true; the input reads as it did. -/
def countsKnownUptoRow : OpenClaim := { program := "ytebpepjlhanopaa", sum := "cf38a2bd16adb9ca33614a5449797be7aa4ee672c78872e45a6a603d0f44bb63", func := "tailrace/tailracelaw07.CountsKnown", spec := "countsKnown", inPlace := ["maps.clone"], unfollowed := true, recurses := true, plainKeys := false, apart := false, narrowed := true }
def CountsKnownUptoSaid : Prop := countsKnownUptoRow.holds Try.pinned (OpenSpec.upto countsKnownSpec)

/-- 'tailracelaw07.CountsTwo', WHERE WHAT IT READS IS OF BULK AT MOST 1048576: true; the input reads as it did. -/
def countsTwoUptoRow : OpenClaim := { program := "ytebpepjlhanopaa", sum := "cf38a2bd16adb9ca33614a5449797be7aa4ee672c78872e45a6a603d0f44bb63", func := "tailrace/tailracelaw07.CountsTwo", spec := "countsTwo", unfollowed := true, recurses := true, plainKeys := false, apart := false, narrowed := true }
def CountsTwoUptoSaid : Prop := countsTwoUptoRow.holds Try.pinned (OpenSpec.upto countsTwoSpec)

end Rows
end Go.Proofs.Ytebpepjlhanopaa
