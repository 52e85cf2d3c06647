/-
  No cell of these rows narrows 'for every input' (looked for: loops, veiled, ifaces, maps, wideKeys, modest, calm, conditions, laid).
  DERIVED. THE GIVEN ROWS OF THIS SEAT. 5 by the template 'for every input the law returns true; each argument reads behind the call as it read before'; 0 by the template 'total and deterministic' (their statements: YtmlfnejmagjjpaaTotals.lean).
  GIVEN WITH THE SEED: the statements are not yours to turn. If you find one false, say at which input.
  Laid BY PROGRAM, IN A SANDBOX (cutbox-rows.mjs): the forced cells as the released guide's own fill.sh prints them over the translation 46384dab26cfa995… (all of the seat's roots in one cut). By AI agents, Wed Nov 11 2026. No macro, syntax, notation, axiom, sorry.
-/
import Derived.Test.YtmlfnejmagjjpaaChecked
import GoSem.Claim
import GoSem.ClaimJoined
import GoSem.ClaimMapViews
import Derived.JoinedTies
import Derived.KernelRfl
namespace Go.Proofs.Ytmlfnejmagjjpaa
/- THE CELL 'sum', in the pinned program and in every row, IS THE sha256 OF THE DUMP (.gsa) THAT YtmlfnejmagjjpaaProg.lean LOADS. Nothing in Lean hashes anything: it is a label: what it is worth is what the hold of that sum in a sandbox is worth. -/
noncomputable def Try.pinned : Pinned := { name := "ytmlfnejmagjjpaa", sum := "46384dab26cfa995487b2c34f41645fec6e1d3808edd8e63892a59b40cc3ba57", checked := Try.checked }
namespace Rows
def none {H : Type} : Left H := { results := [], args := [] }

/-- 'tailracelaw19.FixedSolve': WHATEVER THE INPUT: true; the input reads as it did. -/
def fixedSolveSpec : ChangeSpec := { name := "fixedSolve", fn := fun _ => fun
  | [d1, d2] => { results := [.lit (.bool true)], args := [d1, d2] }
  | _ => none }
def fixedSolveRow : OpenClaim := { program := "ytmlfnejmagjjpaa", sum := "46384dab26cfa995487b2c34f41645fec6e1d3808edd8e63892a59b40cc3ba57", func := "tailrace/tailracelaw19.FixedSolve", spec := "fixedSolve", unfollowed := true, recurses := true, apart := false }
def FixedSolveSaid : Prop := fixedSolveRow.holds Try.pinned (OpenSpec.ofChange fixedSolveSpec)

/-- ITS FALSE NEIGHBOUR: 'it returns false'. Refute it at one input. -/
def fixedSolveWrong : ChangeSpec := { name := "fixedSolve", fn := fun _ => fun
  | [d1, d2] => { results := [.lit (.bool false)], args := [d1, d2] }
  | _ => none }
def FixedSolveWrongFalsely : Prop := fixedSolveRow.holds Try.pinned (OpenSpec.ofChange fixedSolveWrong)

/-- 'tailracelaw19.FixedGreatest': WHATEVER THE INPUT: true; the input reads as it did. -/
def fixedGreatestSpec : ChangeSpec := { name := "fixedGreatest", fn := fun _ => fun
  | [d1, d2, d3, d4] => { results := [.lit (.bool true)], args := [d1, d2, d3, d4] }
  | _ => none }
def fixedGreatestRow : OpenClaim := { program := "ytmlfnejmagjjpaa", sum := "46384dab26cfa995487b2c34f41645fec6e1d3808edd8e63892a59b40cc3ba57", func := "tailrace/tailracelaw19.FixedGreatest", spec := "fixedGreatest", unfollowed := true, recurses := true, apart := false }
def FixedGreatestSaid : Prop := fixedGreatestRow.holds Try.pinned (OpenSpec.ofChange fixedGreatestSpec)

/-- ITS FALSE NEIGHBOUR: 'it returns false'. Refute it at one input. -/
def fixedGreatestWrong : ChangeSpec := { name := "fixedGreatest", fn := fun _ => fun
  | [d1, d2, d3, d4] => { results := [.lit (.bool false)], args := [d1, d2, d3, d4] }
  | _ => none }
def FixedGreatestWrongFalsely : Prop := fixedGreatestRow.holds Try.pinned (OpenSpec.ofChange fixedGreatestWrong)

/-- 'tailracelaw19.FixedJoin': WHATEVER THE INPUT: true; the input reads as it did. -/
def fixedJoinSpec : ChangeSpec := { name := "fixedJoin", fn := fun _ => fun
  | [d1, d2, d3] => { results := [.lit (.bool true)], args := [d1, d2, d3] }
  | _ => none }
def fixedJoinRow : OpenClaim := { program := "ytmlfnejmagjjpaa", sum := "46384dab26cfa995487b2c34f41645fec6e1d3808edd8e63892a59b40cc3ba57", func := "tailrace/tailracelaw19.FixedJoin", spec := "fixedJoin", unfollowed := true, recurses := true, apart := false }
def FixedJoinSaid : Prop := fixedJoinRow.holds Try.pinned (OpenSpec.ofChange fixedJoinSpec)

/-- ITS FALSE NEIGHBOUR: 'it returns false'. Refute it at one input. -/
def fixedJoinWrong : ChangeSpec := { name := "fixedJoin", fn := fun _ => fun
  | [d1, d2, d3] => { results := [.lit (.bool false)], args := [d1, d2, d3] }
  | _ => none }
def FixedJoinWrongFalsely : Prop := fixedJoinRow.holds Try.pinned (OpenSpec.ofChange fixedJoinWrong)

/-- 'tailracelaw19.FixedRows': WHATEVER THE INPUT: true; the input reads as it did. -/
def fixedRowsSpec : ChangeSpec := { name := "fixedRows", fn := fun _ => fun
  | [d1, d2, d3] => { results := [.lit (.bool true)], args := [d1, d2, d3] }
  | _ => none }
def fixedRowsRow : OpenClaim := { program := "ytmlfnejmagjjpaa", sum := "46384dab26cfa995487b2c34f41645fec6e1d3808edd8e63892a59b40cc3ba57", func := "tailrace/tailracelaw19.FixedRows", spec := "fixedRows", unfollowed := true, recurses := true, apart := false }
def FixedRowsSaid : Prop := fixedRowsRow.holds Try.pinned (OpenSpec.ofChange fixedRowsSpec)

/-- ITS FALSE NEIGHBOUR: 'it returns false'. Refute it at one input. -/
def fixedRowsWrong : ChangeSpec := { name := "fixedRows", fn := fun _ => fun
  | [d1, d2, d3] => { results := [.lit (.bool false)], args := [d1, d2, d3] }
  | _ => none }
def FixedRowsWrongFalsely : Prop := fixedRowsRow.holds Try.pinned (OpenSpec.ofChange fixedRowsWrong)

/-- 'tailracelaw19.FixedStays': WHATEVER THE INPUT: true; the input reads as it did. -/
def fixedStaysSpec : ChangeSpec := { name := "fixedStays", fn := fun _ => fun
  | [d1, d2] => { results := [.lit (.bool true)], args := [d1, d2] }
  | _ => none }
def fixedStaysRow : OpenClaim := { program := "ytmlfnejmagjjpaa", sum := "46384dab26cfa995487b2c34f41645fec6e1d3808edd8e63892a59b40cc3ba57", func := "tailrace/tailracelaw19.FixedStays", spec := "fixedStays", unfollowed := true, recurses := true, apart := false }
def FixedStaysSaid : Prop := fixedStaysRow.holds Try.pinned (OpenSpec.ofChange fixedStaysSpec)

/-- ITS FALSE NEIGHBOUR: 'it returns false'. Refute it at one input. -/
def fixedStaysWrong : ChangeSpec := { name := "fixedStays", fn := fun _ => fun
  | [d1, d2] => { results := [.lit (.bool false)], args := [d1, d2] }
  | _ => none }
def FixedStaysWrongFalsely : Prop := fixedStaysRow.holds Try.pinned (OpenSpec.ofChange fixedStaysWrong)

/- THE SECOND FORM. 'bulk': how many values and letters a reading holds, each counted each time it is reached (what is shared counts as often as it is met; a slice's spare places count too). A statement '..UptoSaid' is the law's where the arguments, and the package variables that the reading takes, are together of bulk at most 1048576: NARROWER than '..Said'. Prove '..Said' where nothing that the law and all that it calls make is longer than what came in: it says more and counts as full. Else prove '..UptoSaid'. A law counts once. -/
mutual
def uptoBulk {H : Type} : DataW H → Nat
  | .lit (.string bytes) => bytes.length + 1
  | .lit _ => 1
  | .nil => 1
  | .ptr d => uptoBulk d + 1
  | .slice elems spare => uptoBulkAll elems + uptoBulkAll spare + 1
  | .agg parts => uptoBulkAll parts + 1
  | .iface _ d => uptoBulk d + 1
  | .map entries => uptoBulkEntries entries + 1
  | .held _ => 1
def uptoBulkAll {H : Type} : List (DataW H) → Nat
  | [] => 0
  | d :: r => uptoBulk d + uptoBulkAll r
def uptoBulkEntries {H : Type} : List (Lit × DataW H) → Nat
  | [] => 0
  | x :: r => uptoBulkEntry x + uptoBulkEntries r
def uptoBulkEntry {H : Type} : Lit × DataW H → Nat
  | (.string bytes, d) => bytes.length + uptoBulk d + 1
  | (_, d) => uptoBulk d + 1
 end
def uptoSmall : (H : Type) → List (DataW H) → Bool := fun _ ds => decide (uptoBulkAll ds ≤ 1048576)
def OpenSpec.upto (s : _root_.Go.ChangeSpec) : _root_.Go.OpenSpec := { _root_.Go.OpenSpec.ofChange s with cond := some uptoSmall }

/-- 'tailracelaw19.FixedSolve', WHERE WHAT IT READS IS OF BULK AT MOST 1048576: true; the input reads as it did. -/
def fixedSolveUptoRow : OpenClaim := { program := "ytmlfnejmagjjpaa", sum := "46384dab26cfa995487b2c34f41645fec6e1d3808edd8e63892a59b40cc3ba57", func := "tailrace/tailracelaw19.FixedSolve", spec := "fixedSolve", unfollowed := true, recurses := true, apart := false, narrowed := true }
def FixedSolveUptoSaid : Prop := fixedSolveUptoRow.holds Try.pinned (OpenSpec.upto fixedSolveSpec)

/-- 'tailracelaw19.FixedGreatest', WHERE WHAT IT READS IS OF BULK AT MOST 1048576: true; the input reads as it did. -/
def fixedGreatestUptoRow : OpenClaim := { program := "ytmlfnejmagjjpaa", sum := "46384dab26cfa995487b2c34f41645fec6e1d3808edd8e63892a59b40cc3ba57", func := "tailrace/tailracelaw19.FixedGreatest", spec := "fixedGreatest", unfollowed := true, recurses := true, apart := false, narrowed := true }
def FixedGreatestUptoSaid : Prop := fixedGreatestUptoRow.holds Try.pinned (OpenSpec.upto fixedGreatestSpec)

/-- 'tailracelaw19.FixedJoin', WHERE WHAT IT READS IS OF BULK AT MOST 1048576: true; the input reads as it did. -/
def fixedJoinUptoRow : OpenClaim := { program := "ytmlfnejmagjjpaa", sum := "46384dab26cfa995487b2c34f41645fec6e1d3808edd8e63892a59b40cc3ba57", func := "tailrace/tailracelaw19.FixedJoin", spec := "fixedJoin", unfollowed := true, recurses := true, apart := false, narrowed := true }
def FixedJoinUptoSaid : Prop := fixedJoinUptoRow.holds Try.pinned (OpenSpec.upto fixedJoinSpec)

/-- 'tailracelaw19.FixedRows', WHERE WHAT IT READS IS OF BULK AT MOST 1048576: true; the input reads as it did. -/
def fixedRowsUptoRow : OpenClaim := { program := "ytmlfnejmagjjpaa", sum := "46384dab26cfa995487b2c34f41645fec6e1d3808edd8e63892a59b40cc3ba57", func := "tailrace/tailracelaw19.FixedRows", spec := "fixedRows", unfollowed := true, recurses := true, apart := false, narrowed := true }
def FixedRowsUptoSaid : Prop := fixedRowsUptoRow.holds Try.pinned (OpenSpec.upto fixedRowsSpec)

/-- 'tailracelaw19.FixedStays', WHERE WHAT IT READS IS OF BULK AT MOST 1048576: true; the input reads as it did. -/
def fixedStaysUptoRow : OpenClaim := { program := "ytmlfnejmagjjpaa", sum := "46384dab26cfa995487b2c34f41645fec6e1d3808edd8e63892a59b40cc3ba57", func := "tailrace/tailracelaw19.FixedStays", spec := "fixedStays", unfollowed := true, recurses := true, apart := false, narrowed := true }
def FixedStaysUptoSaid : Prop := fixedStaysUptoRow.holds Try.pinned (OpenSpec.upto fixedStaysSpec)

end Rows
end Go.Proofs.Ytmlfnejmagjjpaa
