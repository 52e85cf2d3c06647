/-
  No cell of these rows narrows 'for every input' (looked for: loops, veiled, ifaces, maps, wideKeys, modest, calm, conditions, laid).
  DERIVED. THE GIVEN ROWS OF THIS SEAT. 7 by the template 'for every input the law returns true; each argument reads behind the call as it read before'; 0 by the template 'total and deterministic' (their statements: YtamniepfgddecaaTotals.lean).
  GIVEN WITH THE SEED: the statements are not yours to turn. If you find one false, say at which input.
  Laid BY PROGRAM, IN A SANDBOX (cutbox-rows.mjs): the forced cells as the released guide's own fill.sh prints them over the translation b23669fa1313530c… (all of the seat's roots in one cut). By AI agents, Wed Nov 11 2026. No macro, syntax, notation, axiom, sorry.
-/
import Derived.Test.YtamniepfgddecaaChecked
import GoSem.Claim
import GoSem.ClaimJoined
import GoSem.ClaimMapViews
import Derived.JoinedTies
import Derived.KernelRfl
namespace Go.Proofs.Ytamniepfgddecaa
/- THE CELL 'sum', in the pinned program and in every row, IS THE sha256 OF THE DUMP (.gsa) THAT YtamniepfgddecaaProg.lean LOADS. Nothing in Lean hashes anything: it is a label: what it is worth is what the hold of that sum in a sandbox is worth. -/
noncomputable def Try.pinned : Pinned := { name := "ytamniepfgddecaa", sum := "b23669fa1313530c6c580f4cb5e669764437150260e818c2cd7a03d65d1d4845", checked := Try.checked }
namespace Rows
def none {H : Type} : Left H := { results := [], args := [] }

/-- 'tailracelaw06.AntichainOf': WHATEVER THE INPUT: true; the input reads as it did. -/
def antichainOfSpec : ChangeSpec := { name := "antichainOf", fn := fun _ => fun
  | [d] => { results := [.lit (.bool true)], args := [d] }
  | _ => none }
def antichainOfRow : OpenClaim := { program := "ytamniepfgddecaa", sum := "b23669fa1313530c6c580f4cb5e669764437150260e818c2cd7a03d65d1d4845", func := "tailrace/tailracelaw06.AntichainOf", spec := "antichainOf", unfollowed := true, recurses := true, apart := false }
def AntichainOfSaid : Prop := antichainOfRow.holds Try.pinned (OpenSpec.ofChange antichainOfSpec)

/-- ITS FALSE NEIGHBOUR: 'it returns false'. Refute it at one input. -/
def antichainOfWrong : ChangeSpec := { name := "antichainOf", fn := fun _ => fun
  | [d] => { results := [.lit (.bool false)], args := [d] }
  | _ => none }
def AntichainOfWrongFalsely : Prop := antichainOfRow.holds Try.pinned (OpenSpec.ofChange antichainOfWrong)

/-- 'tailracelaw06.AntichainHolds': WHATEVER THE INPUT: true; the input reads as it did. -/
def antichainHoldsSpec : ChangeSpec := { name := "antichainHolds", fn := fun _ => fun
  | [d1, d2, d3] => { results := [.lit (.bool true)], args := [d1, d2, d3] }
  | _ => none }
def antichainHoldsRow : OpenClaim := { program := "ytamniepfgddecaa", sum := "b23669fa1313530c6c580f4cb5e669764437150260e818c2cd7a03d65d1d4845", func := "tailrace/tailracelaw06.AntichainHolds", spec := "antichainHolds", unfollowed := true, recurses := true, apart := false }
def AntichainHoldsSaid : Prop := antichainHoldsRow.holds Try.pinned (OpenSpec.ofChange antichainHoldsSpec)

/-- ITS FALSE NEIGHBOUR: 'it returns false'. Refute it at one input. -/
def antichainHoldsWrong : ChangeSpec := { name := "antichainHolds", fn := fun _ => fun
  | [d1, d2, d3] => { results := [.lit (.bool false)], args := [d1, d2, d3] }
  | _ => none }
def AntichainHoldsWrongFalsely : Prop := antichainHoldsRow.holds Try.pinned (OpenSpec.ofChange antichainHoldsWrong)

/-- 'tailracelaw06.AntichainTwo': WHATEVER THE INPUT: true; the input reads as it did. -/
def antichainTwoSpec : ChangeSpec := { name := "antichainTwo", fn := fun _ => fun
  | [d1, d2] => { results := [.lit (.bool true)], args := [d1, d2] }
  | _ => none }
def antichainTwoRow : OpenClaim := { program := "ytamniepfgddecaa", sum := "b23669fa1313530c6c580f4cb5e669764437150260e818c2cd7a03d65d1d4845", func := "tailrace/tailracelaw06.AntichainTwo", spec := "antichainTwo", unfollowed := true, recurses := true, apart := false }
def AntichainTwoSaid : Prop := antichainTwoRow.holds Try.pinned (OpenSpec.ofChange antichainTwoSpec)

/-- ITS FALSE NEIGHBOUR: 'it returns false'. Refute it at one input. -/
def antichainTwoWrong : ChangeSpec := { name := "antichainTwo", fn := fun _ => fun
  | [d1, d2] => { results := [.lit (.bool false)], args := [d1, d2] }
  | _ => none }
def AntichainTwoWrongFalsely : Prop := antichainTwoRow.holds Try.pinned (OpenSpec.ofChange antichainTwoWrong)

/-- 'tailracelaw06.AntichainOrder': WHATEVER THE INPUT: true; the input reads as it did. -/
def antichainOrderSpec : ChangeSpec := { name := "antichainOrder", fn := fun _ => fun
  | [d1, d2, d3, d4] => { results := [.lit (.bool true)], args := [d1, d2, d3, d4] }
  | _ => none }
def antichainOrderRow : OpenClaim := { program := "ytamniepfgddecaa", sum := "b23669fa1313530c6c580f4cb5e669764437150260e818c2cd7a03d65d1d4845", func := "tailrace/tailracelaw06.AntichainOrder", spec := "antichainOrder", unfollowed := true, recurses := true, apart := false }
def AntichainOrderSaid : Prop := antichainOrderRow.holds Try.pinned (OpenSpec.ofChange antichainOrderSpec)

/-- ITS FALSE NEIGHBOUR: 'it returns false'. Refute it at one input. -/
def antichainOrderWrong : ChangeSpec := { name := "antichainOrder", fn := fun _ => fun
  | [d1, d2, d3, d4] => { results := [.lit (.bool false)], args := [d1, d2, d3, d4] }
  | _ => none }
def AntichainOrderWrongFalsely : Prop := antichainOrderRow.holds Try.pinned (OpenSpec.ofChange antichainOrderWrong)

/-- 'tailracelaw06.AntichainLattice': WHATEVER THE INPUT: true; the input reads as it did. -/
def antichainLatticeSpec : ChangeSpec := { name := "antichainLattice", fn := fun _ => fun
  | [d1, d2, d3] => { results := [.lit (.bool true)], args := [d1, d2, d3] }
  | _ => none }
def antichainLatticeRow : OpenClaim := { program := "ytamniepfgddecaa", sum := "b23669fa1313530c6c580f4cb5e669764437150260e818c2cd7a03d65d1d4845", func := "tailrace/tailracelaw06.AntichainLattice", spec := "antichainLattice", unfollowed := true, recurses := true, apart := false }
def AntichainLatticeSaid : Prop := antichainLatticeRow.holds Try.pinned (OpenSpec.ofChange antichainLatticeSpec)

/-- ITS FALSE NEIGHBOUR: 'it returns false'. Refute it at one input. -/
def antichainLatticeWrong : ChangeSpec := { name := "antichainLattice", fn := fun _ => fun
  | [d1, d2, d3] => { results := [.lit (.bool false)], args := [d1, d2, d3] }
  | _ => none }
def AntichainLatticeWrongFalsely : Prop := antichainLatticeRow.holds Try.pinned (OpenSpec.ofChange antichainLatticeWrong)

/-- 'tailracelaw06.AntichainMore': WHATEVER THE INPUT: true; the input reads as it did. -/
def antichainMoreSpec : ChangeSpec := { name := "antichainMore", fn := fun _ => fun
  | [d1, d2] => { results := [.lit (.bool true)], args := [d1, d2] }
  | _ => none }
def antichainMoreRow : OpenClaim := { program := "ytamniepfgddecaa", sum := "b23669fa1313530c6c580f4cb5e669764437150260e818c2cd7a03d65d1d4845", func := "tailrace/tailracelaw06.AntichainMore", spec := "antichainMore", unfollowed := true, recurses := true, apart := false }
def AntichainMoreSaid : Prop := antichainMoreRow.holds Try.pinned (OpenSpec.ofChange antichainMoreSpec)

/-- ITS FALSE NEIGHBOUR: 'it returns false'. Refute it at one input. -/
def antichainMoreWrong : ChangeSpec := { name := "antichainMore", fn := fun _ => fun
  | [d1, d2] => { results := [.lit (.bool false)], args := [d1, d2] }
  | _ => none }
def AntichainMoreWrongFalsely : Prop := antichainMoreRow.holds Try.pinned (OpenSpec.ofChange antichainMoreWrong)

/-- 'tailracelaw06.AntichainKnown': WHATEVER THE INPUT: true; the input reads as it did. -/
def antichainKnownSpec : ChangeSpec := { name := "antichainKnown", fn := fun _ => fun
  | [] => { results := [.lit (.bool true)], args := [] }
  | _ => none }
def antichainKnownRow : OpenClaim := { program := "ytamniepfgddecaa", sum := "b23669fa1313530c6c580f4cb5e669764437150260e818c2cd7a03d65d1d4845", func := "tailrace/tailracelaw06.AntichainKnown", spec := "antichainKnown", unfollowed := true, recurses := true, apart := false }
def AntichainKnownSaid : Prop := antichainKnownRow.holds Try.pinned (OpenSpec.ofChange antichainKnownSpec)

/-- ITS FALSE NEIGHBOUR: 'it returns false'. Refute it at one input. -/
def antichainKnownWrong : ChangeSpec := { name := "antichainKnown", fn := fun _ => fun
  | [] => { results := [.lit (.bool false)], args := [] }
  | _ => none }
def AntichainKnownWrongFalsely : Prop := antichainKnownRow.holds Try.pinned (OpenSpec.ofChange antichainKnownWrong)

/- THE SECOND FORM. 'bulk': how many values and letters a reading holds, each counted each time it is reached (what is shared counts as often as it is met; a slice's spare places count too). A statement '..UptoSaid' is the law's where the arguments, and the package variables that the reading takes, are together of bulk at most 1048576: NARROWER than '..Said'. Prove '..Said' where nothing that the law and all that it calls make is longer than what came in: it says more and counts as full. Else prove '..UptoSaid'. A law counts once. -/
mutual
def uptoBulk {H : Type} : DataW H → Nat
  | .lit (.string bytes) => bytes.length + 1
  | .lit _ => 1
  | .nil => 1
  | .ptr d => uptoBulk d + 1
  | .slice elems spare => uptoBulkAll elems + uptoBulkAll spare + 1
  | .agg parts => uptoBulkAll parts + 1
  | .iface _ d => uptoBulk d + 1
  | .map entries => uptoBulkEntries entries + 1
  | .held _ => 1
def uptoBulkAll {H : Type} : List (DataW H) → Nat
  | [] => 0
  | d :: r => uptoBulk d + uptoBulkAll r
def uptoBulkEntries {H : Type} : List (Lit × DataW H) → Nat
  | [] => 0
  | x :: r => uptoBulkEntry x + uptoBulkEntries r
def uptoBulkEntry {H : Type} : Lit × DataW H → Nat
  | (.string bytes, d) => bytes.length + uptoBulk d + 1
  | (_, d) => uptoBulk d + 1
 end
def uptoSmall : (H : Type) → List (DataW H) → Bool := fun _ ds => decide (uptoBulkAll ds ≤ 1048576)
def OpenSpec.upto (s : _root_.Go.ChangeSpec) : _root_.Go.OpenSpec := { _root_.Go.OpenSpec.ofChange s with cond := some uptoSmall }

/-- 'tailracelaw06.AntichainOf', WHERE WHAT IT READS IS OF BULK AT MOST 1048576: true; the input reads as it did. -/
def antichainOfUptoRow : OpenClaim := { program := "ytamniepfgddecaa", sum := "b23669fa1313530c6c580f4cb5e669764437150260e818c2cd7a03d65d1d4845", func := "tailrace/tailracelaw06.AntichainOf", spec := "antichainOf", unfollowed := true, recurses := true, apart := false, narrowed := true }
def AntichainOfUptoSaid : Prop := antichainOfUptoRow.holds Try.pinned (OpenSpec.upto antichainOfSpec)

/-- 'tailracelaw06.AntichainHolds', WHERE WHAT IT READS IS OF BULK AT MOST 1048576: true; the input reads as it did. -/
def antichainHoldsUptoRow : OpenClaim := { program := "ytamniepfgddecaa", sum := "b23669fa1313530c6c580f4cb5e669764437150260e818c2cd7a03d65d1d4845", func := "tailrace/tailracelaw06.AntichainHolds", spec := "antichainHolds", unfollowed := true, recurses := true, apart := false, narrowed := true }
def AntichainHoldsUptoSaid : Prop := antichainHoldsUptoRow.holds Try.pinned (OpenSpec.upto antichainHoldsSpec)

/-- 'tailracelaw06.AntichainTwo', WHERE WHAT IT READS IS OF BULK AT MOST 1048576: true; the input reads as it did. -/
def antichainTwoUptoRow : OpenClaim := { program := "ytamniepfgddecaa", sum := "b23669fa1313530c6c580f4cb5e669764437150260e818c2cd7a03d65d1d4845", func := "tailrace/tailracelaw06.AntichainTwo", spec := "antichainTwo", unfollowed := true, recurses := true, apart := false, narrowed := true }
def AntichainTwoUptoSaid : Prop := antichainTwoUptoRow.holds Try.pinned (OpenSpec.upto antichainTwoSpec)

/-- 'tailracelaw06.AntichainOrder', WHERE WHAT IT READS IS OF BULK AT MOST 1048576: true; the input reads as it did. -/
def antichainOrderUptoRow : OpenClaim := { program := "ytamniepfgddecaa", sum := "b23669fa1313530c6c580f4cb5e669764437150260e818c2cd7a03d65d1d4845", func := "tailrace/tailracelaw06.AntichainOrder", spec := "antichainOrder", unfollowed := true, recurses := true, apart := false, narrowed := true }
def AntichainOrderUptoSaid : Prop := antichainOrderUptoRow.holds Try.pinned (OpenSpec.upto antichainOrderSpec)

/-- 'tailracelaw06.AntichainLattice', WHERE WHAT IT READS IS OF BULK AT MOST 1048576: true; the input reads as it did. -/
def antichainLatticeUptoRow : OpenClaim := { program := "ytamniepfgddecaa", sum := "b23669fa1313530c6c580f4cb5e669764437150260e818c2cd7a03d65d1d4845", func := "tailrace/tailracelaw06.AntichainLattice", spec := "antichainLattice", unfollowed := true, recurses := true, apart := false, narrowed := true }
def AntichainLatticeUptoSaid : Prop := antichainLatticeUptoRow.holds Try.pinned (OpenSpec.upto antichainLatticeSpec)

/-- 'tailracelaw06.AntichainMore', WHERE WHAT IT READS IS OF BULK AT MOST 1048576: true; the input reads as it did. -/
def antichainMoreUptoRow : OpenClaim := { program := "ytamniepfgddecaa", sum := "b23669fa1313530c6c580f4cb5e669764437150260e818c2cd7a03d65d1d4845", func := "tailrace/tailracelaw06.AntichainMore", spec := "antichainMore", unfollowed := true, recurses := true, apart := false, narrowed := true }
def AntichainMoreUptoSaid : Prop := antichainMoreUptoRow.holds Try.pinned (OpenSpec.upto antichainMoreSpec)

/-- 'tailracelaw06.AntichainKnown', WHERE WHAT IT READS IS OF BULK AT MOST 1048576: true; the input reads as it did. -/
def antichainKnownUptoRow : OpenClaim := { program := "ytamniepfgddecaa", sum := "b23669fa1313530c6c580f4cb5e669764437150260e818c2cd7a03d65d1d4845", func := "tailrace/tailracelaw06.AntichainKnown", spec := "antichainKnown", unfollowed := true, recurses := true, apart := false, narrowed := true }
def AntichainKnownUptoSaid : Prop := antichainKnownUptoRow.holds Try.pinned (OpenSpec.upto antichainKnownSpec)

end Rows
end Go.Proofs.Ytamniepfgddecaa
