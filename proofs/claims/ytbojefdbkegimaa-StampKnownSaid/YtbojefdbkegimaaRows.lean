/-
  No cell of these rows narrows 'for every input' (looked for: loops, veiled, ifaces, maps, wideKeys, modest, calm, conditions, laid).
  DERIVED. THE GIVEN ROWS OF THIS SEAT. 8 by the template 'for every input the law returns true; each argument reads behind the call as it read before'; 0 by the template 'total and deterministic' (their statements: YtbojefdbkegimaaTotals.lean).
  GIVEN WITH THE SEED: the statements are not yours to turn. If you find one false, say at which input.
  Laid BY PROGRAM, IN A SANDBOX (cutbox-rows.mjs): the forced cells as the released guide's own fill.sh prints them over the translation c556acc11367d1eb… (all of the seat's roots in one cut). By AI agents, Wed Nov 11 2026. No macro, syntax, notation, axiom, sorry.
-/
import Derived.Test.YtbojefdbkegimaaChecked
import GoSem.Claim
import GoSem.ClaimJoined
import GoSem.ClaimMapViews
import Derived.JoinedTies
import Derived.KernelRfl
namespace Go.Proofs.Ytbojefdbkegimaa
/- THE CELL 'sum', in the pinned program and in every row, IS THE sha256 OF THE DUMP (.gsa) THAT YtbojefdbkegimaaProg.lean LOADS. Nothing in Lean hashes anything: it is a label: what it is worth is what the hold of that sum in a sandbox is worth. -/
noncomputable def Try.pinned : Pinned := { name := "ytbojefdbkegimaa", sum := "c556acc11367d1eb00996a62314283ef55fa541d5c56dca04fb73e699e5cfe41", checked := Try.checked }
namespace Rows
def none {H : Type} : Left H := { results := [], args := [] }

/-- 'tailracelaw05.StampRight': WHATEVER THE INPUT: true; the input reads as it did. -/
def stampRightSpec : ChangeSpec := { name := "stampRight", fn := fun _ => fun
  | [d] => { results := [.lit (.bool true)], args := [d] }
  | _ => none }
def stampRightRow : OpenClaim := { program := "ytbojefdbkegimaa", sum := "c556acc11367d1eb00996a62314283ef55fa541d5c56dca04fb73e699e5cfe41", func := "tailrace/tailracelaw05.StampRight", spec := "stampRight", apart := false }
def StampRightSaid : Prop := stampRightRow.holds Try.pinned (OpenSpec.ofChange stampRightSpec)

/-- ITS FALSE NEIGHBOUR: 'it returns false'. Refute it at one input. -/
def stampRightWrong : ChangeSpec := { name := "stampRight", fn := fun _ => fun
  | [d] => { results := [.lit (.bool false)], args := [d] }
  | _ => none }
def StampRightWrongFalsely : Prop := stampRightRow.holds Try.pinned (OpenSpec.ofChange stampRightWrong)

/-- 'tailracelaw05.StampTwo': WHATEVER THE INPUT: true; the input reads as it did. -/
def stampTwoSpec : ChangeSpec := { name := "stampTwo", fn := fun _ => fun
  | [d1, d2] => { results := [.lit (.bool true)], args := [d1, d2] }
  | _ => none }
def stampTwoRow : OpenClaim := { program := "ytbojefdbkegimaa", sum := "c556acc11367d1eb00996a62314283ef55fa541d5c56dca04fb73e699e5cfe41", func := "tailrace/tailracelaw05.StampTwo", spec := "stampTwo", apart := false }
def StampTwoSaid : Prop := stampTwoRow.holds Try.pinned (OpenSpec.ofChange stampTwoSpec)

/-- ITS FALSE NEIGHBOUR: 'it returns false'. Refute it at one input. -/
def stampTwoWrong : ChangeSpec := { name := "stampTwo", fn := fun _ => fun
  | [d1, d2] => { results := [.lit (.bool false)], args := [d1, d2] }
  | _ => none }
def StampTwoWrongFalsely : Prop := stampTwoRow.holds Try.pinned (OpenSpec.ofChange stampTwoWrong)

/-- 'tailracelaw05.StampOrder': WHATEVER THE INPUT: true; the input reads as it did. -/
def stampOrderSpec : ChangeSpec := { name := "stampOrder", fn := fun _ => fun
  | [d1, d2, d3] => { results := [.lit (.bool true)], args := [d1, d2, d3] }
  | _ => none }
def stampOrderRow : OpenClaim := { program := "ytbojefdbkegimaa", sum := "c556acc11367d1eb00996a62314283ef55fa541d5c56dca04fb73e699e5cfe41", func := "tailrace/tailracelaw05.StampOrder", spec := "stampOrder", apart := false }
def StampOrderSaid : Prop := stampOrderRow.holds Try.pinned (OpenSpec.ofChange stampOrderSpec)

/-- ITS FALSE NEIGHBOUR: 'it returns false'. Refute it at one input. -/
def stampOrderWrong : ChangeSpec := { name := "stampOrder", fn := fun _ => fun
  | [d1, d2, d3] => { results := [.lit (.bool false)], args := [d1, d2, d3] }
  | _ => none }
def StampOrderWrongFalsely : Prop := stampOrderRow.holds Try.pinned (OpenSpec.ofChange stampOrderWrong)

/-- 'tailracelaw05.StampLoops': WHATEVER THE INPUT: true; the input reads as it did. -/
def stampLoopsSpec : ChangeSpec := { name := "stampLoops", fn := fun _ => fun
  | [d1, d2] => { results := [.lit (.bool true)], args := [d1, d2] }
  | _ => none }
def stampLoopsRow : OpenClaim := { program := "ytbojefdbkegimaa", sum := "c556acc11367d1eb00996a62314283ef55fa541d5c56dca04fb73e699e5cfe41", func := "tailrace/tailracelaw05.StampLoops", spec := "stampLoops", apart := false }
def StampLoopsSaid : Prop := stampLoopsRow.holds Try.pinned (OpenSpec.ofChange stampLoopsSpec)

/-- ITS FALSE NEIGHBOUR: 'it returns false'. Refute it at one input. -/
def stampLoopsWrong : ChangeSpec := { name := "stampLoops", fn := fun _ => fun
  | [d1, d2] => { results := [.lit (.bool false)], args := [d1, d2] }
  | _ => none }
def StampLoopsWrongFalsely : Prop := stampLoopsRow.holds Try.pinned (OpenSpec.ofChange stampLoopsWrong)

/-- 'tailracelaw05.StampLattice': WHATEVER THE INPUT: true; the input reads as it did. -/
def stampLatticeSpec : ChangeSpec := { name := "stampLattice", fn := fun _ => fun
  | [d1, d2, d3] => { results := [.lit (.bool true)], args := [d1, d2, d3] }
  | _ => none }
def stampLatticeRow : OpenClaim := { program := "ytbojefdbkegimaa", sum := "c556acc11367d1eb00996a62314283ef55fa541d5c56dca04fb73e699e5cfe41", func := "tailrace/tailracelaw05.StampLattice", spec := "stampLattice", apart := false }
def StampLatticeSaid : Prop := stampLatticeRow.holds Try.pinned (OpenSpec.ofChange stampLatticeSpec)

/-- ITS FALSE NEIGHBOUR: 'it returns false'. Refute it at one input. -/
def stampLatticeWrong : ChangeSpec := { name := "stampLattice", fn := fun _ => fun
  | [d1, d2, d3] => { results := [.lit (.bool false)], args := [d1, d2, d3] }
  | _ => none }
def StampLatticeWrongFalsely : Prop := stampLatticeRow.holds Try.pinned (OpenSpec.ofChange stampLatticeWrong)

/-- 'tailracelaw05.StampBytes': WHATEVER THE INPUT: true; the input reads as it did. -/
def stampBytesSpec : ChangeSpec := { name := "stampBytes", fn := fun _ => fun
  | [d1, d2] => { results := [.lit (.bool true)], args := [d1, d2] }
  | _ => none }
def stampBytesRow : OpenClaim := { program := "ytbojefdbkegimaa", sum := "c556acc11367d1eb00996a62314283ef55fa541d5c56dca04fb73e699e5cfe41", func := "tailrace/tailracelaw05.StampBytes", spec := "stampBytes", apart := false }
def StampBytesSaid : Prop := stampBytesRow.holds Try.pinned (OpenSpec.ofChange stampBytesSpec)

/-- ITS FALSE NEIGHBOUR: 'it returns false'. Refute it at one input. -/
def stampBytesWrong : ChangeSpec := { name := "stampBytes", fn := fun _ => fun
  | [d1, d2] => { results := [.lit (.bool false)], args := [d1, d2] }
  | _ => none }
def StampBytesWrongFalsely : Prop := stampBytesRow.holds Try.pinned (OpenSpec.ofChange stampBytesWrong)

/-- 'tailracelaw05.StampGet': WHATEVER THE INPUT: true; the input reads as it did. -/
def stampGetSpec : ChangeSpec := { name := "stampGet", fn := fun _ => fun
  | [d1, d2] => { results := [.lit (.bool true)], args := [d1, d2] }
  | _ => none }
def stampGetRow : OpenClaim := { program := "ytbojefdbkegimaa", sum := "c556acc11367d1eb00996a62314283ef55fa541d5c56dca04fb73e699e5cfe41", func := "tailrace/tailracelaw05.StampGet", spec := "stampGet", apart := false }
def StampGetSaid : Prop := stampGetRow.holds Try.pinned (OpenSpec.ofChange stampGetSpec)

/-- ITS FALSE NEIGHBOUR: 'it returns false'. Refute it at one input. -/
def stampGetWrong : ChangeSpec := { name := "stampGet", fn := fun _ => fun
  | [d1, d2] => { results := [.lit (.bool false)], args := [d1, d2] }
  | _ => none }
def StampGetWrongFalsely : Prop := stampGetRow.holds Try.pinned (OpenSpec.ofChange stampGetWrong)

/-- 'tailracelaw05.StampKnown': WHATEVER THE INPUT: true; the input reads as it did. -/
def stampKnownSpec : ChangeSpec := { name := "stampKnown", fn := fun _ => fun
  | [] => { results := [.lit (.bool true)], args := [] }
  | _ => none }
def stampKnownRow : OpenClaim := { program := "ytbojefdbkegimaa", sum := "c556acc11367d1eb00996a62314283ef55fa541d5c56dca04fb73e699e5cfe41", func := "tailrace/tailracelaw05.StampKnown", spec := "stampKnown", apart := false }
def StampKnownSaid : Prop := stampKnownRow.holds Try.pinned (OpenSpec.ofChange stampKnownSpec)

/-- ITS FALSE NEIGHBOUR: 'it returns false'. Refute it at one input. -/
def stampKnownWrong : ChangeSpec := { name := "stampKnown", fn := fun _ => fun
  | [] => { results := [.lit (.bool false)], args := [] }
  | _ => none }
def StampKnownWrongFalsely : Prop := stampKnownRow.holds Try.pinned (OpenSpec.ofChange stampKnownWrong)

/- THE SECOND FORM. 'bulk': how many values and letters a reading holds, each counted each time it is reached (what is shared counts as often as it is met; a slice's spare places count too). A statement '..UptoSaid' is the law's where the arguments, and the package variables that the reading takes, are together of bulk at most 1048576: NARROWER than '..Said'. Prove '..Said' where nothing that the law and all that it calls make is longer than what came in: it says more and counts as full. Else prove '..UptoSaid'. A law counts once. -/
mutual
def uptoBulk {H : Type} : DataW H → Nat
  | .lit (.string bytes) => bytes.length + 1
  | .lit _ => 1
  | .nil => 1
  | .ptr d => uptoBulk d + 1
  | .slice elems spare => uptoBulkAll elems + uptoBulkAll spare + 1
  | .agg parts => uptoBulkAll parts + 1
  | .iface _ d => uptoBulk d + 1
  | .map entries => uptoBulkEntries entries + 1
  | .held _ => 1
def uptoBulkAll {H : Type} : List (DataW H) → Nat
  | [] => 0
  | d :: r => uptoBulk d + uptoBulkAll r
def uptoBulkEntries {H : Type} : List (Lit × DataW H) → Nat
  | [] => 0
  | x :: r => uptoBulkEntry x + uptoBulkEntries r
def uptoBulkEntry {H : Type} : Lit × DataW H → Nat
  | (.string bytes, d) => bytes.length + uptoBulk d + 1
  | (_, d) => uptoBulk d + 1
 end
def uptoSmall : (H : Type) → List (DataW H) → Bool := fun _ ds => decide (uptoBulkAll ds ≤ 1048576)
def OpenSpec.upto (s : _root_.Go.ChangeSpec) : _root_.Go.OpenSpec := { _root_.Go.OpenSpec.ofChange s with cond := some uptoSmall }

/-- 'tailracelaw05.StampRight', WHERE WHAT IT READS IS OF BULK AT MOST 1048576: true; the input reads as it did. -/
def stampRightUptoRow : OpenClaim := { program := "ytbojefdbkegimaa", sum := "c556acc11367d1eb00996a62314283ef55fa541d5c56dca04fb73e699e5cfe41", func := "tailrace/tailracelaw05.StampRight", spec := "stampRight", apart := false, narrowed := true }
def StampRightUptoSaid : Prop := stampRightUptoRow.holds Try.pinned (OpenSpec.upto stampRightSpec)

/-- 'tailracelaw05.StampTwo', WHERE WHAT IT READS IS OF BULK AT MOST 1048576: true; the input reads as it did. -/
def stampTwoUptoRow : OpenClaim := { program := "ytbojefdbkegimaa", sum := "c556acc11367d1eb00996a62314283ef55fa541d5c56dca04fb73e699e5cfe41", func := "tailrace/tailracelaw05.StampTwo", spec := "stampTwo", apart := false, narrowed := true }
def StampTwoUptoSaid : Prop := stampTwoUptoRow.holds Try.pinned (OpenSpec.upto stampTwoSpec)

/-- 'tailracelaw05.StampOrder', WHERE WHAT IT READS IS OF BULK AT MOST 1048576: true; the input reads as it did. -/
def stampOrderUptoRow : OpenClaim := { program := "ytbojefdbkegimaa", sum := "c556acc11367d1eb00996a62314283ef55fa541d5c56dca04fb73e699e5cfe41", func := "tailrace/tailracelaw05.StampOrder", spec := "stampOrder", apart := false, narrowed := true }
def StampOrderUptoSaid : Prop := stampOrderUptoRow.holds Try.pinned (OpenSpec.upto stampOrderSpec)

/-- 'tailracelaw05.StampLoops', WHERE WHAT IT READS IS OF BULK AT MOST 1048576: true; the input reads as it did. -/
def stampLoopsUptoRow : OpenClaim := { program := "ytbojefdbkegimaa", sum := "c556acc11367d1eb00996a62314283ef55fa541d5c56dca04fb73e699e5cfe41", func := "tailrace/tailracelaw05.StampLoops", spec := "stampLoops", apart := false, narrowed := true }
def StampLoopsUptoSaid : Prop := stampLoopsUptoRow.holds Try.pinned (OpenSpec.upto stampLoopsSpec)

/-- 'tailracelaw05.StampLattice', WHERE WHAT IT READS IS OF BULK AT MOST 1048576: true; the input reads as it did. -/
def stampLatticeUptoRow : OpenClaim := { program := "ytbojefdbkegimaa", sum := "c556acc11367d1eb00996a62314283ef55fa541d5c56dca04fb73e699e5cfe41", func := "tailrace/tailracelaw05.StampLattice", spec := "stampLattice", apart := false, narrowed := true }
def StampLatticeUptoSaid : Prop := stampLatticeUptoRow.holds Try.pinned (OpenSpec.upto stampLatticeSpec)

/-- 'tailracelaw05.StampBytes', WHERE WHAT IT READS IS OF BULK AT MOST 1048576: true; the input reads as it did. -/
def stampBytesUptoRow : OpenClaim := { program := "ytbojefdbkegimaa", sum := "c556acc11367d1eb00996a62314283ef55fa541d5c56dca04fb73e699e5cfe41", func := "tailrace/tailracelaw05.StampBytes", spec := "stampBytes", apart := false, narrowed := true }
def StampBytesUptoSaid : Prop := stampBytesUptoRow.holds Try.pinned (OpenSpec.upto stampBytesSpec)

/-- 'tailracelaw05.StampGet', WHERE WHAT IT READS IS OF BULK AT MOST 1048576: true; the input reads as it did. -/
def stampGetUptoRow : OpenClaim := { program := "ytbojefdbkegimaa", sum := "c556acc11367d1eb00996a62314283ef55fa541d5c56dca04fb73e699e5cfe41", func := "tailrace/tailracelaw05.StampGet", spec := "stampGet", apart := false, narrowed := true }
def StampGetUptoSaid : Prop := stampGetUptoRow.holds Try.pinned (OpenSpec.upto stampGetSpec)

/-- 'tailracelaw05.StampKnown', WHERE WHAT IT READS IS OF BULK AT MOST 1048576: true; the input reads as it did. -/
def stampKnownUptoRow : OpenClaim := { program := "ytbojefdbkegimaa", sum := "c556acc11367d1eb00996a62314283ef55fa541d5c56dca04fb73e699e5cfe41", func := "tailrace/tailracelaw05.StampKnown", spec := "stampKnown", apart := false, narrowed := true }
def StampKnownUptoSaid : Prop := stampKnownUptoRow.holds Try.pinned (OpenSpec.upto stampKnownSpec)

end Rows
end Go.Proofs.Ytbojefdbkegimaa
