/-
  No cell of these rows narrows 'for every input' (looked for: loops, veiled, ifaces, maps, wideKeys, modest, calm, conditions, laid).
  DERIVED. THE GIVEN ROWS OF THIS SEAT. 5 by the template 'for every input the law returns true; each argument reads behind the call as it read before'; 0 by the template 'total and deterministic' (their statements: YteiohcgohgcjfaaTotals.lean).
  GIVEN WITH THE SEED: the statements are not yours to turn. If you find one false, say at which input.
  Laid BY PROGRAM, IN A SANDBOX (cutbox-rows.mjs): the forced cells as the released guide's own fill.sh prints them over the translation 79ac32baef8fb9c5… (all of the seat's roots in one cut). By AI agents, Wed Nov 11 2026. No macro, syntax, notation, axiom, sorry.
-/
import Derived.Test.YteiohcgohgcjfaaChecked
import GoSem.Claim
import GoSem.ClaimJoined
import GoSem.ClaimMapViews
import Derived.JoinedTies
import Derived.KernelRfl
namespace Go.Proofs.Yteiohcgohgcjfaa
/- THE CELL 'sum', in the pinned program and in every row, IS THE sha256 OF THE DUMP (.gsa) THAT YteiohcgohgcjfaaProg.lean LOADS. Nothing in Lean hashes anything: it is a label: what it is worth is what the hold of that sum in a sandbox is worth. -/
noncomputable def Try.pinned : Pinned := { name := "yteiohcgohgcjfaa", sum := "79ac32baef8fb9c53a48015741310b2c2b46f29a367c926fc12f6945faa15a1a", checked := Try.checked }
namespace Rows
def none {H : Type} : Left H := { results := [], args := [] }

/-- 'tailracelaw21.RecordsPuts': WHATEVER THE INPUT: true; the input reads as it did. -/
def recordsPutsSpec : ChangeSpec := { name := "recordsPuts", fn := fun _ => fun
  | [d] => { results := [.lit (.bool true)], args := [d] }
  | _ => none }
def recordsPutsRow : OpenClaim := { program := "yteiohcgohgcjfaa", sum := "79ac32baef8fb9c53a48015741310b2c2b46f29a367c926fc12f6945faa15a1a", func := "tailrace/tailracelaw21.RecordsPuts", spec := "recordsPuts", unfollowed := true, recurses := true, apart := false }
def RecordsPutsSaid : Prop := recordsPutsRow.holds Try.pinned (OpenSpec.ofChange recordsPutsSpec)

/-- ITS FALSE NEIGHBOUR: 'it returns false'. Refute it at one input. -/
def recordsPutsWrong : ChangeSpec := { name := "recordsPuts", fn := fun _ => fun
  | [d] => { results := [.lit (.bool false)], args := [d] }
  | _ => none }
def RecordsPutsWrongFalsely : Prop := recordsPutsRow.holds Try.pinned (OpenSpec.ofChange recordsPutsWrong)

/-- 'tailracelaw21.RecordsGets': WHATEVER THE INPUT: true; the input reads as it did. -/
def recordsGetsSpec : ChangeSpec := { name := "recordsGets", fn := fun _ => fun
  | [d] => { results := [.lit (.bool true)], args := [d] }
  | _ => none }
def recordsGetsRow : OpenClaim := { program := "yteiohcgohgcjfaa", sum := "79ac32baef8fb9c53a48015741310b2c2b46f29a367c926fc12f6945faa15a1a", func := "tailrace/tailracelaw21.RecordsGets", spec := "recordsGets", unfollowed := true, recurses := true, apart := false }
def RecordsGetsSaid : Prop := recordsGetsRow.holds Try.pinned (OpenSpec.ofChange recordsGetsSpec)

/-- ITS FALSE NEIGHBOUR: 'it returns false'. Refute it at one input. -/
def recordsGetsWrong : ChangeSpec := { name := "recordsGets", fn := fun _ => fun
  | [d] => { results := [.lit (.bool false)], args := [d] }
  | _ => none }
def RecordsGetsWrongFalsely : Prop := recordsGetsRow.holds Try.pinned (OpenSpec.ofChange recordsGetsWrong)

/-- 'tailracelaw21.RecordsBack': WHATEVER THE INPUT: true; the input reads as it did. -/
def recordsBackSpec : ChangeSpec := { name := "recordsBack", fn := fun _ => fun
  | [d1, d2, d3] => { results := [.lit (.bool true)], args := [d1, d2, d3] }
  | _ => none }
def recordsBackRow : OpenClaim := { program := "yteiohcgohgcjfaa", sum := "79ac32baef8fb9c53a48015741310b2c2b46f29a367c926fc12f6945faa15a1a", func := "tailrace/tailracelaw21.RecordsBack", spec := "recordsBack", unfollowed := true, recurses := true, apart := false }
def RecordsBackSaid : Prop := recordsBackRow.holds Try.pinned (OpenSpec.ofChange recordsBackSpec)

/-- ITS FALSE NEIGHBOUR: 'it returns false'. Refute it at one input. -/
def recordsBackWrong : ChangeSpec := { name := "recordsBack", fn := fun _ => fun
  | [d1, d2, d3] => { results := [.lit (.bool false)], args := [d1, d2, d3] }
  | _ => none }
def RecordsBackWrongFalsely : Prop := recordsBackRow.holds Try.pinned (OpenSpec.ofChange recordsBackWrong)

/-- 'tailracelaw21.RecordsSame': WHATEVER THE INPUT: true; the input reads as it did. -/
def recordsSameSpec : ChangeSpec := { name := "recordsSame", fn := fun _ => fun
  | [d1, d2] => { results := [.lit (.bool true)], args := [d1, d2] }
  | _ => none }
def recordsSameRow : OpenClaim := { program := "yteiohcgohgcjfaa", sum := "79ac32baef8fb9c53a48015741310b2c2b46f29a367c926fc12f6945faa15a1a", func := "tailrace/tailracelaw21.RecordsSame", spec := "recordsSame", unfollowed := true, recurses := true, apart := false }
def RecordsSameSaid : Prop := recordsSameRow.holds Try.pinned (OpenSpec.ofChange recordsSameSpec)

/-- ITS FALSE NEIGHBOUR: 'it returns false'. Refute it at one input. -/
def recordsSameWrong : ChangeSpec := { name := "recordsSame", fn := fun _ => fun
  | [d1, d2] => { results := [.lit (.bool false)], args := [d1, d2] }
  | _ => none }
def RecordsSameWrongFalsely : Prop := recordsSameRow.holds Try.pinned (OpenSpec.ofChange recordsSameWrong)

/-- 'tailracelaw21.RecordsKnown': WHATEVER THE INPUT: true; the input reads as it did. -/
def recordsKnownSpec : ChangeSpec := { name := "recordsKnown", fn := fun _ => fun
  | [] => { results := [.lit (.bool true)], args := [] }
  | _ => none }
def recordsKnownRow : OpenClaim := { program := "yteiohcgohgcjfaa", sum := "79ac32baef8fb9c53a48015741310b2c2b46f29a367c926fc12f6945faa15a1a", func := "tailrace/tailracelaw21.RecordsKnown", spec := "recordsKnown", unfollowed := true, recurses := true, apart := false }
def RecordsKnownSaid : Prop := recordsKnownRow.holds Try.pinned (OpenSpec.ofChange recordsKnownSpec)

/-- ITS FALSE NEIGHBOUR: 'it returns false'. Refute it at one input. -/
def recordsKnownWrong : ChangeSpec := { name := "recordsKnown", fn := fun _ => fun
  | [] => { results := [.lit (.bool false)], args := [] }
  | _ => none }
def RecordsKnownWrongFalsely : Prop := recordsKnownRow.holds Try.pinned (OpenSpec.ofChange recordsKnownWrong)

/- THE SECOND FORM. 'bulk': how many values and letters a reading holds, each counted each time it is reached (what is shared counts as often as it is met; a slice's spare places count too). A statement '..UptoSaid' is the law's where the arguments, and the package variables that the reading takes, are together of bulk at most 1048576: NARROWER than '..Said'. Prove '..Said' where nothing that the law and all that it calls make is longer than what came in: it says more and counts as full. Else prove '..UptoSaid'. A law counts once. -/
mutual
def uptoBulk {H : Type} : DataW H → Nat
  | .lit (.string bytes) => bytes.length + 1
  | .lit _ => 1
  | .nil => 1
  | .ptr d => uptoBulk d + 1
  | .slice elems spare => uptoBulkAll elems + uptoBulkAll spare + 1
  | .agg parts => uptoBulkAll parts + 1
  | .iface _ d => uptoBulk d + 1
  | .map entries => uptoBulkEntries entries + 1
  | .held _ => 1
def uptoBulkAll {H : Type} : List (DataW H) → Nat
  | [] => 0
  | d :: r => uptoBulk d + uptoBulkAll r
def uptoBulkEntries {H : Type} : List (Lit × DataW H) → Nat
  | [] => 0
  | x :: r => uptoBulkEntry x + uptoBulkEntries r
def uptoBulkEntry {H : Type} : Lit × DataW H → Nat
  | (.string bytes, d) => bytes.length + uptoBulk d + 1
  | (_, d) => uptoBulk d + 1
 end
def uptoSmall : (H : Type) → List (DataW H) → Bool := fun _ ds => decide (uptoBulkAll ds ≤ 1048576)
def OpenSpec.upto (s : _root_.Go.ChangeSpec) : _root_.Go.OpenSpec := { _root_.Go.OpenSpec.ofChange s with cond := some uptoSmall }

/-- 'tailracelaw21.RecordsPuts', WHERE WHAT IT READS IS OF BULK AT MOST 1048576: true; the input reads as it did. -/
def recordsPutsUptoRow : OpenClaim := { program := "yteiohcgohgcjfaa", sum := "79ac32baef8fb9c53a48015741310b2c2b46f29a367c926fc12f6945faa15a1a", func := "tailrace/tailracelaw21.RecordsPuts", spec := "recordsPuts", unfollowed := true, recurses := true, apart := false, narrowed := true }
def RecordsPutsUptoSaid : Prop := recordsPutsUptoRow.holds Try.pinned (OpenSpec.upto recordsPutsSpec)

/-- 'tailracelaw21.RecordsGets', WHERE WHAT IT READS IS OF BULK AT MOST 1048576: true; the input reads as it did. -/
def recordsGetsUptoRow : OpenClaim := { program := "yteiohcgohgcjfaa", sum := "79ac32baef8fb9c53a48015741310b2c2b46f29a367c926fc12f6945faa15a1a", func := "tailrace/tailracelaw21.RecordsGets", spec := "recordsGets", unfollowed := true, recurses := true, apart := false, narrowed := true }
def RecordsGetsUptoSaid : Prop := recordsGetsUptoRow.holds Try.pinned (OpenSpec.upto recordsGetsSpec)

/-- 'tailracelaw21.RecordsBack', WHERE WHAT IT READS IS OF BULK AT MOST 1048576: true; the input reads as it did. -/
def recordsBackUptoRow : OpenClaim := { program := "yteiohcgohgcjfaa", sum := "79ac32baef8fb9c53a48015741310b2c2b46f29a367c926fc12f6945faa15a1a", func := "tailrace/tailracelaw21.RecordsBack", spec := "recordsBack", unfollowed := true, recurses := true, apart := false, narrowed := true }
def RecordsBackUptoSaid : Prop := recordsBackUptoRow.holds Try.pinned (OpenSpec.upto recordsBackSpec)

/-- 'tailracelaw21.RecordsSame', WHERE WHAT IT READS IS OF BULK AT MOST 1048576: true; the input reads as it did. -/
def recordsSameUptoRow : OpenClaim := { program := "yteiohcgohgcjfaa", sum := "79ac32baef8fb9c53a48015741310b2c2b46f29a367c926fc12f6945faa15a1a", func := "tailrace/tailracelaw21.RecordsSame", spec := "recordsSame", unfollowed := true, recurses := true, apart := false, narrowed := true }
def RecordsSameUptoSaid : Prop := recordsSameUptoRow.holds Try.pinned (OpenSpec.upto recordsSameSpec)

/-- 'tailracelaw21.RecordsKnown', WHERE WHAT IT READS IS OF BULK AT MOST 1048576: true; the input reads as it did. -/
def recordsKnownUptoRow : OpenClaim := { program := "yteiohcgohgcjfaa", sum := "79ac32baef8fb9c53a48015741310b2c2b46f29a367c926fc12f6945faa15a1a", func := "tailrace/tailracelaw21.RecordsKnown", spec := "recordsKnown", unfollowed := true, recurses := true, apart := false, narrowed := true }
def RecordsKnownUptoSaid : Prop := recordsKnownUptoRow.holds Try.pinned (OpenSpec.upto recordsKnownSpec)

end Rows
end Go.Proofs.Yteiohcgohgcjfaa
