/-
  No cell of these rows narrows 'for every input' (looked for: loops, veiled, ifaces, maps, wideKeys, modest, calm, conditions, laid).
  DERIVED. THE GIVEN ROWS OF THIS SEAT. 6 by the template 'for every input the law returns true; each argument reads behind the call as it read before'; 0 by the template 'total and deterministic' (their statements: YtnpiocbgbpnlmaaTotals.lean).
  GIVEN WITH THE SEED: the statements are not yours to turn. If you find one false, say at which input.
  Laid BY PROGRAM, IN A SANDBOX (cutbox-rows.mjs): the forced cells as the released guide's own fill.sh prints them over the translation f47ccb4abaa854c0… (all of the seat's roots in one cut). By AI agents, Wed Nov 11 2026. No macro, syntax, notation, axiom, sorry.
-/
import Derived.Test.YtnpiocbgbpnlmaaChecked
import GoSem.Claim
import GoSem.ClaimJoined
import GoSem.ClaimMapViews
import Derived.JoinedTies
import Derived.KernelRfl
namespace Go.Proofs.Ytnpiocbgbpnlmaa
/- THE CELL 'sum', in the pinned program and in every row, IS THE sha256 OF THE DUMP (.gsa) THAT YtnpiocbgbpnlmaaProg.lean LOADS. Nothing in Lean hashes anything: it is a label: what it is worth is what the hold of that sum in a sandbox is worth. -/
noncomputable def Try.pinned : Pinned := { name := "ytnpiocbgbpnlmaa", sum := "f47ccb4abaa854c0b54c8f7b36ecc8bbd43e579fedb366ec5244a41e8f34a7ed", checked := Try.checked }
namespace Rows
def none {H : Type} : Left H := { results := [], args := [] }

/-- 'tailracelaw02.FieldsWritten': WHATEVER THE INPUT: true; the input reads as it did. -/
def fieldsWrittenSpec : ChangeSpec := { name := "fieldsWritten", fn := fun _ => fun
  | [d1, d2] => { results := [.lit (.bool true)], args := [d1, d2] }
  | _ => none }
def fieldsWrittenRow : OpenClaim := { program := "ytnpiocbgbpnlmaa", sum := "f47ccb4abaa854c0b54c8f7b36ecc8bbd43e579fedb366ec5244a41e8f34a7ed", func := "tailrace/tailracelaw02.FieldsWritten", spec := "fieldsWritten", recurses := true, apart := false }
def FieldsWrittenSaid : Prop := fieldsWrittenRow.holds Try.pinned (OpenSpec.ofChange fieldsWrittenSpec)

/-- ITS FALSE NEIGHBOUR: 'it returns false'. Refute it at one input. -/
def fieldsWrittenWrong : ChangeSpec := { name := "fieldsWritten", fn := fun _ => fun
  | [d1, d2] => { results := [.lit (.bool false)], args := [d1, d2] }
  | _ => none }
def FieldsWrittenWrongFalsely : Prop := fieldsWrittenRow.holds Try.pinned (OpenSpec.ofChange fieldsWrittenWrong)

/-- 'tailracelaw02.FieldsRead': WHATEVER THE INPUT: true; the input reads as it did. -/
def fieldsReadSpec : ChangeSpec := { name := "fieldsRead", fn := fun _ => fun
  | [d1, d2] => { results := [.lit (.bool true)], args := [d1, d2] }
  | _ => none }
def fieldsReadRow : OpenClaim := { program := "ytnpiocbgbpnlmaa", sum := "f47ccb4abaa854c0b54c8f7b36ecc8bbd43e579fedb366ec5244a41e8f34a7ed", func := "tailrace/tailracelaw02.FieldsRead", spec := "fieldsRead", recurses := true, apart := false }
def FieldsReadSaid : Prop := fieldsReadRow.holds Try.pinned (OpenSpec.ofChange fieldsReadSpec)

/-- ITS FALSE NEIGHBOUR: 'it returns false'. Refute it at one input. -/
def fieldsReadWrong : ChangeSpec := { name := "fieldsRead", fn := fun _ => fun
  | [d1, d2] => { results := [.lit (.bool false)], args := [d1, d2] }
  | _ => none }
def FieldsReadWrongFalsely : Prop := fieldsReadRow.holds Try.pinned (OpenSpec.ofChange fieldsReadWrong)

/-- 'tailracelaw02.FieldsBoth': WHATEVER THE INPUT: true; the input reads as it did. -/
def fieldsBothSpec : ChangeSpec := { name := "fieldsBoth", fn := fun _ => fun
  | [d1, d2] => { results := [.lit (.bool true)], args := [d1, d2] }
  | _ => none }
def fieldsBothRow : OpenClaim := { program := "ytnpiocbgbpnlmaa", sum := "f47ccb4abaa854c0b54c8f7b36ecc8bbd43e579fedb366ec5244a41e8f34a7ed", func := "tailrace/tailracelaw02.FieldsBoth", spec := "fieldsBoth", recurses := true, apart := false }
def FieldsBothSaid : Prop := fieldsBothRow.holds Try.pinned (OpenSpec.ofChange fieldsBothSpec)

/-- ITS FALSE NEIGHBOUR: 'it returns false'. Refute it at one input. -/
def fieldsBothWrong : ChangeSpec := { name := "fieldsBoth", fn := fun _ => fun
  | [d1, d2] => { results := [.lit (.bool false)], args := [d1, d2] }
  | _ => none }
def FieldsBothWrongFalsely : Prop := fieldsBothRow.holds Try.pinned (OpenSpec.ofChange fieldsBothWrong)

/-- 'tailracelaw02.FieldsUnread': WHATEVER THE INPUT: true; the input reads as it did. -/
def fieldsUnreadSpec : ChangeSpec := { name := "fieldsUnread", fn := fun _ => fun
  | [d1, d2, d3] => { results := [.lit (.bool true)], args := [d1, d2, d3] }
  | _ => none }
def fieldsUnreadRow : OpenClaim := { program := "ytnpiocbgbpnlmaa", sum := "f47ccb4abaa854c0b54c8f7b36ecc8bbd43e579fedb366ec5244a41e8f34a7ed", func := "tailrace/tailracelaw02.FieldsUnread", spec := "fieldsUnread", recurses := true, apart := false }
def FieldsUnreadSaid : Prop := fieldsUnreadRow.holds Try.pinned (OpenSpec.ofChange fieldsUnreadSpec)

/-- ITS FALSE NEIGHBOUR: 'it returns false'. Refute it at one input. -/
def fieldsUnreadWrong : ChangeSpec := { name := "fieldsUnread", fn := fun _ => fun
  | [d1, d2, d3] => { results := [.lit (.bool false)], args := [d1, d2, d3] }
  | _ => none }
def FieldsUnreadWrongFalsely : Prop := fieldsUnreadRow.holds Try.pinned (OpenSpec.ofChange fieldsUnreadWrong)

/-- 'tailracelaw02.FieldsSpoilt': WHATEVER THE INPUT: true; the input reads as it did. -/
def fieldsSpoiltSpec : ChangeSpec := { name := "fieldsSpoilt", fn := fun _ => fun
  | [d1, d2] => { results := [.lit (.bool true)], args := [d1, d2] }
  | _ => none }
def fieldsSpoiltRow : OpenClaim := { program := "ytnpiocbgbpnlmaa", sum := "f47ccb4abaa854c0b54c8f7b36ecc8bbd43e579fedb366ec5244a41e8f34a7ed", func := "tailrace/tailracelaw02.FieldsSpoilt", spec := "fieldsSpoilt", recurses := true, apart := false }
def FieldsSpoiltSaid : Prop := fieldsSpoiltRow.holds Try.pinned (OpenSpec.ofChange fieldsSpoiltSpec)

/-- ITS FALSE NEIGHBOUR: 'it returns false'. Refute it at one input. -/
def fieldsSpoiltWrong : ChangeSpec := { name := "fieldsSpoilt", fn := fun _ => fun
  | [d1, d2] => { results := [.lit (.bool false)], args := [d1, d2] }
  | _ => none }
def FieldsSpoiltWrongFalsely : Prop := fieldsSpoiltRow.holds Try.pinned (OpenSpec.ofChange fieldsSpoiltWrong)

/-- 'tailracelaw02.FieldsKnown': WHATEVER THE INPUT: true; the input reads as it did. -/
def fieldsKnownSpec : ChangeSpec := { name := "fieldsKnown", fn := fun _ => fun
  | [] => { results := [.lit (.bool true)], args := [] }
  | _ => none }
def fieldsKnownRow : OpenClaim := { program := "ytnpiocbgbpnlmaa", sum := "f47ccb4abaa854c0b54c8f7b36ecc8bbd43e579fedb366ec5244a41e8f34a7ed", func := "tailrace/tailracelaw02.FieldsKnown", spec := "fieldsKnown", recurses := true, apart := false }
def FieldsKnownSaid : Prop := fieldsKnownRow.holds Try.pinned (OpenSpec.ofChange fieldsKnownSpec)

/-- ITS FALSE NEIGHBOUR: 'it returns false'. Refute it at one input. -/
def fieldsKnownWrong : ChangeSpec := { name := "fieldsKnown", fn := fun _ => fun
  | [] => { results := [.lit (.bool false)], args := [] }
  | _ => none }
def FieldsKnownWrongFalsely : Prop := fieldsKnownRow.holds Try.pinned (OpenSpec.ofChange fieldsKnownWrong)

/- THE SECOND FORM. 'bulk': how many values and letters a reading holds, each counted each time it is reached (what is shared counts as often as it is met; a slice's spare places count too). A statement '..UptoSaid' is the law's where the arguments, and the package variables that the reading takes, are together of bulk at most 1048576: NARROWER than '..Said'. Prove '..Said' where nothing that the law and all that it calls make is longer than what came in: it says more and counts as full. Else prove '..UptoSaid'. A law counts once. -/
mutual
def uptoBulk {H : Type} : DataW H → Nat
  | .lit (.string bytes) => bytes.length + 1
  | .lit _ => 1
  | .nil => 1
  | .ptr d => uptoBulk d + 1
  | .slice elems spare => uptoBulkAll elems + uptoBulkAll spare + 1
  | .agg parts => uptoBulkAll parts + 1
  | .iface _ d => uptoBulk d + 1
  | .map entries => uptoBulkEntries entries + 1
  | .held _ => 1
def uptoBulkAll {H : Type} : List (DataW H) → Nat
  | [] => 0
  | d :: r => uptoBulk d + uptoBulkAll r
def uptoBulkEntries {H : Type} : List (Lit × DataW H) → Nat
  | [] => 0
  | x :: r => uptoBulkEntry x + uptoBulkEntries r
def uptoBulkEntry {H : Type} : Lit × DataW H → Nat
  | (.string bytes, d) => bytes.length + uptoBulk d + 1
  | (_, d) => uptoBulk d + 1
 end
def uptoSmall : (H : Type) → List (DataW H) → Bool := fun _ ds => decide (uptoBulkAll ds ≤ 1048576)
def OpenSpec.upto (s : _root_.Go.ChangeSpec) : _root_.Go.OpenSpec := { _root_.Go.OpenSpec.ofChange s with cond := some uptoSmall }

/-- 'tailracelaw02.FieldsWritten', WHERE WHAT IT READS IS OF BULK AT MOST 1048576: true; the input reads as it did. -/
def fieldsWrittenUptoRow : OpenClaim := { program := "ytnpiocbgbpnlmaa", sum := "f47ccb4abaa854c0b54c8f7b36ecc8bbd43e579fedb366ec5244a41e8f34a7ed", func := "tailrace/tailracelaw02.FieldsWritten", spec := "fieldsWritten", recurses := true, apart := false, narrowed := true }
def FieldsWrittenUptoSaid : Prop := fieldsWrittenUptoRow.holds Try.pinned (OpenSpec.upto fieldsWrittenSpec)

/-- 'tailracelaw02.FieldsRead', WHERE WHAT IT READS IS OF BULK AT MOST 1048576: true; the input reads as it did. -/
def fieldsReadUptoRow : OpenClaim := { program := "ytnpiocbgbpnlmaa", sum := "f47ccb4abaa854c0b54c8f7b36ecc8bbd43e579fedb366ec5244a41e8f34a7ed", func := "tailrace/tailracelaw02.FieldsRead", spec := "fieldsRead", recurses := true, apart := false, narrowed := true }
def FieldsReadUptoSaid : Prop := fieldsReadUptoRow.holds Try.pinned (OpenSpec.upto fieldsReadSpec)

/-- 'tailracelaw02.FieldsBoth', WHERE WHAT IT READS IS OF BULK AT MOST 1048576: true; the input reads as it did. -/
def fieldsBothUptoRow : OpenClaim := { program := "ytnpiocbgbpnlmaa", sum := "f47ccb4abaa854c0b54c8f7b36ecc8bbd43e579fedb366ec5244a41e8f34a7ed", func := "tailrace/tailracelaw02.FieldsBoth", spec := "fieldsBoth", recurses := true, apart := false, narrowed := true }
def FieldsBothUptoSaid : Prop := fieldsBothUptoRow.holds Try.pinned (OpenSpec.upto fieldsBothSpec)

/-- 'tailracelaw02.FieldsUnread', WHERE WHAT IT READS IS OF BULK AT MOST 1048576: true; the input reads as it did. -/
def fieldsUnreadUptoRow : OpenClaim := { program := "ytnpiocbgbpnlmaa", sum := "f47ccb4abaa854c0b54c8f7b36ecc8bbd43e579fedb366ec5244a41e8f34a7ed", func := "tailrace/tailracelaw02.FieldsUnread", spec := "fieldsUnread", recurses := true, apart := false, narrowed := true }
def FieldsUnreadUptoSaid : Prop := fieldsUnreadUptoRow.holds Try.pinned (OpenSpec.upto fieldsUnreadSpec)

/-- 'tailracelaw02.FieldsSpoilt', WHERE WHAT IT READS IS OF BULK AT MOST 1048576: true; the input reads as it did. -/
def fieldsSpoiltUptoRow : OpenClaim := { program := "ytnpiocbgbpnlmaa", sum := "f47ccb4abaa854c0b54c8f7b36ecc8bbd43e579fedb366ec5244a41e8f34a7ed", func := "tailrace/tailracelaw02.FieldsSpoilt", spec := "fieldsSpoilt", recurses := true, apart := false, narrowed := true }
def FieldsSpoiltUptoSaid : Prop := fieldsSpoiltUptoRow.holds Try.pinned (OpenSpec.upto fieldsSpoiltSpec)

/-- 'tailracelaw02.FieldsKnown', WHERE WHAT IT READS IS OF BULK AT MOST 1048576: true; the input reads as it did. -/
def fieldsKnownUptoRow : OpenClaim := { program := "ytnpiocbgbpnlmaa", sum := "f47ccb4abaa854c0b54c8f7b36ecc8bbd43e579fedb366ec5244a41e8f34a7ed", func := "tailrace/tailracelaw02.FieldsKnown", spec := "fieldsKnown", recurses := true, apart := false, narrowed := true }
def FieldsKnownUptoSaid : Prop := fieldsKnownUptoRow.holds Try.pinned (OpenSpec.upto fieldsKnownSpec)

end Rows
end Go.Proofs.Ytnpiocbgbpnlmaa
