/- General: shl and or of bytes; results of which one lies in a cell. -/
import Derived.Test.YteiohcgohgcjfaaWords
import Derived.Laws.ResultCell
namespace Go.Proofs.Tail
open Go.RowKit
theorem bits_or_byte64 (p q : Int) (h0 : 0 ≤ p) (h1 : p < 36028797018963968) (q0 : 0 ≤ q) (q1 : q < 256) : bits .or .i64 (p * 256) q = p * 256 + q := by
  obtain ⟨n, rfl⟩ := Int.eq_ofNat_of_zero_le h0
  obtain ⟨m, rfl⟩ := Int.eq_ofNat_of_zero_le q0
  have hm : m < 256 := by omega
  have e : n * 256 ||| m = n * 256 + m := by
    have := Nat.shiftLeft_add_eq_or_of_lt (i := 8) (b := m) hm n
    rw [Nat.shiftLeft_eq] at this
    exact this.symm
  unfold bits
  have a1 : (BitVec.ofInt IntKind.i64.bits ((n : Int) * 256)) = BitVec.ofNat 64 (n * 256) := by
    rw [show ((n : Int) * 256) = ((n * 256 : Nat) : Int) by omega, BitVec.ofInt_natCast]; rfl
  have a2 : (BitVec.ofInt IntKind.i64.bits (m : Int)) = BitVec.ofNat 64 m := by rw [BitVec.ofInt_natCast]; rfl
  rw [a1, a2]
  have a3 : (BitVec.ofNat 64 (n * 256) ||| BitVec.ofNat 64 m).toNat = n * 256 + m := by
    rw [BitVec.toNat_or, BitVec.toNat_ofNat, BitVec.toNat_ofNat, Nat.mod_eq_of_lt (by omega), Nat.mod_eq_of_lt (by omega), e]
  show IntKind.i64.wrap ((BitVec.ofNat 64 (n * 256) ||| BitVec.ofNat 64 m).toNat : Int) = _
  rw [a3]
  rw [IntWalk.i64_in _ ⟨by omega, by omega⟩]
  omega
theorem results_cell_tmp2 {fn : Func} {p u v : Tmp} {ty : TypeId} (h : fn.results = #[.cell p ty, .tmp u, .tmp v]) (tmps : Array Value) (P : Program) (w : World) :
    (results fn tmps).run P w =
      ((asAddr (tmps.getD p undef)).run P w).andThen fun a w₁ => ((loadVar ty a).run P w₁).andThen fun x w₂ => .ok (.tuple #[x, tmps.getD u undef, tmps.getD v undef]) w₂ := by
  simp only [results, h]
  simp [Sem.run_bind, Result.andThen]
end Go.Proofs.Tail
