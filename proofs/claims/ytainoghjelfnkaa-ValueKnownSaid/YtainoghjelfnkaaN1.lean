/- A number's bytes are read. -/
import Derived.Test.YtainoghjelfnkaaRows
import Derived.IntWalk
import Derived.Test.YtainoghjelfnkaaWords
import Derived.Test.YtainoghjelfnkaaByts
import Derived.Test.YtainoghjelfnkaaElems
import Derived.Test.YtainoghjelfnkaaBitsW
namespace Go.Proofs.Ytainoghjelfnkaa
open Go Go.RowKit Go.Proofs.Tail
set_option linter.unusedSimpArgs false
set_option linter.unusedVariables false
def val (xs : List Int) : Int := xs.foldl (fun n b => n * 256 + b) 0
theorem val_snoc (xs : List Int) (b : Int) : val (xs ++ [b]) = val xs * 256 + b := by simp [val]
def pw : Nat → Int
  | 0 => 1
  | n + 1 => pw n * 256
theorem val_bound (xs : List Int) (h : InB xs) : 0 ≤ val xs ∧ val xs < pw xs.length := by
  have key : ∀ k, k ≤ xs.length → 0 ≤ val (xs.take k) ∧ val (xs.take k) < pw k := by
    intro k
    induction k with
    | zero => intro _; simp [val, pw]
    | succ k ih =>
      intro hk
      have h1 := ih (by omega)
      have h2 := h xs[k] (List.getElem_mem _)
      rw [List.take_succ_eq_append_getElem (by omega), val_snoc]
      unfold pw
      omega
  have := key xs.length (Nat.le_refl _)
  rwa [List.take_length] at this
theorem pw_le {n : Nat} (h : n ≤ 7) : pw n ≤ 72057594037927936 := by
  have : n = 0 ∨ n = 1 ∨ n = 2 ∨ n = 3 ∨ n = 4 ∨ n = 5 ∨ n = 6 ∨ n = 7 := by omega
  rcases this with rfl | rfl | rfl | rfl | rfl | rfl | rfl | rfl <;> decide
theorem ofInt_wrap (y : Int) : BitVec.ofInt 64 (wrap64 y) = BitVec.ofInt 64 y := by
  apply BitVec.eq_of_toNat_eq
  have h64 : ((2 ^ 64 : Nat) : Int) = 18446744073709551616 := rfl
  rw [BitVec.toNat_ofInt, BitVec.toNat_ofInt, h64]
  unfold wrap64
  omega
theorem or_wrap (p q : Int) (h0 : 0 ≤ p) (h1 : p < 72057594037927936) (q0 : 0 ≤ q) (q1 : q < 256) : bits .or .i64 (wrap64 (p * 256)) q = wrap64 (p * 256 + q) := by
  obtain ⟨n, rfl⟩ := Int.eq_ofNat_of_zero_le h0
  obtain ⟨m, rfl⟩ := Int.eq_ofNat_of_zero_le q0
  have hm : m < 256 := by omega
  have e : n * 256 ||| m = n * 256 + m := by
    have := Nat.shiftLeft_add_eq_or_of_lt (i := 8) (b := m) hm n
    rw [Nat.shiftLeft_eq] at this
    exact this.symm
  unfold bits
  have a1 : (BitVec.ofInt IntKind.i64.bits (wrap64 ((n : Int) * 256))) = BitVec.ofNat 64 (n * 256) := by
    refine (ofInt_wrap _).trans ?_
    rw [show ((n : Int) * 256) = ((n * 256 : Nat) : Int) by omega]
    exact BitVec.ofInt_natCast _ _
  have a2 : (BitVec.ofInt IntKind.i64.bits (m : Int)) = BitVec.ofNat 64 m := by rw [BitVec.ofInt_natCast]; rfl
  rw [a1, a2]
  have a3 : (BitVec.ofNat 64 (n * 256) ||| BitVec.ofNat 64 m).toNat = n * 256 + m := by
    rw [BitVec.toNat_or, BitVec.toNat_ofNat, BitVec.toNat_ofNat, Nat.mod_eq_of_lt (by omega), Nat.mod_eq_of_lt (by omega), e]
  show IntKind.i64.wrap ((BitVec.ofNat 64 (n * 256) ||| BitVec.ofNat 64 m).toNat : Int) = _
  rw [a3, show (((n * 256 + m : Nat) : Int)) = (n : Int) * 256 + m by omega]
  exact IntWalk.i64_left _
/-- The number that eight bytes are. -/
def num (xs : List Int) : Int := wrap64 (val xs)
set_option maxRecDepth 100000 in
set_option maxHeartbeats 8000000 in
theorem number_any (A : Option Addr) (n c : Nat) (xs : List Int) (w : World) (hX : Byts w A n c xs) (hi : InB xs) (hn : n ≤ 8) :
    Calls Try.prog 35 #[.slice A n c] w (Gives (.int .i64 (num xs)) w) := by
  have HX := Lib.hid hX
  have LX := Lib.hid hX.len
  have HI := Lib.hid hi
  have B0 := Lib.hid (Below.refl w.heap.size w)
  clear hX hi
  go_enter Try.func35, Try.ntmps35
  go_wp2_with fail
  go_loopw [3, 8] (fun v i wr => ∃ k : Nat, k ≤ n ∧ i = .int .i64 k ∧ v = .int .i64 (wrap64 (val (xs.take k))) ∧ Hid (Below w.heap.size w wr)) (fun _ i _ => n - (intOf i).toNat)
  case atStart => exact ⟨0, Nat.zero_le _, rfl, by simp [val, wrap64], B0⟩
  case round =>
    clear B0
    obtain ⟨k, hk, rfl, rfl, HB⟩ := hrel
    by_cases hlt : k < n
    · have hd : decide ((k : Int) < n) = true := decide_eq_true (by omega)
      have hd' : decide (k < n) = true := decide_eq_true (by omega)
      have hkn : (k : Int) < n := by omega
      obtain ⟨b, off, x, rfl, hx, hc⟩ := Rd.elem (HX.out.below RByte.stays HB.out) hlt
      have hb := HI.out x (List.mem_of_getElem? hx)
      have hb2 := hb
      have hv := val_bound (xs.take k) (fun y hy => HI.out y (List.mem_of_mem_take hy))
      have hvl : (xs.take k).length ≤ 7 := by rw [List.length_take]; omega
      have HS := Lib.hid (show val (xs.take (k + 1)) = val (xs.take k) * 256 + x by rw [List.take_add_one, hx]; exact val_snoc _ _)
      clear hx
      rw [Nat.mul_one] at hc
      have c0 : wr.cell? ⟨b, off + k, none⟩ = some (.int .u8 x) := hc
      have hpl := pw_le hvl
      generalize val (xs.take k) = p at *
      have zp : wrap64 p = p := IntWalk.wrap64_in _ ⟨by omega, by omega⟩
      have zx' : wrap64 x = x := IntWalk.wrap64_in _ ⟨by omega, by omega⟩
      have zx : IntKind.i64.wrap x = x := IntWalk.i64_in _ ⟨by omega, by omega⟩
      rw [zp]
      have zo := or_wrap p x (by omega) (by omega) (by omega) (by omega)
      have HV := Lib.hid hv
      clear hc hv hvl hpl hb hb2 zp
      go_wp2_with fail
      go_roundw
      case rel => exact ⟨k + 1, by omega, by go_num, by rw [HS.out], HB⟩
      case measure => simp [intOf]; omega
    · have hkn : k = n := by omega
      subst hkn
      have hd : decide ((k : Int) < k) = false := decide_eq_false (by omega)
      have hd' : decide (k < k) = false := decide_eq_false (by omega)
      rw [List.take_of_length_le (by rw [LX.out]; omega)]
      go_wp2_with fail
      go_ret
      exact .int rfl HB.out
theorem u64_in (n : Int) (h : 0 ≤ n ∧ n ≤ 18446744073709551615) : IntKind.u64.wrap n = n := by
  unfold IntKind.wrap
  simp only [IntKind.bits, IntKind.signed]
  simp
  omega
set_option maxRecDepth 100000 in
set_option maxHeartbeats 8000000 in
theorem refnumber_any (A : Option Addr) (n c at' : Nat) (xs : List Int) (w : World) (hX : Byts w A n c xs) (hi : InB xs) (hn : at' + 8 ≤ n) (hlim : n ≤ 1000000) :
    Calls Try.prog 36 #[.slice A n c, .int .i64 at'] w (Gives (.int .i64 (num ((xs.drop at').take 8))) w) := by
  have HX := Lib.hid hX
  have LX := Lib.hid hX.len
  have HI := Lib.hid hi
  have B0 := Lib.hid (Below.refl w.heap.size w)
  clear hX hi
  go_enter Try.func36, Try.ntmps36
  go_wp2_with fail
  go_loopw [5, 6] (fun v i wr => ∃ k : Nat, k ≤ 8 ∧ i = .int .i64 k ∧ v = .int .u64 (val ((xs.drop at').take k)) ∧ Hid (Below w.heap.size w wr)) (fun _ i _ => 8 - (intOf i).toNat)
  case atStart => exact ⟨0, Nat.zero_le _, rfl, by simp [val, wrap64], B0⟩
  case round =>
    clear B0
    obtain ⟨k, hk, rfl, rfl, HB⟩ := hrel
    by_cases hlt : k < 8
    · have hd : decide ((k : Int) < 8) = true := decide_eq_true (by omega)
      have hd' : decide (k < 8) = true := decide_eq_true (by omega)
      obtain ⟨b, off, x, rfl, hx, hc⟩ := Rd.elem (HX.out.below RByte.stays HB.out) (show at' + k < n by omega)
      have hb := HI.out x (List.mem_of_getElem? hx)
      have hv := val_bound ((xs.drop at').take k) (fun y hy => HI.out y (List.mem_of_mem_drop (List.mem_of_mem_take hy)))
      have hvl : ((xs.drop at').take k).length ≤ 7 := by rw [List.length_take]; omega
      have HS := Lib.hid (show val ((xs.drop at').take (k + 1)) = val ((xs.drop at').take k) * 256 + x by rw [List.take_add_one, List.getElem?_drop, hx]; exact val_snoc _ _)
      clear hx
      rw [Nat.mul_one] at hc
      have c0 : wr.cell? ⟨b, off + (at' + k), none⟩ = some (.int .u8 x) := hc
      have hpl := pw_le hvl
      generalize val ((xs.drop at').take k) = p at *
      have z1 : IntKind.u64.wrap x = x := u64_in _ ⟨by omega, by omega⟩
      have z2 : IntKind.u64.wrap (p * 256) = p * 256 := u64_in _ ⟨by omega, by omega⟩
      have z3 : IntKind.u64.wrap (p * 256 + x) = p * 256 + x := u64_in _ ⟨by omega, by omega⟩
      have z4 : IntKind.i64.wrap ((at' : Int) + k) = ((at' + k : Nat) : Int) := by rw [IntWalk.i64_in _ ⟨by omega, by omega⟩]; omega
      have hin : (((at' + k : Nat) : Int)) < n := by omega
      have HV := Lib.hid hv
      clear hc hv hvl hpl hb
      go_wp2_with fail

      go_roundw
      case rel => exact ⟨k + 1, by omega, by go_num, by rw [HS.out], HB⟩
      case measure => simp [intOf]; omega
    · obtain rfl : k = 8 := by omega
      go_wp2_with fail
      go_ret
      exact .int rfl HB.out
end Go.Proofs.Ytainoghjelfnkaa
