/- Plain laws of records as bytes. -/
import Derived.Test.YtainoghjelfnkaaRows
import Derived.Test.YtainoghjelfnkaaWords
import Derived.Test.YtainoghjelfnkaaByts
import Derived.Test.YtainoghjelfnkaaV1
import Derived.Test.YtainoghjelfnkaaV10
import Derived.Test.YtainoghjelfnkaaN1
namespace Go.Proofs.Ytainoghjelfnkaa
open Go Go.RowKit Go.Proofs.Tail
set_option linter.unusedSimpArgs false
set_option linter.unusedVariables false
theorem val8 (n : Int) : val (b8 n) = n % 18446744073709551616 := by
  have e1 : n / 256 / 256 = n / 65536 := by omega
  have e2 : n / 65536 / 256 = n / 16777216 := by omega
  have e3 : n / 16777216 / 256 = n / 4294967296 := by omega
  have e4 : n / 4294967296 / 256 = n / 1099511627776 := by omega
  have e5 : n / 1099511627776 / 256 = n / 281474976710656 := by omega
  have e6 : n / 281474976710656 / 256 = n / 72057594037927936 := by omega
  have e7 : n / 72057594037927936 / 256 = n / 18446744073709551616 := by omega
  have m := Int.emod_add_mul_ediv n 18446744073709551616
  simp only [val, b8, List.foldl_cons, List.foldl_nil]
  have h0 := Int.emod_add_mul_ediv n 256
  have h1 := Int.emod_add_mul_ediv (n / 256) 256
  have h2 := Int.emod_add_mul_ediv (n / 65536) 256
  have h3 := Int.emod_add_mul_ediv (n / 16777216) 256
  have h4 := Int.emod_add_mul_ediv (n / 4294967296) 256
  have h5 := Int.emod_add_mul_ediv (n / 1099511627776) 256
  have h6 := Int.emod_add_mul_ediv (n / 281474976710656) 256
  have h7 := Int.emod_add_mul_ediv (n / 72057594037927936) 256
  rw [e1] at h1; rw [e2] at h2; rw [e3] at h3; rw [e4] at h4; rw [e5] at h5; rw [e6] at h6; rw [e7] at h7
  generalize n % 256 = r0 at *
  generalize n / 256 % 256 = r1 at *
  generalize n / 65536 % 256 = r2 at *
  generalize n / 16777216 % 256 = r3 at *
  generalize n / 4294967296 % 256 = r4 at *
  generalize n / 1099511627776 % 256 = r5 at *
  generalize n / 281474976710656 % 256 = r6 at *
  generalize n / 72057594037927936 % 256 = r7 at *
  generalize n % 18446744073709551616 = r8 at *
  generalize n / 256 = q1 at *
  generalize n / 65536 = q2 at *
  generalize n / 16777216 = q3 at *
  generalize n / 4294967296 = q4 at *
  generalize n / 1099511627776 = q5 at *
  generalize n / 281474976710656 = q6 at *
  generalize n / 72057594037927936 = q7 at *
  generalize n / 18446744073709551616 = q8 at *
  clear e1 e2 e3 e4 e5 e6 e7
  omega
def In64 (x : Int) : Prop := -9223372036854775808 ≤ x ∧ x ≤ 9223372036854775807
theorem num8 (n : Int) (h : In64 n) : num (b8 n) = n := by
  unfold In64 at h
  unfold num wrap64
  rw [val8]
  omega
/-- The record that sixteen bytes are, from a place on. -/
def recAt (xs : List Int) (p : Nat) : Rc := (num ((xs.drop p).take 8), num ((xs.drop (p + 8)).take 8))
def recs (xs : List Int) : List Rc := (List.range (xs.length / 16)).map fun j => recAt xs (16 * j)
/-- What Get says. -/
def getB (xs : List Int) : Option (List Rc) := if xs.length % 16 = 0 then some (recs xs) else none
theorem recs_cons (x : Rc) (h1 : In64 x.1) (h2 : In64 x.2) (ys : List Int) : recs (b8 x.1 ++ b8 x.2 ++ ys) = x :: recs ys := by
  have hl : (b8 x.1 ++ b8 x.2 ++ ys).length / 16 = ys.length / 16 + 1 := by simp [b8]; omega
  unfold recs
  rw [hl, List.range_succ_eq_map, List.map_cons, List.map_map]
  have hd : ∀ p, (b8 x.1 ++ b8 x.2 ++ ys).drop (16 + p) = ys.drop p := fun p => by
    rw [← List.drop_drop]
    congr 1
  have e1 : ((b8 x.1 ++ b8 x.2 ++ ys).drop (16 * 0)).take 8 = b8 x.1 := by simp [b8]
  have e2 : ((b8 x.1 ++ b8 x.2 ++ ys).drop (16 * 0 + 8)).take 8 = b8 x.2 := by simp [b8]
  have h0 : recAt (b8 x.1 ++ b8 x.2 ++ ys) (16 * 0) = x := by
    unfold recAt
    rw [e1, e2, num8 _ h1, num8 _ h2]
  rw [h0]
  refine congrArg (x :: ·) (List.map_congr_left fun j _ => ?_)
  show recAt _ (16 * (j + 1)) = _
  unfold recAt
  rw [show 16 * (j + 1) = 16 + 16 * j by omega, hd, show 16 + 16 * j + 8 = 16 + (16 * j + 8) by omega, hd]
theorem recs_put (l : List Rc) (h : ∀ x ∈ l, In64 x.1 ∧ In64 x.2) : recs (putR l) = l := by
  induction l with
  | nil => rfl
  | cons x l ih =>
    have hx := h x (by simp)
    show recs (b8 x.1 ++ b8 x.2 ++ putR l) = _
    rw [recs_cons x hx.1 hx.2, ih fun y hy => h y (by simp [hy])]
theorem get_put (l : List Rc) (h : ∀ x ∈ l, In64 x.1 ∧ In64 x.2) : getB (putR l) = some l := by
  unfold getB
  rw [if_pos (by rw [putR_length]; omega), recs_put l h]
theorem putR_in (l : List Rc) : InB (putR l) := by
  intro x hx
  simp only [putR, List.mem_flatMap, List.mem_append] at hx
  obtain ⟨y, _, hy | hy⟩ := hx
  · exact b8_in _ x hy
  · exact b8_in _ x hy
end Go.Proofs.Ytainoghjelfnkaa
