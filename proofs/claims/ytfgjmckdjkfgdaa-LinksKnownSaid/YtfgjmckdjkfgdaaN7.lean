/- The cells of a new net. -/
import Derived.Test.YtfgjmckdjkfgdaaRows
import Derived.Test.YtfgjmckdjkfgdaaWords
import Derived.Test.YtfgjmckdjkfgdaaN5
namespace Go.Proofs.Ytfgjmckdjkfgdaa
open Go Go.RowKit Go.Proofs.Tail
def nil? : Value → Bool
  | .slice none 0 0 => true
  | _ => false
theorem nil?_eq {v : Value} (h : nil? v = true) : v = .slice none 0 0 := by
  unfold nil? at h
  split at h
  · rfl
  · cases h
def nils : Nat → List Value → Bool
  | 0, _ => true
  | n + 1, v :: t => match nil? v with | true => nils n t | false => false
  | _ + 1, [] => false
theorem zNet_0 : zNet[0]? = some (.int .i64 0) := by kernel_rfl
theorem zNet_4097 : zNet[4097]? = some (.int .i64 0) := by kernel_rfl
theorem zNet_4098 : zNet[4098]? = some (.int .i64 0) := by kernel_rfl
theorem zNet_nils : nils 4096 (zNet.toList.drop 1) = true := by kernel_rfl
theorem nils_at : ∀ (n : Nat) (l : List Value) (k : Nat), nils n l = true → k < n → l[k]? = some (.slice none 0 0)
  | 0, _, _, _, hk => absurd hk (Nat.not_lt_zero _)
  | n + 1, [], _, h, _ => by simp [nils] at h
  | n + 1, v :: t, k, h, hk => by
    unfold nils at h
    split at h
    · rename_i hv
      cases k with
      | zero => rw [nil?_eq hv]; rfl
      | succ k => exact nils_at n t k h (by omega)
    · cases h
theorem zNet_cell (k : Nat) (h : k < 4096) : zNet[1 + k]? = some (.slice none 0 0) := by
  have := nils_at _ _ k zNet_nils h
  rwa [List.getElem?_drop, Array.getElem?_toList] at this
end Go.Proofs.Ytfgjmckdjkfgdaa
