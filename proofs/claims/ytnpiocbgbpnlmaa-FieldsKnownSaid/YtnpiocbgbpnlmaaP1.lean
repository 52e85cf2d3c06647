/- Plain laws of reading what was written. -/
import Derived.Test.YtnpiocbgbpnlmaaRows
import Derived.Test.YtnpiocbgbpnlmaaWords
import Derived.Test.YtnpiocbgbpnlmaaByts
import Derived.Test.YtnpiocbgbpnlmaaStrs
import Derived.Test.YtnpiocbgbpnlmaaElems
import Derived.Test.YtnpiocbgbpnlmaaA1
import Derived.Test.YtnpiocbgbpnlmaaA4
import Derived.Test.YtnpiocbgbpnlmaaA8
import Derived.Test.YtnpiocbgbpnlmaaA10
namespace Go.Proofs.Ytnpiocbgbpnlmaa
open Go Go.Lib Go.RowKit Go.Proofs.Tail
set_option linter.unusedSimpArgs false
set_option linter.unusedVariables false
theorem nxt_txt (x : Th) (rest : List Int) : nxt (x.txt ++ rest) false x.wants = (x.txt, rest, false) := by
  rw [nxt_yes (by omega) (by rw [List.length_append, x.txt_length]; omega), Int.toNat_natCast, ← x.txt_length, List.take_left, List.drop_left]
theorem readL_txt (x : Th) : x.readL x.txt = x.txt := by
  unfold Th.readL
  split
  · rfl
  · rename_i h
    rw [if_neg]
    intro e
    have := x.txt_length
    rw [e] at this
    unfold Th.wants at this
    rw [if_neg h] at this
    simp at this
    exact h this.symm
theorem txts_drop {ts : List Th} {k : Nat} {x : Th} (h : ts[k]? = some x) : txts (ts.drop k) = x.txt ++ txts (ts.drop (k + 1)) := by
  have hk := (List.getElem?_eq_some_iff.1 h).1
  rw [List.drop_eq_getElem_cons hk, (List.getElem?_eq_some_iff.1 h).2]
  simp [txts]
theorem nums_str {xs : List Int} (h : InB xs) : numsOf (strOfNums xs) = xs := by
  rw [numsOf, strOfNums_data, List.map_map]
  refine (List.map_congr_left fun x hx => ?_).trans (List.map_id _)
  have := h x hx
  show ((UInt8.ofNat x.toNat).toNat : Int) = x
  rw [UInt8.toNat_ofNat']
  omega
def VThc (x : Th) (vs : List Value) : Prop := vs = [.int .i8 x.s, .int .u64 x.n, .string x.b] ∧ x.ok
theorem ths_cells {w : World} {A : Option Addr} {n c : Nat} {ts : List Th} (h : Ths w A n c ts) :
    ∃ cs, Cells 3 VThc cs ts ∧ cs.length = n * 3 ∧ (0 < n → ∃ ad, A = some ad ∧ ∀ j u, cs[j]? = some u → w.cell? (ad.add j) = some u) ∧ ∀ u ∈ cs, u.oneCell' = true :=
  h.cells (V := VThc) fun b o x hx => ⟨_, ⟨rfl, hx.ok⟩, rfl, fun i v hv => by
    match i, hv with
    | 0, hv => injection hv with hv; subst hv; exact hx.c0
    | 1, hv => injection hv with hv; subst hv; exact hx.c1
    | 2, hv => injection hv with hv; subst hv; exact hx.c2
    | i + 3, hv => simp at hv, by simp [Value.oneCell']⟩
theorem ths_own {w : World} {base n : Nat} {v : Value} {cs : List Value} {ts : List Th} (h : w.ownsRow base 42 3 v n cs) (hn : ts.length = n) (hb : n ≤ 9223372036854775807) (hc : Cells 3 VThc cs ts) :
    ∃ A c, v = .slice A n c ∧ Ths w A n c ts :=
  own_rd h hn hb hc fun b o x vs hv hcell => by
    obtain ⟨rfl, ok⟩ := hv
    exact ⟨hcell 0 _ rfl, hcell 1 _ rfl, hcell 2 _ rfl, ok⟩
theorem infoTh : (Try.prog.info? 42).map (fun i => (i.zero, i.size, i.bytes)) = some (some (.agg #[.int .i8 0, .int .u64 0, .string ⟨#[]⟩]), 3, 32) := by kernel_rfl
end Go.Proofs.Ytnpiocbgbpnlmaa
