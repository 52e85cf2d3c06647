/- General: strings as rows of numbers; []byte(s); a row of bytes that is appended to. -/
import Derived.Lib.ConvBytes
import Derived.Lib.LazyBuf
import Derived.Test.YteiohcgohgcjfaaWords
import Derived.Test.YteiohcgohgcjfaaByts
import Derived.Test.YteiohcgohgcjfaaFrame
namespace Go.Proofs.Tail
open Go Go.Lib Go.RowKit
/-- A string's bytes, as numbers. -/
def numsOf (s : ByteArray) : List Int := s.data.toList.map fun b => (b.toNat : Int)
theorem numsOf_length (s : ByteArray) : (numsOf s).length = s.size := by rw [numsOf, List.length_map, Array.length_toList]; rfl
theorem numsOf_in (s : ByteArray) : InB (numsOf s) := by
  intro x hx
  simp only [numsOf, List.mem_map] at hx
  obtain ⟨b, _, rfl⟩ := hx
  have := b.toNat_lt
  omega
theorem str_nums (s : ByteArray) : strOfNums (numsOf s) = s := by
  apply ByteArray.ext
  apply Array.toList_inj.1
  rw [strOfNums_data, numsOf, List.map_map]
  refine (List.map_congr_left fun b _ => ?_).trans (List.map_id _)
  show UInt8.ofNat ((b.toNat : Int).toNat) = b
  rw [Int.toNat_natCast]
  exact UInt8.ofNat_toNat
theorem str_append (xs ys : List Int) : strOfNums (xs ++ ys) = strOfNums xs ++ strOfNums ys := by
  apply ByteArray.ext
  simp [strOfNums, ByteArray.data_append]
/-- []byte(s): new memory, that is read as s's bytes. -/
theorem conv_bytes (w : World) (e : TypeId) (s : ByteArray) (hm : s.size ≤ maxLen) : Below w.heap.size w (bytesWorld w e s) ∧ Byts (bytesWorld w e s) (some ⟨w.heap.size, 0, none⟩) s.size (grownCap w s.size 0 e) (numsOf s) := by
  refine ⟨⟨rfl, rfl, rfl, by rw [bytesWorld_size]; omega, fun k hk => bytesWorld_at_old w e s k hk⟩, ⟨numsOf_length s, grownCap_ge w s.size 0 e, by unfold maxLen at hm; omega, fun _ => ⟨_, _, rfl, fun j x hj => ?_⟩⟩⟩
  have hl : j < s.size := by have := (List.getElem?_eq_some_iff.1 hj).1; rwa [numsOf_length] at this
  have hc := bytesWorld_cell w e s j hl
  unfold RByte
  rw [Nat.mul_one, Nat.zero_add, hc]
  have hj' : s.data.toList[j]? = some (s.data.toList.getD j 0) := by
    rw [List.getD_eq_getElem?_getD, List.getElem?_eq_getElem (by rw [Array.length_toList]; exact hl)]; rfl
  have : (numsOf s)[j]? = some (((s.data.toList.getD j 0).toNat : Int)) := by
    rw [numsOf, List.getElem?_map, hj']; rfl
  rw [hj] at this
  injection this with this
  rw [this]
theorem byV_src {w : World} {A : Option Addr} {m c : Nat} {ys : List Int} (h : Byts w A m c ys) : 0 < m → ∃ ad, A = some ad ∧ ∀ j u, (byV ys)[j]? = some u → w.cell? (ad.add j) = some u := by
  intro hm
  obtain ⟨b, off, rfl, hc⟩ := h.at_ hm
  refine ⟨_, rfl, fun j u hu => ?_⟩
  have hj : j < ys.length := by have := (List.getElem?_eq_some_iff.1 hu).1; simpa [byV] using this
  have := hc j ys[j] (List.getElem?_eq_getElem hj)
  unfold RByte at this
  rw [Nat.mul_one] at this
  have ha : (⟨b, off, Option.none⟩ : Addr).add j = ⟨b, off + j, Option.none⟩ := by unfold Addr.add; split <;> simp_all
  rw [ha, this]
  simpa [byV, List.getElem?_eq_getElem hj] using hu
theorem byV_one (xs : List Int) : ∀ u ∈ byV xs, u.oneCell' = true := by
  intro u hu; simp only [byV, List.mem_map] at hu; obtain ⟨q, _, rfl⟩ := hu; rfl
theorem byV_append (xs ys : List Int) : byV (xs ++ ys) = byV xs ++ byV ys := by simp [byV]
theorem byts_take {w : World} {A : Option Addr} {n c : Nat} {xs : List Int} (h : Byts w A n c xs) {m : Nat} (hm : m ≤ n) {c' : Nat} (hc : m ≤ c') : Byts w A m c' (xs.take m) :=
  ⟨by rw [List.length_take, h.len]; omega, hc, Nat.le_trans hm h.big, fun hp => by
    obtain ⟨b, off, rfl, hc⟩ := h.at_ (by omega)
    refine ⟨b, off, rfl, fun j x hj => hc j x ?_⟩
    rw [List.getElem?_take] at hj
    split at hj
    · exact hj
    · cases hj⟩
theorem byts_drop {w : World} {b o n c : Nat} {xs : List Int} (h : Byts w (some ⟨b, o, none⟩) n c xs) {m : Nat} (hm : m ≤ n) {c' : Nat} (hc : n - m ≤ c') : Byts w (some ⟨b, o + m, none⟩) (n - m) c' (xs.drop m) :=
  ⟨by rw [List.length_drop, h.len], hc, by have := h.big; omega, fun hp => by
    obtain ⟨b', off, e, hc⟩ := h.at_ (by omega)
    injection e with e
    injection e with e1 e2
    subst e1 e2
    refine ⟨b, o + m, rfl, fun j x hj => ?_⟩
    rw [List.getElem?_drop] at hj
    have := hc (m + j) x hj
    unfold RByte at *
    rw [Nat.mul_one] at *
    rw [← this, Nat.add_assoc]⟩
theorem byts_blk {w : World} {B : Nat} {cs : List Value} {t : TypeId} (h : Blk w B cs t) (o n c : Nat) (xs : List Int) (hn : xs.length = n) (hc : n ≤ c) (hb : n ≤ 9223372036854775807) (hx : ∀ j x, xs[j]? = some x → cs[o + j]? = some (.int .u8 x)) : Byts w (some ⟨B, o, none⟩) n c xs :=
  ⟨hn, hc, hb, fun _ => ⟨B, o, rfl, fun j x hj => by unfold RByte; rw [Nat.mul_one, h.cell]; exact hx j x hj⟩⟩
theorem RByte.block {w w' : World} {b o : Nat} {x : Int} (hb : w'.heap[b]? = w.heap[b]?) (h : RByte w b o x) : RByte w' b o x := (World.cell?_of_block (w := w) (a := ⟨b, o, none⟩) hb).trans h
theorem RByte.lt {w : World} {b o : Nat} {x : Int} (h : RByte w b o x) : b < w.heap.size := below_lt h
theorem byts_fr {S : Nat → Prop} {w w' : World} {A : Option Addr} {n c : Nat} {xs : List Int} (h : Byts w A n c xs) (hf : Fr S w w') (hn : ∀ a, A = some a → ¬ S a.block) : Byts w' A n c xs :=
  Rd.fr (R := RByte) (fun _ _ _ _ _ hb h => RByte.block hb h) (fun _ _ _ h => RByte.lt h) h hf hn
end Go.Proofs.Tail
