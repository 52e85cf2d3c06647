/- General: byV that are read, byV of a row of one's own, string(b). -/
import Derived.Laws.BytesArg
import Derived.Laws.StructEq
import Derived.Lib.SlicesS
import Derived.Test.YteiohcgohgcjfaaWords
namespace Go.Proofs.Tail
open Go Go.Lib
def RByte (w : World) (b o : Nat) (x : Int) : Prop := w.cell? ⟨b, o, none⟩ = some (.int .u8 x)
theorem RByte.stays : Stays RByte := fun _ _ _ _ _ hb h => below_cell hb h
/-- Bytes that are read. -/
abbrev Byts (w : World) (A : Option Addr) (n c : Nat) (xs : List Int) : Prop := Rd 1 RByte w A n c xs
/-- Numbers that are byV. -/
def InB (xs : List Int) : Prop := ∀ x ∈ xs, 0 ≤ x ∧ x < 256
def byV (xs : List Int) : List Value := xs.map (Value.int .u8)
theorem byV_length (xs : List Int) : (byV xs).length = xs.length := by simp [byV]
theorem Rd.byte {w : World} {A : Option Addr} {n c : Nat} {xs : List Int} (h : Byts w A n c xs) {j : Nat} (hj : j < n) :
    ∃ b off, A = some ⟨b, off, none⟩ ∧ w.cell? ⟨b, off + j, none⟩ = some (.int .u8 (xs.getD j 0)) := by
  obtain ⟨b, off, x, rfl, hx, hr⟩ := Rd.elem h hj
  refine ⟨b, off, rfl, ?_⟩
  unfold RByte at hr
  rw [Nat.mul_one] at hr
  rw [hr, List.getD_eq_getElem?_getD, hx]
  rfl
theorem own_bytes {w : World} {base n : Nat} {e : TypeId} {v : Value} {xs : List Int} (h : w.ownsRow base e 1 v n (byV xs)) (hb : n ≤ 9223372036854775807) : ∃ A c, v = .slice A n c ∧ Byts w A n c xs := by
  have hl : xs.length = n := by have := h.1; simp [byV] at this; exact this
  rcases h.2 with ⟨rfl, rfl⟩ | ⟨g, cap, cur, rfl, hbg, hh, hnc, hcm, hcs, ht⟩
  · refine ⟨.none, 0, rfl, hl, Nat.le_refl _, hb, fun hp => absurd hp (by omega)⟩
  · refine ⟨_, cap, rfl, hl, hnc, hb, fun hp => ⟨g, 0, rfl, fun j x hj => ?_⟩⟩
    have hj' : j < xs.length := (List.getElem?_eq_some_iff.1 hj).1
    have := h.cells (g := g) rfl j (.int .u8 x) (by simp [byV, hj])
    rw [add_plain] at this
    show w.cell? _ = _
    rw [Nat.mul_one, Nat.zero_add]
    exact this
theorem run_convert_byts {P : Program} (w : World) (src e : TypeId) (hs : P.underlying src = some (.slice e)) (he : P.underlying e = some (.int .u8)) {A : Option Addr} {n c : Nat} {xs : List Int} (h : Byts w A n c xs) :
    ∀ dst, P.underlying dst = some .string → (convert src dst (.slice A n c)).run P w = .ok (.string (strOfNums xs)) w := by
  intro dst hd
  rcases Nat.eq_zero_or_pos n with h0 | h0
  · subst h0
    obtain rfl : xs = [] := List.eq_nil_of_length_eq_zero h.len
    cases A with
    | none => exact (run_convert_bytes_nil w src e hs he 0 c dst hd).trans rfl
    | some a =>
      rw [run_convert_bytes_string w src dst e _ 0 c hs he hd]
      simp [Conv.bytesToString, loadCells, loadCellsFrom]
      rfl
  · obtain ⟨b, off, rfl, _⟩ := h.at_ h0
    refine run_convert_bytes_arg w src e hs he b off n c xs h.len (fun i hi => ?_) dst hd
    obtain ⟨b', off', h1, h2⟩ := h.byte hi
    injection h1 with h1
    injection h1 with h1 h3
    subst h1 h3
    exact h2
theorem strOfNums_inj {xs ys : List Int} (hx : InB xs) (hy : InB ys) (h : strOfNums xs = strOfNums ys) : xs = ys := by
  have h1 : xs.map (fun n => UInt8.ofNat n.toNat) = ys.map (fun n => UInt8.ofNat n.toNat) := by
    rw [← strOfNums_data, ← strOfNums_data, h]
  clear h
  induction xs generalizing ys with
  | nil => cases ys with
    | nil => rfl
    | cons => simp at h1
  | cons x xs ih =>
    cases ys with
    | nil => simp at h1
    | cons y ys =>
      simp only [List.map_cons, List.cons.injEq] at h1
      obtain ⟨h2, h3⟩ := h1
      have e := ih (fun z hz => hx z (List.mem_cons_of_mem _ hz)) (fun z hz => hy z (List.mem_cons_of_mem _ hz)) h3
      obtain ⟨p1, p2⟩ := hx x (List.mem_cons_self ..)
      obtain ⟨q1, q2⟩ := hy y (List.mem_cons_self ..)
      have h4 : (UInt8.ofNat x.toNat).toNat = (UInt8.ofNat y.toNat).toNat := by rw [h2]
      simp only [UInt8.toNat_ofNat'] at h4
      rw [e]
      congr 1
      omega
theorem str_beq {xs ys : List Int} (hx : InB xs) (hy : InB ys) : ((strOfNums xs).toList == (strOfNums ys).toList) = decide (xs = ys) := by
  by_cases h : xs = ys
  · subst h; simp
  · rw [decide_eq_false h, bytes_beq_false_iff]
    exact fun k => h (strOfNums_inj hx hy k)
end Go.Proofs.Tail
