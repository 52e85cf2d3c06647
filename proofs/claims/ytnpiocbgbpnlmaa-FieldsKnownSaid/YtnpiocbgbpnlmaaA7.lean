/- Contracts of the Reader's Byte, Short, Word, Long; of the reference's Next. -/
import Derived.Test.YtnpiocbgbpnlmaaRows
import Derived.Test.YtnpiocbgbpnlmaaWords
import Derived.Test.YtnpiocbgbpnlmaaByts
import Derived.Test.YtnpiocbgbpnlmaaStrs
import Derived.Test.YtnpiocbgbpnlmaaFrame
import Derived.Test.YtnpiocbgbpnlmaaA1
import Derived.Test.YtnpiocbgbpnlmaaA4
import Derived.Test.YtnpiocbgbpnlmaaA5
import Derived.Test.YtnpiocbgbpnlmaaA6
import Derived.Laws.Strings2
namespace Go.Proofs.Ytnpiocbgbpnlmaa
open Go.RowKit Go.Proofs.Tail
set_option linter.unusedSimpArgs false
set_option linter.unusedVariables false
theorem len1 {l : List Int} (h : l.length = 1) : ∃ a, l = [a] := by match l, h with | [a], _ => exact ⟨a, rfl⟩
theorem len2 {l : List Int} (h : l.length = 2) : ∃ a b, l = [a, b] := by match l, h with | [a, b], _ => exact ⟨a, b, rfl⟩
theorem len4 {l : List Int} (h : l.length = 4) : ∃ a b c d, l = [a, b, c, d] := by match l, h with | [a, b, c, d], _ => exact ⟨a, b, c, d, rfl⟩
theorem len8 {l : List Int} (h : l.length = 8) : ∃ a b c d e f g i, l = [a, b, c, d, e, f, g, i] := by match l, h with | [a, b, c, d, e, f, g, i], _ => exact ⟨a, b, c, d, e, f, g, i, rfl⟩
theorem numV_1 {ys : List Int} (hys : InB ys) (h : ys = [] ∨ ys.length = 1) : 0 ≤ numV ys ∧ numV ys < 256 ∧ be (numV ys) 1 = if ys = [] then List.replicate 1 0 else ys := by
  rcases h with rfl | h
  · simp [numV]; decide
  · obtain ⟨a, rfl⟩ := len1 h
    have ha := hys a (by simp)
    simp only [numV, List.foldl_cons, List.foldl_nil, be, List.nil_append, List.cons_append, reduceCtorEq, if_false, List.cons.injEq, and_true]
    omega
theorem numV_2 {ys : List Int} (hys : InB ys) (h : ys = [] ∨ ys.length = 2) : 0 ≤ numV ys ∧ numV ys < 65536 ∧ be (numV ys) 2 = if ys = [] then List.replicate 2 0 else ys := by
  rcases h with rfl | h
  · simp [numV]; decide
  · obtain ⟨a, b, rfl⟩ := len2 h
    have ha := hys a (by simp)
    have hb := hys b (by simp)
    simp only [numV, List.foldl_cons, List.foldl_nil, be, List.nil_append, List.cons_append, reduceCtorEq, if_false, List.cons.injEq, and_true]
    omega
theorem numV_4 {ys : List Int} (hys : InB ys) (h : ys = [] ∨ ys.length = 4) : 0 ≤ numV ys ∧ numV ys < 4294967296 ∧ be (numV ys) 4 = if ys = [] then List.replicate 4 0 else ys := by
  rcases h with rfl | h
  · simp [numV]; decide
  · obtain ⟨a, b, c, d, rfl⟩ := len4 h
    have ha := hys a (by simp)
    have hb := hys b (by simp)
    have hc := hys c (by simp)
    have hd := hys d (by simp)
    simp only [numV, List.foldl_cons, List.foldl_nil, be, List.nil_append, List.cons_append, reduceCtorEq, if_false, List.cons.injEq, and_true]
    omega
theorem numV_8 {ys : List Int} (hys : InB ys) (h : ys = [] ∨ ys.length = 8) : 0 ≤ numV ys ∧ numV ys < 18446744073709551616 ∧ be (numV ys) 8 = if ys = [] then List.replicate 8 0 else ys := by
  rcases h with rfl | h
  · simp [numV]; decide
  · obtain ⟨a, b, c, d, e, f, g, i, rfl⟩ := len8 h
    have ha := hys a (by simp)
    have hb := hys b (by simp)
    have hc := hys c (by simp)
    have hd := hys d (by simp)
    have he := hys e (by simp)
    have hf := hys f (by simp)
    have hg := hys g (by simp)
    have hi := hys i (by simp)
    simp only [numV, List.foldl_cons, List.foldl_nil, be, List.nil_append, List.cons_append, reduceCtorEq, if_false, List.cons.injEq, and_true]
    omega
set_option maxHeartbeats 4000000 in
theorem rbyte_any (P G : Nat) (xs : List Int) (sp : Bool) (w : World) (hW : Rr w P G xs sp) :
    Calls Try.prog 23 #[.pointer (some ⟨P, 0, none⟩)] w (NumGives .u8 P G (nxt xs sp 1) w) := by
  have H := Lib.hid (num_1 P G xs sp w hW)
  obtain ⟨h0, h1, _⟩ := numV_1 (nxt_in sp 1 hW.inb) (nxt_first xs sp 1)
  generalize nxt xs sp 1 = r at *
  have hb0 : 0 ≤ numV r.1 := h0
  have hb1 : numV r.1 < 256 := h1
  clear hW h0 h1
  go_enter Try.func23, Try.ntmps23
  go_wp2_with fail
  refine H.out.mono ?_
  rintro e w1 ⟨rfl, hR, hF⟩
  have HR := Lib.hid hR
  have HF := Lib.hid hF
  clear hR hF
  go_wp2_with fail
  go_ret
  exact ⟨rfl, HR.out, HF.out⟩
set_option maxHeartbeats 4000000 in
theorem rshort_any (P G : Nat) (xs : List Int) (sp : Bool) (w : World) (hW : Rr w P G xs sp) :
    Calls Try.prog 26 #[.pointer (some ⟨P, 0, none⟩)] w (NumGives .u16 P G (nxt xs sp 2) w) := by
  have H := Lib.hid (num_2 P G xs sp w hW)
  obtain ⟨h0, h1, _⟩ := numV_2 (nxt_in sp 2 hW.inb) (nxt_first xs sp 2)
  generalize nxt xs sp 2 = r at *
  have hb0 : 0 ≤ numV r.1 := h0
  have hb1 : numV r.1 < 65536 := h1
  clear hW h0 h1
  go_enter Try.func26, Try.ntmps26
  go_wp2_with fail
  refine H.out.mono ?_
  rintro e w1 ⟨rfl, hR, hF⟩
  have HR := Lib.hid hR
  have HF := Lib.hid hF
  clear hR hF
  go_wp2_with fail
  go_ret
  exact ⟨rfl, HR.out, HF.out⟩
set_option maxHeartbeats 4000000 in
theorem rword_any (P G : Nat) (xs : List Int) (sp : Bool) (w : World) (hW : Rr w P G xs sp) :
    Calls Try.prog 31 #[.pointer (some ⟨P, 0, none⟩)] w (NumGives .u32 P G (nxt xs sp 4) w) := by
  have H := Lib.hid (num_4 P G xs sp w hW)
  obtain ⟨h0, h1, _⟩ := numV_4 (nxt_in sp 4 hW.inb) (nxt_first xs sp 4)
  generalize nxt xs sp 4 = r at *
  have hb0 : 0 ≤ numV r.1 := h0
  have hb1 : numV r.1 < 4294967296 := h1
  clear hW h0 h1
  go_enter Try.func31, Try.ntmps31
  go_wp2_with fail
  refine H.out.mono ?_
  rintro e w1 ⟨rfl, hR, hF⟩
  have HR := Lib.hid hR
  have HF := Lib.hid hF
  clear hR hF
  go_wp2_with fail
  go_ret
  exact ⟨rfl, HR.out, HF.out⟩
set_option maxHeartbeats 4000000 in
theorem rlong_any (P G : Nat) (xs : List Int) (sp : Bool) (w : World) (hW : Rr w P G xs sp) :
    Calls Try.prog 25 #[.pointer (some ⟨P, 0, none⟩)] w (NumGives .u64 P G (nxt xs sp 8) w) := by
  have H := Lib.hid (num_8 P G xs sp w hW)
  obtain ⟨h0, h1, _⟩ := numV_8 (nxt_in sp 8 hW.inb) (nxt_first xs sp 8)
  generalize nxt xs sp 8 = r at *
  have hb0 : 0 ≤ numV r.1 := h0
  have hb1 : numV r.1 < 18446744073709551616 := h1
  clear hW h0 h1
  go_enter Try.func25, Try.ntmps25
  go_wp2_with fail
  refine H.out.mono ?_
  rintro e w1 ⟨rfl, hR, hF⟩
  have HR := Lib.hid hR
  have HF := Lib.hid hF
  clear hR hF
  go_wp2_with fail
  go_ret
  exact ⟨rfl, HR.out, HF.out⟩
theorem str_take (xs : List Int) (m : Nat) : (strOfNums xs).extract 0 m = strOfNums (xs.take m) := by
  show (ByteArray.mk (xs.map fun n => UInt8.ofNat n.toNat).toArray).extract 0 m = _
  rw [ByteArray.extract_mk, List.drop_zero, Nat.sub_zero, ← List.map_take]
  rfl
theorem str_drop (xs : List Int) (m : Nat) : (strOfNums xs).extract m xs.length = strOfNums (xs.drop m) := by
  show (ByteArray.mk (xs.map fun n => UInt8.ofNat n.toNat).toArray).extract m xs.length = _
  rw [ByteArray.extract_mk, ← List.map_drop, List.take_of_length_le (by simp)]
  rfl
/-- The reference's Rest. -/
structure Ms (w : World) (P : Nat) (xs : List Int) (sp : Bool) : Prop where
  blk : Blk w P [.string (strOfNums xs), .bool sp] 37
theorem Ms.fr {S : Nat → Prop} {w w' : World} {P : Nat} {xs : List Int} {sp : Bool} (h : Ms w P xs sp) (hf : Fr S w w') (h1 : ¬ S P) : Ms w' P xs sp := ⟨h.blk.fr hf h1⟩
theorem Ms.below {w w' : World} {P : Nat} {xs : List Int} {sp : Bool} (h : Ms w P xs sp) (hb : Below w.heap.size w w') : Ms w' P xs sp := ⟨h.blk.then hb⟩
def MsGives (P : Nat) (r : List Int × List Int × Bool) (w : World) (e : Ending) (w' : World) : Prop :=
  e = .returned (.string (strOfNums r.1)) ∧ Ms w' P r.2.1 r.2.2 ∧ Fr (fun k => k = P) w w'
set_option maxHeartbeats 8000000 in
theorem mnext_any (P : Nat) (xs : List Int) (sp : Bool) (k : Int) (w : World) (hW : Ms w P xs sp) (hl : xs.length ≤ 9223372036854775807) (hk : -9223372036854775808 ≤ k ∧ k ≤ 9223372036854775807) :
    Calls Try.prog 17 #[.pointer (some ⟨P, 0, none⟩), .int .i64 k] w (MsGives P (nxt xs sp k) w) := by
  have HW := Lib.hid hW
  have c0 : w.cell? ⟨P, 0, none⟩ = some (.string (strOfNums xs)) := hW.blk.cell 0
  have c1 : w.cell? ⟨P, 1, none⟩ = some (.bool sp) := hW.blk.cell 1
  have f0 := hW.blk.frozen 0
  have f1 := hW.blk.frozen 1
  have hsz : (strOfNums xs).size = xs.length := strOfNums_size xs
  obtain ⟨k0, k1⟩ := hk
  clear hW
  have no : sp = true ∨ k < 0 ∨ (xs.length : Int) < k → Calls Try.prog 17 #[.pointer (some ⟨P, 0, none⟩), .int .i64 k] w (MsGives P ([], [], true) w) := by
    intro h
    have FF : Hid (MsGives P ([], [], true) w (.returned (.string ⟨#[]⟩)) ((w.setCell ⟨P, 0, none⟩ (.string ⟨#[]⟩)).setCell ⟨P, 1, none⟩ (.bool true))) := Lib.hid ⟨rfl, ⟨(HW.out.blk.set 0 (.string ⟨#[]⟩)).set 1 (.bool true)⟩, ((Fr.refl (fun k => k = P) w).set (p := ⟨P, 0, none⟩) (fun _ => rfl) _).set (p := ⟨P, 1, none⟩) (fun _ => rfl) _⟩
    cases sp with
    | true =>
      clear h hsz
      go_enter Try.func17, Try.ntmps17
      go_wp2_with fail
      go_ret
      exact FF.out
    | false =>
      by_cases hk0 : k < 0
      · have hd : decide (k < 0) = true := decide_eq_true hk0
        clear h hsz
        go_enter Try.func17, Try.ntmps17
        go_wp2_with fail
        go_ret
        exact FF.out
      · have hd : decide (k < 0) = false := decide_eq_false hk0
        have hn : (xs.length : Int) < k := by simpa [hk0] using h
        have hd2 : decide ((xs.length : Int) < k) = true := decide_eq_true hn
        clear h
        go_enter Try.func17, Try.ntmps17
        go_wp2_with fail
        go_ret
        exact FF.out
  by_cases hno : sp = true ∨ k < 0 ∨ (xs.length : Int) < k
  · have := no hno
    rwa [← nxt_no (xs := xs) hno] at this
  · obtain ⟨h1, h2, h3⟩ : sp = false ∧ 0 ≤ k ∧ k ≤ xs.length := by
      cases sp
      · simp at hno; exact ⟨rfl, by omega, by omega⟩
      · simp at hno
    clear no hno
    subst h1
    rw [nxt_yes h2 h3]
    obtain ⟨m, rfl⟩ := Int.eq_ofNat_of_zero_le h2
    have hmn : m ≤ xs.length := by omega
    rw [Int.toNat_natCast]
    have hd : decide ((m : Int) < 0) = false := decide_eq_false (by omega)
    have hd2 : decide ((xs.length : Int) < (m : Int)) = false := decide_eq_false (by omega)
    have hd2' : decide (xs.length < m) = false := decide_eq_false (by omega)
    go_enter Try.func17, Try.ntmps17
    go_wp2_with fail
    go_ret
    rw [str_take, str_drop]
    exact ⟨rfl, ⟨HW.out.blk.set 0 _⟩, (Fr.refl (fun k => k = P) w).set (p := ⟨P, 0, none⟩) (fun _ => rfl) _⟩
end Go.Proofs.Ytnpiocbgbpnlmaa
