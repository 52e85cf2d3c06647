/- A thing; contracts of wide, text, write, read. -/
import Derived.Test.YtnpiocbgbpnlmaaRows
import Derived.Test.YtnpiocbgbpnlmaaWords
import Derived.Test.YtnpiocbgbpnlmaaByts
import Derived.Test.YtnpiocbgbpnlmaaStrs
import Derived.Test.YtnpiocbgbpnlmaaFrame
import Derived.Test.YtnpiocbgbpnlmaaA1
import Derived.Test.YtnpiocbgbpnlmaaA2
import Derived.Test.YtnpiocbgbpnlmaaA3
import Derived.Test.YtnpiocbgbpnlmaaA4
import Derived.Test.YtnpiocbgbpnlmaaA5
import Derived.Test.YtnpiocbgbpnlmaaA6
import Derived.Test.YtnpiocbgbpnlmaaA7
namespace Go.Proofs.Ytnpiocbgbpnlmaa
open Go Go.Lib Go.RowKit Go.Proofs.Tail
set_option linter.unusedSimpArgs false
set_option linter.unusedVariables false
/-- A thing: its size, its number, its bytes. -/
structure Th where
  s : Int
  n : Int
  b : ByteArray
structure Th.ok (x : Th) : Prop where
  s0 : -128 ≤ x.s
  s1 : x.s ≤ 127
  n0 : 0 ≤ x.n
  n1 : x.n < 18446744073709551616
  bb : x.b.size ≤ 140737488351232
def Th.wide (x : Th) : Nat := if x.s = 1 then 1 else if x.s = 2 then 2 else if x.s = 4 then 4 else if x.s = 8 then 8 else 0
def Th.txt (x : Th) : List Int := if x.wide = 0 then numsOf x.b else be x.n x.wide
def Th.wants (x : Th) : Nat := if x.wide = 0 then x.b.size else x.wide
/-- What 'read' answers. -/
def Th.readL (x : Th) (r : List Int) : List Int := if x.wide = 0 then r else if r = [] then List.replicate x.wide 0 else r
abbrev Th.v (x : Th) : Value := .agg #[.int .i8 x.s, .int .u64 x.n, .string x.b]
abbrev Th.bx (x : Th) : Obj := .cells #[.int .i8 x.s, .int .u64 x.n, .string x.b] 42
theorem Th.txt_length (x : Th) : x.txt.length = x.wants := by
  unfold Th.txt Th.wants
  split
  · exact numsOf_length _
  · exact be_length _ _
theorem Th.txt_in (x : Th) : InB x.txt := by
  unfold Th.txt
  split
  · exact numsOf_in _
  · exact be_in _ _
theorem Th.cases (x : Th) : (x.s = 1 ∧ x.wide = 1) ∨ (x.s = 2 ∧ x.wide = 2) ∨ (x.s = 4 ∧ x.wide = 4) ∨ (x.s = 8 ∧ x.wide = 8) ∨ (x.s ≠ 1 ∧ x.s ≠ 2 ∧ x.s ≠ 4 ∧ x.s ≠ 8 ∧ x.wide = 0) := by
  unfold Th.wide
  by_cases h1 : x.s = 1
  · simp [h1]
  · by_cases h2 : x.s = 2
    · simp [h2]
    · by_cases h3 : x.s = 4
      · simp [h3]
      · by_cases h4 : x.s = 8
        · simp [h4]
        · simp [h1, h2, h3, h4]
set_option maxHeartbeats 4000000 in
theorem wide_any (x : Th) (w : World) : Calls Try.prog 18 #[.agg #[.int .i8 x.s, .int .u64 x.n, .string x.b]] w (Gives (.int .i64 x.wide) w) := by
  have HB := Lib.hid (below_new w x.bx)
  have HC := Lib.hid x.cases
  obtain ⟨s, n, b⟩ := x
  generalize hw : Th.wide ⟨s, n, b⟩ = k at *
  clear hw
  dsimp only at *
  have HC := HC.out
  rcases HC with ⟨rfl, rfl⟩ | ⟨rfl, rfl⟩ | ⟨rfl, rfl⟩ | ⟨rfl, rfl⟩ | ⟨h1, h2, h3, h4, rfl⟩
  · go_enter Try.func18, Try.ntmps18
    go_wp2_with fail
    go_ret
    exact .int rfl HB.out
  · go_enter Try.func18, Try.ntmps18
    go_wp2_with fail
    go_ret
    exact .int rfl HB.out
  · go_enter Try.func18, Try.ntmps18
    go_wp2_with fail
    go_ret
    exact .int rfl HB.out
  · go_enter Try.func18, Try.ntmps18
    go_wp2_with fail
    go_ret
    exact .int rfl HB.out
  · have e1 : (s == 1) = false := by simpa using h1
    have e2 : (s == 2) = false := by simpa using h2
    have e3 : (s == 4) = false := by simpa using h3
    have e4 : (s == 8) = false := by simpa using h4
    clear h1 h2 h3 h4
    go_enter Try.func18, Try.ntmps18
    go_wp2_with fail
    go_ret
    exact .int rfl HB.out
theorem wide_is (x : Th) {k : Nat} (h : x.wide = k) (w : World) : Calls Try.prog 18 #[.agg #[.int .i8 x.s, .int .u64 x.n, .string x.b]] w (Gives (.int .i64 k) w) := h ▸ wide_any x w
theorem Th.cells {w : World} {B : Nat} {x : Th} (h : Blk w B [.int .i8 x.s, .int .u64 x.n, .string x.b] 42) : ∀ o, w.cell? ⟨B, o, none⟩ = ([.int .i8 x.s, .int .u64 x.n, .string x.b] : List Value)[o]? := h.cell
theorem Th.box (w : World) (x : Th) : Blk (w.alloc x.bx) w.heap.size [.int .i8 x.s, .int .u64 x.n, .string x.b] 42 := Blk.new w _ _ _ rfl
theorem own_byts {w : World} {base : Nat} {v : Value} {xs : List Int} {e : TypeId} (h : w.ownsRow base e 1 v xs.length (byV xs)) (hl : xs.length ≤ 9223372036854775807) : ∃ A c, v = .slice A xs.length c ∧ Byts w A xs.length c xs := own_bytes h hl

theorem be_cut_1 (n : Int) : be (n % 256) 1 = be n 1 := by
  simp only [be, List.nil_append, List.cons_append, List.cons.injEq, and_true]
  try omega
set_option maxHeartbeats 4000000 in
theorem write_1 (x : Th) (hx : x.ok) (h : x.wide = 1) (P : Nat) (v : Value) (xs : List Int) (w : World) (hW : Wr w P v xs) (hlim : xs.length + 8 ≤ 140737488355328) :
    Calls Try.prog 27 #[.agg #[.int .i8 x.s, .int .u64 x.n, .string x.b], .pointer (some ⟨P, 0, none⟩)] w (Wrote P v (xs ++ x.txt) w) := by
  have HB := Lib.hid (Th.box w x)
  have HL := Lib.hid (below_new w x.bx)
  have HW := Lib.hid hW
  have HV := Lib.hid (wide_is x h)
  have l0 := HB.out.cell
  have hx0 := hx.n0
  have hx1 := hx.n1
  have HT := Lib.hid (show x.txt = be (x.n % 256) 1 by unfold Th.txt; rw [h]; exact (be_cut_1 x.n).symm)
  clear hW h hx
  go_enter Try.func27, Try.ntmps27
  go_wp2_with fail
  refine (HV.out _).mono ?_
  rintro e w1 ⟨rfl, hb⟩
  have HB1 := Lib.hid (HB.out.then hb)
  have HL1 := Lib.hid (below_then HL.out hb)
  clear l0 hb HB HL
  have l0 := HB1.out.cell
  have HC := Lib.hid (wbyte_any P v xs (x.n % 256) w1 (HW.out.below HL1.out) (by omega) (by omega) hlim)
  go_wp2_with fail
  refine HC.out.mono ?_
  rintro e w2 hw
  have HX := Lib.hid (hw.later HL1.out)
  obtain ⟨rfl, _⟩ := hw
  go_wp2_with fail
  go_end0
  rw [HT.out]
  exact HX.out
theorem be_cut_2 (n : Int) : be (n % 65536) 2 = be n 2 := by
  simp only [be, List.nil_append, List.cons_append, List.cons.injEq, and_true]
  try omega
set_option maxHeartbeats 4000000 in
theorem write_2 (x : Th) (hx : x.ok) (h : x.wide = 2) (P : Nat) (v : Value) (xs : List Int) (w : World) (hW : Wr w P v xs) (hlim : xs.length + 8 ≤ 140737488355328) :
    Calls Try.prog 27 #[.agg #[.int .i8 x.s, .int .u64 x.n, .string x.b], .pointer (some ⟨P, 0, none⟩)] w (Wrote P v (xs ++ x.txt) w) := by
  have HB := Lib.hid (Th.box w x)
  have HL := Lib.hid (below_new w x.bx)
  have HW := Lib.hid hW
  have HV := Lib.hid (wide_is x h)
  have l0 := HB.out.cell
  have hx0 := hx.n0
  have hx1 := hx.n1
  have HT := Lib.hid (show x.txt = be (x.n % 65536) 2 by unfold Th.txt; rw [h]; exact (be_cut_2 x.n).symm)
  clear hW h hx
  go_enter Try.func27, Try.ntmps27
  go_wp2_with fail
  refine (HV.out _).mono ?_
  rintro e w1 ⟨rfl, hb⟩
  have HB1 := Lib.hid (HB.out.then hb)
  have HL1 := Lib.hid (below_then HL.out hb)
  clear l0 hb HB HL
  have l0 := HB1.out.cell
  have HC := Lib.hid (wshort_any P v xs (x.n % 65536) w1 (HW.out.below HL1.out) (by omega) (by omega) hlim)
  go_wp2_with fail
  refine HC.out.mono ?_
  rintro e w2 hw
  have HX := Lib.hid (hw.later HL1.out)
  obtain ⟨rfl, _⟩ := hw
  go_wp2_with fail
  go_end0
  rw [HT.out]
  exact HX.out
theorem be_cut_4 (n : Int) : be (n % 4294967296) 4 = be n 4 := by
  simp only [be, List.nil_append, List.cons_append, List.cons.injEq, and_true]
  try omega
set_option maxHeartbeats 4000000 in
theorem write_4 (x : Th) (hx : x.ok) (h : x.wide = 4) (P : Nat) (v : Value) (xs : List Int) (w : World) (hW : Wr w P v xs) (hlim : xs.length + 8 ≤ 140737488355328) :
    Calls Try.prog 27 #[.agg #[.int .i8 x.s, .int .u64 x.n, .string x.b], .pointer (some ⟨P, 0, none⟩)] w (Wrote P v (xs ++ x.txt) w) := by
  have HB := Lib.hid (Th.box w x)
  have HL := Lib.hid (below_new w x.bx)
  have HW := Lib.hid hW
  have HV := Lib.hid (wide_is x h)
  have l0 := HB.out.cell
  have hx0 := hx.n0
  have hx1 := hx.n1
  have HT := Lib.hid (show x.txt = be (x.n % 4294967296) 4 by unfold Th.txt; rw [h]; exact (be_cut_4 x.n).symm)
  clear hW h hx
  go_enter Try.func27, Try.ntmps27
  go_wp2_with fail
  refine (HV.out _).mono ?_
  rintro e w1 ⟨rfl, hb⟩
  have HB1 := Lib.hid (HB.out.then hb)
  have HL1 := Lib.hid (below_then HL.out hb)
  clear l0 hb HB HL
  have l0 := HB1.out.cell
  have HC := Lib.hid (wword_any P v xs (x.n % 4294967296) w1 (HW.out.below HL1.out) (by omega) (by omega) hlim)
  go_wp2_with fail
  refine HC.out.mono ?_
  rintro e w2 hw
  have HX := Lib.hid (hw.later HL1.out)
  obtain ⟨rfl, _⟩ := hw
  go_wp2_with fail
  go_end0
  rw [HT.out]
  exact HX.out
theorem be_cut_8 (n : Int) : be (n) 8 = be n 8 := by
  simp only [be, List.nil_append, List.cons_append, List.cons.injEq, and_true]
  try omega
set_option maxHeartbeats 4000000 in
theorem write_8 (x : Th) (hx : x.ok) (h : x.wide = 8) (P : Nat) (v : Value) (xs : List Int) (w : World) (hW : Wr w P v xs) (hlim : xs.length + 8 ≤ 140737488355328) :
    Calls Try.prog 27 #[.agg #[.int .i8 x.s, .int .u64 x.n, .string x.b], .pointer (some ⟨P, 0, none⟩)] w (Wrote P v (xs ++ x.txt) w) := by
  have HB := Lib.hid (Th.box w x)
  have HL := Lib.hid (below_new w x.bx)
  have HW := Lib.hid hW
  have HV := Lib.hid (wide_is x h)
  have l0 := HB.out.cell
  have hx0 := hx.n0
  have hx1 := hx.n1
  have HT := Lib.hid (show x.txt = be (x.n) 8 by unfold Th.txt; rw [h]; exact (be_cut_8 x.n).symm)
  clear hW h hx
  go_enter Try.func27, Try.ntmps27
  go_wp2_with fail
  refine (HV.out _).mono ?_
  rintro e w1 ⟨rfl, hb⟩
  have HB1 := Lib.hid (HB.out.then hb)
  have HL1 := Lib.hid (below_then HL.out hb)
  clear l0 hb HB HL
  have l0 := HB1.out.cell
  have HC := Lib.hid (wlong_any P v xs (x.n) w1 (HW.out.below HL1.out) (by omega) (by omega) hlim)
  go_wp2_with fail
  refine HC.out.mono ?_
  rintro e w2 hw
  have HX := Lib.hid (hw.later HL1.out)
  obtain ⟨rfl, _⟩ := hw
  go_wp2_with fail
  go_end0
  rw [HT.out]
  exact HX.out
set_option maxHeartbeats 4000000 in
theorem write_0 (x : Th) (hx : x.ok) (h : x.wide = 0) (P : Nat) (v : Value) (xs : List Int) (w : World) (hW : Wr w P v xs) (hlim : xs.length + x.b.size ≤ 140737488355328) :
    Calls Try.prog 27 #[.agg #[.int .i8 x.s, .int .u64 x.n, .string x.b], .pointer (some ⟨P, 0, none⟩)] w (Wrote P v (xs ++ x.txt) w) := by
  have HB := Lib.hid (Th.box w x)
  have HL := Lib.hid (below_new w x.bx)
  have HW := Lib.hid hW
  have HV := Lib.hid (wide_is x h)
  have l0 := HB.out.cell
  have HT := Lib.hid (show x.txt = numsOf x.b by unfold Th.txt; rw [if_pos h])
  have HBB := Lib.hid (show x.b.size ≤ maxLen by have := hx.bb; unfold maxLen; omega)
  clear hW h hx
  go_enter Try.func27, Try.ntmps27
  go_wp2_with fail
  refine (HV.out _).mono ?_
  rintro e w1 ⟨rfl, hb⟩
  have HB1 := Lib.hid (HB.out.then hb)
  have HL1 := Lib.hid (below_then HL.out hb)
  clear l0 hb HB HL
  have l0 := HB1.out.cell
  have hcv := Go.Lib.run_convert_string_bytes (P := Try.prog) w1 9 23 5 x.b Try.underlying9 Try.underlying23 Try.underlying5
  have HCB := Lib.hid (conv_bytes w1 5 x.b HBB.out)
  have HL2 := Lib.hid (below_then HL1.out HCB.out.1)
  have HC := Lib.hid (raw_any P v xs (numsOf x.b) _ _ _ (bytesWorld w1 5 x.b) (HW.out.below HL2.out) HCB.out.2 hlim)
  go_wp2_with fail
  refine HC.out.mono ?_
  rintro e w2 hw
  have HX := Lib.hid (hw.later HL2.out)
  obtain ⟨rfl, _⟩ := hw
  clear hcv
  go_wp2_with fail
  go_end0
  rw [HT.out]
  exact HX.out
theorem write_any (x : Th) (hx : x.ok) (P : Nat) (v : Value) (xs : List Int) (w : World) (hW : Wr w P v xs) (hlim : xs.length + x.b.size + 8 ≤ 140737488355328) :
    Calls Try.prog 27 #[.agg #[.int .i8 x.s, .int .u64 x.n, .string x.b], .pointer (some ⟨P, 0, none⟩)] w (Wrote P v (xs ++ x.txt) w) := by
  rcases x.cases with ⟨_, h⟩ | ⟨_, h⟩ | ⟨_, h⟩ | ⟨_, h⟩ | ⟨_, _, _, _, h⟩
  · exact write_1 x hx h P v xs w hW (by omega)
  · exact write_2 x hx h P v xs w hW (by omega)
  · exact write_4 x hx h P v xs w hW (by omega)
  · exact write_8 x hx h P v xs w hW (by omega)
  · exact write_0 x hx h P v xs w hW (by omega)
end Go.Proofs.Ytnpiocbgbpnlmaa
