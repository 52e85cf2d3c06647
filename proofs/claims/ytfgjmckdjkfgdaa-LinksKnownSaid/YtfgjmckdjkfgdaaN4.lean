/- Take. -/
import Derived.Test.YtfgjmckdjkfgdaaRows
import Derived.IntWalk
import Derived.Test.YtfgjmckdjkfgdaaWords
import Derived.Test.YtfgjmckdjkfgdaaByts
import Derived.Test.YtfgjmckdjkfgdaaFrame
import Derived.Test.YtfgjmckdjkfgdaaN1
import Derived.Test.YtfgjmckdjkfgdaaN2
import Derived.Test.YtfgjmckdjkfgdaaN3
namespace Go.Proofs.Ytfgjmckdjkfgdaa
open Go Go.RowKit Go.Proofs.Tail
set_option linter.unusedSimpArgs false
set_option linter.unusedVariables false
/-- Where the row begins of which the first is cut off. -/
def cutA (g o c : Nat) : Addr := if c = 1 then ⟨g, o, none⟩ else ⟨g, o + 1, none⟩
theorem slice_one {g o n c : Nat} (hn : 0 < n) (hc : n ≤ c) (W : World) : (Instr.slice 47 (.slice (some ⟨g, o, none⟩) n c) (some (.int .i64 1)) none none).run Try.prog W = .ok (.slice (some (cutA g o c)) (n - 1) (c - 1)) W := by
  have h1 : (1 : Int) ≤ n := by omega
  have h2 : (n : Int) ≤ c := by omega
  have u := Try.underlying47
  have z := Try.sizeOf30
  have ha : (⟨g, o, none⟩ : Addr).add 1 = ⟨g, o + 1, none⟩ := by unfold Addr.add; split <;> simp_all
  unfold cutA
  by_cases hc1 : c = 1
  · subst hc1
    obtain rfl : n = 1 := by omega
    go_simp
  · have h4 : ¬ (c - 1 = 0) := by omega
    go_simp
/-- What Take gives of a row that is not empty. -/
def GivesTake (P k g o n c : Nat) (t : Int) (xs : List Int) (w : World) (e : Ending) (w' : World) : Prop :=
  ∃ v w1, e = .returned (.tuple #[v, .bool true]) ∧ w1.ownsRow w.heap.size 5 1 v xs.length (byV xs) ∧ Below w.heap.size w w1 ∧ w' = (w1.setCell ⟨P, k, none⟩ (.slice (some (cutA g o c)) (n - 1) (c - 1))).setCell ⟨P, 4098, none⟩ (.int .i64 (wrap64 (t + 1)))
theorem take_yes {P a b E n c g o n1 c1 : Nat} {t : Int} {A1 : Option Addr} {xs : List Int} {w : World} (h : w.cell? ⟨P, 0, none⟩ = some (.int .i64 E)) (hE : E ≤ 64) (ha : a < E) (hb : b < E) (hr : w.cell? ⟨P, 1 + a * 64 + b, none⟩ = some (.slice (some ⟨g, o, none⟩) n c)) (hn : 0 < n) (hc : n ≤ c) (he : w.cell? ⟨g, o, none⟩ = some (.slice A1 n1 c1)) (hx : Byts w A1 n1 c1 xs) (hlim : n1 ≤ 140737488355328) (ht : w.cell? ⟨P, 4098, none⟩ = some (.int .i64 t)) (hz : ∀ i, w.frozen? ⟨P, i, none⟩ = false) (hP : P < w.heap.size) :
    Calls Try.prog 12 #[.pointer (some ⟨P, 0, none⟩), .int .i64 a, .int .i64 b] w (GivesTake P (1 + a * 64 + b) g o n c t xs w) := by
  have HF := Lib.hid (first_yes h hE ha hb hr hn he hx hlim)
  have HS := Lib.hid (fun W => slice_one (g := g) (o := o) hn hc W)
  go_enter Try.func12, Try.ntmps12
  go_wp2_with fail
  with_reducible refine HF.out.mono ?_
  rintro e w1 ⟨v, rfl, hv, hb1⟩
  have HV := Lib.hid hv
  have HB := Lib.hid hb1
  have HL := Lib.hid (link_yes (below_cell hb1 h) hE ha hb)
  have r1 := below_cell hb1 hr
  have t1 := below_cell hb1 ht
  have z1 : ∀ i, w1.frozen? ⟨P, i, none⟩ = false := fun i => (World.frozen?_of_block (hb1.block P hP)).trans (hz i)
  clear hv hb1 HF
  go_wp2_with fail
  with_reducible refine HL.out.mono ?_
  rintro e w2 ⟨rfl, rfl⟩
  clear HL
  have hs := HS.out
  clear HS
  have z2 := z1 (1 + a * 64 + b)
  go_wp2_with fail
  have hne : ¬ (1 + a * 64 + b = 4098) := by omega
  have hne' : ¬ (4098 = 1 + a * 64 + b) := by omega
  have t2 : (w1.setCell ⟨P, 1 + a * 64 + b, none⟩ (.slice (some (cutA g o c)) (n - 1) (c - 1))).cell? ⟨P, 4098, none⟩ = some (.int .i64 t) := by
    first | (simp [go_sem, hne, hne', t1]; done) | (rw [World.cell?_setCell_other _ _ _ _ (by simp [hne])]; exact t1)
  have z3 : (w1.setCell ⟨P, 1 + a * 64 + b, none⟩ (.slice (some (cutA g o c)) (n - 1) (c - 1))).frozen? ⟨P, 4098, none⟩ = false := by
    first | (simp [go_sem, z1]; done) | (have := z1 4098; simpa using this)
  have HM := Lib.hid (more_any t2 z3)
  clear t2 z3
  with_reducible refine HM.out.mono ?_
  rintro e w2 ⟨rfl, rfl⟩
  go_wp2_with fail
  go_ret2
  exact ⟨_, _, rfl, HV.out, HB.out, rfl⟩
theorem take_empty {P a b E c : Nat} {A : Option Addr} {w : World} (h : w.cell? ⟨P, 0, none⟩ = some (.int .i64 E)) (hE : E ≤ 64) (ha : a < E) (hb : b < E) (hr : w.cell? ⟨P, 1 + a * 64 + b, none⟩ = some (.slice A 0 c)) :
    Calls Try.prog 12 #[.pointer (some ⟨P, 0, none⟩), .int .i64 a, .int .i64 b] w (Tells (.tuple #[.slice none 0 0, .bool false]) w) := by
  have HE := Lib.hid (first_empty h hE ha hb hr)
  go_enter Try.func12, Try.ntmps12
  go_wp2_with fail
  with_reducible refine HE.out.mono ?_
  rintro e w1 ⟨rfl, rfl⟩
  go_wp2_with fail
  go_ret2
  exact ⟨rfl, rfl⟩
theorem take_no {P : Nat} {a b E : Int} {w : World} (h : w.cell? ⟨P, 0, none⟩ = some (.int .i64 E)) (hn : ¬ (0 ≤ a ∧ 0 ≤ b ∧ a < E ∧ b < E)) :
    Calls Try.prog 12 #[.pointer (some ⟨P, 0, none⟩), .int .i64 a, .int .i64 b] w (Tells (.tuple #[.slice none 0 0, .bool false]) w) := by
  have HE := Lib.hid (first_no h hn)
  go_enter Try.func12, Try.ntmps12
  go_wp2_with fail
  with_reducible refine HE.out.mono ?_
  rintro e w1 ⟨rfl, rfl⟩
  go_wp2_with fail
  go_ret2
  exact ⟨rfl, rfl⟩
end Go.Proofs.Ytfgjmckdjkfgdaa
