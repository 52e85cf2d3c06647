/- The walk of ValueBytes. -/
import Derived.Test.YtainoghjelfnkaaRows
import Derived.Test.YtainoghjelfnkaaWords
import Derived.Test.YtainoghjelfnkaaByts
import Derived.Test.YtainoghjelfnkaaFrame
import Derived.Test.YtainoghjelfnkaaElems
import Derived.Test.YtainoghjelfnkaaS10
import Derived.Test.YtainoghjelfnkaaV1
import Derived.Test.YtainoghjelfnkaaV2
import Derived.Test.YtainoghjelfnkaaV3
import Derived.Test.YtainoghjelfnkaaV4
import Derived.Test.YtainoghjelfnkaaV10
import Derived.Test.YtainoghjelfnkaaV11
import Derived.Test.YtainoghjelfnkaaN1
import Derived.Test.YtainoghjelfnkaaN2
import Derived.Test.YtainoghjelfnkaaN3
import Derived.Test.YtainoghjelfnkaaN4
import Derived.Test.YtainoghjelfnkaaG4
namespace Go.Proofs.Ytainoghjelfnkaa
open Go Go.RowKit Go.Proofs.Tail Go.Sort
set_option linter.unusedSimpArgs false
set_option linter.unusedVariables false
/-- What Get's two results are. -/
def GivesG (q : List Rc) (m : Nat) (er : Int) (w : World) (e : Ending) (w' : World) : Prop :=
  ∃ A c, e = .returned (.tuple #[.slice A m c, .int .i64 er]) ∧ Recs w' A m c q ∧ Below w.heap.size w w'
theorem GivesGet.g {r : Option (List Rc)} {q : List Rc} {m : Nat} {er : Int} (hq : r.getD [] = q) (hm : q.length = m) (he : errG r = er) (hb : m ≤ 9223372036854775807) {w : World} {e : Ending} {w' : World} (h : GivesGet r w e w') : GivesG q m er w e w' := by
  obtain ⟨v, rfl, ho, hb'⟩ := h
  rw [hq, hm] at ho
  obtain ⟨A, c, ev, hr⟩ := own_recs ho hb
  subst ev
  exact ⟨A, c, by rw [he], hr, hb'⟩
theorem getB_len (xs : List Int) : ((getB xs).getD []).length ≤ xs.length := by
  unfold getB
  split
  · simp [recs_len]; omega
  · simp
theorem law_bytes_no (A A' : Option Addr) (n c n' c' : Nat) (w : World) (h : 100 < n ∨ n ≤ 100 ∧ 1600 < n') :
    Calls Try.prog 7 #[.slice A n c, .slice A' n' c'] w (Gives (.bool true) w) := by
  rcases h with h | ⟨h, h'⟩
  · have d1 : decide (100 < (n : Int)) = true := decide_eq_true (by omega)
    clear h
    go_enter Try.func7, Try.ntmps7
    go_wp2_with fail
    refine (works_any _).mono ?_
    rintro e w1 ⟨rfl, hb⟩
    have HB := Lib.hid hb
    clear hb
    go_wp2_with fail
    go_ret
    exact .bool rfl HB.out
  · have d1 : decide (100 < (n : Int)) = false := decide_eq_false (by omega)
    have d2 : decide (1600 < (n' : Int)) = true := decide_eq_true (by omega)
    clear h h'
    go_enter Try.func7, Try.ntmps7
    go_wp2_with fail
    refine (works_any _).mono ?_
    rintro e w1 ⟨rfl, hb⟩
    have HB := Lib.hid hb
    clear hb
    go_wp2_with fail
    go_ret
    exact .bool rfl HB.out
set_option maxRecDepth 100000 in
set_option maxHeartbeats 16000000 in
theorem law_bytes_yes (A A' : Option Addr) (n c n' c' : Nat) (l : List Rc) (bs : List Int) (w : World) (hX : Recs w A n c l) (hl : ∀ x ∈ l, In64 x.1 ∧ In64 x.2) (hY : Byts w A' n' c' bs) (hi : InB bs) (h1 : n ≤ 100) (h2 : n' ≤ 1600) :
    Calls Try.prog 7 #[.slice A n c, .slice A' n' c'] w (Gives (.bool true) w) := by
  have HX := Lib.hid hX
  have HY := Lib.hid hY
  have HI := Lib.hid hi
  have d1 : decide (100 < (n : Int)) = false := decide_eq_false (by omega)
  have d2 : decide (1600 < (n' : Int)) = false := decide_eq_false (by omega)
  have hpl : (putR l).length = n * 16 := by rw [putR_length, hX.len]
  have HPL := Lib.hid hpl
  have HPI := Lib.hid (putR_in l)
  have HGP := Lib.hid (get_put l hl)
  have HLL := Lib.hid hX.len
  have HYL := Lib.hid hY.len
  obtain ⟨q, hq⟩ : ∃ q, (getB bs).getD [] = q := ⟨_, rfl⟩
  obtain ⟨m, hm⟩ : ∃ m, q.length = m := ⟨_, rfl⟩
  obtain ⟨er, he⟩ : ∃ er, errG (getB bs) = er := ⟨_, rfl⟩
  have hmb : m ≤ 1600 := by rw [← hm, ← hq]; have := getB_len bs; rw [hY.len] at this; omega
  have HQ := Lib.hid hq
  have HM := Lib.hid hm
  have HE := Lib.hid he
  have C1 := Lib.hid (put_any A n c l w hX (by omega))
  clear hX hY hi hl hpl hq hm he
  go_enter Try.func7, Try.ntmps7
  go_wp2_with fail
  refine C1.out.mono ?_
  rintro e w1 ⟨v, rfl, ho, hb⟩
  obtain ⟨Ap, cp, ev, hr⟩ := own_bytes (n := n * 16) (by rw [HPL.out] at ho; exact ho) (by omega)
  subst ev
  have HP := Lib.hid hr
  have HB1 := Lib.hid hb
  have C2 := Lib.hid ((get_any Ap (n * 16) cp (putR l) w1 hr HPI.out (by omega)).mono fun e w' h => GivesGet.g (q := l) (m := n) (er := 0) (by rw [HGP.out]; rfl) HLL.out (by rw [HGP.out]; rfl) (by omega) h)
  clear ho hb hr C1
  go_wp2_with fail
  refine C2.out.mono ?_
  rintro e w2 ⟨Am, cm, rfl, hr, hb⟩
  have HMM := Lib.hid hr
  have HP2 := Lib.hid (HP.out.below RByte.stays hb)
  have HB2 := Lib.hid (below_then HB1.out hb)
  have C3 := Lib.hid ((get_any A' n' c' bs w2 (HY.out.below RByte.stays HB2.out) HI.out (by omega)).mono fun e w' h => GivesGet.g HQ.out HM.out HE.out (by omega) h)
  clear hr hb C2 HP HB1
  go_wp2_with fail
  refine C3.out.mono ?_
  rintro e w3 ⟨Ax, cx, rfl, hr, hb⟩
  have HXX := Lib.hid hr
  have HMM2 := Lib.hid (HMM.out.below RRc.stays hb)
  have HP3 := Lib.hid (HP2.out.below RByte.stays hb)
  have HB3 := Lib.hid (below_then HB2.out hb)
  have C4 := Lib.hid ((refget_any A' n' c' bs w3 (HY.out.below RByte.stays HB3.out) HI.out (by omega)).mono fun e w' h => GivesGet.g HQ.out HM.out HE.out (by omega) h)
  clear hr hb C3 HP2 HB2 HMM
  go_wp2_with fail
  refine C4.out.mono ?_
  rintro e w4 ⟨Ay, cy, rfl, hr, hb⟩
  have HYY := Lib.hid hr
  have HXX2 := Lib.hid (HXX.out.below RRc.stays hb)
  have HMM3 := Lib.hid (HMM2.out.below RRc.stays hb)
  have HP4 := Lib.hid (HP3.out.below RByte.stays hb)
  have HB4 := Lib.hid (below_then HB3.out hb)
  have C5 := Lib.hid (refput_any A n c l w4 (HX.out.below RRc.stays HB4.out) (by omega))
  clear hr hb C4 HP3 HB3 HMM2 HXX
  go_wp2_with fail
  refine C5.out.mono ?_
  rintro e w5 ⟨v, rfl, ho, hb⟩
  obtain ⟨Ar, cr, ev, hr⟩ := own_bytes (n := n * 16) (by rw [HPL.out] at ho; exact ho) (by omega)
  subst ev
  have HB5 := Lib.hid (below_then HB4.out hb)
  have C6 := Lib.hid (samebytes_any Ap Ar (n * 16) cp (n * 16) cr (putR l) (putR l) w5 (HP4.out.below RByte.stays hb) hr HPI.out HPI.out)
  simp only [decide_true] at C6
  have C7 := Lib.hid (alike_any Am A n cm n c l l w5 (HMM3.out.below RRc.stays hb) (HX.out.below RRc.stays HB5.out))
  simp only [decide_true] at C7
  have HXX3 := Lib.hid (HXX2.out.below RRc.stays hb)
  have HYY3 := Lib.hid (HYY.out.below RRc.stays hb)
  clear ho hb hr C5 HP4 HB4 HMM3 HXX2 HYY
  go_wp2_with fail
  refine C6.out.mono ?_
  rintro e w6 ⟨rfl, rfl⟩
  clear C6
  go_wp2_with fail
  refine C7.out.mono ?_
  rintro e w7 ⟨rfl, hb⟩
  have HB7 := Lib.hid (below_then HB5.out hb)
  have C8 := Lib.hid (alike_any Ax Ay m cx m cy q q w7 (HXX3.out.below RRc.stays hb) (HYY3.out.below RRc.stays hb))
  simp only [decide_true] at C8
  clear hb C7 HB5
  go_wp2_with fail
  refine C8.out.mono ?_
  rintro e w8 ⟨rfl, hb⟩
  have HB8 := Lib.hid (below_then HB7.out hb)
  clear hb C8 HB7
  go_wp2_with fail
  refine (works_any _).mono ?_
  rintro e w9 ⟨rfl, hb⟩
  have HB9 := Lib.hid (below_then HB8.out hb)
  clear hb
  go_wp2_with fail
  go_ret
  exact .bool rfl HB9.out
theorem law_bytes (A A' : Option Addr) (n c n' c' : Nat) (l : List Rc) (bs : List Int) (w : World) (hX : Recs w A n c l) (hl : ∀ x ∈ l, In64 x.1 ∧ In64 x.2) (hY : Byts w A' n' c' bs) (hi : InB bs) :
    Calls Try.prog 7 #[.slice A n c, .slice A' n' c'] w (Gives (.bool true) w) := by
  by_cases h1 : n ≤ 100
  · by_cases h2 : n' ≤ 1600
    · exact law_bytes_yes A A' n c n' c' l bs w hX hl hY hi h1 h2
    · exact law_bytes_no A A' n c n' c' w (.inr ⟨h1, by omega⟩)
  · exact law_bytes_no A A' n c n' c' w (.inl (by omega))
end Go.Proofs.Ytainoghjelfnkaa
