/- Contracts of the reference's Same, Add, Less. -/
import Derived.Test.YtainoghjelfnkaaRows
import Derived.Test.YtainoghjelfnkaaWords
import Derived.Test.YtainoghjelfnkaaByts
import Derived.Test.YtainoghjelfnkaaFrame
import Derived.Test.YtainoghjelfnkaaElems
import Derived.Test.YtainoghjelfnkaaV1
import Derived.Test.YtainoghjelfnkaaV2
import Derived.Test.YtainoghjelfnkaaV3
import Derived.Test.YtainoghjelfnkaaV4
import Derived.Test.YtainoghjelfnkaaV5
import Derived.Test.YtainoghjelfnkaaP1
namespace Go.Proofs.Ytainoghjelfnkaa
open Go Go.RowKit Go.Proofs.Tail Go.Sort
set_option linter.unusedSimpArgs false
set_option linter.unusedVariables false
set_option maxHeartbeats 4000000 in
theorem refsame_any (A A' : Option Addr) (n c n' c' : Nat) (xs ys : List Rc) (w : World) (hX : Recs w A n c xs) (hY : Recs w A' n' c' ys) (l1 : n * 16 ≤ 140737488355328) (l2 : n' * 16 ≤ 140737488355328) :
    Calls Try.prog 16 #[.slice A n c, .slice A' n' c'] w (Gives (.bool (decide (sortR xs = sortR ys))) w) := by
  have H1 := Lib.hid (refsorted_any A n c xs w hX l1)
  have H2 := Lib.hid (fun w' hb => refsorted_any A' n' c' ys w' (hY.below RRc.stays hb) l2)
  have b1 : (sortR xs).length ≤ 140737488355328 := by rw [sortR_length, hX.len]; omega
  have b2 : (sortR ys).length ≤ 140737488355328 := by rw [sortR_length, hY.len]; omega
  clear hX hY
  generalize sortR xs = us at *
  generalize sortR ys = vs at *
  go_enter Try.func16, Try.ntmps16
  go_wp2_with fail
  refine H1.out.mono ?_
  rintro e w1 ⟨v, rfl, ho, hb⟩
  obtain ⟨A1, c1, rfl, hr⟩ := own_recs ho (by omega)
  have R1 := Lib.hid hr
  have HB1 := Lib.hid hb
  clear ho hb H1 hr
  go_wp2_with fail
  refine (H2.out _ HB1.out).mono ?_
  rintro e w2 ⟨v, rfl, ho, hb⟩
  obtain ⟨A2, c2, rfl, hr⟩ := own_recs ho (by omega)
  have R2 := Lib.hid (R1.out.below RRc.stays hb)
  have R3 := Lib.hid hr
  have HB2 := Lib.hid (below_then HB1.out hb)
  clear ho hb H2 hr R1 HB1
  have HE := Lib.hid (alike_any A1 A2 _ c1 _ c2 us vs w2 R2.out R3.out)
  go_wp2_with fail
  refine HE.out.mono ?_
  rintro e w3 ⟨rfl, hb⟩
  have HB3 := Lib.hid (below_then HB2.out hb)
  clear hb HE HB2
  go_wp2_with fail
  go_ret
  exact .bool rfl HB3.out
set_option maxHeartbeats 8000000 in
theorem refadd_any (A : Option Addr) (n c : Nat) (L : List (List Rc)) (w : World) (hR : Rows_ w A n c L) (hlim : L.flatten.length * 16 ≤ 140737488355328) :
    Calls Try.prog 18 #[.slice A n c] w (GivesRec (sortR L.flatten) w) := by
  have HR := Lib.hid hR
  have HL := Lib.hid hR.len
  have hbig := hR.big
  have HLIM := Lib.hid hlim
  clear hR hlim
  have O0 := Lib.hid (show w.ownsRow w.heap.size 32 2 (.slice none 0 0) (L.take 0).flatten.length (recV (L.take 0).flatten) from World.ownsRow_nil _ _ _ _)
  have B0 := Lib.hid (Below.refl w.heap.size w)
  go_enter Try.func18, Try.ntmps18
  go_wp2_with fail
  go_loopw [3, 4] (fun s i wr => ∃ k' : Nat, k' ≤ n ∧ i = .int .i64 k' ∧ Hid (wr.ownsRow w.heap.size 32 2 s (L.take k').flatten.length (recV (L.take k').flatten)) ∧ Hid (Below w.heap.size w wr)) (fun _ i _ => n - (intOf i).toNat)
  case atStart => exact ⟨0, Nat.zero_le _, rfl, O0, B0⟩
  case round =>
    clear O0 B0
    obtain ⟨k', hk', rfl, HO, HB⟩ := hrel
    by_cases hlt : k' < n
    · have hd : decide ((k' : Int) < n) = true := decide_eq_true (by omega)
      have hd' : decide (k' < n) = true := decide_eq_true (by omega)
      obtain ⟨b, off, x, rfl, hx, A1, n1, c1, hc, hr⟩ := (HR.out.below RRow.stays HB.out).elem hlt
      rw [Nat.mul_one] at hc
      have h1 := Lib.hid (flat_take L hx)
      have HRR := Lib.hid hr
      have h2 := flat_le L (k' + 1)
      have hll : (L.take (k' + 1)).flatten.length = (L.take k').flatten.length + n1 := by rw [h1.out, List.length_append, hr.len]
      have hb1 : ((L.take k').flatten.length + n1) * 16 ≤ 140737488355328 := by have := HLIM.out; omega
      clear h2 hll hx hr
      go_wp2_with (at_builtin; (refine own_append_recs (W := wr) rfl (.tmp 11) (.tmp 15) 22 32 rfl Try.underlying22 infoR w.heap.size u3 (L.take k').flatten A1 n1 c1 x rfl rfl HO.out HRR.out hb1 HB.out.size ?_); intro v1 w2 hown hgr hat)
      have hr : ∀ k, u3.ownBlock = some k → w.heap.size ≤ k := fun k hk => own_lt HO.out k hk
      have HB2 := Lib.hid (HB.out.grown hgr HB.out.size hr)
      have HN := Lib.hid (show w2.ownsRow w.heap.size 32 2 v1 (L.take (k' + 1)).flatten.length (recV (L.take (k' + 1)).flatten) by rw [h1.out]; exact hown)
      clear hown hgr hat hr HO HB HRR
      go_roundw
      case rel => exact ⟨k' + 1, by omega, by go_num, HN, HB2⟩
      case measure => simp [intOf]; omega
    · have hkn : k' = n := by omega
      subst hkn
      have hd : decide ((k' : Int) < k') = false := decide_eq_false (by omega)
      have hd' : decide (k' < k') = false := decide_eq_false (by omega)
      have hl := HLIM.out
      have ho := HO.out
      rw [List.take_of_length_le (by rw [HL.out]; omega)] at ho
      generalize L.flatten = xs at *
      obtain ⟨A1, c1, ev, hr⟩ := own_recs ho (by omega)
      subst ev
      have HS := Lib.hid (refsorted_any A1 _ c1 xs wr hr hl)
      clear ho hr HO hl
      go_wp2_with fail
      refine HS.out.mono ?_
      rintro e w1 ⟨v, rfl, ho, hb⟩
      have HO2 := Lib.hid (own_base (base' := w.heap.size) ho HB.out.size)
      have HB2 := Lib.hid (HB.out.trans (hb.mono HB.out.size))
      clear ho hb HS HB
      go_wp2_with fail
      go_ret
      exact ⟨_, rfl, HO2.out, HB2.out⟩
/-- What a row less another one is handed back as. -/
def GivesLess (r : Option (List Rc)) (w : World) (e : Ending) (w' : World) : Prop :=
  ∃ v, e = .returned (.tuple #[v, .bool r.isSome]) ∧ w'.ownsRow w.heap.size 32 2 v (r.getD []).length (recV (r.getD [])) ∧ Below w.heap.size w w'
theorem recs_take {w : World} {A : Option Addr} {n c : Nat} {xs : List Rc} (h : Recs w A n c xs) {m : Nat} (hm : m ≤ n) {c' : Nat} (hc : m ≤ c') : Recs w A m c' (xs.take m) :=
  ⟨by rw [List.length_take, h.len]; omega, hc, Nat.le_trans hm h.big, fun hp => by
    obtain ⟨b, off, rfl, hc⟩ := h.at_ (by omega)
    refine ⟨b, off, rfl, fun j x hj => hc j x ?_⟩
    rw [List.getElem?_take] at hj
    split at hj
    · exact hj
    · cases hj⟩
theorem recs_drop {w : World} {b o n c : Nat} {xs : List Rc} (h : Recs w (some ⟨b, o, none⟩) n c xs) {m : Nat} (hm : m ≤ n) {c' : Nat} (hc : n - m ≤ c') : Recs w (some ⟨b, o + m * 2, none⟩) (n - m) c' (xs.drop m) :=
  ⟨by rw [List.length_drop, h.len], hc, by have := h.big; omega, fun hp => by
    obtain ⟨b', off, e, hc⟩ := h.at_ (by omega)
    injection e with e
    injection e with e1 e2
    subst e1 e2
    refine ⟨b, o + m * 2, rfl, fun j x hj => ?_⟩
    rw [List.getElem?_drop] at hj
    have := hc (m + j) x hj
    rw [Nat.add_mul, ← Nat.add_assoc] at this
    exact this⟩
theorem erase_at {l : List Rc} {p : Nat} {y : Rc} (hp : l[p]? = some y) (hn : ∀ j, j < p → l[j]? ≠ some y) : l.take p ++ l.drop (p + 1) = l.erase y := by
  have hpl := (List.getElem?_eq_some_iff.1 hp).1
  have e : l = l.take p ++ y :: l.drop (p + 1) := by
    conv => lhs; rw [← List.take_append_drop p l, List.drop_eq_getElem_cons hpl, (List.getElem?_eq_some_iff.1 hp).2]
  conv => rhs; rw [e]
  rw [List.erase_append_right _ (fun hm => by
    obtain ⟨j, hj, h⟩ := List.getElem_of_mem hm
    rw [List.length_take] at hj
    refine hn j (by omega) ?_
    rw [← h, List.getElem_take, List.getElem?_eq_getElem]), List.erase_cons_head]
end Go.Proofs.Ytainoghjelfnkaa
