/- The walk of AntichainOf. -/
import Derived.Test.YtamniepfgddecaaRows
import Derived.Laws.OwnMore
import Derived.Test.YtamniepfgddecaaWords
import Derived.Test.YtamniepfgddecaaByts
import Derived.Test.YtamniepfgddecaaFrame
import Derived.Test.YtamniepfgddecaaElems
import Derived.Test.YtamniepfgddecaaS1
import Derived.Test.YtamniepfgddecaaS2
import Derived.Test.YtamniepfgddecaaS4
import Derived.Test.YtamniepfgddecaaU1
import Derived.Test.YtamniepfgddecaaU4
import Derived.Test.YtamniepfgddecaaA1
import Derived.Test.YtamniepfgddecaaA2
import Derived.Test.YtamniepfgddecaaA3
import Derived.Test.YtamniepfgddecaaA4
import Derived.Test.YtamniepfgddecaaA5
import Derived.Test.YtamniepfgddecaaB1
import Derived.Test.YtamniepfgddecaaB5
import Derived.Test.YtamniepfgddecaaP1
import Derived.Test.YtamniepfgddecaaP3
import Derived.Test.YtamniepfgddecaaW1
import Derived.Test.YtamniepfgddecaaL0
namespace Go.Proofs.Ytamniepfgddecaa
open Go Go.RowKit Go.Proofs.Tail Go.Sort
set_option linter.unusedSimpArgs false
set_option linter.unusedVariables false
set_option maxRecDepth 100000 in
set_option maxHeartbeats 16000000 in
theorem law_of (A : Option Addr) (n c : Nat) (ts : List T) (w : World) (hX : Tms w A n c ts) :
    Calls Try.prog 3 #[.slice A n c] w (Gives (.bool true) w) := by
  by_cases h : 60 < n
  · have d1 : decide (60 < (n : Int)) = true := decide_eq_true (by omega)
    clear h hX
    go_enter Try.func3, Try.ntmps3
    go_wp2_with fail
    refine (works_any _).mono ?_
    rintro e w1 ⟨rfl, hb⟩
    have HB := Lib.hid hb
    clear hb
    go_wp2_with fail
    go_ret
    exact .bool rfl HB.out
  · have d1 : decide (60 < (n : Int)) = false := decide_eq_false (by omega)
    have hn : n ≤ 60 := by omega
    clear h
    have HX := Lib.hid hX
    have LX := Lib.hid hX.len
    have N0 := Lib.hid (World.ownsRow_nil w w.heap.size 32 5)
    have hlq : ((ofT ts).getD []).length ≤ 60 := by
      cases e : ofT ts with
      | none => simp
      | some l => have := ofT_length e; have := LX.out; simp; omega
    obtain ⟨q, m, er, his⟩ := Is.of (ofT ts) (by omega)
    have HF := Lib.hid (show er = 50 ∨ er = 0 ∧ rightF q = true by
      cases e : ofT ts with
      | none => rw [e] at his; exact .inl his.none.2.2
      | some l => rw [e] at his; obtain ⟨rfl, _, h⟩ := his.some; exact .inr ⟨h, (of_some e).2.1⟩)
    have hm : m ≤ 60 := by rw [← his.len, ← his.row]; exact hlq
    have HIS := Lib.hid his
    clear hX hlq his
    go_enter Try.func3, Try.ntmps3
    go_wp2_with (at_builtin; refine own_append_tms rfl (.tmp 13) (.tmp 14) 22 32 rfl Try.underlying22 infoT w.heap.size (.slice none 0 0) [] A n c ts rfl rfl N0.out HX.out (by simp; omega) (Nat.le_refl _) ?_; intro v1 w1 hown hgr hat)
    rw [List.nil_append] at hown
    obtain ⟨A1, c1, ev, hr⟩ := own_tms (n := n) (by rw [← LX.out]; exact hown) (by omega)
    subst ev
    have HB1 := Lib.hid ((Below.refl w.heap.size w).grown hgr (Nat.le_refl _) (fun k hk => own_lt N0.out k hk))
    have HR1 := Lib.hid hr
    have C1 := Lib.hid ((of_any A1 n c1 ts w1 hr (by omega)).mono fun _ _ => HIS.out.gives)
    have C2 := Lib.hid (fun W hb => (refof_any A n c ts W (HX.out.below At.stays hb) (by omega)).mono fun _ _ => HIS.out.gives)
    clear hown hgr hat hr N0
    go_wp2_with fail
    refine C1.out.mono ?_
    rintro e w2 ⟨A2, c2, rfl, ho, hr, hb⟩
    have HO2 := Lib.hid ho
    have HR2 := Lib.hid hr
    have HB2 := Lib.hid hb
    clear ho hr hb C1
    go_wp2_with fail
    refine (C2.out _ (below_then HB1.out HB2.out)).mono ?_
    rintro e w3 ⟨A3, c3, rfl, ho, hr, hb⟩
    have HO3 := Lib.hid ho
    have HB3 := Lib.hid hb
    have C3 := Lib.hid (refsame_any A2 A3 m c2 m c3 q q w3 (HR2.out.below At.stays hb) hr)
    rw [decide_eq_true rfl] at C3
    clear ho hr hb C2
    go_wp2_with fail
    refine C3.out.mono ?_
    rintro e w4 ⟨rfl, hb⟩
    have HB4 := Lib.hid hb
    have HBL := Lib.hid (below_then (below_then HB2.out HB3.out) HB4.out)
    have HBA := Lib.hid (below_then HB1.out HBL.out)
    have C4 := Lib.hid (right_any' A n c ts w4 (HX.out.below At.stays HBA.out) (by omega))
    have C5 := Lib.hid (fun W hb => refright_all A n c ts W (HX.out.below At.stays (below_then HBA.out hb)) (by omega))
    clear hb C3
    go_wp2_with fail
    refine C4.out.mono ?_
    rintro e w5 ⟨rfl, hb⟩
    have HB5 := Lib.hid hb
    clear hb C4
    go_wp2_with fail
    refine (C5.out _ HB5.out).mono ?_
    rintro e w6 ⟨rfl, hb⟩
    have HB6 := Lib.hid (below_then HB5.out hb)
    have HO6 := Lib.hid (own_below HO2.out (below_then HB3.out (below_then HB4.out HB6.out)))
    have HS2 := Lib.hid (show ∀ j, (Value.slice A2 m c2).ownBlock = some j → w1.heap.size ≤ j ∧ j < w2.heap.size from fun j hj => ⟨own_lt HO2.out j hj, own_block_lt HO2.out j hj⟩)
    have HO36 := Lib.hid (own_below HO3.out (below_then HB4.out HB6.out))
    have HBL6 := Lib.hid (below_then HBL.out HB6.out)
    clear hb C5 HB5 HO2 HO3 HBL HBA HR2 HB2 HB3 HB4 HB6
    have F0 := Lib.hid (Fr.refl (fun b => (Value.slice A2 m c2).ownBlock = some b) w6)
    go_wp2_with fail
    go_loopw [8] (fun i wr => ∃ k : Nat, k ≤ m ∧ i = .int .i64 k ∧ Hid (∃ cs, wr.ownsRow w1.heap.size 32 5 (.slice A2 m c2) m cs) ∧ Hid (Fr (fun b => (Value.slice A2 m c2).ownBlock = some b) w6 wr)) (fun i _ => m - (intOf i).toNat)
    case atStart => exact ⟨0, Nat.zero_le _, rfl, Lib.hid ⟨_, HO6.out⟩, F0⟩
    case round =>
      clear F0 HO6
      obtain ⟨k, hk, rfl, HO, HFR⟩ := hrel
      by_cases hlt : k < m
      · have hd : decide ((k : Int) < m) = true := decide_eq_true (by omega)
        have hd' : decide (k < m) = true := decide_eq_true (by omega)
        obtain ⟨cs, ho⟩ := HO.out
        obtain ⟨g, ev⟩ : ∃ g, A2 = some ⟨g, 0, none⟩ := by
          rcases ho.2 with ⟨h, _⟩ | ⟨g, _, _, h, _⟩
          · cases h; omega
          · cases h; exact ⟨g, rfl⟩
        subst ev
        have hkm : (k : Int) < m := by omega
        have hlt1 : k * 5 + 1 < m * 5 := by omega
        obtain ⟨u, hcl⟩ : ∃ u, wr.cell? ⟨g, k * 5 + 1, none⟩ = some u := ⟨_, (ho.cellAt (k * 5 + 1) hlt1).trans (List.getElem?_eq_getElem (by rw [ho.1]; exact hlt1))⟩
        have hfz := ho.frozenAt (k * 5 + 1)
        have HST := Lib.hid (ho.stored (k * 5 + 1) (.int .i64 (-9)))
        have HFR2 := Lib.hid (HFR.out.set (p := ⟨g, k * 5 + 1, none⟩) (fun _ => rfl) (.int .i64 (-9)))
        clear ho HO
        go_wp2_with fail
        go_roundw
        case rel => exact ⟨k + 1, by omega, by go_num, Lib.hid ⟨_, HST.out.1⟩, HFR2⟩
        case measure => simp [intOf]; omega
      · have hkm : k = m := by omega
        subst hkm
        have hd : decide ((k : Int) < k) = false := decide_eq_false (by omega)
        have hd' : decide (k < k) = false := decide_eq_false (by omega)
        have HBF := HFR.out.below (B := w1.heap.size) HBL6.out.size (fun j hj h => by have := (HS2.out j h).1; omega)
        have HBW := Lib.hid (HBL6.out.trans HBF)
        have HBWW := Lib.hid (below_then HB1.out HBW.out)
        have C6 := Lib.hid (refsame_any A1 A n c1 n c ts ts wr (HR1.out.below At.stays HBW.out) (HX.out.below At.stays HBWW.out))
        simp only [decide_true] at C6
        have HO3 := own_fr HO36.out HFR.out (fun j hj h => by
          have h1 := own_lt HO36.out j hj
          have h2 := (HS2.out j h).2
          omega)
        obtain ⟨_, _, ev, hr⟩ := own_tms HO3 (by omega)
        cases ev
        have HR3 := Lib.hid hr
        clear HBF HO3 hr HO HFR
        go_wp2_with fail
        refine C6.out.mono ?_
        rintro e w7 ⟨rfl, hb⟩
        have HB7 := Lib.hid (below_then HBWW.out hb)
        rcases HF.out with h | ⟨h, h2⟩
        · subst h
          clear C6 hb
          go_wp2_with fail
          refine (works_any _).mono ?_
          rintro e w8 ⟨rfl, hb⟩
          have HB8 := Lib.hid (below_then HB7.out hb)
          clear hb
          go_wp2_with fail
          go_ret
          exact .bool rfl HB8.out
        · subst h
          have C7 := Lib.hid (right_any' A3 k c3 q w7 (HR3.out.below At.stays hb) (by omega))
          rw [h2] at C7
          clear C6 hb h2
          go_wp2_with fail
          refine C7.out.mono ?_
          rintro e w8 ⟨rfl, hb⟩
          have HB8 := Lib.hid (below_then HB7.out hb)
          clear hb
          go_wp2_with fail
          refine (works_any _).mono ?_
          rintro e w9 ⟨rfl, hb⟩
          have HB9 := Lib.hid (below_then HB8.out hb)
          clear hb
          go_wp2_with fail
          go_ret
          exact .bool rfl HB9.out
end Go.Proofs.Ytamniepfgddecaa
