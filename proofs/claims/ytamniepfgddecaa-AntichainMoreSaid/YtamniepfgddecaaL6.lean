/- The walk of AntichainMore. -/
import Derived.Test.YtamniepfgddecaaRows
import Derived.Test.YtamniepfgddecaaWords
import Derived.Test.YtamniepfgddecaaByts
import Derived.Test.YtamniepfgddecaaFrame
import Derived.Test.YtamniepfgddecaaElems
import Derived.Test.YtamniepfgddecaaS1
import Derived.Test.YtamniepfgddecaaS2
import Derived.Test.YtamniepfgddecaaS4
import Derived.Test.YtamniepfgddecaaS7
import Derived.Test.YtamniepfgddecaaU1
import Derived.Test.YtamniepfgddecaaU4
import Derived.Test.YtamniepfgddecaaA1
import Derived.Test.YtamniepfgddecaaA2
import Derived.Test.YtamniepfgddecaaA3
import Derived.Test.YtamniepfgddecaaA4
import Derived.Test.YtamniepfgddecaaA5
import Derived.Test.YtamniepfgddecaaB1
import Derived.Test.YtamniepfgddecaaB3
import Derived.Test.YtamniepfgddecaaB4
import Derived.Test.YtamniepfgddecaaB5
import Derived.Test.YtamniepfgddecaaB6
import Derived.Test.YtamniepfgddecaaP1
import Derived.Test.YtamniepfgddecaaP3
import Derived.Test.YtamniepfgddecaaW1
import Derived.Test.YtamniepfgddecaaL0
namespace Go.Proofs.Ytamniepfgddecaa
open Go Go.RowKit Go.Proofs.Tail Go.Sort
set_option linter.unusedSimpArgs false
set_option linter.unusedVariables false
set_option maxRecDepth 100000 in
set_option maxHeartbeats 16000000 in
theorem law_more_any (A : Option Addr) (n c : Nat) (ts : List T) (t : T) (w : World) (hX : Tms w A n c ts) :
    Calls Try.prog 8 #[.slice A n c, .agg #[.int .i64 t.d, .int .i64 t.e, .int .i64 t.a, .int .i64 t.b, .int .i64 t.c]] w (Gives (.bool true) w) := by
  have HB00 := Lib.hid (below_new w (.cells #[.int .i64 t.d, .int .i64 t.e, .int .i64 t.a, .int .i64 t.b, .int .i64 t.c] 32))
  by_cases h : 30 < n
  · have d1 : decide (30 < (n : Int)) = true := decide_eq_true (by omega)
    clear h hX
    go_enter Try.func8, Try.ntmps8
    go_wp2_with fail
    refine (works_any _).mono ?_
    rintro e w1 ⟨rfl, hb⟩
    have HB1 := Lib.hid (below_then HB00.out hb)
    clear hb HB00
    go_wp2_with fail
    go_ret
    exact .bool rfl HB1.out
  have d1 : decide (30 < (n : Int)) = false := decide_eq_false (by omega)
  have l1 : n ≤ 30 := by omega
  clear h
  have HX := Lib.hid (hX.below At.stays HB00.out)
  have lx := hX.len
  have LX := Lib.hid lx
  have BT := Lib.hid (Bx.new w t _ rfl)
  have ol : ∀ us : List T, us.length ≤ 31 → ((ofT us).getD []).length ≤ 31 := fun us hu => by
    cases e : ofT us with
    | none => simp
    | some l => have := ofT_length e; simp; omega
  have hh1 := ol ts (by omega)
  have hh2 := ol (ts ++ [t]) (by simp; omega)
  obtain ⟨q1, m1, e1, is1⟩ := Is.of (ofT ts) (by omega)
  obtain ⟨q2, m2, e2, is2⟩ := Is.of (ofT (ts ++ [t])) (by omega)
  have k1 : m1 ≤ 31 := by rw [← is1.len, ← is1.row]; exact hh1
  have k2 : m2 ≤ 31 := by rw [← is2.len, ← is2.row]; exact hh2
  have I1 := Lib.hid is1
  have I2 := Lib.hid is2
  have HE1 := Lib.hid (show e1 = 50 ∨ e1 = 0 ∧ ofT ts = some q1 from by
    cases e : ofT ts with
    | none => rw [e] at is1; exact .inl is1.none.2.2
    | some l => rw [e] at is1; obtain ⟨h, _, h2⟩ := is1.some; rw [h]; exact .inr ⟨h2, rfl⟩)
  have HE2 := Lib.hid (show e2 = 50 ∨ e2 = 0 ∧ ofT (ts ++ [t]) = some q2 from by
    cases e : ofT (ts ++ [t]) with
    | none => rw [e] at is2; exact .inl is2.none.2.2
    | some l => rw [e] at is2; obtain ⟨h, _, h2⟩ := is2.some; rw [h]; exact .inr ⟨h2, rfl⟩)
  clear is1 is2 lx hX ol hh1 hh2
  go_enter Try.func8, Try.ntmps8
  obtain ⟨x0, x1, x2, x3, x4⟩ := BT.out.cells
  go_wp2_with fail
  refine ((of_any A n c ts _ HX.out (by omega)).mono fun _ _ => I1.out.gives).mono ?_
  clear x0 x1 x2 x3 x4
  rintro e w1 ⟨F, fc, rfl, _, hr, hb⟩
  have HF := Lib.hid hr
  clear hr
  have HX' := Lib.hid (HX.out.below At.stays hb)
  clear HX
  have HX := HX'
  clear HX'
  have BT' := Lib.hid (BT.out.below hb)
  clear BT
  have BT := BT'
  clear BT'
  have HB1 := Lib.hid (below_then HB00.out hb)
  clear hb HB00
  obtain ⟨x0, x1, x2, x3, x4⟩ := BT.out.cells
  have N0 := Lib.hid (World.ownsRow_nil w1 w1.heap.size 32 5)
  clear x0 x1 x2 x3 x4
  go_wp2_with (at_builtin; first
    | (refine own_append_tms rfl (.tmp 21) (.tmp 22) 22 32 rfl Try.underlying22 infoT w1.heap.size (.slice none 0 0) [] A n c ts rfl rfl N0.out HX.out (by simp; omega) (Nat.le_refl _) ?_
       intro v1 wa hown hgr hat
       have HBa := Lib.hid ((Below.refl w1.heap.size w1).grown hgr (Nat.le_refl _) (fun k hk => own_lt N0.out k hk))
       obtain ⟨x0, x1, x2, x3, x4⟩ := (BT.out.below HBa.out).cells
       have HOa := Lib.hid (own_below hown (below_new wa (.cells #[.int .i64 t.d, .int .i64 t.e, .int .i64 t.a, .int .i64 t.b, .int .i64 t.c] 32)))
       have HBb := Lib.hid (below_then HBa.out (below_new wa (.cells #[.int .i64 t.d, .int .i64 t.e, .int .i64 t.a, .int .i64 t.b, .int .i64 t.c] 32)))
       have HTt := Lib.hid (tms_new wa t _ rfl)
       have HLa := Lib.hid (show (([] : List T) ++ ts).length = n by rw [List.nil_append, LX.out])
       clear hown hgr hat N0)
    | (refine own_append_tms rfl (.tmp 25) (.tmp 27) 22 32 rfl Try.underlying22 infoT w1.heap.size v1 ([] ++ ts) (some ⟨wa.heap.size, 0, none⟩) 1 1 [t] rfl rfl HOa.out HTt.out (by rw [HLa.out]; omega) HBb.out.size ?_
       intro v2 wb hown hgr hat
       have hb := HBb.out.grown hgr HBb.out.size (fun k hk => own_lt HOa.out k hk)
       rw [List.nil_append] at hown
       obtain ⟨Ag, cg, ev, hr⟩ := own_tms (n := n + 1) (by rw [show n + 1 = (ts ++ [t]).length by rw [List.length_append, LX.out]; rfl]; exact hown) (by omega)
       subst ev
       have HAG := Lib.hid hr
       clear hown hgr hat hr HOa HBa HBb HTt HLa x0 x1 x2 x3 x4))
  obtain ⟨w2, hw⟩ : ∃ q, q = wb := ⟨_, rfl⟩
  subst hw
  have HX' := Lib.hid (HX.out.below At.stays hb)
  clear HX
  have HX := HX'
  clear HX'
  have HF' := Lib.hid (HF.out.below At.stays hb)
  clear HF
  have HF := HF'
  clear HF'
  have BT' := Lib.hid (BT.out.below hb)
  clear BT
  have BT := BT'
  clear BT'
  have HB2 := Lib.hid (below_then HB1.out hb)
  clear hb HB1
  obtain ⟨x0, x1, x2, x3, x4⟩ := BT.out.cells
  clear x0 x1 x2 x3 x4
  refine ((of_any Ag (n + 1) cg (ts ++ [t]) _ HAG.out (by omega)).mono fun _ _ => I2.out.gives).mono ?_
  rintro e w3 ⟨G, gc, rfl, _, hr, hb⟩
  have HG := Lib.hid hr
  clear hr
  have HX' := Lib.hid (HX.out.below At.stays hb)
  clear HX
  have HX := HX'
  clear HX'
  have HF' := Lib.hid (HF.out.below At.stays hb)
  clear HF
  have HF := HF'
  clear HF'
  have HAG' := Lib.hid (HAG.out.below At.stays hb)
  clear HAG
  have HAG := HAG'
  clear HAG'
  have BT' := Lib.hid (BT.out.below hb)
  clear BT
  have BT := BT'
  clear BT'
  have HB3 := Lib.hid (below_then HB2.out hb)
  clear hb HB2
  obtain ⟨x0, x1, x2, x3, x4⟩ := BT.out.cells
  rcases HE1.out with h | ⟨h, hf⟩
  · subst h
    go_wp2_with fail
    refine (works_any _).mono ?_
    clear x0 x1 x2 x3 x4
    rintro e w4 ⟨rfl, hb⟩
    have HX' := Lib.hid (HX.out.below At.stays hb)
    clear HX
    have HX := HX'
    clear HX'
    have HF' := Lib.hid (HF.out.below At.stays hb)
    clear HF
    have HF := HF'
    clear HF'
    have HAG' := Lib.hid (HAG.out.below At.stays hb)
    clear HAG
    have HAG := HAG'
    clear HAG'
    have HG' := Lib.hid (HG.out.below At.stays hb)
    clear HG
    have HG := HG'
    clear HG'
    have BT' := Lib.hid (BT.out.below hb)
    clear BT
    have BT := BT'
    clear BT'
    have HB4 := Lib.hid (below_then HB3.out hb)
    clear hb HB3
    obtain ⟨x0, x1, x2, x3, x4⟩ := BT.out.cells
    go_wp2_with fail
    go_ret
    exact .bool rfl HB4.out
  subst h
  rcases HE2.out with h | ⟨h, hg⟩
  · subst h
    clear hf
    go_wp2_with fail
    refine (works_any _).mono ?_
    clear x0 x1 x2 x3 x4
    rintro e w4 ⟨rfl, hb⟩
    have HX' := Lib.hid (HX.out.below At.stays hb)
    clear HX
    have HX := HX'
    clear HX'
    have HF' := Lib.hid (HF.out.below At.stays hb)
    clear HF
    have HF := HF'
    clear HF'
    have HAG' := Lib.hid (HAG.out.below At.stays hb)
    clear HAG
    have HAG := HAG'
    clear HAG'
    have HG' := Lib.hid (HG.out.below At.stays hb)
    clear HG
    have HG := HG'
    clear HG'
    have BT' := Lib.hid (BT.out.below hb)
    clear BT
    have BT := BT'
    clear BT'
    have HB4 := Lib.hid (below_then HB3.out hb)
    clear hb HB3
    obtain ⟨x0, x1, x2, x3, x4⟩ := BT.out.cells
    go_wp2_with fail
    go_ret
    exact .bool rfl HB4.out
  subst h
  obtain ⟨g1, g2, g3⟩ := law_more hf hg
  have G3 := Lib.hid g3
  have I3 := Lib.hid (show Is (ofT q1) q1 m1 0 from by rw [g1]; exact ⟨rfl, I1.out.len, rfl, by omega⟩)
  have CS := Lib.hid (show ∀ (W : World) B D c c', Tms W B m1 c q1 → Tms W D m1 c' q1 → Calls Try.prog 13 #[.slice B m1 c, .slice D m1 c'] W (Gives (.bool true) W) from fun W B D c c' h1 h2 => by have := refsame_any B D m1 c m1 c' q1 q1 W h1 h2; simpa only [decide_true] using this)
  have CW := Lib.hid (show ∀ (W : World), Tms W G m2 gc q2 → Tms W F m1 fc q1 → Calls Try.prog 24 #[.slice G m2 gc, .slice F m1 fc] W (Gives (.bool true) W) from fun W h1 h2 => by have := within_any G F m2 gc m1 fc q2 q1 W h1 h2 (by omega) (by omega); rw [g2] at this; exact this)
  clear hf hg g1 g2 g3 HE1 HE2
  go_wp2_with fail
  refine ((of_any F m1 fc q1 _ HF.out (by omega)).mono fun _ _ => I3.out.gives).mono ?_
  clear x0 x1 x2 x3 x4
  rintro e w4 ⟨Q, qc, rfl, _, hr, hb⟩
  have HQ := Lib.hid hr
  clear hr
  have HX' := Lib.hid (HX.out.below At.stays hb)
  clear HX
  have HX := HX'
  clear HX'
  have HF' := Lib.hid (HF.out.below At.stays hb)
  clear HF
  have HF := HF'
  clear HF'
  have HAG' := Lib.hid (HAG.out.below At.stays hb)
  clear HAG
  have HAG := HAG'
  clear HAG'
  have HG' := Lib.hid (HG.out.below At.stays hb)
  clear HG
  have HG := HG'
  clear HG'
  have BT' := Lib.hid (BT.out.below hb)
  clear BT
  have BT := BT'
  clear BT'
  have HB4 := Lib.hid (below_then HB3.out hb)
  clear hb HB3
  obtain ⟨x0, x1, x2, x3, x4⟩ := BT.out.cells
  go_wp2_with fail
  refine (CS.out _ Q F qc fc HQ.out HF.out).mono ?_
  clear x0 x1 x2 x3 x4
  rintro e w5 ⟨rfl, hb⟩
  have HX' := Lib.hid (HX.out.below At.stays hb)
  clear HX
  have HX := HX'
  clear HX'
  have HF' := Lib.hid (HF.out.below At.stays hb)
  clear HF
  have HF := HF'
  clear HF'
  have HAG' := Lib.hid (HAG.out.below At.stays hb)
  clear HAG
  have HAG := HAG'
  clear HAG'
  have HG' := Lib.hid (HG.out.below At.stays hb)
  clear HG
  have HG := HG'
  clear HG'
  have HQ' := Lib.hid (HQ.out.below At.stays hb)
  clear HQ
  have HQ := HQ'
  clear HQ'
  have BT' := Lib.hid (BT.out.below hb)
  clear BT
  have BT := BT'
  clear BT'
  have HB5 := Lib.hid (below_then HB4.out hb)
  clear hb HB4
  obtain ⟨x0, x1, x2, x3, x4⟩ := BT.out.cells
  go_wp2_with fail
  refine (CW.out _ HG.out HF.out).mono ?_
  clear x0 x1 x2 x3 x4
  rintro e w6 ⟨rfl, hb⟩
  have HX' := Lib.hid (HX.out.below At.stays hb)
  clear HX
  have HX := HX'
  clear HX'
  have HF' := Lib.hid (HF.out.below At.stays hb)
  clear HF
  have HF := HF'
  clear HF'
  have HAG' := Lib.hid (HAG.out.below At.stays hb)
  clear HAG
  have HAG := HAG'
  clear HAG'
  have HG' := Lib.hid (HG.out.below At.stays hb)
  clear HG
  have HG := HG'
  clear HG'
  have HQ' := Lib.hid (HQ.out.below At.stays hb)
  clear HQ
  have HQ := HQ'
  clear HQ'
  have BT' := Lib.hid (BT.out.below hb)
  clear BT
  have BT := BT'
  clear BT'
  have HB6 := Lib.hid (below_then HB5.out hb)
  clear hb HB5
  obtain ⟨x0, x1, x2, x3, x4⟩ := BT.out.cells
  by_cases hz : m1 = 0
  · subst hz
    have CD := Lib.hid (show ∀ (W : World), Tms W F 0 fc q1 → Tms W G m2 gc q2 → Calls Try.prog 13 #[.slice F 0 fc, .slice G m2 gc] W (Gives (.bool false) W) from fun W h1 h2 => by
      have := refsame_any F G 0 fc m2 gc q1 q2 W h1 h2
      rw [G3.out, show q1 = [] from List.eq_nil_of_length_eq_zero I1.out.len] at this
      exact this)
    go_wp2_with fail
    refine (CD.out _ HF.out HG.out).mono ?_
    clear x0 x1 x2 x3 x4
    rintro e w7 ⟨rfl, hb⟩
    have HX' := Lib.hid (HX.out.below At.stays hb)
    clear HX
    have HX := HX'
    clear HX'
    have HF' := Lib.hid (HF.out.below At.stays hb)
    clear HF
    have HF := HF'
    clear HF'
    have HAG' := Lib.hid (HAG.out.below At.stays hb)
    clear HAG
    have HAG := HAG'
    clear HAG'
    have HG' := Lib.hid (HG.out.below At.stays hb)
    clear HG
    have HG := HG'
    clear HG'
    have HQ' := Lib.hid (HQ.out.below At.stays hb)
    clear HQ
    have HQ := HQ'
    clear HQ'
    have BT' := Lib.hid (BT.out.below hb)
    clear BT
    have BT := BT'
    clear BT'
    have HB7 := Lib.hid (below_then HB6.out hb)
    clear hb HB6
    obtain ⟨x0, x1, x2, x3, x4⟩ := BT.out.cells
    go_wp2_with fail
    refine (works_any _).mono ?_
    clear x0 x1 x2 x3 x4
    rintro e w8 ⟨rfl, hb⟩
    have HX' := Lib.hid (HX.out.below At.stays hb)
    clear HX
    have HX := HX'
    clear HX'
    have HF' := Lib.hid (HF.out.below At.stays hb)
    clear HF
    have HF := HF'
    clear HF'
    have HAG' := Lib.hid (HAG.out.below At.stays hb)
    clear HAG
    have HAG := HAG'
    clear HAG'
    have HG' := Lib.hid (HG.out.below At.stays hb)
    clear HG
    have HG := HG'
    clear HG'
    have HQ' := Lib.hid (HQ.out.below At.stays hb)
    clear HQ
    have HQ := HQ'
    clear HQ'
    have BT' := Lib.hid (BT.out.below hb)
    clear BT
    have BT := BT'
    clear BT'
    have HB8 := Lib.hid (below_then HB7.out hb)
    clear hb HB7
    obtain ⟨x0, x1, x2, x3, x4⟩ := BT.out.cells
    go_wp2_with fail
    go_ret
    exact .bool rfl HB8.out
  have dm : decide (0 < (m1 : Int)) = true := decide_eq_true (by omega)
  have dm' : decide (0 < m1) = true := decide_eq_true (by omega)
  have CD := Lib.hid (show ∀ (W : World), Tms W F m1 fc q1 → Tms W G m2 gc q2 → Calls Try.prog 13 #[.slice F m1 fc, .slice G m2 gc] W (Gives (.bool (!holdsF q1 t)) W) from fun W h1 h2 => by
    have := refsame_any F G m1 fc m2 gc q1 q2 W h1 h2
    rw [G3.out] at this
    cases q1 with
    | nil => exact absurd I1.out.len.symm hz
    | cons a l => exact this)
  go_wp2_with fail
  refine (CD.out _ HF.out HG.out).mono ?_
  clear x0 x1 x2 x3 x4
  rintro e w7 ⟨rfl, hb⟩
  have HX' := Lib.hid (HX.out.below At.stays hb)
  clear HX
  have HX := HX'
  clear HX'
  have HF' := Lib.hid (HF.out.below At.stays hb)
  clear HF
  have HF := HF'
  clear HF'
  have HAG' := Lib.hid (HAG.out.below At.stays hb)
  clear HAG
  have HAG := HAG'
  clear HAG'
  have HG' := Lib.hid (HG.out.below At.stays hb)
  clear HG
  have HG := HG'
  clear HG'
  have HQ' := Lib.hid (HQ.out.below At.stays hb)
  clear HQ
  have HQ := HQ'
  clear HQ'
  have BT' := Lib.hid (BT.out.below hb)
  clear BT
  have BT := BT'
  clear BT'
  have HB7 := Lib.hid (below_then HB6.out hb)
  clear hb HB6
  obtain ⟨x0, x1, x2, x3, x4⟩ := BT.out.cells
  have CH := Lib.hid (holds_any F m1 fc q1 t _ HF.out (by omega))
  generalize holdsF q1 t = hh at *
  go_wp2_with fail
  refine (CH.out).mono ?_
  clear x0 x1 x2 x3 x4
  rintro e w8 ⟨rfl, hb⟩
  have HX' := Lib.hid (HX.out.below At.stays hb)
  clear HX
  have HX := HX'
  clear HX'
  have HF' := Lib.hid (HF.out.below At.stays hb)
  clear HF
  have HF := HF'
  clear HF'
  have HAG' := Lib.hid (HAG.out.below At.stays hb)
  clear HAG
  have HAG := HAG'
  clear HAG'
  have HG' := Lib.hid (HG.out.below At.stays hb)
  clear HG
  have HG := HG'
  clear HG'
  have HQ' := Lib.hid (HQ.out.below At.stays hb)
  clear HQ
  have HQ := HQ'
  clear HQ'
  have BT' := Lib.hid (BT.out.below hb)
  clear BT
  have BT := BT'
  clear BT'
  have HB8 := Lib.hid (below_then HB7.out hb)
  clear hb HB7
  obtain ⟨x0, x1, x2, x3, x4⟩ := BT.out.cells
  go_wp2_with fail
  refine (works_any _).mono ?_
  clear x0 x1 x2 x3 x4
  rintro e w9 ⟨rfl, hb⟩
  have HX' := Lib.hid (HX.out.below At.stays hb)
  clear HX
  have HX := HX'
  clear HX'
  have HF' := Lib.hid (HF.out.below At.stays hb)
  clear HF
  have HF := HF'
  clear HF'
  have HAG' := Lib.hid (HAG.out.below At.stays hb)
  clear HAG
  have HAG := HAG'
  clear HAG'
  have HG' := Lib.hid (HG.out.below At.stays hb)
  clear HG
  have HG := HG'
  clear HG'
  have HQ' := Lib.hid (HQ.out.below At.stays hb)
  clear HQ
  have HQ := HQ'
  clear HQ'
  have BT' := Lib.hid (BT.out.below hb)
  clear BT
  have BT := BT'
  clear BT'
  have HB9 := Lib.hid (below_then HB8.out hb)
  clear hb HB8
  obtain ⟨x0, x1, x2, x3, x4⟩ := BT.out.cells
  go_wp2_with fail
  go_ret
  exact .bool rfl HB9.out
end Go.Proofs.Ytamniepfgddecaa
