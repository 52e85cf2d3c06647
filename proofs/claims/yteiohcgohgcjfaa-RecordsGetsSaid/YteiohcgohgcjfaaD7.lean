/- Contracts of time, the rows' inner functions, row. -/
import Derived.Test.YteiohcgohgcjfaaRows
import Derived.IntWalk
import Derived.Test.YteiohcgohgcjfaaWords
import Derived.Test.YteiohcgohgcjfaaByts
import Derived.Test.YteiohcgohgcjfaaStrs
import Derived.Test.YteiohcgohgcjfaaFrame
import Derived.Test.YteiohcgohgcjfaaElems
import Derived.Test.YteiohcgohgcjfaaS1
import Derived.Test.YteiohcgohgcjfaaS2
import Derived.Test.YteiohcgohgcjfaaEqs
import Derived.Test.YteiohcgohgcjfaaS11
import Derived.Test.YteiohcgohgcjfaaA1
import Derived.Test.YteiohcgohgcjfaaA2
import Derived.Test.YteiohcgohgcjfaaA3
import Derived.Test.YteiohcgohgcjfaaD1
namespace Go.Proofs.Yteiohcgohgcjfaa
open Go Go.RowKit Go.Proofs.Tail
set_option linter.unusedSimpArgs false
set_option linter.unusedVariables false
/-- More was written; blocks below the Writer's stay. -/
def Wrt (P : Nat) (xs : List Int) (w : World) (e : Ending) (w' : World) : Prop := e = .returned (.tuple #[]) ∧ (∃ v, Wr w' P v xs) ∧ Below P w w'
theorem wrt_of {P : Nat} {v : Value} {xs ys : List Int} {w : World} (hW : Wr w P v xs) {e : Ending} {w' : World} (h : Wrote P v ys w e w') : Wrt P ys w e w' := by
  obtain ⟨rfl, v', h1, h2, _⟩ := h
  refine ⟨rfl, ⟨v', h1⟩, h2.below (Nat.le_of_lt hW.lt) (fun k hk hs => ?_)⟩
  rcases hs with e | e
  · omega
  · have := own_lt hW.own k e; omega
theorem time_any (P : Nat) (v : Value) (xs : List Int) (t : T) (w : World) (hW : Wr w P v xs) (hlim : xs.length + 100 ≤ 140737488355328) :
    Calls Try.prog 26 #[.pointer (some ⟨P, 0, none⟩), .agg #[.int .i64 t.d, .int .i64 t.e, .int .i64 t.a, .int .i64 t.b, .int .i64 t.c]] w (Wrt P (xs ++ putL t) w) := by
  have hb := below_new w (.cells #[.int .i64 t.d, .int .i64 t.e, .int .i64 t.a, .int .i64 t.b, .int .i64 t.c] 24)
  have hB := Bx.new w t _ rfl
  obtain ⟨x0, x1, x2, x3, x4⟩ := hB.cells
  have HP := Lib.hid (put_any t (w.alloc (.cells #[.int .i64 t.d, .int .i64 t.e, .int .i64 t.a, .int .i64 t.b, .int .i64 t.c] 24)))
  have HW1 := Lib.hid (hW.below hb)
  have HB := Lib.hid hb
  have HLP := Lib.hid hW.lt
  have hpl : (putL t).length ≤ 6 := by
    unfold putL
    split
    · simp only [List.length_append, List.length_take, List.length_cons, List.length_nil]; omega
    · simp
  clear hW hb hB
  go_enter Try.func26, Try.ntmps26
  go_wp2_with fail
  refine HP.out.mono ?_
  rintro e w1 ⟨u, rfl, hu, hb1⟩
  obtain ⟨A, c, rfl, hby⟩ := own_bytes hu (by omega)
  have HW2 := Lib.hid (HW1.out.below hb1)
  have HB2 := Lib.hid (below_then HB.out hb1)
  have HR := Lib.hid (raw_any P v xs (putL t) A _ c w1 HW2.out hby (by omega))
  clear hu hby hb1 x0 x1 x2 x3 x4
  go_wp2_with fail
  refine HR.out.mono ?_
  rintro e w2 h2
  obtain ⟨rfl, h3, h4⟩ := wrt_of HW2.out h2
  have H3 := Lib.hid h3
  have H4 := Lib.hid h4
  clear h2 h3 h4
  go_wp2_with fail
  go_end0
  exact ⟨rfl, H3.out, (HB2.out.mono (Nat.le_of_lt HLP.out)).trans H4.out⟩
def u64 (x : Int) : Int := x % 18446744073709551616
theorem u64_in (x : Int) : 0 ≤ u64 x ∧ u64 x < 18446744073709551616 := by unfold u64; omega
theorem wrap_u64' (x : Int) : IntKind.u64.wrap x = u64 x := by unfold u64; simp [IntKind.wrap, IntKind.bits, IntKind.signed]
def recL (x : Rc) : List Int := be (u64 x.1) 8 ++ be (u64 x.2) 8
theorem recL_length (x : Rc) : (recL x).length = 16 := by unfold recL; rw [List.length_append, be_length, be_length]
set_option maxHeartbeats 4000000 in
theorem put1_any (P : Nat) (v : Value) (xs : List Int) (x : Rc) (w : World) (hW : Wr w P v xs) (hlim : xs.length + 100 ≤ 140737488355328) :
    Calls Try.prog 28 #[.agg #[.int .i64 x.1, .int .i64 x.2], .pointer (some ⟨P, 0, none⟩)] w (Wrt P (xs ++ recL x) w) := by
  have hb := below_new w (.cells #[.int .i64 x.1, .int .i64 x.2] 50)
  have hx := Blk.new w [.int .i64 x.1, .int .i64 x.2] 50 _ rfl
  have a0 := hx.cell 0
  have HX := Lib.hid hx
  have HB := Lib.hid hb
  have HLP := Lib.hid hW.lt
  have HO := Lib.hid (show ∀ k, v.ownBlock = some k → k < w.heap.size from fun k hk => (hW.own.lt k hk).2)
  have HW1 := Lib.hid (hW.below hb)
  have HL := Lib.hid (wlong_any P v xs (u64 x.1) _ HW1.out (u64_in _).1 (u64_in _).2 (by omega))
  have g1 := wrap_u64' x.1
  have g2 := wrap_u64' x.2
  have hE := u64_in x.2
  have HE := Lib.hid hE
  clear hb hx hW hE
  go_enter Try.func28, Try.ntmps28
  go_wp2_with fail
  refine HL.out.mono ?_
  rintro e w1 h1
  obtain ⟨rfl, v1, h2, h3, h9⟩ := h1
  have hnx : ¬ WS P v w.heap.size := by
    rintro (e | e)
    · have := HLP.out; omega
    · have := HO.out _ e; omega
  have b1 : w1.cell? ⟨w.heap.size, 1, none⟩ = some (.int .i64 x.2) := (HX.out.fr h3 hnx).cell 1
  have HW2 := Lib.hid h2
  have HB2 := Lib.hid (wrt_of HW1.out ⟨rfl, v1, h2, h3, h9⟩).2.2
  have HL2 := Lib.hid (wlong_any P v1 (xs ++ be (u64 x.1) 8) (u64 x.2) w1 h2 HE.out.1 HE.out.2 (by rw [List.length_append, be_length]; omega))
  clear h2 h3 h9 hnx a0
  go_wp2_with fail
  refine HL2.out.mono ?_
  rintro e w2 h2
  obtain ⟨rfl, h3, h4⟩ := wrt_of HW2.out h2
  have H3 := Lib.hid h3
  have H4 := Lib.hid h4
  clear h2 h3 h4
  go_wp2_with fail
  go_end0
  refine ⟨rfl, ?_, ((HB.out.mono (Nat.le_of_lt HLP.out)).trans HB2.out).trans H4.out⟩
  have := H3.out
  rwa [List.append_assoc] at this
def heldI (h : Bool) : Int := if h then 1 else 0
def updL (u : Upd) : List Int := be (u.n % 256) 1 ++ be (heldI u.h) 1 ++ putL u.s ++ be (u64 u.m) 8
theorem putL_len (t : T) : (putL t).length ≤ 6 := by
  unfold putL
  split
  · simp only [List.length_append, List.length_take, List.length_cons, List.length_nil]; omega
  · simp
theorem updL_length (u : Upd) : (updL u).length ≤ 16 := by unfold updL; simp only [List.length_append, be_length]; have := putL_len u.s; omega
/-- One more of several writes: w0 is where the closure's box was laid. -/
structure Wx (P B : Nat) (cs : List Value) (t : TypeId) (xs : List Int) (w w1 : World) (v : Value) : Prop where
  wr : Wr w1 P v xs
  bx : Blk w1 B cs t
  nb : ¬ WS P v B
  b : Below P w w1
theorem Wx.step {P B : Nat} {cs : List Value} {t : TypeId} {xs ys : List Int} {w w1 w2 : World} {v : Value} (h : Wx P B cs t xs w w1 v) {e : Ending} (h2 : Wrote P v ys w1 e w2) : e = .returned (.tuple #[]) ∧ ∃ v', Wx P B cs t ys w w2 v' := by
  obtain ⟨rfl, v', g1, g2, g3⟩ := h2
  refine ⟨rfl, v', g1, h.bx.fr g2 h.nb, ?_, h.b.trans (wrt_of h.wr ⟨rfl, v', g1, g2, g3⟩).2.2⟩
  rintro (e | e)
  · exact h.nb (.inl e)
  · rcases g3 with g | ⟨b, g, gl⟩
    · exact h.nb (.inr (by rw [← g, e]))
    · rw [e] at g; injection g with g; have := h.bx.lt; omega
theorem Wx.quiet {P B : Nat} {cs : List Value} {t : TypeId} {xs : List Int} {w w1 w2 : World} {v : Value} (h : Wx P B cs t xs w w1 v) (hb : Below w1.heap.size w1 w2) : Wx P B cs t xs w w2 v :=
  ⟨h.wr.below hb, h.bx.then hb, h.nb, h.b.trans (hb.mono (Nat.le_of_lt h.wr.lt))⟩
theorem time_wrote (P : Nat) (v : Value) (xs : List Int) (t : T) (w : World) (hW : Wr w P v xs) (hlim : xs.length + 100 ≤ 140737488355328) :
    Calls Try.prog 26 #[.pointer (some ⟨P, 0, none⟩), .agg #[.int .i64 t.d, .int .i64 t.e, .int .i64 t.a, .int .i64 t.b, .int .i64 t.c]] w (Wrote P v (xs ++ putL t) w) := by
  have hb := below_new w (.cells #[.int .i64 t.d, .int .i64 t.e, .int .i64 t.a, .int .i64 t.b, .int .i64 t.c] 24)
  have hB := Bx.new w t _ rfl
  obtain ⟨x0, x1, x2, x3, x4⟩ := hB.cells
  have HP := Lib.hid (put_any t (w.alloc (.cells #[.int .i64 t.d, .int .i64 t.e, .int .i64 t.a, .int .i64 t.b, .int .i64 t.c] 24)))
  have HW1 := Lib.hid (hW.below hb)
  have HB := Lib.hid hb
  have HLP := Lib.hid hW.lt
  have hpl := putL_len t
  clear hW hb hB
  go_enter Try.func26, Try.ntmps26
  go_wp2_with fail
  refine HP.out.mono ?_
  rintro e w1 ⟨u, rfl, hu, hb1⟩
  obtain ⟨A, c, rfl, hby⟩ := own_bytes hu (by omega)
  have HW2 := Lib.hid (HW1.out.below hb1)
  have HB2 := Lib.hid (below_then HB.out hb1)
  have HR := Lib.hid (raw_any P v xs (putL t) A _ c w1 HW2.out hby (by omega))
  clear hu hby hb1 x0 x1 x2 x3 x4
  go_wp2_with fail
  refine HR.out.mono ?_
  rintro e w2 h2
  have H2 := Lib.hid (h2.later HB2.out)
  obtain ⟨rfl, _⟩ := h2
  go_wp2_with fail
  go_end0
  exact H2.out
set_option maxHeartbeats 8000000 in
theorem put2_any (P : Nat) (v : Value) (xs : List Int) (u : Upd) (w : World) (hW : Wr w P v xs) (hlim : xs.length + 200 ≤ 140737488355328) :
    Calls Try.prog 31 #[.agg #[.int .i64 u.n, .bool u.h, .int .i64 u.s.d, .int .i64 u.s.e, .int .i64 u.s.a, .int .i64 u.s.b, .int .i64 u.s.c, .int .i64 u.m], .pointer (some ⟨P, 0, none⟩)] w (Wrt P (xs ++ updL u) w) := by
  have hb := below_new w (.cells #[.int .i64 u.n, .bool u.h, .int .i64 u.s.d, .int .i64 u.s.e, .int .i64 u.s.a, .int .i64 u.s.b, .int .i64 u.s.c, .int .i64 u.m] 54)
  have hx := Blk.new w [.int .i64 u.n, .bool u.h, .int .i64 u.s.d, .int .i64 u.s.e, .int .i64 u.s.a, .int .i64 u.s.b, .int .i64 u.s.c, .int .i64 u.m] 54 _ rfl
  have a0 := hx.cell 0
  have HX := Lib.hid (show Wx P w.heap.size [.int .i64 u.n, .bool u.h, .int .i64 u.s.d, .int .i64 u.s.e, .int .i64 u.s.a, .int .i64 u.s.b, .int .i64 u.s.c, .int .i64 u.m] 54 xs w (w.alloc (.cells #[.int .i64 u.n, .bool u.h, .int .i64 u.s.d, .int .i64 u.s.e, .int .i64 u.s.a, .int .i64 u.s.b, .int .i64 u.s.c, .int .i64 u.m] 54)) v from ⟨hW.below hb, hx, by
    rintro (e | e)
    · have := hW.lt; omega
    · have := (hW.own.lt _ e).2; omega, hb.mono (Nat.le_of_lt hW.lt)⟩)
  have g1 : IntKind.u8.wrap u.n = u.n % 256 := by simp [IntKind.wrap, IntKind.bits, IntKind.signed]
  have g2 := wrap_u64' u.m
  have HL := Lib.hid (wbyte_any P v xs (u.n % 256) _ HX.out.wr (by omega) (by omega) (by omega))
  have hpl := putL_len u.s
  have HE := Lib.hid (u64_in u.m)
  generalize hz : u.n % 256 = z at *
  have HZ := Lib.hid hz
  clear hb hx hW hz
  go_enter Try.func31, Try.ntmps31
  go_wp2_with fail
  refine HL.out.mono ?_
  rintro e w1 h1
  obtain ⟨rfl, v1, h2⟩ := HX.out.step h1
  have H2 := Lib.hid h2
  have b1 : w1.cell? ⟨w.heap.size, 1, none⟩ = some (.bool u.h) := h2.bx.cell 1
  have HH := Lib.hid (wbyte_any P v1 (xs ++ be z 1) (heldI u.h) w1 h2.wr (by unfold heldI; split <;> omega) (by unfold heldI; split <;> omega) (by rw [List.length_append, be_length]; omega))
  clear h1 h2 a0 HX HL
  have HU := Lib.hid (show updL u = be z 1 ++ be (heldI u.h) 1 ++ putL u.s ++ be (u64 u.m) 8 by unfold updL; rw [HZ.out])
  cases hh : u.h
  all_goals
    rw [hh] at b1 HH HU
    go_wp2_with fail
    refine HH.out.mono ?_
    rintro e w2 h1
    obtain ⟨rfl, v2, h2⟩ := H2.out.step h1
    have H3 := Lib.hid h2
    rw [hh] at H3
    have c2 : w2.cell? ⟨w.heap.size, 2, none⟩ = some (.int .i64 u.s.d) := h2.bx.cell 2
    have c3 : w2.cell? ⟨w.heap.size, 3, none⟩ = some (.int .i64 u.s.e) := h2.bx.cell 3
    have c4 : w2.cell? ⟨w.heap.size, 4, none⟩ = some (.int .i64 u.s.a) := h2.bx.cell 4
    have c5 : w2.cell? ⟨w.heap.size, 5, none⟩ = some (.int .i64 u.s.b) := h2.bx.cell 5
    have c6 : w2.cell? ⟨w.heap.size, 6, none⟩ = some (.int .i64 u.s.c) := h2.bx.cell 6
    have HT := Lib.hid (time_wrote P v2 _ u.s w2 h2.wr (by simp only [List.length_append, be_length]; omega))
    clear h1 h2 b1 HH H2
    go_wp2_with fail
    refine HT.out.mono ?_
    rintro e w3 h1
    obtain ⟨rfl, v3, h2⟩ := H3.out.step h1
    have H4 := Lib.hid h2
    have d7 : w3.cell? ⟨w.heap.size, 7, none⟩ = some (.int .i64 u.m) := h2.bx.cell 7
    have HM := Lib.hid (wlong_any P v3 _ (u64 u.m) w3 h2.wr HE.out.1 HE.out.2 (by simp only [List.length_append, be_length]; omega))
    clear h1 h2 c2 c3 c4 c5 c6 HT H3
    go_wp2_with fail
    refine HM.out.mono ?_
    rintro e w4 h1
    obtain ⟨rfl, v4, h2⟩ := H4.out.step h1
    have H5 := Lib.hid h2
    clear h1 h2 d7 HM H4
    go_wp2_with fail
    go_end0
    refine ⟨rfl, ⟨v4, ?_⟩, H5.out.b⟩
    have := H5.out.wr
    rw [HU.out]
    simpa only [List.append_assoc] using this
end Go.Proofs.Yteiohcgohgcjfaa
