/- Contract of the reference's Add. -/
import Derived.Test.YtebpepjlhanopaaRows
import Derived.IntWalk
import Derived.Deep.RegionHeld3
import Derived.Test.YtebpepjlhanopaaWords
import Derived.Test.YtebpepjlhanopaaByts
import Derived.Test.YtebpepjlhanopaaFrame
import Derived.Test.YtebpepjlhanopaaElems
import Derived.Test.YtebpepjlhanopaaMapOwn
import Derived.Test.YtebpepjlhanopaaS1
import Derived.Test.YtebpepjlhanopaaS2
import Derived.Test.YtebpepjlhanopaaEqs
import Derived.Test.YtebpepjlhanopaaU1
import Derived.Test.YtebpepjlhanopaaP1
import Derived.Test.YtebpepjlhanopaaM1
import Derived.Test.YtebpepjlhanopaaM2
import Derived.Test.YtebpepjlhanopaaM3
import Derived.Test.YtebpepjlhanopaaM8
import Derived.Test.YtebpepjlhanopaaR0
import Derived.Test.YtebpepjlhanopaaR1
namespace Go.Proofs.Ytebpepjlhanopaa
open Go Go.RowKit Go.Proofs.Tail Go.Sort
set_option linter.unusedSimpArgs false
set_option linter.unusedVariables false
/-- The counts with a time's count put in. -/
def putC (C : List (T × Int)) (t : T) (m : Int) : List (T × Int) := C.take (plN C t) ++ (if m ≠ 0 then [(t, m)] else []) ++ C.drop (plN C t + (if plB C t = true then 1 else 0))
/-- The counts behind an addition. -/
def addC (d : Int) (C : List (T × Int)) (t : T) (n : Int) : List (T × Int) := if addE d C t n = 0 then putC C t (cnt C t + n) else C
/-- What the reference's Add hands back. -/
def RAdds (d : Int) (C : List (T × Int)) (t : T) (m : Int) (w : World) (e : Ending) (w' : World) : Prop :=
  ∃ A n c, e = .returned (.tuple #[.agg #[.int .i64 d, .slice A n c], .int .i64 (addE d C t m)]) ∧ Cos w' A n c (addC d C t m) ∧ Below w.heap.size w w'
/-- The boxes of the reference's Add. -/
structure Ra (w wr : World) (d : Int) (A : Option Addr) (n c : Nat) (t : T) : Prop where
  s : Blk wr w.heap.size [.int .i64 d, .slice A n c] 40
  t : Bx wr (w.heap.size + 1) t
  o : Blk wr (w.heap.size + 1 + 1) [.int .i64 0, .slice none 0 0] 40
  b : Below w.heap.size w wr
theorem Ra.below {w wr wx : World} {d : Int} {A : Option Addr} {n c : Nat} {t : T} (h : Ra w wr d A n c t) (hb : Below wr.heap.size wr wx) : Ra w wx d A n c t := ⟨h.s.then hb, h.t.below hb, h.o.then hb, below_then h.b hb⟩
theorem Ra.new (w : World) (d : Int) (A : Option Addr) (n c : Nat) (t : T) : Ra w (((w.alloc (.cells #[.int .i64 d, .slice A n c] 40)).alloc (.cells #[.int .i64 t.d, .int .i64 t.e, .int .i64 t.a, .int .i64 t.b, .int .i64 t.c] 28)).alloc (.cells #[.int .i64 0, .slice none 0 0] 40)) d A n c t := by
  have hb1 := below_new w (.cells #[.int .i64 d, .slice A n c] 40)
  have hb2 := below_new (w.alloc (.cells #[.int .i64 d, .slice A n c] 40)) (.cells #[.int .i64 t.d, .int .i64 t.e, .int .i64 t.a, .int .i64 t.b, .int .i64 t.c] 28)
  have hb3 := below_new ((w.alloc (.cells #[.int .i64 d, .slice A n c] 40)).alloc (.cells #[.int .i64 t.d, .int .i64 t.e, .int .i64 t.a, .int .i64 t.b, .int .i64 t.c] 28)) (.cells #[.int .i64 0, .slice none 0 0] 40)
  exact ⟨((Blk.new w [.int .i64 d, .slice A n c] 40 _ rfl).then hb2).then hb3, (Bx.new _ t (w.heap.size + 1) (by simp)).below hb3, Blk.new _ [.int .i64 0, .slice none 0 0] _ _ (by simp), below_then (below_then hb1 hb2) hb3⟩
theorem Ra.facts {w wr : World} {d : Int} {A : Option Addr} {n c : Nat} {t : T} (h : Ra w wr d A n c t) :
    (wr.cell? ⟨w.heap.size, 0, none⟩ = some (.int .i64 d) ∧ wr.cell? ⟨w.heap.size, 1, none⟩ = some (.slice A n c)) ∧
    (wr.cell? ⟨w.heap.size + 1, 0, none⟩ = some (.int .i64 t.d) ∧ wr.cell? ⟨w.heap.size + 1, 1, none⟩ = some (.int .i64 t.e) ∧ wr.cell? ⟨w.heap.size + 1, 2, none⟩ = some (.int .i64 t.a) ∧ wr.cell? ⟨w.heap.size + 1, 3, none⟩ = some (.int .i64 t.b) ∧ wr.cell? ⟨w.heap.size + 1, 4, none⟩ = some (.int .i64 t.c)) ∧
    (wr.cell? ⟨w.heap.size + 1 + 1, 0, none⟩ = some (.int .i64 0) ∧ wr.cell? ⟨w.heap.size + 1 + 1, 1, none⟩ = some (.slice none 0 0)) ∧ ∀ o, wr.frozen? ⟨w.heap.size + 1 + 1, o, none⟩ = false :=
  ⟨⟨h.s.cell 0, h.s.cell 1⟩, h.t.cells, ⟨h.o.cell 0, h.o.cell 1⟩, fun o => h.o.frozen o⟩
theorem Ra.grown {w wr wx : World} {d : Int} {A : Option Addr} {n c : Nat} {t : T} (h : Ra w wr d A n c t) {row : Option Nat} (hg : wr.grownBy wx row) (hr : ∀ k, row = some k → w.heap.size + 3 ≤ k) : Ra w wx d A n c t :=
  ⟨⟨(hg.block _ h.s.lt (fun e => by have := hr _ e.symm; omega)).trans h.s.h⟩, ⟨(hg.block _ h.t.lt (fun e => by have := hr _ e.symm; omega)).trans h.t.h⟩, ⟨(hg.block _ h.o.lt (fun e => by have := hr _ e.symm; omega)).trans h.o.h⟩, h.b.grown hg h.b.size (fun k hk => by have := hr k hk; omega)⟩
theorem Ra.drew {w wr : World} {d : Int} {A : Option Addr} {n c : Nat} {t : T} (h : Ra w wr d A n c t) : Ra w wr.drew d A n c t := h.below ((Below.refl _ _).drew)
theorem Ra.sz {w wr : World} {d : Int} {A : Option Addr} {n c : Nat} {t : T} (h : Ra w wr d A n c t) : w.heap.size + 3 ≤ wr.heap.size := by have := h.o.lt; omega
theorem Ra.fin {w wr : World} {d : Int} {A : Option Addr} {n c : Nat} {t : T} (h : Ra w wr d A n c t) (v u : Value) : Below w.heap.size w ((wr.setCell ⟨w.heap.size + 1 + 1, 0, none⟩ v).setCell ⟨w.heap.size + 1 + 1, 1, none⟩ u) :=
  (h.b.setCell (by dsimp only; omega) _).setCell (by dsimp only; omega) _
theorem Ra.keep {w wr : World} {d : Int} {A : Option Addr} {n c : Nat} {t : T} (h : Ra w wr d A n c t) (v u : Value) : ((wr.setCell ⟨w.heap.size + 1 + 1, 0, none⟩ v).setCell ⟨w.heap.size + 1 + 1, 1, none⟩ u).cell? ⟨w.heap.size, 0, none⟩ = some (.int .i64 d) ∧ ((wr.setCell ⟨w.heap.size + 1 + 1, 0, none⟩ v).setCell ⟨w.heap.size + 1 + 1, 1, none⟩ u).cell? ⟨w.heap.size, 1, none⟩ = some (.slice A n c) := by
  have hf := (((Fr.refl (fun k => k = w.heap.size + 1 + 1) wr).set (p := ⟨w.heap.size + 1 + 1, 0, none⟩) (fun _ => rfl) v).set (p := ⟨w.heap.size + 1 + 1, 1, none⟩) (fun _ => rfl) u)
  have := h.s.fr hf (by omega)
  exact ⟨this.cell 0, this.cell 1⟩
theorem cos_set {w wr : World} {A : Option Addr} {n c : Nat} {L : List (T × Int)} (h : wr.ownsRow (w.heap.size + 3) 67 6 (.slice A n c) n (recC L)) (hn : n ≤ 9223372036854775807) (v u : Value) : Cos ((wr.setCell ⟨w.heap.size + 1 + 1, 0, none⟩ v).setCell ⟨w.heap.size + 1 + 1, 1, none⟩ u) A n c L := by
  have hf := (((Fr.refl (fun k => k = w.heap.size + 1 + 1) wr).set (p := ⟨w.heap.size + 1 + 1, 0, none⟩) (fun _ => rfl) v).set (p := ⟨w.heap.size + 1 + 1, 1, none⟩) (fun _ => rfl) u)
  have := own_fr h hf (fun k hk e => by have := own_lt h k hk; omega)
  obtain ⟨A', c', e, hc⟩ := own_cos this hn
  injection e with e1 e2 e3
  subst e1 e3
  exact hc
set_option maxRecDepth 100000 in
set_option maxHeartbeats 16000000 in
theorem refadd_wrong (d : Int) (A : Option Addr) (n c : Nat) (C : List (T × Int)) (t : T) (m : Int) (w : World) (hX : Cos w A n c C) (hC : Canon C) (hlim : n ≤ 1000000) (hr : t.rightB = false) :
    Calls Try.prog 17 #[.agg #[.int .i64 d, .slice A n c], .agg #[.int .i64 t.d, .int .i64 t.e, .int .i64 t.a, .int .i64 t.b, .int .i64 t.c], .int .i64 m] w (RAdds d C t m w) := by
  have HE := Lib.hid (show addE d C t m = 50 by unfold addE; rw [hr]; simp)
  have HX := Lib.hid hX
  have HR := Lib.hid (fun W => refright_any t W)
  have HP := Lib.hid (fun W (hb : Below w.heap.size w W) => place_any d A n c C t W (hX.below RCo.stays hb))
  have HC := Lib.hid (fun W (hb : Below w.heap.size w W) => refcount_any d A n c C t W (hX.below RCo.stays hb) hC)
  have HI1 := Lib.hid (fun W => refin_any m W)
  have HI2 := Lib.hid (fun W => refin_any (cnt C t + m) W)
  have R0 := Lib.hid (Ra.new w d A n c t)
  obtain ⟨⟨s0, s1⟩, ⟨y0, y1, y2, y3, y4⟩, ⟨o0, o1⟩, fo⟩ := R0.out.facts
  rw [hr] at HR
  clear hX hC hr HP HC HI1 HI2
  go_enter Try.func17, Try.ntmps17
  go_wp2_with (first | (go_at_call 34; (with_reducible refine (HR.out _).mono ?_); rintro e wz ⟨rfl, hb⟩; replace R0 := Lib.hid (R0.out.below hb); clear hb s0 s1 y0 y1 y2 y3 y4 o0 o1 fo; obtain ⟨⟨s0, s1⟩, ⟨y0, y1, y2, y3, y4⟩, ⟨o0, o1⟩, fo⟩ := R0.out.facts))
  (try simp only [Exit.inBlock, Exit.then])
  refine bodyPost_ret (v := .tuple #[.agg #[.int .i64 d, .slice A n c], .int .i64 50]) ?_ rfl ⟨A, n, c, by rw [HE.out], ?_, R0.out.fin _ _⟩
  · rw [results_cell_tmp rfl]; go_simp
  · rw [show addC d C t m = C by unfold addC; rw [HE.out]; rfl]
    exact HX.out.below RCo.stays (R0.out.fin _ _)
set_option maxRecDepth 100000 in
set_option maxHeartbeats 16000000 in
theorem refadd_deep (d : Int) (A : Option Addr) (n c : Nat) (C : List (T × Int)) (t : T) (m : Int) (w : World) (hX : Cos w A n c C) (hC : Canon C) (hlim : n ≤ 1000000) (hr : t.rightB = true) (hd : t.d ≠ d) :
    Calls Try.prog 17 #[.agg #[.int .i64 d, .slice A n c], .agg #[.int .i64 t.d, .int .i64 t.e, .int .i64 t.a, .int .i64 t.b, .int .i64 t.c], .int .i64 m] w (RAdds d C t m w) := by
  have HE := Lib.hid (show addE d C t m = 50 by unfold addE; simp [hd])
  have HX := Lib.hid hX
  have HR := Lib.hid (fun W => refright_any t W)
  have HP := Lib.hid (fun W (hb : Below w.heap.size w W) => place_any d A n c C t W (hX.below RCo.stays hb))
  have HC := Lib.hid (fun W (hb : Below w.heap.size w W) => refcount_any d A n c C t W (hX.below RCo.stays hb) hC)
  have HI1 := Lib.hid (fun W => refin_any m W)
  have HI2 := Lib.hid (fun W => refin_any (cnt C t + m) W)
  have R0 := Lib.hid (Ra.new w d A n c t)
  obtain ⟨⟨s0, s1⟩, ⟨y0, y1, y2, y3, y4⟩, ⟨o0, o1⟩, fo⟩ := R0.out.facts
  rw [hr] at HR
  have hd' : (t.d != d) = true := by simpa using hd
  clear hX hC hr HP HC HI1 HI2 hd
  go_enter Try.func17, Try.ntmps17
  go_wp2_with (first | (go_at_call 34; (with_reducible refine (HR.out _).mono ?_); rintro e wz ⟨rfl, hb⟩; replace R0 := Lib.hid (R0.out.below hb); clear hb s0 s1 y0 y1 y2 y3 y4 o0 o1 fo; obtain ⟨⟨s0, s1⟩, ⟨y0, y1, y2, y3, y4⟩, ⟨o0, o1⟩, fo⟩ := R0.out.facts))
  (try simp only [Exit.inBlock, Exit.then])
  refine bodyPost_ret (v := .tuple #[.agg #[.int .i64 d, .slice A n c], .int .i64 50]) ?_ rfl ⟨A, n, c, by rw [HE.out], ?_, R0.out.fin _ _⟩
  · rw [results_cell_tmp rfl]; go_simp
  · rw [show addC d C t m = C by unfold addC; rw [HE.out]; rfl]
    exact HX.out.below RCo.stays (R0.out.fin _ _)
set_option maxRecDepth 100000 in
set_option maxHeartbeats 16000000 in
theorem refadd_much1 (d : Int) (A : Option Addr) (n c : Nat) (C : List (T × Int)) (t : T) (m : Int) (w : World) (hX : Cos w A n c C) (hC : Canon C) (hlim : n ≤ 1000000) (hr : t.rightB = true) (hd : t.d = d) (hn : inB m = false) :
    Calls Try.prog 17 #[.agg #[.int .i64 d, .slice A n c], .agg #[.int .i64 t.d, .int .i64 t.e, .int .i64 t.a, .int .i64 t.b, .int .i64 t.c], .int .i64 m] w (RAdds d C t m w) := by
  have HE := Lib.hid (show addE d C t m = 3 by unfold addE; simp [hr, hd, hn])
  have HX := Lib.hid hX
  have HR := Lib.hid (fun W => refright_any t W)
  have HP := Lib.hid (fun W (hb : Below w.heap.size w W) => place_any d A n c C t W (hX.below RCo.stays hb))
  have HC := Lib.hid (fun W (hb : Below w.heap.size w W) => refcount_any d A n c C t W (hX.below RCo.stays hb) hC)
  have HI1 := Lib.hid (fun W => refin_any m W)
  have HI2 := Lib.hid (fun W => refin_any (cnt C t + m) W)
  have R0 := Lib.hid (Ra.new w d A n c t)
  obtain ⟨⟨s0, s1⟩, ⟨y0, y1, y2, y3, y4⟩, ⟨o0, o1⟩, fo⟩ := R0.out.facts
  rw [hr] at HR
  rw [hn] at HI1
  have hd' : (t.d != d) = false := by simpa using hd
  clear hX hC hr HC HI2 hd hn
  go_enter Try.func17, Try.ntmps17
  go_wp2_with (first | (go_at_call 34; (with_reducible refine (HR.out _).mono ?_); rintro e wz ⟨rfl, hb⟩; replace R0 := Lib.hid (R0.out.below hb); clear hb s0 s1 y0 y1 y2 y3 y4 o0 o1 fo; obtain ⟨⟨s0, s1⟩, ⟨y0, y1, y2, y3, y4⟩, ⟨o0, o1⟩, fo⟩ := R0.out.facts) | (go_at_call 35; (with_reducible refine (HP.out _ R0.out.b).mono ?_); rintro e wz ⟨rfl, hb⟩; replace R0 := Lib.hid (R0.out.below hb); clear hb s0 s1 y0 y1 y2 y3 y4 o0 o1 fo; obtain ⟨⟨s0, s1⟩, ⟨y0, y1, y2, y3, y4⟩, ⟨o0, o1⟩, fo⟩ := R0.out.facts) | (go_at_call 36; (with_reducible refine (HI1.out _).mono ?_); rintro e wz ⟨rfl, hb⟩; replace R0 := Lib.hid (R0.out.below hb); clear hb s0 s1 y0 y1 y2 y3 y4 o0 o1 fo; obtain ⟨⟨s0, s1⟩, ⟨y0, y1, y2, y3, y4⟩, ⟨o0, o1⟩, fo⟩ := R0.out.facts))
  (try simp only [Exit.inBlock, Exit.then])
  refine bodyPost_ret (v := .tuple #[.agg #[.int .i64 d, .slice A n c], .int .i64 3]) ?_ rfl ⟨A, n, c, by rw [HE.out], ?_, R0.out.fin _ _⟩
  · rw [results_cell_tmp rfl]; go_simp
  · rw [show addC d C t m = C by unfold addC; rw [HE.out]; rfl]
    exact HX.out.below RCo.stays (R0.out.fin _ _)
set_option maxRecDepth 100000 in
set_option maxHeartbeats 16000000 in
theorem refadd_much2 (d : Int) (A : Option Addr) (n c : Nat) (C : List (T × Int)) (t : T) (m : Int) (w : World) (hX : Cos w A n c C) (hC : Canon C) (hlim : n ≤ 1000000) (hr : t.rightB = true) (hd : t.d = d) (hc : -1099511627776 ≤ cnt C t ∧ cnt C t ≤ 1099511627776) (hn : inB m = true) (hm : inB (cnt C t + m) = false) :
    Calls Try.prog 17 #[.agg #[.int .i64 d, .slice A n c], .agg #[.int .i64 t.d, .int .i64 t.e, .int .i64 t.a, .int .i64 t.b, .int .i64 t.c], .int .i64 m] w (RAdds d C t m w) := by
  have HE := Lib.hid (show addE d C t m = 3 by unfold addE; simp [hr, hd, hn, hm])
  have HX := Lib.hid hX
  have HR := Lib.hid (fun W => refright_any t W)
  have HP := Lib.hid (fun W (hb : Below w.heap.size w W) => place_any d A n c C t W (hX.below RCo.stays hb))
  have HC := Lib.hid (fun W (hb : Below w.heap.size w W) => refcount_any d A n c C t W (hX.below RCo.stays hb) hC)
  have HI1 := Lib.hid (fun W => refin_any m W)
  have HI2 := Lib.hid (fun W => refin_any (cnt C t + m) W)
  have R0 := Lib.hid (Ra.new w d A n c t)
  obtain ⟨⟨s0, s1⟩, ⟨y0, y1, y2, y3, y4⟩, ⟨o0, o1⟩, fo⟩ := R0.out.facts
  have hs : IntKind.i64.wrap (cnt C t + m) = cnt C t + m := by
    unfold inB at hn
    simp only [decide_eq_true_eq] at hn
    exact IntWalk.i64_in _ ⟨by omega, by omega⟩
  rw [hr] at HR
  rw [hn] at HI1
  rw [hm] at HI2
  have hd' : (t.d != d) = false := by simpa using hd
  clear hX hC hr hd hn hm hc
  go_enter Try.func17, Try.ntmps17
  go_wp2_with (first | (go_at_call 34; (with_reducible refine (HR.out _).mono ?_); rintro e wz ⟨rfl, hb⟩; replace R0 := Lib.hid (R0.out.below hb); clear hb s0 s1 y0 y1 y2 y3 y4 o0 o1 fo; obtain ⟨⟨s0, s1⟩, ⟨y0, y1, y2, y3, y4⟩, ⟨o0, o1⟩, fo⟩ := R0.out.facts) | (go_at_call 35; (with_reducible refine (HP.out _ R0.out.b).mono ?_); rintro e wz ⟨rfl, hb⟩; replace R0 := Lib.hid (R0.out.below hb); clear hb s0 s1 y0 y1 y2 y3 y4 o0 o1 fo; obtain ⟨⟨s0, s1⟩, ⟨y0, y1, y2, y3, y4⟩, ⟨o0, o1⟩, fo⟩ := R0.out.facts) | (go_at_call 36; (with_reducible refine (HI1.out _).mono ?_); rintro e wz ⟨rfl, hb⟩; replace R0 := Lib.hid (R0.out.below hb); clear hb s0 s1 y0 y1 y2 y3 y4 o0 o1 fo; obtain ⟨⟨s0, s1⟩, ⟨y0, y1, y2, y3, y4⟩, ⟨o0, o1⟩, fo⟩ := R0.out.facts) | (go_at_call 36; (with_reducible refine (HI2.out _).mono ?_); rintro e wz ⟨rfl, hb⟩; replace R0 := Lib.hid (R0.out.below hb); clear hb s0 s1 y0 y1 y2 y3 y4 o0 o1 fo; obtain ⟨⟨s0, s1⟩, ⟨y0, y1, y2, y3, y4⟩, ⟨o0, o1⟩, fo⟩ := R0.out.facts) | (go_at_call 18; (with_reducible refine (HC.out _ R0.out.b).mono ?_); rintro e wz ⟨rfl, hb⟩; replace R0 := Lib.hid (R0.out.below hb); clear hb s0 s1 y0 y1 y2 y3 y4 o0 o1 fo; obtain ⟨⟨s0, s1⟩, ⟨y0, y1, y2, y3, y4⟩, ⟨o0, o1⟩, fo⟩ := R0.out.facts))
  (try simp only [Exit.inBlock, Exit.then])
  refine bodyPost_ret (v := .tuple #[.agg #[.int .i64 d, .slice A n c], .int .i64 3]) ?_ rfl ⟨A, n, c, by rw [HE.out], ?_, R0.out.fin _ _⟩
  · rw [results_cell_tmp rfl]; go_simp
  · rw [show addC d C t m = C by unfold addC; rw [HE.out]; rfl]
    exact HX.out.below RCo.stays (R0.out.fin _ _)
end Go.Proofs.Ytebpepjlhanopaa
