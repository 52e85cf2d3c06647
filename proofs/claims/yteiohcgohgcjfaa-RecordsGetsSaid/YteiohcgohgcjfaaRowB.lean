/- How messages are opened, that a statement is asked of. -/
import Derived.Test.YteiohcgohgcjfaaRows
import Derived.Test.YteiohcgohgcjfaaOpen
import Derived.Test.YteiohcgohgcjfaaOpenB
import Derived.Test.YteiohcgohgcjfaaElems
import Derived.Test.YteiohcgohgcjfaaS1
import Derived.Test.YteiohcgohgcjfaaD1
import Derived.Test.YteiohcgohgcjfaaD5
import Derived.Test.YteiohcgohgcjfaaPA
import Derived.Test.YteiohcgohgcjfaaB0
namespace Go.Proofs.Yteiohcgohgcjfaa
open Go.ChangeShapes Go.WideShapes Go.ChangeAt Go.RowKit Go.Proofs.Tail
set_option linter.unusedVariables false
theorem own : ownKnob Try.prog.godebug = none := by kernel_rfl
theorem laidOut : laidOutB Try.prog = true := by kernel_rfl
theorem cells_stamp : Try.prog.cellsOf 24 = 5 := by kernel_rfl
theorem cells_int : Try.prog.cellsOf 3 = 1 := by kernel_rfl
theorem cells_i64 : Try.prog.cellsOf 2 = 1 := by kernel_rfl
theorem cells_u8 : Try.prog.cellsOf 5 = 1 := by kernel_rfl
theorem cells_bool : Try.prog.cellsOf 4 = 1 := by kernel_rfl
theorem cells_loops : Try.prog.cellsOf 22 = 3 := by kernel_rfl
theorem cells_rec : Try.prog.cellsOf 50 = 2 := by kernel_rfl
theorem cells_place : Try.prog.cellsOf 52 = 7 := by kernel_rfl
theorem cells_change : Try.prog.cellsOf 54 = 8 := by kernel_rfl
theorem cells_msg : Try.prog.cellsOf 28 = 12 := by kernel_rfl
theorem cells_recs : Try.prog.cellsOf 25 = 1 := by kernel_rfl
theorem cells_chgs : Try.prog.cellsOf 26 = 1 := by kernel_rfl
def VStamp (w : World) (cs : List Value) (t : T) : Prop := cs = [.int .i64 t.d, .int .i64 t.e, .int .i64 t.a, .int .i64 t.b, .int .i64 t.c]
set_option maxRecDepth 100000 in
theorem opens_stamp {H : Type} {enc : TypeId × Value → H} {w : World} {base : Nat} {spare : Nat → Bool} {held : Bool} : Opens enc Try.prog w base spare held 24 (VStamp w) := fun fuel cs x h => by
  obtain ⟨hl, n, hf⟩ := opens_fields Try.underlying24 h
  rw [cells_stamp] at hl
  match cs, hl with
  | [c0, c1, c2, c3, c4], _ =>
    obtain ⟨y0, e0⟩ := hf 0 _ rfl
    obtain ⟨y1, e1⟩ := hf 1 _ rfl
    obtain ⟨y2, e2⟩ := hf 2 _ rfl
    simp [cells_int, cells_loops] at e0 e1 e2
    obtain ⟨a, h0, wa⟩ := opens_int Try.underlying3 _ _ _ e0
    obtain ⟨b, h1, _⟩ := opens_int Try.underlying3 _ _ _ e1
    cases h0
    cases h1
    obtain ⟨xs, m, _, _, _, hlx, hel⟩ := DataW.trod_array Try.underlying22 e2
    have f0 := (hel 0 (by omega)).trans (List.getElem?_eq_getElem (by omega))
    have f1 := (hel 1 (by omega)).trans (List.getElem?_eq_getElem (by omega))
    have f2 := (hel 2 (by omega)).trans (List.getElem?_eq_getElem (by omega))
    simp [cells_int] at f0 f1 f2
    obtain ⟨p, h2, _⟩ := opens_int Try.underlying3 _ _ _ f0
    obtain ⟨q, h3, _⟩ := opens_int Try.underlying3 _ _ _ f1
    obtain ⟨r, h4, _⟩ := opens_int Try.underlying3 _ _ _ f2
    cases h2
    cases h3
    cases h4
    exact ⟨⟨a, b, p, q, r⟩, rfl⟩
def VRec (w : World) (cs : List Value) (x : Rc) : Prop := cs = [.int .i64 x.1, .int .i64 x.2] ∧ I64 x.1 ∧ I64 x.2
def RRecB (w : World) (b o : Nat) (x : Rc) : Prop := RRec w b o x ∧ I64 x.1 ∧ I64 x.2
set_option maxRecDepth 100000 in
theorem opens_rec {H : Type} {enc : TypeId × Value → H} {w : World} {base : Nat} {spare : Nat → Bool} {held : Bool} : Opens enc Try.prog w base spare held 50 (VRec w) := fun fuel cs x h => by
  obtain ⟨hl, n, hf⟩ := opens_fields Try.underlying50 h
  rw [cells_rec] at hl
  match cs, hl with
  | [c0, c1], _ =>
    obtain ⟨y0, e0⟩ := hf 0 _ rfl
    obtain ⟨y1, e1⟩ := hf 1 _ rfl
    simp [cells_i64] at e0 e1
    obtain ⟨a, h0, wa⟩ := opens_int Try.underlying2 _ _ _ e0
    obtain ⟨b, h1, wb⟩ := opens_int Try.underlying2 _ _ _ e1
    cases h0
    cases h1
    exact ⟨⟨a, b⟩, rfl, bounds_i64 wa, bounds_i64 wb⟩
theorem opens_recs {H : Type} {enc : TypeId × Value → H} {w : World} {base : Nat} {spare : Nat → Bool} {held : Bool} : Opens enc Try.prog w base spare held 25 (VSlice 2 RRecB w) :=
  opens_slice Try.underlying25 cells_rec (by omega) opens_rec (by
    rintro b o cs x hl hcell ⟨rfl, h1, h2⟩
    exact ⟨x, ⟨hcell 0 _ rfl, hcell 1 _ rfl⟩, h1, h2⟩)
def VUpd (w : World) (cs : List Value) (u : Upd) : Prop := cs = [.int .i64 u.n, .bool u.h, .int .i64 u.s.d, .int .i64 u.s.e, .int .i64 u.s.a, .int .i64 u.s.b, .int .i64 u.s.c, .int .i64 u.m] ∧ I64 u.m
def RUpdB (w : World) (b o : Nat) (u : Upd) : Prop := RUpd w b o u ∧ I64 u.m
def VPlace (w : World) (cs : List Value) (u : Int × Bool × T) : Prop := cs = [.int .i64 u.1, .bool u.2.1, .int .i64 u.2.2.d, .int .i64 u.2.2.e, .int .i64 u.2.2.a, .int .i64 u.2.2.b, .int .i64 u.2.2.c]
set_option maxRecDepth 100000 in
theorem opens_place {H : Type} {enc : TypeId × Value → H} {w : World} {base : Nat} {spare : Nat → Bool} {held : Bool} : Opens enc Try.prog w base spare held 52 (VPlace w) := fun fuel cs x h => by
  obtain ⟨hl, n, hf⟩ := opens_fields Try.underlying52 h
  rw [cells_place] at hl
  match cs, hl with
  | [c0, c1, c2, c3, c4, c5, c6], _ =>
    obtain ⟨y0, e0⟩ := hf 0 _ rfl
    obtain ⟨y1, e1⟩ := hf 1 _ rfl
    obtain ⟨y2, e2⟩ := hf 2 _ rfl
    simp [cells_int, cells_bool, cells_stamp] at e0 e1 e2
    obtain ⟨a, h0, _⟩ := opens_int Try.underlying3 _ _ _ e0
    obtain ⟨b, h1⟩ := opens_bool Try.underlying4 _ _ _ e1
    obtain ⟨t, h2⟩ := opens_stamp _ _ _ e2
    cases h0
    cases h1
    cases h2
    exact ⟨⟨a, b, t⟩, rfl⟩
set_option maxRecDepth 100000 in
theorem opens_chg {H : Type} {enc : TypeId × Value → H} {w : World} {base : Nat} {spare : Nat → Bool} {held : Bool} : Opens enc Try.prog w base spare held 54 (VUpd w) := fun fuel cs x h => by
  obtain ⟨hl, n, hf⟩ := opens_fields Try.underlying54 h
  rw [cells_change] at hl
  match cs, hl with
  | [c0, c1, c2, c3, c4, c5, c6, c7], _ =>
    obtain ⟨y0, e0⟩ := hf 0 _ rfl
    obtain ⟨y1, e1⟩ := hf 1 _ rfl
    simp [cells_i64, cells_place] at e0 e1
    obtain ⟨p, h0⟩ := opens_place _ _ _ e0
    obtain ⟨b, h1, wb⟩ := opens_int Try.underlying2 _ _ _ e1
    cases h0
    cases h1
    exact ⟨⟨p.1, p.2.1, p.2.2, b⟩, rfl, bounds_i64 wb⟩
theorem opens_chgs {H : Type} {enc : TypeId × Value → H} {w : World} {base : Nat} {spare : Nat → Bool} {held : Bool} : Opens enc Try.prog w base spare held 26 (VSlice 8 RUpdB w) :=
  opens_slice Try.underlying26 cells_change (by omega) opens_chg (by
    rintro b o cs u hl hcell ⟨rfl, h1⟩
    exact ⟨u, ⟨hcell 0 _ rfl, hcell 1 _ rfl, hcell 2 _ rfl, hcell 3 _ rfl, hcell 4 _ rfl, hcell 5 _ rfl, hcell 6 _ rfl, hcell 7 _ rfl⟩, h1⟩)
theorem rd_split {α : Type} {k : Nat} {R : World → Nat → Nat → α → Prop} {p : α → Prop} {w : World} {A : Option Addr} {n c : Nat} {l : List α} (h : Rd k (fun w b o x => R w b o x ∧ p x) w A n c l) : Rd k R w A n c l ∧ ∀ x ∈ l, p x := by
  refine ⟨⟨h.len, h.cap, h.big, fun hp => ?_⟩, fun x hx => ?_⟩
  · obtain ⟨b, off, rfl, hc⟩ := h.at_ hp
    exact ⟨b, off, rfl, fun j x hj => (hc j x hj).1⟩
  · obtain ⟨j, hj, e⟩ := List.getElem_of_mem hx
    obtain ⟨b, off, _, hc⟩ := h.at_ (by rw [← h.len]; omega)
    exact (hc j x (by rw [List.getElem?_eq_getElem hj, e])).2
def VMsg (w : World) (cs : List Value) (m : Msg) : Prop := ∃ A c C d, cs = m.cs A c C d ∧ Mg w m A c C d ∧ (0 ≤ m.k ∧ m.k < 256) ∧ m.fit
set_option maxRecDepth 100000 in
theorem opens_msg {H : Type} {enc : TypeId × Value → H} {w : World} {base : Nat} {spare : Nat → Bool} {held : Bool} : Opens enc Try.prog w base spare held 28 (VMsg w) := fun fuel cs x h => by
  obtain ⟨hl, n, hf⟩ := opens_fields Try.underlying28 h
  rw [cells_msg] at hl
  match cs, hl with
  | [c0, c1, c2, c3, c4, c5, c6, c7, c8, c9, c10, c11], _ =>
    obtain ⟨y0, e0⟩ := hf 0 _ rfl
    obtain ⟨y1, e1⟩ := hf 1 _ rfl
    obtain ⟨y2, e2⟩ := hf 2 _ rfl
    obtain ⟨y3, e3⟩ := hf 3 _ rfl
    obtain ⟨y4, e4⟩ := hf 4 _ rfl
    obtain ⟨y5, e5⟩ := hf 5 _ rfl
    obtain ⟨y6, e6⟩ := hf 6 _ rfl
    obtain ⟨y7, e7⟩ := hf 7 _ rfl
    simp [cells_u8, cells_int, cells_i64, cells_stamp, cells_recs, cells_chgs] at e0 e1 e2 e3 e4 e5 e6 e7
    obtain ⟨k, h0, wk⟩ := opens_int Try.underlying5 _ _ _ e0
    obtain ⟨f, h1, _⟩ := opens_int Try.underlying3 _ _ _ e1
    obtain ⟨t, h2, _⟩ := opens_int Try.underlying3 _ _ _ e2
    obtain ⟨i, h3, _⟩ := opens_int Try.underlying3 _ _ _ e3
    obtain ⟨q, h4, wq⟩ := opens_int Try.underlying2 _ _ _ e4
    obtain ⟨s, h5⟩ := opens_stamp _ _ _ e5
    obtain ⟨L, A, a, ca, h6, hr⟩ := opens_recs _ _ _ e6
    obtain ⟨U, B, b, cb, h7, hu⟩ := opens_chgs _ _ _ e7
    cases h0
    cases h1
    cases h2
    cases h3
    cases h4
    cases h5
    cases h6
    cases h7
    have e8 := hr.len
    have e9 := hu.len
    subst e8; subst e9
    have k8 := bounds_u8 wk
    obtain ⟨r1, r2⟩ := rd_split (p := fun x : Rc => I64 x.1 ∧ I64 x.2) hr
    obtain ⟨u1, u2⟩ := rd_split (p := fun u : Upd => I64 u.m) hu
    exact ⟨⟨k, f, t, i, q, s, L, U⟩, A, ca, B, cb, rfl, ⟨r1, u1⟩, ⟨by dsimp only; omega, by dsimp only; omega⟩, ⟨bounds_i64 wq, r2, u2⟩⟩
theorem msg_agg {w : World} {V : Array Value} {m : Msg} (h : VMsg w V.toList m) : ∃ A c C d, V = (m.cs A c C d).toArray ∧ Mg w m A c C d ∧ (0 ≤ m.k ∧ m.k < 256) ∧ m.fit := by
  obtain ⟨A, c, C, d, e, h1, h2, h3⟩ := h
  exact ⟨A, c, C, d, by rw [← e], h1, h2, h3⟩
end Go.Proofs.Yteiohcgohgcjfaa
