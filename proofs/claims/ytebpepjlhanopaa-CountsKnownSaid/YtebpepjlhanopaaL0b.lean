/- What a law holds of a Counts; the contracts as the laws use them. -/
import Derived.Test.YtebpepjlhanopaaRows
import Derived.Test.YtebpepjlhanopaaWords
import Derived.Test.YtebpepjlhanopaaByts
import Derived.Test.YtebpepjlhanopaaFrame
import Derived.Test.YtebpepjlhanopaaElems
import Derived.Test.YtebpepjlhanopaaMapOwn
import Derived.Test.YtebpepjlhanopaaS1
import Derived.Test.YtebpepjlhanopaaS2
import Derived.Test.YtebpepjlhanopaaEqs
import Derived.Test.YtebpepjlhanopaaU1
import Derived.Test.YtebpepjlhanopaaA1
import Derived.Test.YtebpepjlhanopaaA2
import Derived.Test.YtebpepjlhanopaaP1
import Derived.Test.YtebpepjlhanopaaB1
import Derived.Test.YtebpepjlhanopaaM1
import Derived.Test.YtebpepjlhanopaaM2
import Derived.Test.YtebpepjlhanopaaM3
import Derived.Test.YtebpepjlhanopaaM4
import Derived.Test.YtebpepjlhanopaaM8
import Derived.Test.YtebpepjlhanopaaR0
import Derived.Test.YtebpepjlhanopaaR1
import Derived.Test.YtebpepjlhanopaaR2
import Derived.Test.YtebpepjlhanopaaR4
import Derived.Test.YtebpepjlhanopaaP4
namespace Go.Proofs.Ytebpepjlhanopaa
open Go Go.RowKit Go.Proofs.Tail Go.Sort
set_option linter.unusedSimpArgs false
set_option linter.unusedVariables false
/-- A Counts that a law has made since w. -/
structure Cw (w wr : World) (P b : Nat) (d : Int) (N : Nat) (C : List (T × Int)) : Prop where
  cs : Cs wr P b d C
  good : Good d N C
  p : w.heap.size ≤ P
  q : w.heap.size ≤ b
theorem Cw.below {w wr wx : World} {P b : Nat} {d : Int} {N : Nat} {C : List (T × Int)} (h : Cw w wr P b d N C) (hb : Below wr.heap.size wr wx) : Cw w wx P b d N C := ⟨h.cs.below hb, h.good, h.p, h.q⟩
theorem Cw.mono {w wr : World} {P b : Nat} {d : Int} {N N' : Nat} {C : List (T × Int)} (h : Cw w wr P b d N C) (hn : N ≤ N') : Cw w wr P b d N' C := ⟨h.cs, h.good.mono hn, h.p, h.q⟩
theorem Cw.lt {w wr : World} {P b : Nat} {d : Int} {N : Nat} {C : List (T × Int)} (h : Cw w wr P b d N C) : P < wr.heap.size ∧ b < wr.heap.size := h.cs.lt
/-- Another one, while one is added to. -/
theorem Cw.fr {w wr wx : World} {P b P' b' : Nat} {d d' : Int} {N : Nat} {C C' : List (T × Int)} (h : Cw w wr P b d N C) (h' : Cs wr P' b' d' C') (hne : b ≠ b') (hf : Fr (fun k => k = b') wr wx) : Cw w wx P b d N C :=
  ⟨h.cs.fr hf (fun e => by
    obtain ⟨L, ⟨es, clock, hm, _⟩, _⟩ := h'.mp
    have := h.cs.blk.h
    rw [e] at this
    rw [this] at hm
    cases hm) hne, h.good, h.p, h.q⟩
theorem fr_below {w wr wx : World} {b : Nat} (hb : Below w.heap.size w wr) (hf : Fr (fun k => k = b) wr wx) (hq : w.heap.size ≤ b) : Below w.heap.size w wx :=
  ⟨hf.os.trans hb.os, hf.tape.trans hb.tape, hf.output.trans hb.output, Nat.le_trans hb.size hf.size, fun k hk => (hf.block k (Nat.lt_of_lt_of_le hk hb.size) (fun e => by omega)).trans (hb.block k hk)⟩
def NewC (w : World) (d : Int) (wr : World) (e : Ending) (w' : World) : Prop :=
  ∃ P b, e = .returned (.pointer (some ⟨P, 0, none⟩)) ∧ Cw w w' P b d 0 [] ∧ wr.heap.size ≤ P ∧ wr.heap.size ≤ b ∧ Below wr.heap.size wr w'
theorem new_law {w wr : World} {d : Int} (hs : w.heap.size ≤ wr.heap.size) (h0 : 0 ≤ d) (h3 : d ≤ 3) : Calls Try.prog 9 #[.int .i64 d] wr (NewC w d wr) :=
  (new_any d wr h0 h3).mono fun e w' ⟨P, b, h1, h2, h3, h4, h5⟩ => ⟨P, b, h1, ⟨h2, Good.nil d, by omega, by omega⟩, h3, h4, h5⟩
def AddW (w : World) (P b : Nat) (d : Int) (N : Nat) (C : List (T × Int)) (t : T) (n : Int) (wr : World) (e : Ending) (w' : World) : Prop :=
  e = .returned (.int .i64 (addE d C t n)) ∧ Cw w w' P b d (N + 1) (addC d C t n) ∧ Fr (fun k => k = b) wr w'
theorem add_law {w wr : World} {P b : Nat} {d : Int} {N : Nat} {C : List (T × Int)} (t : T) (n : Int) (h : Cw w wr P b d N C) : Calls Try.prog 11 #[.pointer (some ⟨P, 0, none⟩), .agg #[.int .i64 t.d, .int .i64 t.e, .int .i64 t.a, .int .i64 t.b, .int .i64 t.c], .int .i64 n] wr (AddW w P b d N C t n wr) :=
  (add_any P b d C t n (addC d C t n) wr h.cs (h.good.bound t) (addC_added h.good)).mono fun e w' ⟨h1, h2, h3⟩ => ⟨h1, ⟨by
    by_cases he : addE d C t n = 0
    · rw [if_pos he] at h2; exact h2
    · rw [if_neg he] at h2
      unfold addC
      rw [if_neg he]
      exact h2, h.good.add t n, h.p, h.q⟩, h3⟩
theorem count_law {w wr : World} {P b : Nat} {d : Int} {N : Nat} {C : List (T × Int)} (t : T) (h : Cw w wr P b d N C) : Calls Try.prog 13 #[.pointer (some ⟨P, 0, none⟩), .agg #[.int .i64 t.d, .int .i64 t.e, .int .i64 t.a, .int .i64 t.b, .int .i64 t.c]] wr (Gives (.int .i64 (cnt C t)) wr) := count_any P b d C t wr h.cs
theorem times_law {w wr : World} {P b : Nat} {d : Int} {N : Nat} {C : List (T × Int)} (h : Cw w wr P b d N C) (hn : N ≤ 1000000) : Calls Try.prog 12 #[.pointer (some ⟨P, 0, none⟩)] wr (GivesTms (C.map Prod.fst) wr) := times_any P b d C wr h.cs h.good.can (by have := h.good.len; omega)
theorem front_law {w wr : World} {P b : Nat} {d : Int} {N : Nat} {C : List (T × Int)} (h : Cw w wr P b d N C) (hn : N ≤ 1000000) : Calls Try.prog 15 #[.pointer (some ⟨P, 0, none⟩)] wr (GivesTms (frontC C) wr) := front_any P b d C wr h.cs h.good.can (by have := h.good.len; omega)
def CopyC (w : World) (d : Int) (N : Nat) (C : List (T × Int)) (wr : World) (e : Ending) (w' : World) : Prop :=
  ∃ P b, e = .returned (.pointer (some ⟨P, 0, none⟩)) ∧ Cw w w' P b d N C ∧ wr.heap.size ≤ P ∧ wr.heap.size ≤ b ∧ Below wr.heap.size wr w'
theorem copy_law {w wr : World} {P b : Nat} {d : Int} {N : Nat} {C : List (T × Int)} (hs : w.heap.size ≤ wr.heap.size) (h : Cw w wr P b d N C) : Calls Try.prog 16 #[.pointer (some ⟨P, 0, none⟩)] wr (CopyC w d N C wr) :=
  (copy_any P b d C wr h.cs).mono fun e w' ⟨P', b', h1, h2, h3, h4, h5⟩ => ⟨P', b', h1, ⟨h2, h.good, by omega, by omega⟩, h3, h4, h5⟩
/-- Whatever cells there are stay while a map turns. -/
theorem map_cell {w wr wx : World} {P b : Nat} {d : Int} {N : Nat} {C : List (T × Int)} (h : Cw w wr P b d N C) (hf : Fr (fun k => k = b) wr wx) {a : Addr} {v : Value} (hc : wr.cell? a = some v) : wx.cell? a = some v := by
  obtain ⟨L, ⟨es, clock, hm, _⟩, _⟩ := h.cs.mp
  have hlt := World.block_lt_of_cell? wr a hc
  refine (World.cell?_of_block (hf.block a.block hlt fun e => ?_)).trans hc
  unfold World.cell? at hc
  rw [e, hm] at hc
  cases hc
theorem map_blk {w wr wx : World} {P b : Nat} {d : Int} {N : Nat} {C : List (T × Int)} (h : Cw w wr P b d N C) (hf : Fr (fun k => k = b) wr wx) {B : Nat} {cs : List Value} {t : TypeId} (hc : Blk wr B cs t) : Blk wx B cs t := by
  obtain ⟨L, ⟨es, clock, hm, _⟩, _⟩ := h.cs.mp
  refine hc.fr hf fun e => ?_
  have := hc.h
  rw [e, hm] at this
  cases this
theorem map_bx {w wr wx : World} {P b : Nat} {d : Int} {N : Nat} {C : List (T × Int)} (h : Cw w wr P b d N C) (hf : Fr (fun k => k = b) wr wx) {B : Nat} {t : T} (hc : Bx wr B t) : Bx wx B t := ⟨(map_blk h hf (⟨hc.h⟩ : Blk wr B [.int .i64 t.d, .int .i64 t.e, .int .i64 t.a, .int .i64 t.b, .int .i64 t.c] 28)).h⟩
theorem map_at {w wr wx : World} {P b : Nat} {d : Int} {N : Nat} {C : List (T × Int)} (h : Cw w wr P b d N C) (hf : Fr (fun k => k = b) wr wx) {B o : Nat} {t : T} (hc : At wr B o t) : At wx B o t := ⟨map_cell h hf hc.c0, map_cell h hf hc.c1, map_cell h hf hc.c2, map_cell h hf hc.c3, map_cell h hf hc.c4⟩
theorem map_rco {w wr wx : World} {P b : Nat} {d : Int} {N : Nat} {C : List (T × Int)} (h : Cw w wr P b d N C) (hf : Fr (fun k => k = b) wr wx) {B o : Nat} {t : T × Int} (hc : RCo wr B o t) : RCo wx B o t := ⟨map_at h hf hc.1, map_cell h hf hc.2⟩
theorem map_cos {w wr wx : World} {P b : Nat} {d : Int} {N : Nat} {C : List (T × Int)} (h : Cw w wr P b d N C) (hf : Fr (fun k => k = b) wr wx) {A : Option Addr} {n c : Nat} {xs : List (T × Int)} (hc : Cos wr A n c xs) : Cos wx A n c xs :=
  ⟨hc.len, hc.cap, hc.big, fun hn => by
    obtain ⟨B, off, rfl, hr⟩ := hc.at_ hn
    exact ⟨B, off, rfl, fun j x hj => map_rco h hf (hr j x hj)⟩⟩
theorem map_tms {w wr wx : World} {P b : Nat} {d : Int} {N : Nat} {C : List (T × Int)} (h : Cw w wr P b d N C) (hf : Fr (fun k => k = b) wr wx) {A : Option Addr} {n c : Nat} {xs : List T} (hc : Tms wr A n c xs) : Tms wx A n c xs :=
  ⟨hc.len, hc.cap, hc.big, fun hn => by
    obtain ⟨B, off, rfl, hr⟩ := hc.at_ hn
    exact ⟨B, off, rfl, fun j x hj => map_at h hf (hr j x hj)⟩⟩
theorem map_rw {w wr wx : World} {P b : Nat} {d : Int} {N : Nat} {C : List (T × Int)} (h : Cw w wr P b d N C) (hf : Fr (fun k => k = b) wr wx) {base : Nat} {v : Value} {n : Nat} {e : TypeId} {size : Nat} {xs : List Value} (hc : wr.ownsRow base e size v n xs) : wx.ownsRow base e size v n xs := by
  obtain ⟨L, ⟨es, clock, hm, _⟩, _⟩ := h.cs.mp
  refine own_fr hc hf fun k hk e => ?_
  rcases hc.2 with ⟨rfl, _⟩ | ⟨g, cap, cur, rfl, _, hh, _⟩
  · cases hk
  · have : g = k := by simpa [Value.ownBlock] using hk
    subst this
    rw [e, hm] at hh
    cases hh
/-- A row of times that a law was handed, of its own. -/
structure Rw (wr : World) (base : Nat) (A : Option Addr) (c : Nat) (xs : List T) : Prop where
  own : wr.ownsRow base 28 5 (.slice A xs.length c) xs.length (recT xs)
  len : xs.length ≤ 1000000
theorem Rw.below {wr wx : World} {base : Nat} {A : Option Addr} {c : Nat} {xs : List T} (h : Rw wr base A c xs) (hb : Below wr.heap.size wr wx) : Rw wx base A c xs := ⟨own_below h.own hb, h.len⟩
theorem Rw.fr {wr wx : World} {base b : Nat} {A : Option Addr} {c : Nat} {xs : List T} (h : Rw wr base A c xs) (hf : Fr (fun k => k = b) wr wx) (hb : b < base) : Rw wx base A c xs := ⟨own_fr h.own hf (fun k hk e => by have := own_lt h.own k hk; omega), h.len⟩
theorem Rw.tms {wr : World} {base : Nat} {A : Option Addr} {c : Nat} {xs : List T} (h : Rw wr base A c xs) : Tms wr A xs.length c xs := by
  obtain ⟨A', c', e, hr⟩ := own_tms h.own (by have := h.len; omega)
  injection e with e1 _ e3
  subst e1 e3
  exact hr
theorem GivesTms.rw_ {xs : List T} {wr : World} {e : Ending} {w' : World} (hl : xs.length ≤ 1000000) (h : GivesTms xs wr e w') : ∃ A c, e = .returned (.slice A xs.length c) ∧ Rw w' wr.heap.size A c xs ∧ Below wr.heap.size wr w' := by
  obtain ⟨v, rfl, hrow, hb⟩ := h
  obtain ⟨A, c, rfl, _⟩ := own_tms hrow (by omega)
  exact ⟨A, c, rfl, ⟨hrow, hl⟩, hb⟩
theorem front_len {C : List (T × Int)} : (frontC C).length ≤ C.length := by
  unfold frontC
  have h1 : (posC C).length ≤ C.length := by unfold posC; rw [List.length_map]; exact List.length_filter_le _ _
  cases h : ofT (posC C) with
  | none => simp
  | some l =>
    have := ofT_length h
    simp only [Option.getD_some]
    omega
end Go.Proofs.Ytebpepjlhanopaa
