/- Getting a message. -/
import Derived.Test.YteiohcgohgcjfaaRows
import Derived.Defers
import Derived.Recover
import Derived.IntWalk
import Derived.Deep.RegionHeld2
import Derived.Test.YteiohcgohgcjfaaWords
import Derived.Test.YteiohcgohgcjfaaByts
import Derived.Test.YteiohcgohgcjfaaStrs
import Derived.Test.YteiohcgohgcjfaaFrame
import Derived.Test.YteiohcgohgcjfaaElems
import Derived.Test.YteiohcgohgcjfaaS1
import Derived.Test.YteiohcgohgcjfaaD1
import Derived.Test.YteiohcgohgcjfaaD5
import Derived.Test.YteiohcgohgcjfaaD6
import Derived.Test.YteiohcgohgcjfaaE1
import Derived.Test.YteiohcgohgcjfaaE2
import Derived.Test.YteiohcgohgcjfaaE3
import Derived.Test.YteiohcgohgcjfaaE4
import Derived.Test.YteiohcgohgcjfaaE5
import Derived.Test.YteiohcgohgcjfaaE6
import Derived.Test.YteiohcgohgcjfaaE7
import Derived.Test.YteiohcgohgcjfaaE8
import Derived.Test.YteiohcgohgcjfaaE8b
namespace Go.Proofs.Yteiohcgohgcjfaa
open Go Go.RowKit Go.Proofs.Tail
set_option linter.unusedSimpArgs false
set_option linter.unusedVariables false
/-- A number of one byte, of eight. -/
def n1 (xs : List Int) : Int := wrap64 (val (xs.take 1))
def n8 (xs : List Int) : Int := wrap64 (val (xs.take 8))
def parseD (k : Int) (ys : List Int) : Option (Msg × List Int) :=
  if 3 ≤ ys.length ∧ 8 ≤ (ys.drop 3).length ∧ getB (ys.drop 11) = true then
    match rowN rd2 (getR (ys.drop 11)) with
    | none => none
    | some (L, r) => some (⟨k, n1 ys, n1 (ys.drop 1), n1 (ys.drop 2), n8 (ys.drop 3), getT (ys.drop 11), L, []⟩, r)
  else none
def parseP (k : Int) (ys : List Int) : Option (Msg × List Int) :=
  match rowN rd3 ys with
  | none => none
  | some (U, r) => some (⟨k, 0, 0, 0, 0, T0, [], U⟩, r)
def parseM (xs : List Int) : Option (Msg × List Int) :=
  if 1 ≤ xs.length then (if IntKind.u8.wrap (n1 xs) = 1 then parseD 1 (xs.drop 1) else parseP (IntKind.u8.wrap (n1 xs)) (xs.drop 1)) else none
def getM (xs : List Int) : Option Msg :=
  match parseM xs with
  | none => none
  | some (m, r) => if r.length = 0 ∧ mayB m = true then some m else none
theorem getM_none {xs : List Int} (h : parseM xs = none) : getM xs = none := by unfold getM; rw [h]
/-- What Get tells. -/
def GivesM (o : Option Msg) (w : World) (e : Ending) (w' : World) : Prop :=
  (o = none → e = .returned (.tuple #[.agg mZero.toArray, .int .i64 210])) ∧
  (∀ m, o = some m → ∃ A c B d, e = .returned (.tuple #[.agg (m.cs A c B d).toArray, .int .i64 0]) ∧ Mg w' m A c B d) ∧ Below w.heap.size w w'
/-- The door of what is thrown. -/
def door (M Q : Nat) : List Deferred := [{ target := .fn (.func 32) #[.pointer (some ⟨M, 0, none⟩), .pointer (some ⟨Q, 0, none⟩)], args := #[] }]
def thr : List PanicEntry := [{ v := .iface 76 (.agg #[]), recovered := false }]
def Res12 (w : World) (M Q : Nat) : Prop := ∃ c0 c1 c2 c3 c4 c5 c6 c7 c8 c9 c10 c11 x, Res w M Q [c0, c1, c2, c3, c4, c5, c6, c7, c8, c9, c10, c11] x
theorem msg_cells (W : World) (tmps : Array Value) (M Q : Nat) (cs : List Value) (x : Int) (hl : cs.length = 12) (h2 : tmps.getD 2 undef = .pointer (some ⟨M, 0, none⟩)) (h3 : tmps.getD 3 undef = .pointer (some ⟨Q, 0, none⟩)) (hR : Res W M Q cs x) :
    (results Try.f14 tmps).run Try.prog W = .ok (.tuple #[.agg cs.toArray, .int .i64 x]) W := by
  have hr : Try.f14.results = #[.cell 2 28, .cell 3 38] := rfl
  have h2' : tmps[2]?.getD undef = .pointer (some ⟨M, 0, none⟩) := by simpa using h2
  have h3' : tmps[3]?.getD undef = .pointer (some ⟨Q, 0, none⟩) := by simpa using h3
  have hm := run_loadVar_row (P := Try.prog) W M 28 28 cs.toArray _ _ hR.m.h Try.underlying28 rfl (by rw [show (Try.prog.info? 28).map (·.size) = some 12 by kernel_rfl]; simp [hl])
  have q0 := hR.q.cell 0
  have hq : (loadVar 38 ⟨Q, 0, none⟩).run Try.prog W = .ok (.int .i64 x) W := by
    have u := Try.underlying38
    unfold loadVar
    go_simp
  unfold results
  rw [hr]
  simp [h2', h3', asAddr, hm, hq, Result.andThen, Sem.run_bind]
theorem thrown {xs : List Int} {w w1 : World} {M Q : Nat} (hne : Q ≠ M) (hlt : w.heap.size ≤ M ∧ w.heap.size ≤ Q) (tmps : Array Value) (h2 : tmps.getD 2 undef = .pointer (some ⟨M, 0, none⟩)) (h3 : tmps.getD 3 undef = .pointer (some ⟨Q, 0, none⟩)) (hR : Res12 w1 M Q) (hb : Below w.heap.size w w1) (hno : getM xs = none) :
    Leaves Try.prog Try.f14 tmps (GivesM (getM xs) w) (door M Q) (.panicking thr) w1 := by
  obtain ⟨c0, c1, c2, c3, c4, c5, c6, c7, c8, c9, c10, c11, x, hR⟩ := hR
  refine leaves_cons (f := 32) (args := #[.pointer (some ⟨M, 0, none⟩), .pointer (some ⟨Q, 0, none⟩)]) (by simp) (by simp [go_sem]) ?_
  refine (catch_thrown M Q hne c0 c1 c2 c3 c4 c5 c6 c7 c8 c9 c10 c11 x [] w1 hR).mono ?_
  rintro e u' w'' ⟨rfl, rfl, hr, hf⟩
  have hs : settle (.panicking [{ v := .iface 76 (.agg #[]), recovered := true }]) = .returning := by simp [settle]
  dsimp only
  rw [hs]
  refine ⟨_, msg_cells w'' tmps M Q mZero 210 rfl h2 h3 hr, ?_⟩
  refine ⟨fun _ => rfl, fun m hm => (by rw [hno] at hm; cases hm), hb.trans (hf.below hb.size (fun k hk h => by rcases h with h | h <;> omega))⟩
theorem ended {o : Option Msg} {w w1 : World} {M Q : Nat} {m : Msg} {A B : Option Addr} {c d : Nat} (tmps : Array Value) (h2 : tmps.getD 2 undef = .pointer (some ⟨M, 0, none⟩)) (h3 : tmps.getD 3 undef = .pointer (some ⟨Q, 0, none⟩)) (hR : Res w1 M Q (m.cs A c B d) 0) (hb : Below w.heap.size w w1) (hm : Mg w1 m A c B d) (ho : o = some m) :
    Leaves Try.prog Try.f14 tmps (GivesM o w) (door M Q) .returning w1 := by
  refine leaves_cons (f := 32) (args := #[.pointer (some ⟨M, 0, none⟩), .pointer (some ⟨Q, 0, none⟩)]) (by simp) (by simp [go_sem]) ?_
  refine (catch_idle ⟨M, 0, none⟩ ⟨Q, 0, none⟩ w1).mono ?_
  rintro e u' w'' ⟨rfl, rfl, rfl⟩
  dsimp only
  rw [show settle .returning = .returning by simp [settle]]
  refine ⟨_, msg_cells w'' tmps M Q (m.cs A c B d) 0 rfl h2 h3 hR, ?_⟩
  refine ⟨fun h => (by rw [ho] at h; cases h), fun m' hm' => ?_, hb⟩
  rw [ho] at hm'
  injection hm' with hm'
  subst hm'
  exact ⟨A, c, B, d, rfl, hm⟩
/-- A message's twelve cells. -/
def C12 (k f t i q : Int) (s : T) (lv uv : Value) : List Value := [.int .u8 k, .int .i64 f, .int .i64 t, .int .i64 i, .int .i64 q, .int .i64 s.d, .int .i64 s.e, .int .i64 s.a, .int .i64 s.b, .int .i64 s.c, lv, uv]
/-- How memory stands on the way: both results, the bytes that are left, what points to them. -/
structure St (w : World) (k f t i q : Int) (s : T) (lv uv : Value) (ys : List Int) (wr : World) : Prop where
  res : Res wr w.heap.size (w.heap.size + 1) (C12 k f t i q s lv uv) 0
  rb : Rb wr (w.heap.size + 1 + 1) ys
  v : Blk wr (w.heap.size + 1 + 1 + 1) [.pointer (some ⟨w.heap.size + 1 + 1, 0, none⟩)] 77
  b : Below w.heap.size w wr
section
variable {w wr w2 : World} {k f t i q : Int} {s : T} {lv uv : Value} {ys zs : List Int}
theorem St.fr (h : St w k f t i q s lv uv ys wr) (hf : Fr (fun b => b = w.heap.size + 1 + 1) wr w2) (hr : Rb w2 (w.heap.size + 1 + 1) zs) : St w k f t i q s lv uv zs w2 :=
  ⟨⟨h.res.m.fr hf (by omega), h.res.q.fr hf (by omega)⟩, hr, h.v.fr hf (by omega), h.b.trans (hf.below h.b.size (fun k hk e => by omega))⟩
theorem St.out (h : St w k f t i q s lv uv ys wr) (hf : Fr (fun b => b = w.heap.size + 1 + 1) wr w2) : Res12 w2 w.heap.size (w.heap.size + 1) ∧ Below w.heap.size w w2 :=
  ⟨⟨_, _, _, _, _, _, _, _, _, _, _, _, _, ⟨h.res.m.fr hf (by omega), h.res.q.fr hf (by omega)⟩⟩, h.b.trans (hf.below h.b.size (fun k hk e => by omega))⟩
theorem St.drew (h : St w k f t i q s lv uv ys wr) : St w k f t i q s lv uv ys wr.drew := ⟨⟨h.res.m.drew, h.res.q.drew⟩, h.rb.drew, h.v.drew, h.b.drew⟩
/-- One of the message's cells is written. -/
theorem St.set (h : St w k f t i q s lv uv ys wr) (o : Nat) (v : Value) {k' f' t' i' q' : Int} {s' : T} {lv' uv' : Value} (e : (C12 k f t i q s lv uv).set o v = C12 k' f' t' i' q' s' lv' uv') : St w k' f' t' i' q' s' lv' uv' ys (wr.setCell ⟨w.heap.size, o, none⟩ v) := by
  have hf : Fr (fun b => b = w.heap.size) wr (wr.setCell ⟨w.heap.size, o, none⟩ v) := (Fr.refl (fun b => b = w.heap.size) wr).set (p := ⟨w.heap.size, o, none⟩) (fun _ => rfl) v
  refine ⟨⟨by rw [← e]; exact h.res.m.set o v, h.res.q.fr hf (by omega)⟩, ?_, h.v.fr hf (by omega), h.b.setCell (Nat.le_refl _) v⟩
  obtain ⟨⟨A, c, h1, h2, h4⟩, h3⟩ := h.rb
  exact ⟨⟨A, c, h1.fr hf (by omega), byts_fr' h2 hf (fun hp a ha he => by have := h4 hp a ha; omega), h4⟩, h3⟩
end
theorem St.start (A : Option Addr) (c : Nat) (xs : List Int) (w : World) (hX : Byts w A xs.length c xs) (hin : InB xs) :
    St w 0 0 0 0 0 T0 (.slice none 0 0) (.slice none 0 0) xs ((((w.alloc (.cells (C12 0 0 0 0 0 T0 (.slice none 0 0) (.slice none 0 0)).toArray 28)).alloc (.cells #[.int .i64 0] 38)).alloc (.cells #[.slice A xs.length c] 79)).alloc (.cells #[.pointer (some ⟨w.heap.size + 1 + 1, 0, none⟩)] 77)) := by
  obtain ⟨w1, hw1⟩ : ∃ w1, w1 = w.alloc (.cells (C12 0 0 0 0 0 T0 (.slice none 0 0) (.slice none 0 0)).toArray 28) := ⟨_, rfl⟩
  have b1 : Below w.heap.size w w1 := by rw [hw1]; exact below_new _ _
  have z1 : w1.heap.size = w.heap.size + 1 := by rw [hw1]; simp
  have k1 : Blk w1 w.heap.size (C12 0 0 0 0 0 T0 (.slice none 0 0) (.slice none 0 0)) 28 := by rw [hw1]; exact Blk.new w _ _ _ rfl
  rw [← hw1]
  clear hw1
  obtain ⟨w2, hw2⟩ : ∃ w2, w2 = w1.alloc (.cells #[.int .i64 0] 38) := ⟨_, rfl⟩
  have b2 : Below w1.heap.size w1 w2 := by rw [hw2]; exact below_new _ _
  have z2 : w2.heap.size = w1.heap.size + 1 := by rw [hw2]; simp
  have k2 : Blk w2 w1.heap.size [.int .i64 0] 38 := by rw [hw2]; exact Blk.new w1 _ _ _ rfl
  rw [← hw2]
  clear hw2
  obtain ⟨w3, hw3⟩ : ∃ w3, w3 = w2.alloc (.cells #[.slice A xs.length c] 79) := ⟨_, rfl⟩
  have b3 : Below w2.heap.size w2 w3 := by rw [hw3]; exact below_new _ _
  have z3 : w3.heap.size = w2.heap.size + 1 := by rw [hw3]; simp
  have k3 : Blk w3 w2.heap.size [.slice A xs.length c] 79 := by rw [hw3]; exact Blk.new w2 _ _ _ rfl
  rw [← hw3]
  clear hw3
  obtain ⟨w4, hw4⟩ : ∃ w4, w4 = w3.alloc (.cells #[.pointer (some ⟨w.heap.size + 1 + 1, 0, none⟩)] 77) := ⟨_, rfl⟩
  have b4 : Below w3.heap.size w3 w4 := by rw [hw4]; exact below_new _ _
  have k4 : Blk w4 w3.heap.size [.pointer (some ⟨w.heap.size + 1 + 1, 0, none⟩)] 77 := by rw [hw4]; exact Blk.new w3 _ _ _ rfl
  rw [← hw4]
  clear hw4
  rw [show w3.heap.size = w.heap.size + 1 + 1 + 1 by omega] at k4 b4
  rw [show w2.heap.size = w.heap.size + 1 + 1 by omega] at k3 b3
  rw [z1] at k2 b2
  have B2 := below_then b1 (by rw [z1]; exact b2)
  have B3 : Below w.heap.size w w3 := B2.trans (b3.mono (by omega))
  have B4 : Below w.heap.size w w4 := B3.trans (b4.mono (by omega))
  have c34 : Below w3.heap.size w3 w4 := by rw [show w3.heap.size = w.heap.size + 1 + 1 + 1 by omega]; exact b4
  have c23 : Below w2.heap.size w2 w3 := by rw [show w2.heap.size = w.heap.size + 1 + 1 by omega]; exact b3
  have c12 : Below w1.heap.size w1 w2 := by rw [z1]; exact b2
  refine ⟨⟨((k1.then c12).then c23).then c34, (k2.then c23).then c34⟩, ⟨⟨A, c, k3.then c34, hX.below RByte.stays B4, fun hp a ha => ?_⟩, hin⟩, k4, B4⟩
  obtain ⟨b, o, e, hc⟩ := hX.byte hp
  rw [e] at ha
  injection ha with ha
  have := RByte.lt hc
  rw [← ha]
  show b + 2 < _
  omega
theorem rowN_len {α : Type} {rd : List Int → Option (α × List Int)} {xs ys : List Int} {L : List α} (h : rowN rd xs = some (L, ys)) : L.length ≤ 65536 := by
  unfold rowN at h
  split at h
  · rename_i hh
    have := rdN_len _ _ _ _ h
    omega
  · cases h
theorem mg_upd (k : Int) (U : List Upd) (B : Option Addr) (d : Nat) (W : World) {base : Nat} (h : W.ownsRow base 54 8 (.slice B U.length d) U.length (U.flatMap Upd.ucs)) (hn : U.length ≤ 9223372036854775807) : Mg W ⟨k, 0, 0, 0, 0, T0, [], U⟩ none 0 B d := by
  obtain ⟨B', d', e, hu⟩ := own_upds h hn
  injection e with e1 e2 e3
  subst e1; subst e3
  exact ⟨Rd.nil _ _ _, hu⟩
theorem mg_rec (m : Msg) (hU : m.U = []) (A : Option Addr) (c : Nat) (W : World) {base : Nat} (h : W.ownsRow base 50 2 (.slice A m.L.length c) m.L.length (m.L.flatMap Rc.rcs)) (hn : m.L.length ≤ 9223372036854775807) : Mg W m A c none 0 := by
  obtain ⟨A', c', e, hu⟩ := own_recs h hn
  injection e with e1 e2 e3
  subst e1; subst e3
  exact ⟨hu, by rw [hU]; exact Rd.nil _ _ _⟩
theorem St.setT {w wr : World} {k f t i q : Int} {s : T} {lv uv : Value} {ys : List Int} (h : St w k f t i q s lv uv ys wr) (s' : T) : St w k f t i q s' lv uv ys (((((wr.setCell ⟨w.heap.size, 5, none⟩ (.int .i64 s'.d)).setCell ⟨w.heap.size, 6, none⟩ (.int .i64 s'.e)).setCell ⟨w.heap.size, 7, none⟩ (.int .i64 s'.a)).setCell ⟨w.heap.size, 8, none⟩ (.int .i64 s'.b)).setCell ⟨w.heap.size, 9, none⟩ (.int .i64 s'.c)) :=
  ((((h.set 5 (.int .i64 s'.d) (k' := k) (f' := f) (t' := t) (i' := i) (q' := q) (s' := ⟨s'.d, s.e, s.a, s.b, s.c⟩) (lv' := lv) (uv' := uv) rfl).set 6 (.int .i64 s'.e) (k' := k) (f' := f) (t' := t) (i' := i) (q' := q) (s' := ⟨s'.d, s'.e, s.a, s.b, s.c⟩) (lv' := lv) (uv' := uv) rfl).set 7 (.int .i64 s'.a) (k' := k) (f' := f) (t' := t) (i' := i) (q' := q) (s' := ⟨s'.d, s'.e, s'.a, s.b, s.c⟩) (lv' := lv) (uv' := uv) rfl).set 8 (.int .i64 s'.b) (k' := k) (f' := f) (t' := t) (i' := i) (q' := q) (s' := ⟨s'.d, s'.e, s'.a, s'.b, s.c⟩) (lv' := lv) (uv' := uv) rfl).set 9 (.int .i64 s'.c) (k' := k) (f' := f) (t' := t) (i' := i) (q' := q) (s' := s') (lv' := lv) (uv' := uv) rfl
/-- A post whose panics are those that the door takes. -/
def PQ (G : World → Prop) (D : List Deferred) (p q : Value) (Q : Exit → Act → World → Prop) : Exit → Act → World → Prop
  | .panic c, a, w => c = thr ∧ G w ∧ a.defers = D ∧ a.tmps.getD 2 undef = p ∧ a.tmps.getD 3 undef = q
  | e, a, w => Q e a w
theorem PQ.imp {G : World → Prop} {D : List Deferred} {p q : Value} {Q : Exit → Act → World → Prop} (h : ∀ a w, G w → a.defers = D → a.tmps.getD 2 undef = p → a.tmps.getD 3 undef = q → Q (.panic thr) a w) : ∀ (e : Exit) (a : Act) (w : World), PQ G D p q Q e a w → Q e a w := fun e a w hq => by
  cases e with
  | panic c =>
    obtain ⟨rfl, h1, h2, h3, h4⟩ := hq
    exact h a w h1 h2 h3 h4
  | _ => exact hq
theorem PQ.put {G : World → Prop} {D : List Deferred} {p q : Value} {Q : Exit → Act → World → Prop} {d : Nat} (h2 : d ≠ 2) (h3 : d ≠ 3) (v : Value) : ∀ (c : List PanicEntry) (a : Act) (w : World), PQ G D p q Q (.panic c) (a.put (some d) v) w → PQ G D p q Q (.panic c) a w := by
  rintro c a w ⟨e1, e2, e3, e4, e5⟩
  refine ⟨e1, e2, e3, ?_, ?_⟩
  · rw [← e4]
    simp only [Act.put, Array.getD_eq_getD_getElem?]
    rw [Array.getElem?_setIfInBounds_ne h2]
  · rw [← e5]
    simp only [Act.put, Array.getD_eq_getD_getElem?]
    rw [Array.getElem?_setIfInBounds_ne h3]
theorem region_start {P : Program} {ops : Array Oper} {Q : Exit → Act → World → Prop} {S : World → Prop} {id : Nat} {a : Act} {w : World} (n : Nat) (L : Array Bool) (hn : ops.size = n) (hL : Array.replicate ops.size false = L) (hm : P.follows .mixedOrders = true) (hS : S w.drew)
    (h : wpAnyH P .any ops Q S n L a w.drew) : (Code.region id ops true).wp P Q a w := wp_region_held_drew (S := S) hm hS (fun _ => by rw [hn, ← hn, hL, hn]; exact h)
theorem PQ.normal {G : World → Prop} {D : List Deferred} {p q : Value} {Q : Exit → Act → World → Prop} {a : Act} {w : World} (h : Q .normal a w) : PQ G D p q Q .normal a w := h
set_option maxHeartbeats 8000000 in
theorem get_any' (A : Option Addr) (c : Nat) (xs : List Int) (w : World) (hX : Byts w A xs.length c xs) (hin : InB xs) : Calls Try.prog 14 #[.slice A xs.length c] w (GivesM (getM xs) w) := by
  have hmf : ∀ (fn : Fn) (first cap : Array Value) (w : World), (Instr.makeFunc fn first cap).run Try.prog w = .ok (.func fn first cap) w := fun _ _ _ _ => rfl
  have S0 := Lib.hid (St.start A c xs w hX hin)
  obtain ⟨y1, hy1⟩ : ∃ y, y = xs.drop 1 := ⟨_, rfl⟩
  obtain ⟨z1, hz1⟩ : ∃ z, z = n1 xs := ⟨_, rfl⟩
  have N1 := Lib.hid (fun W (hW : Rb W (w.heap.size + 1 + 1) xs) => show Calls Try.prog 33 #[.pointer (some ⟨w.heap.size + 1 + 1, 0, none⟩), .int .i64 1] W _ from num_z (w.heap.size + 1 + 1) 1 xs y1 z1 hz1 hy1 W hW (by omega) (by omega))
  have HPM := Lib.hid (show parseM xs = if 1 ≤ xs.length then (if IntKind.u8.wrap z1 = 1 then parseD 1 y1 else parseP (IntKind.u8.wrap z1) y1) else none by unfold parseM; rw [← hz1, ← hy1])
  have WY := Lib.hid (fun W => want_yes W)
  have WN := Lib.hid (fun W => want_no W)
  clear hX hin hy1 hz1
  go_enter_defers Try.func14, Try.ntmps14
  go_wp2_with fail
  refine (N1.out _ S0.out.rb).mono ?_
  rintro e w5 hn
  rcases Nat.lt_or_ge xs.length 1 with hlt | hge
  · have hp := hn.2.1 hlt
    unfold Pan at hp
    subst hp
    exact thrown (by omega) ⟨by omega, by omega⟩ _ rfl rfl (S0.out.out hn.2.2).1 (S0.out.out hn.2.2).2 (getM_none (by rw [HPM.out, if_neg (by omega)]))
  obtain ⟨rfl, hr⟩ := hn.1 hge
  have S1 := Lib.hid (S0.out.fr hn.2.2 hr)
  have HP1 := Lib.hid (show parseM xs = if IntKind.u8.wrap z1 = 1 then parseD 1 y1 else parseP (IntKind.u8.wrap z1) y1 by rw [HPM.out, if_pos hge])
  clear hn hr hge S0 HPM N1
  have c0 : w5.cell? ⟨w.heap.size, 0, none⟩ = some (.int .u8 0) := S1.out.res.m.cell 0
  have f0 := S1.out.res.m.frozen 0
  obtain ⟨k, hk⟩ : ∃ k, IntKind.u8.wrap z1 = k := ⟨_, rfl⟩
  rw [hk] at HP1
  have S2 := Lib.hid (S1.out.set 0 (.int .u8 k) (k' := k) (f' := 0) (t' := 0) (i' := 0) (q' := 0) (s' := T0) (lv' := .slice none 0 0) (uv' := .slice none 0 0) rfl)
  have l0 : (w5.setCell ⟨w.heap.size, 0, none⟩ (.int .u8 k)).cell? ⟨w.heap.size, 0, none⟩ = some (.int .u8 k) := S2.out.res.m.cell 0
  have lv : (w5.setCell ⟨w.heap.size, 0, none⟩ (.int .u8 k)).cell? ⟨w.heap.size + 1 + 1 + 1, 0, none⟩ = some (.pointer (some ⟨w.heap.size + 1 + 1, 0, none⟩)) := S2.out.v.cell 0
  clear S1
  by_cases hk1 : k = 1
  · subst hk1
    rw [if_pos rfl] at HP1
    go_wp2_with fail
    generalize (w5.setCell ⟨w.heap.size, 0, none⟩ (.int .u8 1)) = w6 at *
    clear c0 f0 l0 lv hk
    obtain ⟨y2, hy2⟩ : ∃ y, y = y1.drop 1 := ⟨_, rfl⟩
    obtain ⟨y3, hy3⟩ : ∃ y, y = y1.drop 2 := ⟨_, rfl⟩
    obtain ⟨y4, hy4⟩ : ∃ y, y = y1.drop 3 := ⟨_, rfl⟩
    obtain ⟨y5, hy5⟩ : ∃ y, y = y1.drop 11 := ⟨_, rfl⟩
    obtain ⟨y6, hy6⟩ : ∃ y, y = getR y5 := ⟨_, rfl⟩
    have hy3' : y3 = y2.drop 1 := by rw [hy2, hy3, List.drop_drop]
    have hy4' : y4 = y3.drop 1 := by rw [hy3, hy4, List.drop_drop]
    have hy5' : y5 = y4.drop 8 := by rw [hy4, hy5, List.drop_drop]
    obtain ⟨f, hf⟩ : ∃ z, z = n1 y1 := ⟨_, rfl⟩
    obtain ⟨t, ht⟩ : ∃ z, z = n1 y2 := ⟨_, rfl⟩
    obtain ⟨i, hi⟩ : ∃ z, z = n1 y3 := ⟨_, rfl⟩
    obtain ⟨q, hq⟩ : ∃ z, z = n8 y4 := ⟨_, rfl⟩
    obtain ⟨s, hs⟩ : ∃ z, z = getT y5 := ⟨_, rfl⟩
    have HL := Lib.hid (show y2.length = y1.length - 1 ∧ y3.length = y1.length - 2 by rw [hy2, hy3, List.length_drop, List.length_drop]; exact ⟨rfl, rfl⟩)
    have NA := Lib.hid (fun W (hW : Rb W (w.heap.size + 1 + 1) y1) => show Calls Try.prog 33 #[.pointer (some ⟨w.heap.size + 1 + 1, 0, none⟩), .int .i64 1] W _ from num_z (w.heap.size + 1 + 1) 1 y1 y2 f hf hy2 W hW (by omega) (by omega))
    have NB := Lib.hid (fun W (hW : Rb W (w.heap.size + 1 + 1) y2) => show Calls Try.prog 33 #[.pointer (some ⟨w.heap.size + 1 + 1, 0, none⟩), .int .i64 1] W _ from num_z (w.heap.size + 1 + 1) 1 y2 y3 t ht hy3' W hW (by omega) (by omega))
    have NC := Lib.hid (fun W (hW : Rb W (w.heap.size + 1 + 1) y3) => show Calls Try.prog 33 #[.pointer (some ⟨w.heap.size + 1 + 1, 0, none⟩), .int .i64 1] W _ from num_z (w.heap.size + 1 + 1) 1 y3 y4 i hi hy4' W hW (by omega) (by omega))
    have ND := Lib.hid (fun W (hW : Rb W (w.heap.size + 1 + 1) y4) => show Calls Try.prog 33 #[.pointer (some ⟨w.heap.size + 1 + 1, 0, none⟩), .int .i64 8] W _ from num_z (w.heap.size + 1 + 1) 8 y4 y5 q hq hy5' W hW (by omega) (by omega))
    have NE := Lib.hid (fun W (hW : Rb W (w.heap.size + 1 + 1) y5) => tim_z (w.heap.size + 1 + 1) y5 y6 s hs hy6 W hW)
    have HPD := Lib.hid (show parseM xs = if 3 ≤ y1.length ∧ 8 ≤ y4.length ∧ getB y5 = true then (match rowN rd2 y6 with | none => none | some (L, r) => some (⟨1, f, t, i, q, s, L, []⟩, r)) else none by
      rw [HP1.out]; unfold parseD; rw [← hy2, ← hy3, ← hy4, ← hy5, ← hy6, ← hf, ← ht, ← hi, ← hq, ← hs])
    clear hy2 hy3 hy4 hy5 hy6 hy3' hy4' hy5' hf ht hi hq hs HP1
    have S5 := Lib.hid S2.out.drew
    clear WY WN
    have WY := Lib.hid (fun W => want_yes W)
    have WN := Lib.hid (fun W => want_no W)
    refine Code.wp_mono (PQ.imp (G := fun W => Res12 W w.heap.size (w.heap.size + 1) ∧ Below w.heap.size w W ∧ getM xs = none) (D := door w.heap.size (w.heap.size + 1)) (p := .pointer (some ⟨w.heap.size, 0, none⟩)) (q := .pointer (some ⟨w.heap.size + 1, 0, none⟩)) (fun a W hG hd h2 h3 => ?_)) ?_
    · show Leaves _ _ a.tmps _ a.defers _ W
      rw [hd]
      exact thrown (by omega) ⟨by omega, by omega⟩ _ h2 h3 hG.1 hG.2.1 hG.2.2
    have hH := Lib.hid (show (fun W : World => W.cell? ⟨w.heap.size + 1 + 1 + 1, 0, none⟩ = some (.pointer (some ⟨w.heap.size + 1 + 1, 0, none⟩))) w6.drew from S2.out.drew.v.cell 0)
    refine region_start (S := fun W : World => W.cell? ⟨w.heap.size + 1 + 1 + 1, 0, none⟩ = some (.pointer (some ⟨w.heap.size + 1 + 1, 0, none⟩))) 12 #[false, false, false, false, false, false, false, false, false, false, false, false] rfl rfl (by kernel_rfl) hH.out ?_
    clear S2
    refine wpAnyH_take (i := 0) (oi := ⟨_, _, _, _, _, _⟩) (v := ?_) rfl (by kernel_rfl) (by kernel_rfl) (by kernel_rfl) (PQ.put (by decide) (by decide) _) (Or.inl ⟨by rfl, ?_⟩) hH.out ?_
    rotate_left
    · intro W hS
      go_simp
      try with_reducible rfl
    simp only [Act.put, List.setIfInBounds_toArray, List.set_cons_zero, List.set_cons_succ]
    refine wpAnyH_take (i := 2) (oi := ⟨_, _, _, _, _, _⟩) (v := ?_) rfl (by kernel_rfl) (by kernel_rfl) (by kernel_rfl) (PQ.put (by decide) (by decide) _) (Or.inl ⟨by rfl, ?_⟩) hH.out ?_
    rotate_left
    · intro W hS
      go_simp
      try with_reducible rfl
    simp only [Act.put, List.setIfInBounds_toArray, List.set_cons_zero, List.set_cons_succ]
    refine wpAnyH_take (i := 4) (oi := ⟨_, _, _, _, _, _⟩) (v := ?_) rfl (by kernel_rfl) (by kernel_rfl) (by kernel_rfl) (PQ.put (by decide) (by decide) _) (Or.inl ⟨by rfl, ?_⟩) hH.out ?_
    rotate_left
    · intro W hS
      go_simp
      try with_reducible rfl
    simp only [Act.put, List.setIfInBounds_toArray, List.set_cons_zero, List.set_cons_succ]
    refine wpAnyH_ready (rs := [1]) (by kernel_rfl) (by simp) ?_
    refine AllReadyH.cons (o := ⟨_, _, _, _, _, _⟩) rfl (fun K hK => ?_) AllReadyH.nil
    go_simp
    refine (NA.out _ S5.out.rb).mono ?_
    rintro e wa hn
    have HO := Lib.hid (S5.out.out hn.2.2)
    rcases Nat.lt_or_ge y1.length 1 with hlt | hge
    · have hp := hn.2.1 hlt
      unfold Pan at hp
      subst hp
      exact ⟨rfl, ⟨HO.out.1, HO.out.2, getM_none (by rw [HPD.out, if_neg (fun h => by have := h.1; omega)])⟩, rfl, rfl, rfl⟩
    obtain ⟨rfl, hr⟩ := hn.1 hge
    have S6 := Lib.hid (S5.out.fr hn.2.2 hr)
    have HGS6 := Lib.hid hge
    clear hn hr hge HO S5
    refine hK.out _ _ (S6.out.v.cell 0) (fun hS => ?_)
    clear hH
    have hH := Lib.hid hS
    clear hS hK K
    simp only [Act.put, List.setIfInBounds_toArray, List.set_cons_zero, List.set_cons_succ]
    refine wpAnyH_take (i := 6) (oi := ⟨_, _, _, _, _, _⟩) (v := ?_) rfl (by kernel_rfl) (by kernel_rfl) (by kernel_rfl) (PQ.put (by decide) (by decide) _) (Or.inl ⟨by rfl, ?_⟩) hH.out ?_
    rotate_left
    · intro W hS
      go_simp
      try with_reducible rfl
    simp only [Act.put, List.setIfInBounds_toArray, List.set_cons_zero, List.set_cons_succ]
    refine wpAnyH_ready (rs := [3]) (by kernel_rfl) (by simp) ?_
    refine AllReadyH.cons (o := ⟨_, _, _, _, _, _⟩) rfl (fun K hK => ?_) AllReadyH.nil
    go_simp
    refine (NB.out _ S6.out.rb).mono ?_
    rintro e wb hn
    have HO := Lib.hid (S6.out.out hn.2.2)
    rcases Nat.lt_or_ge y2.length 1 with hlt | hge
    · have hp := hn.2.1 hlt
      unfold Pan at hp
      subst hp
      exact ⟨rfl, ⟨HO.out.1, HO.out.2, getM_none (by rw [HPD.out, if_neg (fun h => by have := h.1; have := HL.out.1; omega)])⟩, rfl, rfl, rfl⟩
    obtain ⟨rfl, hr⟩ := hn.1 hge
    have S7 := Lib.hid (S6.out.fr hn.2.2 hr)
    have HGS7 := Lib.hid hge
    clear hn hr hge HO S6
    refine hK.out _ _ (S7.out.v.cell 0) (fun hS => ?_)
    clear hH
    have hH := Lib.hid hS
    clear hS hK K
    simp only [Act.put, List.setIfInBounds_toArray, List.set_cons_zero, List.set_cons_succ]
    refine wpAnyH_ready (rs := [5]) (by kernel_rfl) (by simp) ?_
    refine AllReadyH.cons (o := ⟨_, _, _, _, _, _⟩) rfl (fun K hK => ?_) AllReadyH.nil
    go_simp
    refine (NC.out _ S7.out.rb).mono ?_
    rintro e wc hn
    have HO := Lib.hid (S7.out.out hn.2.2)
    rcases Nat.lt_or_ge y3.length 1 with hlt | hge
    · have hp := hn.2.1 hlt
      unfold Pan at hp
      subst hp
      exact ⟨rfl, ⟨HO.out.1, HO.out.2, getM_none (by rw [HPD.out, if_neg (fun h => by have := h.1; have := HL.out.2; omega)])⟩, rfl, rfl, rfl⟩
    obtain ⟨rfl, hr⟩ := hn.1 hge
    have S8 := Lib.hid (S7.out.fr hn.2.2 hr)
    have HGS8 := Lib.hid hge
    clear hn hr hge HO S7
    refine hK.out _ _ (S8.out.v.cell 0) (fun hS => ?_)
    clear hH
    have hH := Lib.hid hS
    clear hS hK K
    simp only [Act.put, List.setIfInBounds_toArray, List.set_cons_zero, List.set_cons_succ]
    have mm : wc.cell? ⟨w.heap.size, 1, none⟩ = some (.int .i64 0) := S8.out.res.m.cell 1
    have fm := S8.out.res.m.frozen 1
    have SA := Lib.hid (S8.out.set 1 (.int .i64 f) (k' := 1) (f' := f) (t' := 0) (i' := 0) (q' := 0) (s' := T0) (lv' := .slice none 0 0) (uv' := .slice none 0 0) rfl)
    refine wpAnyH_ready (rs := [7]) (by kernel_rfl) (by simp) ?_
    refine AllReadyH.cons (o := ⟨_, _, _, _, _, _⟩) rfl (fun K hK => ?_) AllReadyH.nil
    go_simp
    refine hK.out _ _ (SA.out.v.cell 0) (fun hS => ?_)
    clear hH
    have hH := Lib.hid hS
    clear hS hK K
    simp only [Act.put, List.setIfInBounds_toArray, List.set_cons_zero, List.set_cons_succ]
    clear mm fm S8
    generalize (wc.setCell ⟨w.heap.size, 1, none⟩ (.int .i64 f)) = wd at *
    refine wpAnyH_take (i := 8) (oi := ⟨_, _, _, _, _, _⟩) (v := ?_) rfl (by kernel_rfl) (by kernel_rfl) (by kernel_rfl) (PQ.put (by decide) (by decide) _) (Or.inl ⟨by rfl, ?_⟩) hH.out ?_
    rotate_left
    · intro W hS
      go_simp
      try with_reducible rfl
    simp only [Act.put, List.setIfInBounds_toArray, List.set_cons_zero, List.set_cons_succ]
    have mm : wd.cell? ⟨w.heap.size, 2, none⟩ = some (.int .i64 0) := SA.out.res.m.cell 2
    have fm := SA.out.res.m.frozen 2
    have SB := Lib.hid (SA.out.set 2 (.int .i64 t) (k' := 1) (f' := f) (t' := t) (i' := 0) (q' := 0) (s' := T0) (lv' := .slice none 0 0) (uv' := .slice none 0 0) rfl)
    refine wpAnyH_ready (rs := [9]) (by kernel_rfl) (by simp) ?_
    refine AllReadyH.cons (o := ⟨_, _, _, _, _, _⟩) rfl (fun K hK => ?_) AllReadyH.nil
    go_simp
    refine hK.out _ _ (SB.out.v.cell 0) (fun hS => ?_)
    clear hH
    have hH := Lib.hid hS
    clear hS hK K
    simp only [Act.put, List.setIfInBounds_toArray, List.set_cons_zero, List.set_cons_succ]
    clear mm fm SA
    generalize (wd.setCell ⟨w.heap.size, 2, none⟩ (.int .i64 t)) = we at *
    refine wpAnyH_take (i := 10) (oi := ⟨_, _, _, _, _, _⟩) (v := ?_) rfl (by kernel_rfl) (by kernel_rfl) (by kernel_rfl) (PQ.put (by decide) (by decide) _) (Or.inl ⟨by rfl, ?_⟩) hH.out ?_
    rotate_left
    · intro W hS
      go_simp
      try with_reducible rfl
    simp only [Act.put, List.setIfInBounds_toArray, List.set_cons_zero, List.set_cons_succ]
    have mm : we.cell? ⟨w.heap.size, 3, none⟩ = some (.int .i64 0) := SB.out.res.m.cell 3
    have fm := SB.out.res.m.frozen 3
    have SC := Lib.hid (SB.out.set 3 (.int .i64 i) (k' := 1) (f' := f) (t' := t) (i' := i) (q' := 0) (s' := T0) (lv' := .slice none 0 0) (uv' := .slice none 0 0) rfl)
    refine wpAnyH_ready (rs := [11]) (by kernel_rfl) (by simp) ?_
    refine AllReadyH.cons (o := ⟨_, _, _, _, _, _⟩) rfl (fun K hK => ?_) AllReadyH.nil
    go_simp
    refine hK.out _ _ (SC.out.v.cell 0) (fun hS => ?_)
    clear hH
    have hH := Lib.hid hS
    clear hS hK K
    simp only [Act.put, List.setIfInBounds_toArray, List.set_cons_zero, List.set_cons_succ]
    clear mm fm SB
    generalize (we.setCell ⟨w.heap.size, 3, none⟩ (.int .i64 i)) = wf at *
    refine wpAnyH_done (by kernel_rfl) ?_ _
    refine PQ.normal ?_
    clear hH
    go_upto_region 6 with fail
    have SD := Lib.hid SC.out.drew
    refine Code.wp_mono (PQ.imp (G := fun W => Res12 W w.heap.size (w.heap.size + 1) ∧ Below w.heap.size w W ∧ getM xs = none) (D := door w.heap.size (w.heap.size + 1)) (p := .pointer (some ⟨w.heap.size, 0, none⟩)) (q := .pointer (some ⟨w.heap.size + 1, 0, none⟩)) (fun a W hG hd h2 h3 => ?_)) ?_
    · show Leaves _ _ a.tmps _ a.defers _ W
      rw [hd]
      exact thrown (by omega) ⟨by omega, by omega⟩ _ h2 h3 hG.1 hG.2.1 hG.2.2
    have hH := Lib.hid (show (fun W : World => W.cell? ⟨w.heap.size + 1 + 1 + 1, 0, none⟩ = some (.pointer (some ⟨w.heap.size + 1 + 1, 0, none⟩))) wf.drew from SC.out.drew.v.cell 0)
    refine region_start (S := fun W : World => W.cell? ⟨w.heap.size + 1 + 1 + 1, 0, none⟩ = some (.pointer (some ⟨w.heap.size + 1 + 1, 0, none⟩))) 8 #[false, false, false, false, false, false, false, false] rfl rfl (by kernel_rfl) hH.out ?_
    clear SC
    refine wpAnyH_take (i := 0) (oi := ⟨_, _, _, _, _, _⟩) (v := ?_) rfl (by kernel_rfl) (by kernel_rfl) (by kernel_rfl) (PQ.put (by decide) (by decide) _) (Or.inl ⟨by rfl, ?_⟩) hH.out ?_
    rotate_left
    · intro W hS
      go_simp
      try with_reducible rfl
    simp only [Act.put, List.setIfInBounds_toArray, List.set_cons_zero, List.set_cons_succ]
    refine wpAnyH_take (i := 2) (oi := ⟨_, _, _, _, _, _⟩) (v := ?_) rfl (by kernel_rfl) (by kernel_rfl) (by kernel_rfl) (PQ.put (by decide) (by decide) _) (Or.inl ⟨by rfl, ?_⟩) hH.out ?_
    rotate_left
    · intro W hS
      go_simp
      try with_reducible rfl
    simp only [Act.put, List.setIfInBounds_toArray, List.set_cons_zero, List.set_cons_succ]
    refine wpAnyH_ready (rs := [1]) (by kernel_rfl) (by simp) ?_
    refine AllReadyH.cons (o := ⟨_, _, _, _, _, _⟩) rfl (fun K hK => ?_) AllReadyH.nil
    go_simp
    refine (ND.out _ SD.out.rb).mono ?_
    rintro e wg hn
    have HO := Lib.hid (SD.out.out hn.2.2)
    rcases Nat.lt_or_ge y4.length 8 with hlt | hge
    · have hp := hn.2.1 hlt
      unfold Pan at hp
      subst hp
      exact ⟨rfl, ⟨HO.out.1, HO.out.2, getM_none (by rw [HPD.out, if_neg (fun h => by have := h.2.1; omega)])⟩, rfl, rfl, rfl⟩
    obtain ⟨rfl, hr⟩ := hn.1 hge
    have SE := Lib.hid (SD.out.fr hn.2.2 hr)
    have HGSE := Lib.hid hge
    clear hn hr hge HO SD
    refine hK.out _ _ (SE.out.v.cell 0) (fun hS => ?_)
    clear hH
    have hH := Lib.hid hS
    clear hS hK K
    simp only [Act.put, List.setIfInBounds_toArray, List.set_cons_zero, List.set_cons_succ]
    refine wpAnyH_take (i := 4) (oi := ⟨_, _, _, _, _, _⟩) (v := ?_) rfl (by kernel_rfl) (by kernel_rfl) (by kernel_rfl) (PQ.put (by decide) (by decide) _) (Or.inl ⟨by rfl, ?_⟩) hH.out ?_
    rotate_left
    · intro W hS
      go_simp
      try with_reducible rfl
    simp only [Act.put, List.setIfInBounds_toArray, List.set_cons_zero, List.set_cons_succ]
    refine wpAnyH_ready (rs := [3]) (by kernel_rfl) (by simp) ?_
    refine AllReadyH.cons (o := ⟨_, _, _, _, _, _⟩) rfl (fun K hK => ?_) AllReadyH.nil
    go_simp
    refine (NE.out _ SE.out.rb).mono ?_
    rintro e wh hn
    have HO := Lib.hid (SE.out.out hn.2.2)
    rcases (Bool.eq_false_or_eq_true (getB y5)).symm with hlt | hge
    · have hp := hn.2.1 hlt
      unfold Pan at hp
      subst hp
      exact ⟨rfl, ⟨HO.out.1, HO.out.2, getM_none (by rw [HPD.out, if_neg (fun h => by rw [hlt] at h; cases h.2.2)])⟩, rfl, rfl, rfl⟩
    obtain ⟨rfl, hr⟩ := hn.1 hge
    have SF := Lib.hid (SE.out.fr hn.2.2 hr)
    have HGSF := Lib.hid hge
    clear hn hr hge HO SE
    refine hK.out _ _ (SF.out.v.cell 0) (fun hS => ?_)
    clear hH
    have hH := Lib.hid hS
    clear hS hK K
    simp only [Act.put, List.setIfInBounds_toArray, List.set_cons_zero, List.set_cons_succ]
    have mm : wh.cell? ⟨w.heap.size, 4, none⟩ = some (.int .i64 0) := SF.out.res.m.cell 4
    have fm := SF.out.res.m.frozen 4
    have SG := Lib.hid (SF.out.set 4 (.int .i64 q) (k' := 1) (f' := f) (t' := t) (i' := i) (q' := q) (s' := T0) (lv' := .slice none 0 0) (uv' := .slice none 0 0) rfl)
    refine wpAnyH_ready (rs := [5]) (by kernel_rfl) (by simp) ?_
    refine AllReadyH.cons (o := ⟨_, _, _, _, _, _⟩) rfl (fun K hK => ?_) AllReadyH.nil
    go_simp
    refine hK.out _ _ (SG.out.v.cell 0) (fun hS => ?_)
    clear hH
    have hH := Lib.hid hS
    clear hS hK K
    simp only [Act.put, List.setIfInBounds_toArray, List.set_cons_zero, List.set_cons_succ]
    clear mm fm SF
    generalize (wh.setCell ⟨w.heap.size, 4, none⟩ (.int .i64 q)) = wi at *
    refine wpAnyH_take (i := 6) (oi := ⟨_, _, _, _, _, _⟩) (v := ?_) rfl (by kernel_rfl) (by kernel_rfl) (by kernel_rfl) (PQ.put (by decide) (by decide) _) (Or.inl ⟨by rfl, ?_⟩) hH.out ?_
    rotate_left
    · intro W hS
      go_simp
      try with_reducible rfl
    simp only [Act.put, List.setIfInBounds_toArray, List.set_cons_zero, List.set_cons_succ]
    have mm5 : wi.cell? ⟨w.heap.size, 5, none⟩ = some (.int .i64 0) := SG.out.res.m.cell 5
    have mm6 : wi.cell? ⟨w.heap.size, 6, none⟩ = some (.int .i64 0) := SG.out.res.m.cell 6
    have mm7 : wi.cell? ⟨w.heap.size, 7, none⟩ = some (.int .i64 0) := SG.out.res.m.cell 7
    have mm8 : wi.cell? ⟨w.heap.size, 8, none⟩ = some (.int .i64 0) := SG.out.res.m.cell 8
    have mm9 : wi.cell? ⟨w.heap.size, 9, none⟩ = some (.int .i64 0) := SG.out.res.m.cell 9
    have fm := fun o => SG.out.res.m.frozen o
    have SH := Lib.hid (SG.out.setT s)
    refine wpAnyH_ready (rs := [7]) (by kernel_rfl) (by simp) ?_
    refine AllReadyH.cons (o := ⟨_, _, _, _, _, _⟩) rfl (fun K hK => ?_) AllReadyH.nil
    go_simp
    refine hK.out _ _ (SH.out.v.cell 0) (fun hS => ?_)
    clear hH
    have hH := Lib.hid hS
    clear hS hK K
    simp only [Act.put, List.setIfInBounds_toArray, List.set_cons_zero, List.set_cons_succ]
    clear mm5 mm6 mm7 mm8 mm9 fm SG
    generalize (((((wi.setCell ⟨w.heap.size, 5, none⟩ (.int .i64 s.d)).setCell ⟨w.heap.size, 6, none⟩ (.int .i64 s.e)).setCell ⟨w.heap.size, 7, none⟩ (.int .i64 s.a)).setCell ⟨w.heap.size, 8, none⟩ (.int .i64 s.b)).setCell ⟨w.heap.size, 9, none⟩ (.int .i64 s.c)) = wj at *
    refine wpAnyH_done (by kernel_rfl) ?_ _
    refine PQ.normal ?_
    clear hH
    have HPR := Lib.hid (show parseM xs = (match rowN rd2 y6 with | none => none | some (L, r) => some (⟨1, f, t, i, q, s, L, []⟩, r)) by
      rw [HPD.out, if_pos ⟨by have := HL.out.2; have := HGS8.out; omega, HGSE.out, HGSF.out⟩])
    have lv : wj.cell? ⟨w.heap.size + 1 + 1 + 1, 0, none⟩ = some (.pointer (some ⟨w.heap.size + 1 + 1, 0, none⟩)) := SH.out.v.cell 0
    have HR := Lib.hid (rowof2_any (w.heap.size + 1 + 1 + 1) (w.heap.size + 1 + 1) y6 _ SH.out.v (by omega) SH.out.rb)
    clear HPD HL HGS6 HGS7 HGS8 HGSE HGSF NA NB NC ND NE
    go_wp2_with fail
    refine HR.out.mono ?_
    rintro e w7 hn
    have S7o := Lib.hid (SH.out.out hn.2.2)
    cases hrow : rowN rd2 y6 with
    | none =>
      have hp := hn.2.1 hrow
      unfold Pan at hp
      subst hp
      exact thrown (by omega) ⟨by omega, by omega⟩ _ rfl rfl S7o.out.1 S7o.out.2 (getM_none (by rw [HPR.out, hrow]))
    | some p =>
      obtain ⟨L, ys⟩ := p
      obtain ⟨v, rfl, hown, hr⟩ := hn.1 L ys hrow
      have S7 := Lib.hid (SH.out.fr hn.2.2 hr)
      have HUL := Lib.hid (rowN_len hrow)
      obtain ⟨A9, c9, rfl, _⟩ := own_recs hown (by have := HUL.out; omega)
      have HBS := Lib.hid SH.out.v.lt
      have HPF := Lib.hid (show parseM xs = some (⟨1, f, t, i, q, s, L, []⟩, ys) by rw [HPR.out, hrow])
      have HOW := Lib.hid hown
      clear hn hr hown SH HR HPR hrow S7o lv
      have c11 : w7.cell? ⟨w.heap.size, 10, none⟩ = some (.slice none 0 0) := S7.out.res.m.cell 10
      have f11 := S7.out.res.m.frozen 10
      have S9 := Lib.hid (S7.out.set 10 (.slice A9 L.length c9) (k' := 1) (f' := f) (t' := t) (i' := i) (q' := q) (s' := s) (lv' := .slice A9 L.length c9) (uv' := .slice none 0 0) rfl)
      have HFW := Lib.hid ((Fr.refl (fun b => b ≤ w.heap.size + 1 + 1 + 1) w7).set (p := ⟨w.heap.size, 10, none⟩) (fun _ => by dsimp only; omega) (.slice A9 L.length c9))
      have HMG := Lib.hid (fun W (hf : Fr (fun b => b ≤ w.heap.size + 1 + 1 + 1) (w7.setCell ⟨w.heap.size, 10, none⟩ (.slice A9 L.length c9)) W) => (mg_rec ⟨1, f, t, i, q, s, L, []⟩ rfl A9 c9 W (own_beyond HOW.out (HFW.out.trans hf (fun _ _ h => h)) (fun k hk => by have := HBS.out; omega)) (by have := HUL.out; dsimp only; omega)))
      clear S7 HFW HOW
      go_upto_region 9 with fail
      generalize (w7.setCell ⟨w.heap.size, 10, none⟩ (.slice A9 L.length c9)) = w9 at *
      obtain ⟨⟨A8, c8, hb8, _, _⟩, _⟩ := S9.out.rb
      have cv : w9.cell? ⟨w.heap.size + 1 + 1 + 1, 0, none⟩ = some (.pointer (some ⟨w.heap.size + 1 + 1, 0, none⟩)) := S9.out.v.cell 0
      have cr : w9.cell? ⟨w.heap.size + 1 + 1, 0, none⟩ = some (.slice A8 ys.length c8) := hb8.cell 0
      have hm9 := S9.out.res.m
      have m0 : w9.cell? ⟨w.heap.size, 0, none⟩ = some (.int .u8 1) := hm9.cell 0
      have m1 : w9.cell? ⟨w.heap.size, 1, none⟩ = some (.int .i64 f) := hm9.cell 1
      have m2 : w9.cell? ⟨w.heap.size, 2, none⟩ = some (.int .i64 t) := hm9.cell 2
      have m3 : w9.cell? ⟨w.heap.size, 3, none⟩ = some (.int .i64 i) := hm9.cell 3
      have m4 : w9.cell? ⟨w.heap.size, 4, none⟩ = some (.int .i64 q) := hm9.cell 4
      have m5 : w9.cell? ⟨w.heap.size, 5, none⟩ = some (.int .i64 s.d) := hm9.cell 5
      have m6 : w9.cell? ⟨w.heap.size, 6, none⟩ = some (.int .i64 s.e) := hm9.cell 6
      have m7 : w9.cell? ⟨w.heap.size, 7, none⟩ = some (.int .i64 s.a) := hm9.cell 7
      have m8 : w9.cell? ⟨w.heap.size, 8, none⟩ = some (.int .i64 s.b) := hm9.cell 8
      have m9 : w9.cell? ⟨w.heap.size, 9, none⟩ = some (.int .i64 s.c) := hm9.cell 9
      have m10 : w9.cell? ⟨w.heap.size, 10, none⟩ = some (.slice A9 L.length c9) := hm9.cell 10
      have m11 : w9.cell? ⟨w.heap.size, 11, none⟩ = some (.slice none 0 0) := hm9.cell 11
      have fm := fun o => hm9.frozen o
      have q0 : w9.cell? ⟨w.heap.size + 1, 0, none⟩ = some (.int .i64 0) := S9.out.res.q.cell 0
      have fq := S9.out.res.q.frozen 0
      clear hm9 hb8
      by_cases hl0 : ys.length = 0
      · have e1 : decide ((ys.length : Int) = 0) = true := decide_eq_true (by omega)
        have e2 : ((ys.length : Int) == 0) = true := beq_iff_eq.2 (by omega)
        have HL0 := Lib.hid hl0
        have HC := Lib.hid (show Calls Try.prog 23 #[.agg #[.int .u8 1, .int .i64 f, .int .i64 t, .int .i64 i, .int .i64 q, .int .i64 s.d, .int .i64 s.e, .int .i64 s.a, .int .i64 s.b, .int .i64 s.c, .slice A9 L.length c9, .slice none 0 0]] w9 (Gives (.bool (mayB (⟨1, f, t, i, q, s, L, []⟩ : Msg))) w9) from may_any (⟨1, f, t, i, q, s, L, []⟩ : Msg) A9 none c9 0 w9 (HMG.out w9 (Fr.refl _ _)))
        obtain ⟨mb, hmb⟩ : ∃ b, b = mayB (⟨1, f, t, i, q, s, L, []⟩ : Msg) := ⟨_, rfl⟩
        rw [← hmb] at HC
        have HMB := Lib.hid hmb
        clear hl0 hmb
        go_wp2_with fail
        refine HC.out.mono ?_
        rintro e w10 ⟨rfl, hb10⟩
        have HF10 := Lib.hid (Fr.of_below (S := fun b => b = w.heap.size + 1 + 1) hb10)
        have S10 := Lib.hid (S9.out.fr HF10.out (S9.out.rb.below hb10))
        have HMG10 := Lib.hid (fun W (hf : Fr (fun b => b ≤ w.heap.size + 1 + 1 + 1) w10 W) => HMG.out W ((Fr.of_below hb10).trans hf (fun _ _ h => h)))
        clear cv cr m0 m1 m2 m3 m4 m5 m6 m7 m8 m9 m10 m11 fm q0 fq HMG HC hb10
        cases mb with
        | false =>
          have HOUT := Lib.hid (S9.out.out HF10.out)
          clear S10 S9
          go_wp2_with fail
          refine (WN.out _).mono ?_
          rintro e w11 ⟨rfl, rfl⟩
          exact thrown (by omega) ⟨by omega, by omega⟩ _ rfl rfl HOUT.out.1 HOUT.out.2 (by unfold getM; rw [HPF.out]; dsimp only; rw [if_neg (fun h => by rw [← HMB.out] at h; cases h.2)])
        | true =>
          have hm10 := S10.out.res.m
          have m0 : w10.cell? ⟨w.heap.size, 0, none⟩ = some (.int .u8 1) := hm10.cell 0
          have m1 : w10.cell? ⟨w.heap.size, 1, none⟩ = some (.int .i64 f) := hm10.cell 1
          have m2 : w10.cell? ⟨w.heap.size, 2, none⟩ = some (.int .i64 t) := hm10.cell 2
          have m3 : w10.cell? ⟨w.heap.size, 3, none⟩ = some (.int .i64 i) := hm10.cell 3
          have m4 : w10.cell? ⟨w.heap.size, 4, none⟩ = some (.int .i64 q) := hm10.cell 4
          have m5 : w10.cell? ⟨w.heap.size, 5, none⟩ = some (.int .i64 s.d) := hm10.cell 5
          have m6 : w10.cell? ⟨w.heap.size, 6, none⟩ = some (.int .i64 s.e) := hm10.cell 6
          have m7 : w10.cell? ⟨w.heap.size, 7, none⟩ = some (.int .i64 s.a) := hm10.cell 7
          have m8 : w10.cell? ⟨w.heap.size, 8, none⟩ = some (.int .i64 s.b) := hm10.cell 8
          have m9 : w10.cell? ⟨w.heap.size, 9, none⟩ = some (.int .i64 s.c) := hm10.cell 9
          have m10 : w10.cell? ⟨w.heap.size, 10, none⟩ = some (.slice A9 L.length c9) := hm10.cell 10
          have m11 : w10.cell? ⟨w.heap.size, 11, none⟩ = some (.slice none 0 0) := hm10.cell 11
          have fm := fun o => hm10.frozen o
          have q0 : w10.cell? ⟨w.heap.size + 1, 0, none⟩ = some (.int .i64 0) := S10.out.res.q.cell 0
          have fq := S10.out.res.q.frozen 0
          clear hm10 S9
          go_wp2_with fail
          refine (WY.out _).mono ?_
          rintro e w11 ⟨rfl, hw11⟩
          subst hw11
          go_wp2_with fail
          obtain ⟨hM, hf⟩ := set12 S10.out.res.m (.int .u8 1) (.int .i64 f) (.int .i64 t) (.int .i64 i) (.int .i64 q) (.int .i64 s.d) (.int .i64 s.e) (.int .i64 s.a) (.int .i64 s.b) (.int .i64 s.c) (.slice A9 L.length c9) (.slice none 0 0)
          have hne : (⟨w.heap.size + 1, 0, none⟩ : Addr).block ≠ w.heap.size := by dsimp only; omega
          have hRes : Res ((sets12 w10 w.heap.size (.int .u8 1) (.int .i64 f) (.int .i64 t) (.int .i64 i) (.int .i64 q) (.int .i64 s.d) (.int .i64 s.e) (.int .i64 s.a) (.int .i64 s.b) (.int .i64 s.c) (.slice A9 L.length c9) (.slice none 0 0)).setCell ⟨w.heap.size + 1, 0, none⟩ (.int .i64 0)) w.heap.size (w.heap.size + 1) (((⟨1, f, t, i, q, s, L, []⟩ : Msg)).cs A9 c9 none 0) 0 :=
            ⟨hM.other _ _ hne, (S10.out.res.q.fr hf (by omega)).set 0 _⟩
          have hF2 := (hf.mono (S' := fun b => b = w.heap.size ∨ b = w.heap.size + 1) (fun _ _ h => .inl h)).set (p := ⟨w.heap.size + 1, 0, none⟩) (fun _ => .inr rfl) (.int .i64 0)
          have hB2 := S10.out.b.trans (hF2.below S10.out.b.size (fun k hk h => by rcases h with h | h <;> omega))
          have hG2 := HMG10.out _ (hF2.mono (fun _ _ h => by rcases h with h | h <;> omega))
          exact ended _ rfl rfl hRes hB2 hG2 (by unfold getM; rw [HPF.out]; dsimp only; rw [if_pos ⟨HL0.out, HMB.out.symm⟩])
      · have e1 : decide ((ys.length : Int) = 0) = false := decide_eq_false (by omega)
        have e2 : ((ys.length : Int) == 0) = false := by rw [beq_eq_false_iff_ne]; omega
        have HL0 := Lib.hid hl0
        have HOUT := Lib.hid (S9.out.out (Fr.refl _ _))
        clear hl0
        go_wp2_with fail
        refine (WN.out _).mono ?_
        rintro e w11 ⟨rfl, rfl⟩
        exact thrown (by omega) ⟨by omega, by omega⟩ _ rfl rfl HOUT.out.1 HOUT.out.2 (by unfold getM; rw [HPF.out]; dsimp only; rw [if_neg (fun h => HL0.out h.1)])
  · have d1 : decide (k = 1) = false := decide_eq_false hk1
    rw [if_neg hk1] at HP1
    have d2 : (k == 1) = false := by rw [beq_eq_false_iff_ne]; exact hk1
    have HR := Lib.hid (rowof3_any (w.heap.size + 1 + 1 + 1) (w.heap.size + 1 + 1) y1 _ S2.out.v (by omega) S2.out.rb)
    go_wp2_with fail
    refine HR.out.mono ?_
    rintro e w7 hn
    have S7o := Lib.hid (S2.out.out hn.2.2)
    cases hrow : rowN rd3 y1 with
    | none =>
      have hp := hn.2.1 hrow
      unfold Pan at hp
      subst hp
      exact thrown (by omega) ⟨by omega, by omega⟩ _ rfl rfl S7o.out.1 S7o.out.2 (getM_none (by rw [HP1.out]; unfold parseP; rw [hrow]))
    | some p =>
      obtain ⟨U, ys⟩ := p
      obtain ⟨v, rfl, hown, hr⟩ := hn.1 U ys hrow
      have S7 := Lib.hid (S2.out.fr hn.2.2 hr)
      have HUL := Lib.hid (rowN_len hrow)
      obtain ⟨B9, d9, rfl, _⟩ := own_upds hown (by have := HUL.out; omega)
      have HBS := Lib.hid S2.out.v.lt
      have HPF := Lib.hid (show parseM xs = some (⟨k, 0, 0, 0, 0, T0, [], U⟩, ys) by rw [HP1.out]; unfold parseP; rw [hrow])
      have HOW := Lib.hid hown
      clear hn hr hown S2 HR HP1 hrow S7o
      have c11 : w7.cell? ⟨w.heap.size, 11, none⟩ = some (.slice none 0 0) := S7.out.res.m.cell 11
      have f11 := S7.out.res.m.frozen 11
      have S9 := Lib.hid (S7.out.set 11 (.slice B9 U.length d9) (k' := k) (f' := 0) (t' := 0) (i' := 0) (q' := 0) (s' := T0) (lv' := .slice none 0 0) (uv' := .slice B9 U.length d9) rfl)
      have HFW := Lib.hid ((Fr.refl (fun b => b ≤ w.heap.size + 1 + 1 + 1) w7).set (p := ⟨w.heap.size, 11, none⟩) (fun _ => by dsimp only; omega) (.slice B9 U.length d9))
      have HMG := Lib.hid (fun W (hf : Fr (fun b => b ≤ w.heap.size + 1 + 1 + 1) (w7.setCell ⟨w.heap.size, 11, none⟩ (.slice B9 U.length d9)) W) => (mg_upd k U B9 d9 W (own_beyond HOW.out (HFW.out.trans hf (fun _ _ h => h)) (fun k hk => by have := HBS.out; omega)) (by have := HUL.out; omega) : Mg W ⟨k, 0, 0, 0, 0, T0, [], U⟩ none 0 B9 d9))
      clear S7 HFW HOW
      have c4 : (w7.setCell ⟨w.heap.size, 11, none⟩ (.slice B9 U.length d9)).cell? ⟨w.heap.size + 1 + 1 + 1, 0, none⟩ = some (.pointer (some ⟨w.heap.size + 1 + 1, 0, none⟩)) := S9.out.v.cell 0
      go_upto_region 9 with fail
      generalize (w7.setCell ⟨w.heap.size, 11, none⟩ (.slice B9 U.length d9)) = w9 at *
      obtain ⟨⟨A8, c8, hb8, _, _⟩, _⟩ := S9.out.rb
      have cv : w9.cell? ⟨w.heap.size + 1 + 1 + 1, 0, none⟩ = some (.pointer (some ⟨w.heap.size + 1 + 1, 0, none⟩)) := S9.out.v.cell 0
      have cr : w9.cell? ⟨w.heap.size + 1 + 1, 0, none⟩ = some (.slice A8 ys.length c8) := hb8.cell 0
      have hm9 := S9.out.res.m
      have m0 : w9.cell? ⟨w.heap.size, 0, none⟩ = some (.int .u8 k) := hm9.cell 0
      have m1 : w9.cell? ⟨w.heap.size, 1, none⟩ = some (.int .i64 0) := hm9.cell 1
      have m2 : w9.cell? ⟨w.heap.size, 2, none⟩ = some (.int .i64 0) := hm9.cell 2
      have m3 : w9.cell? ⟨w.heap.size, 3, none⟩ = some (.int .i64 0) := hm9.cell 3
      have m4 : w9.cell? ⟨w.heap.size, 4, none⟩ = some (.int .i64 0) := hm9.cell 4
      have m5 : w9.cell? ⟨w.heap.size, 5, none⟩ = some (.int .i64 T0.d) := hm9.cell 5
      have m6 : w9.cell? ⟨w.heap.size, 6, none⟩ = some (.int .i64 T0.e) := hm9.cell 6
      have m7 : w9.cell? ⟨w.heap.size, 7, none⟩ = some (.int .i64 T0.a) := hm9.cell 7
      have m8 : w9.cell? ⟨w.heap.size, 8, none⟩ = some (.int .i64 T0.b) := hm9.cell 8
      have m9 : w9.cell? ⟨w.heap.size, 9, none⟩ = some (.int .i64 T0.c) := hm9.cell 9
      have m10 : w9.cell? ⟨w.heap.size, 10, none⟩ = some (.slice none 0 0) := hm9.cell 10
      have m11 : w9.cell? ⟨w.heap.size, 11, none⟩ = some (.slice B9 U.length d9) := hm9.cell 11
      have fm := fun o => hm9.frozen o
      have q0 : w9.cell? ⟨w.heap.size + 1, 0, none⟩ = some (.int .i64 0) := S9.out.res.q.cell 0
      have fq := S9.out.res.q.frozen 0
      clear hm9 hb8
      by_cases hl0 : ys.length = 0
      · have e1 : decide ((ys.length : Int) = 0) = true := decide_eq_true (by omega)
        have e2 : ((ys.length : Int) == 0) = true := beq_iff_eq.2 (by omega)
        have HL0 := Lib.hid hl0
        have HC := Lib.hid (show Calls Try.prog 23 #[.agg #[.int .u8 k, .int .i64 0, .int .i64 0, .int .i64 0, .int .i64 0, .int .i64 T0.d, .int .i64 T0.e, .int .i64 T0.a, .int .i64 T0.b, .int .i64 T0.c, .slice none 0 0, .slice B9 U.length d9]] w9 (Gives (.bool (mayB (⟨k, 0, 0, 0, 0, T0, [], U⟩ : Msg))) w9) from may_any (⟨k, 0, 0, 0, 0, T0, [], U⟩ : Msg) none B9 0 d9 w9 (HMG.out w9 (Fr.refl _ _)))
        obtain ⟨mb, hmb⟩ : ∃ b, b = mayB (⟨k, 0, 0, 0, 0, T0, [], U⟩ : Msg) := ⟨_, rfl⟩
        rw [← hmb] at HC
        have HMB := Lib.hid hmb
        clear hl0 hmb
        go_wp2_with fail
        refine HC.out.mono ?_
        rintro e w10 ⟨rfl, hb10⟩
        have HF10 := Lib.hid (Fr.of_below (S := fun b => b = w.heap.size + 1 + 1) hb10)
        have S10 := Lib.hid (S9.out.fr HF10.out (S9.out.rb.below hb10))
        have HMG10 := Lib.hid (fun W (hf : Fr (fun b => b ≤ w.heap.size + 1 + 1 + 1) w10 W) => HMG.out W ((Fr.of_below hb10).trans hf (fun _ _ h => h)))
        clear cv cr m0 m1 m2 m3 m4 m5 m6 m7 m8 m9 m10 m11 fm q0 fq HMG HC hb10
        cases mb with
        | false =>
          have HOUT := Lib.hid (S9.out.out HF10.out)
          clear S10 S9
          go_wp2_with fail
          refine (WN.out _).mono ?_
          rintro e w11 ⟨rfl, rfl⟩
          exact thrown (by omega) ⟨by omega, by omega⟩ _ rfl rfl HOUT.out.1 HOUT.out.2 (by unfold getM; rw [HPF.out]; dsimp only; rw [if_neg (fun h => by rw [← HMB.out] at h; cases h.2)])
        | true =>
          have hm10 := S10.out.res.m
          have m0 : w10.cell? ⟨w.heap.size, 0, none⟩ = some (.int .u8 k) := hm10.cell 0
          have m1 : w10.cell? ⟨w.heap.size, 1, none⟩ = some (.int .i64 0) := hm10.cell 1
          have m2 : w10.cell? ⟨w.heap.size, 2, none⟩ = some (.int .i64 0) := hm10.cell 2
          have m3 : w10.cell? ⟨w.heap.size, 3, none⟩ = some (.int .i64 0) := hm10.cell 3
          have m4 : w10.cell? ⟨w.heap.size, 4, none⟩ = some (.int .i64 0) := hm10.cell 4
          have m5 : w10.cell? ⟨w.heap.size, 5, none⟩ = some (.int .i64 T0.d) := hm10.cell 5
          have m6 : w10.cell? ⟨w.heap.size, 6, none⟩ = some (.int .i64 T0.e) := hm10.cell 6
          have m7 : w10.cell? ⟨w.heap.size, 7, none⟩ = some (.int .i64 T0.a) := hm10.cell 7
          have m8 : w10.cell? ⟨w.heap.size, 8, none⟩ = some (.int .i64 T0.b) := hm10.cell 8
          have m9 : w10.cell? ⟨w.heap.size, 9, none⟩ = some (.int .i64 T0.c) := hm10.cell 9
          have m10 : w10.cell? ⟨w.heap.size, 10, none⟩ = some (.slice none 0 0) := hm10.cell 10
          have m11 : w10.cell? ⟨w.heap.size, 11, none⟩ = some (.slice B9 U.length d9) := hm10.cell 11
          have fm := fun o => hm10.frozen o
          have q0 : w10.cell? ⟨w.heap.size + 1, 0, none⟩ = some (.int .i64 0) := S10.out.res.q.cell 0
          have fq := S10.out.res.q.frozen 0
          clear hm10 S9
          go_wp2_with fail
          refine (WY.out _).mono ?_
          rintro e w11 ⟨rfl, hw11⟩
          subst hw11
          go_wp2_with fail
          obtain ⟨hM, hf⟩ := set12 S10.out.res.m (.int .u8 k) (.int .i64 0) (.int .i64 0) (.int .i64 0) (.int .i64 0) (.int .i64 T0.d) (.int .i64 T0.e) (.int .i64 T0.a) (.int .i64 T0.b) (.int .i64 T0.c) (.slice none 0 0) (.slice B9 U.length d9)
          have hne : (⟨w.heap.size + 1, 0, none⟩ : Addr).block ≠ w.heap.size := by dsimp only; omega
          have hRes : Res ((sets12 w10 w.heap.size (.int .u8 k) (.int .i64 0) (.int .i64 0) (.int .i64 0) (.int .i64 0) (.int .i64 T0.d) (.int .i64 T0.e) (.int .i64 T0.a) (.int .i64 T0.b) (.int .i64 T0.c) (.slice none 0 0) (.slice B9 U.length d9)).setCell ⟨w.heap.size + 1, 0, none⟩ (.int .i64 0)) w.heap.size (w.heap.size + 1) (((⟨k, 0, 0, 0, 0, T0, [], U⟩ : Msg)).cs none 0 B9 d9) 0 :=
            ⟨hM.other _ _ hne, (S10.out.res.q.fr hf (by omega)).set 0 _⟩
          have hF2 := (hf.mono (S' := fun b => b = w.heap.size ∨ b = w.heap.size + 1) (fun _ _ h => .inl h)).set (p := ⟨w.heap.size + 1, 0, none⟩) (fun _ => .inr rfl) (.int .i64 0)
          have hB2 := S10.out.b.trans (hF2.below S10.out.b.size (fun k hk h => by rcases h with h | h <;> omega))
          have hG2 := HMG10.out _ (hF2.mono (fun _ _ h => by rcases h with h | h <;> omega))
          exact ended _ rfl rfl hRes hB2 hG2 (by unfold getM; rw [HPF.out]; dsimp only; rw [if_pos ⟨HL0.out, HMB.out.symm⟩])
      · have e1 : decide ((ys.length : Int) = 0) = false := decide_eq_false (by omega)
        have e2 : ((ys.length : Int) == 0) = false := by rw [beq_eq_false_iff_ne]; omega
        have HL0 := Lib.hid hl0
        have HOUT := Lib.hid (S9.out.out (Fr.refl _ _))
        clear hl0
        go_wp2_with fail
        refine (WN.out _).mono ?_
        rintro e w11 ⟨rfl, rfl⟩
        exact thrown (by omega) ⟨by omega, by omega⟩ _ rfl rfl HOUT.out.1 HOUT.out.2 (by unfold getM; rw [HPF.out]; dsimp only; rw [if_neg (fun h => HL0.out h.1)])
end Go.Proofs.Yteiohcgohgcjfaa
