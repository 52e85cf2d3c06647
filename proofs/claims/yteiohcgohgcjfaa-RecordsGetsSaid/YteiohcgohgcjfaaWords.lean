/- Words on worlds that grow, slices that are read, rows that are owned: of whatever program. -/
import Derived.WalkKit
import Derived.WalkSpells
import Derived.WalkLawsBesides
import Derived.Lib.Hide
import Derived.Shelf.Abstract
import Derived.WalkSmall
import Derived.Deep.QuietTactic
import Derived.BigQuiet
import Derived.Deep.RegionHeld3
import Derived.Deep.AppendLies
import Derived.StillTailTactics
import Derived.Maps.AppendAt
import Derived.Deep.LoopGhost
import Derived.Deep.DeepCutAuto
namespace Go.Proofs.Tail
open Go.RowKit

theorem below_cell {w w' : World} (h : Below w.heap.size w w') {a : Addr} {v : Value} (hc : w.cell? a = some v) : w'.cell? a = some v :=
  (h.cell (World.block_lt_of_cell? w a hc)).trans hc
theorem below_lt {w : World} {b o : Nat} {v : Value} (h : w.cell? ⟨b, o, none⟩ = some v) : b < w.heap.size := World.block_lt_of_cell? w _ h
theorem below_then {w w1 w2 : World} (h : Below w.heap.size w w1) (k : Below w1.heap.size w1 w2) : Below w.heap.size w w2 :=
  h.trans (k.mono h.size)
theorem below_drew {w w1 : World} (h : Below w.heap.size w w1) : Below w.heap.size w w1.drew := h.drew
theorem below_alloc {w w1 : World} (h : Below w.heap.size w w1) (o : Obj) : Below w.heap.size w (w1.alloc o) := h.alloc h.size o
theorem below_new (w : World) (o : Obj) : Below w.heap.size w (w.alloc o) := (Below.refl _ _).alloc (Nat.le_refl _) o
theorem below_grown {w w1 w2 : World} (h : Below w.heap.size w w1) {row : Option Nat} (hg : w1.grownBy w2 row) (hr : ∀ k, row = some k → w.heap.size ≤ k) : Below w.heap.size w w2 :=
  h.grown hg h.size hr
theorem ret_int {k : IntKind} {a b : Int} (h : a = b) : Ending.returned (.int k a) = .returned (.int k b) := by rw [h]
theorem ret_bool {a b : Bool} (h : a = b) : Ending.returned (.bool a) = .returned (.bool b) := by rw [h]

/-- What a call hands back; nothing old has turned. -/
def Gives (v : Value) (w : World) (e : Ending) (w' : World) : Prop := e = .returned v ∧ Below w.heap.size w w'
/-- What a call hands back; the world is as it was. -/
def Tells (v : Value) (w : World) (e : Ending) (w' : World) : Prop := e = .returned v ∧ w = w'
/-- A bool, of which something is known. -/
def GivesB (Q : Bool → Prop) (w : World) (e : Ending) (w' : World) : Prop := ∃ b, e = .returned (.bool b) ∧ Q b ∧ Below w.heap.size w w'
/-- A number, of which something is known. -/
def GivesI (Q : Int → Prop) (w : World) (e : Ending) (w' : World) : Prop := ∃ i, e = .returned (.int .i64 i) ∧ Q i ∧ Below w.heap.size w w'
theorem Gives.mk {v v' : Value} {w w' : World} (h : v = v') (hb : Below w.heap.size w w') : Gives v' w (.returned v) w' := ⟨by rw [h], hb⟩
theorem Gives.bool {a b : Bool} {w w' : World} (h : a = b) (hb : Below w.heap.size w w') : Gives (.bool b) w (.returned (.bool a)) w' := ⟨by rw [h], hb⟩
theorem Gives.int {k : IntKind} {a b : Int} {w w' : World} (h : a = b) (hb : Below w.heap.size w w') : Gives (.int k b) w (.returned (.int k a)) w' := ⟨by rw [h], hb⟩
theorem Tells.bool {a b : Bool} {w : World} (h : a = b) : Tells (.bool b) w (.returned (.bool a)) w := ⟨by rw [h], rfl⟩
theorem Tells.int {k : IntKind} {a b : Int} {w : World} (h : a = b) : Tells (.int k b) w (.returned (.int k a)) w := ⟨by rw [h], rfl⟩

/-- A reading of elements that lives on where nothing old has turned. -/
def Stays {α : Type} (R : World → Nat → Nat → α → Prop) : Prop := ∀ w w' b o x, Below w.heap.size w w' → R w b o x → R w' b o x

/-- A slice that is read: element x, of k cells, from (b, o) on, as R says. -/
structure Rd {α : Type} (k : Nat) (R : World → Nat → Nat → α → Prop) (w : World) (A : Option Addr) (n c : Nat) (xs : List α) : Prop where
  len : xs.length = n
  cap : n ≤ c
  big : n ≤ 9223372036854775807
  at_ : 0 < n → ∃ b off, A = some ⟨b, off, none⟩ ∧ ∀ j x, xs[j]? = some x → R w b (off + j * k) x
theorem Rd.below {α : Type} {k : Nat} {R : World → Nat → Nat → α → Prop} (hs : Stays R) {w w' : World} (hb : Below w.heap.size w w') {A : Option Addr} {n c : Nat} {xs : List α} (h : Rd k R w A n c xs) : Rd k R w' A n c xs :=
  ⟨h.len, h.cap, h.big, fun hn => by
    obtain ⟨b, off, rfl, hc⟩ := h.at_ hn
    exact ⟨b, off, rfl, fun j x hj => hs _ _ _ _ _ hb (hc j x hj)⟩⟩
/-- Element j, in one word. -/
theorem Rd.elem {α : Type} {k : Nat} {R : World → Nat → Nat → α → Prop} {w : World} {A : Option Addr} {n c : Nat} {xs : List α} (h : Rd k R w A n c xs) {j : Nat} (hj : j < n) :
    ∃ b off x, A = some ⟨b, off, none⟩ ∧ xs[j]? = some x ∧ R w b (off + j * k) x := by
  obtain ⟨b, off, rfl, hc⟩ := h.at_ (by omega)
  have hx : j < xs.length := by rw [h.len]; exact hj
  exact ⟨b, off, xs[j], rfl, List.getElem?_eq_getElem hx, hc j _ (List.getElem?_eq_getElem hx)⟩
theorem Rd.nil {α : Type} (k : Nat) (R : World → Nat → Nat → α → Prop) (w : World) : Rd k R w Option.none 0 0 [] := ⟨rfl, Nat.le_refl _, by omega, fun h => absurd h (Nat.lt_irrefl _)⟩
def RInt (w : World) (b o : Nat) (x : Int) : Prop := w.cell? ⟨b, o, none⟩ = some (.int .i64 x)
theorem RInt.stays : Stays RInt := fun _ _ _ _ _ hb h => below_cell hb h
/-- Ints that are read. -/
abbrev Ints (w : World) (A : Option Addr) (n c : Nat) (xs : List Int) : Prop := Rd 1 RInt w A n c xs
theorem Rd.int {w : World} {A : Option Addr} {n c : Nat} {xs : List Int} (h : Ints w A n c xs) {j : Nat} (hj : j < n) :
    ∃ b off, A = some ⟨b, off, none⟩ ∧ w.cell? ⟨b, off + j, none⟩ = some (.int .i64 (xs.getD j 0)) := by
  obtain ⟨b, off, x, rfl, hx, hr⟩ := Rd.elem h hj
  refine ⟨b, off, rfl, ?_⟩
  unfold RInt at hr
  rw [Nat.mul_one] at hr
  rw [hr, List.getD_eq_getElem?_getD, hx]
  rfl
def ints (xs : List Int) : List Value := xs.map (Value.int .i64)
theorem ints_length (xs : List Int) : (ints xs).length = xs.length := by simp [ints]
theorem ints_get (xs : List Int) (j : Nat) (h : j < xs.length) : (ints xs)[j]? = some (.int .i64 (xs.getD j 0)) := by
  simp [ints, List.getD_eq_getElem?_getD, List.getElem?_eq_getElem h]
theorem add_plain (g j : Nat) : (⟨g, 0, none⟩ : Addr).add j = ⟨g, j, none⟩ := by unfold Addr.add; split <;> simp_all
/-- A row of ints of one's own is read. -/
theorem own_ints {w : World} {base n : Nat} {e : TypeId} {v : Value} {xs : List Int} (h : w.ownsRow base e 1 v n (ints xs)) (hb : n ≤ 9223372036854775807) : ∃ A c, v = .slice A n c ∧ Ints w A n c xs := by
  have hl : xs.length = n := by have := h.1; simp [ints] at this; exact this
  rcases h.2 with ⟨rfl, rfl⟩ | ⟨g, cap, cur, rfl, hbg, hh, hnc, hcm, hcs, ht⟩
  · refine ⟨.none, 0, rfl, hl, Nat.le_refl _, hb, fun hp => absurd hp (by omega)⟩
  · refine ⟨_, cap, rfl, hl, hnc, hb, fun hp => ⟨g, 0, rfl, fun j x hj => ?_⟩⟩
    have hj' : j < xs.length := (List.getElem?_eq_some_iff.1 hj).1
    have := h.cells (g := g) rfl j (.int .i64 x) (by simp [ints, hj])
    rw [add_plain] at this
    show w.cell? _ = _
    rw [Nat.mul_one, Nat.zero_add]
    exact this
theorem own_lt {w : World} {base : Nat} {e : TypeId} {size n : Nat} {v : Value} {xs : List Value} (h : w.ownsRow base e size v n xs) (k : Nat) (hk : v.ownBlock = some k) : base ≤ k := (h.lt k hk).1
theorem own_below {w w1 : World} {base : Nat} {e : TypeId} {size n : Nat} {v : Value} {xs : List Value} (h : w.ownsRow base e size v n xs) (hb : Below w.heap.size w w1) : w1.ownsRow base e size v n xs :=
  h.kept ⟨hb.os, hb.tape, hb.output, hb.size, fun k hk _ => hb.block k hk⟩ (by cases v.ownBlock <;> simp) (row := .none)
theorem own_base {w : World} {base base' : Nat} {e : TypeId} {size n : Nat} {v : Value} {xs : List Value} (h : w.ownsRow base e size v n xs) (hb : base' ≤ base) : w.ownsRow base' e size v n xs := by
  refine ⟨h.1, ?_⟩
  rcases h.2 with h2 | ⟨g, cap, cur, hv, hg, r⟩
  · exact .inl h2
  · exact .inr ⟨g, cap, cur, hv, Nat.le_trans hb hg, r⟩
/-- v[i] = x in a row of one's own. -/
theorem own_set {w : World} {base g n cap : Nat} {e : TypeId} {xs : List Int} (h : w.ownsRow base e 1 (.slice (some ⟨g, 0, none⟩) n cap) n (ints xs)) (i : Nat) (x : Int) :
    (w.setCell ⟨g, i, none⟩ (.int .i64 x)).ownsRow base e 1 (.slice (some ⟨g, 0, none⟩) n cap) n (ints (xs.set i x)) ∧ w.grownBy (w.setCell ⟨g, i, none⟩ (.int .i64 x)) (some g) := by
  have hs := h.stored i (.int .i64 x)
  have he : (ints xs).set i (.int .i64 x) = ints (xs.set i x) := by simp [ints, List.map_set]
  rwa [he] at hs
theorem own_form {w : World} {base n : Nat} {e : TypeId} {size : Nat} {v : Value} {xs : List Value} (h : w.ownsRow base e size v n xs) (hn : 0 < n) :
    ∃ g cap, v = .slice (some ⟨g, 0, none⟩) n cap ∧ base ≤ g ∧ g < w.heap.size ∧ n ≤ cap := by
  rcases h.2 with ⟨_, h0⟩ | ⟨g, cap, cur, rfl, hbg, hh, hnc, _⟩
  · omega
  · exact ⟨g, cap, rfl, hbg, (Array.getElem?_eq_some_iff.1 hh).1, hnc⟩
theorem own_cell {w : World} {base g n cap : Nat} {e : TypeId} {xs : List Int} (h : w.ownsRow base e 1 (.slice (some ⟨g, 0, none⟩) n cap) n (ints xs)) {i : Nat} (hi : i < n) :
    w.cell? ⟨g, i, none⟩ = some (.int .i64 (xs.getD i 0)) ∧ w.frozen? ⟨g, i, none⟩ = false := by
  have hl : xs.length = n := by have := h.1; simp [ints] at this; exact this
  constructor
  · have hc := h.cells (g := g) rfl i _ (ints_get xs i (by omega))
    rwa [add_plain] at hc
  · rcases h.2 with ⟨h', _⟩ | ⟨g', cap', cur, h', _, hh, _⟩
    · cases h'
    · have : g = g' := by injection h' with h'; injection h' with h'; injection h' with h'
      subst this
      simp [World.frozen?, hh]

/-! append onto a row of one's own. -/
section
variable {P : Program} {ops : Array Oper} {rest : List Oper} {o : Oper} {a : Act} {Q : Exit → Act → World → Prop}
theorem own_append {W : World} (hgd : o.guard = none) (s x : Operand) (t e : TypeId) (z : Value) (size bytes : Nat)
    (ho : o.op = .call { callee := .builtin .append, args := #[s, x], argTypes := #[t, t] })
    (ht : P.underlying t = some (.slice e)) (hinfo : (P.info? e).map (fun i => (i.zero, i.size, i.bytes)) = some (some z, size, bytes)) (hzs : z.cells.size = size) (hsz : 0 < size) (hb0 : 0 < bytes)
    (base : Nat) (v : Value) (n : Nat) (xs : List Value) (A : Option Addr) (m c : Nat) (news : List Value) (hs : a.eval s = v) (hx : a.eval x = .slice A m c)
    (HO : W.ownsRow base e size v n xs) (hl : news.length = m * size) (hsrc : 0 < m → ∃ ad, A = some ad ∧ ∀ j u, news[j]? = some u → W.cell? (ad.add j) = some u)
    (h1c : ∀ u ∈ news, u.oneCell' = true) (hlim : (n + m) * bytes ≤ 140737488355328) (hbase : base ≤ W.heap.size)
    (h : ∀ v1 w1, w1.ownsRow base e size v1 (n + m) (xs ++ news) → W.grownBy w1 v.ownBlock → (v1.ownBlock = v.ownBlock ∨ v1.ownBlock = some W.heap.size) → wpList P ops Q rest (a.put o.dst v1) w1) :
    wpList P ops Q (o :: rest) a W := by
  obtain ⟨i0, hi, hzz⟩ := Option.map_eq_some_iff.1 hinfo
  simp only [Prod.mk.injEq] at hzz
  obtain ⟨hz0, hz1, hz2⟩ := hzz
  have hlen : n + m ≤ 140737488355328 := Nat.le_trans (Nat.le_mul_of_pos_right _ hb0) hlim
  have hrun : ∃ v1 w1, (Builtin.append_ #[t, t] o.type #[v, .slice A m c]).run P W = .ok v1 w1 ∧ w1.ownsRow base e size v1 (n + m) (xs ++ news) ∧ W.grownBy w1 v.ownBlock ∧ (v1.ownBlock = v.ownBlock ∨ v1.ownBlock = some W.heap.size) := by
    rcases A with _ | ad
    · have h0 : m = 0 := by
        rcases Nat.eq_zero_or_pos m with h0 | h0
        · exact h0
        · obtain ⟨ad, h, _⟩ := hsrc h0
          cases h
      subst h0
      obtain rfl : news = [] := List.eq_nil_of_length_eq_zero (by simpa using hl)
      refine ⟨v, W, ?_, by simpa using HO, World.grownBy.refl W _, .inl rfl⟩
      rcases HO.2 with ⟨rfl, hn⟩ | ⟨g, cap, cur, rfl, _, _, hnc, _⟩
      · simp [Builtin.append_, run_underlying ht, sizeOf, typeInfo, hi, Builtin.lenOf, Builtin.firstCells]
      · simp [Builtin.append_, run_underlying ht, sizeOf, typeInfo, hi, Builtin.lenOf, Builtin.firstCells, hnc, storeCells]
    · have hcells : ∀ j u, news[j]? = some u → W.cell? (ad.add j) = some u := by
        intro j u hu
        have hj : j < news.length := (List.getElem?_eq_some_iff.1 hu).1
        obtain ⟨ad', h', hc⟩ := hsrc (by
          rcases Nat.eq_zero_or_pos m with h0 | h0
          · subst h0; simp at hl; subst hl; simp at hj
          · exact h0)
        injection h' with h'
        subst h'
        exact hc j u hu
      obtain ⟨v1, w1, hr, h2, h3, _, h5⟩ := run_append_own_at (P := P) W base t o.type e i0 z size bytes ht hi hz0 hz1 hz2 hzs hsz v n xs HO ad m c news hl hcells
        h1c (by simp only [maxLen]; omega) hlim hbase
      exact ⟨v1, w1, hr, h2, h3, h5⟩
  obtain ⟨v1, w1, hr, hown, hg, hat⟩ := hrun
  refine wpList_plain hgd fun K hK => ?_
  unfold Oper.wp execOp
  simp only [ho, resolve, invoke, builtin, Sem.run_bind, Sem.run_pure, Result.andThen_ok, List.map_toArray, List.map_cons, List.map_nil, hs, hx, hr]
  exact hK _ _ (h v1 w1 hown hg hat)
theorem ints_one (xs : List Int) : ∀ u ∈ ints xs, u.oneCell' = true := by
  intro u hu; simp only [ints, List.mem_map] at hu; obtain ⟨q, _, rfl⟩ := hu; rfl
theorem Rd.src {W : World} {A : Option Addr} {m c : Nat} {ys : List Int} (h : Ints W A m c ys) : 0 < m → ∃ ad, A = some ad ∧ ∀ j u, (ints ys)[j]? = some u → W.cell? (ad.add j) = some u := by
  intro hm
  obtain ⟨b, off, rfl, hc⟩ := h.at_ hm
  refine ⟨_, rfl, fun j u hu => ?_⟩
  have hj : j < ys.length := by have := (List.getElem?_eq_some_iff.1 hu).1; simpa [ints] using this
  have := hc j ys[j] (List.getElem?_eq_getElem hj)
  unfold RInt at this
  rw [Nat.mul_one] at this
  have ha : (⟨b, off, Option.none⟩ : Addr).add j = ⟨b, off + j, Option.none⟩ := by unfold Addr.add; split <;> simp_all
  rw [ha, this]
  simpa [ints, List.getElem?_eq_getElem hj] using hu
/-- append(v, ys...), ys ints that are read. -/
theorem own_append_ints {W : World} (hgd : o.guard = none) (s x : Operand) (t e : TypeId)
    (ho : o.op = .call { callee := .builtin .append, args := #[s, x], argTypes := #[t, t] })
    (ht : P.underlying t = some (.slice e)) (hinfo : (P.info? e).map (fun i => (i.zero, i.size, i.bytes)) = some (some (.int .i64 0), 1, 8))
    (base : Nat) (v : Value) (n : Nat) (xs : List Int) (A : Option Addr) (m c : Nat) (ys : List Int) (hs : a.eval s = v) (hx : a.eval x = .slice A m c)
    (HO : W.ownsRow base e 1 v n (ints xs)) (HR : Ints W A m c ys) (hlim : (n + m) * 8 ≤ 140737488355328) (hbase : base ≤ W.heap.size)
    (h : ∀ v1 w1, w1.ownsRow base e 1 v1 (n + m) (ints (xs ++ ys)) → W.grownBy w1 v.ownBlock → (v1.ownBlock = v.ownBlock ∨ v1.ownBlock = some W.heap.size) → wpList P ops Q rest (a.put o.dst v1) w1) :
    wpList P ops Q (o :: rest) a W :=
  own_append hgd s x t e _ 1 8 ho ht hinfo rfl (by omega) (by omega) base v n (ints xs) A m c (ints ys) hs hx HO (by rw [ints_length, HR.len]; omega) HR.src (ints_one ys) hlim hbase
    fun v1 w1 h1 h2 h3 => h v1 w1 (by rw [show ints (xs ++ ys) = ints xs ++ ints ys by simp [ints]]; exact h1) h2 h3
/-- append(v, y): the world is one in which y has just been boxed. -/
theorem own_append_one {W : World} (hgd : o.guard = none) (s x : Operand) (t e : TypeId) (z : Value) (size bytes : Nat)
    (ho : o.op = .call { callee := .builtin .append, args := #[s, x], argTypes := #[t, t] })
    (ht : P.underlying t = some (.slice e)) (hinfo : (P.info? e).map (fun i => (i.zero, i.size, i.bytes)) = some (some z, size, bytes)) (hzs : z.cells.size = size) (hsz : 0 < size) (hb0 : 0 < bytes)
    (base : Nat) (v : Value) (n : Nat) (xs : List Value) (cap : Nat) (ys : List Value) (hs : a.eval s = v) (hx : a.eval x = .slice (some ⟨W.heap.size, 0, Option.none⟩) 1 cap)
    (HO : W.ownsRow base e size v n xs) (hl : ys.length = size) (h1c : ∀ u ∈ ys, u.oneCell' = true) (hlim : (n + 1) * bytes ≤ 140737488355328) (hbase : base ≤ W.heap.size)
    (h : ∀ v1 w1, w1.ownsRow base e size v1 (n + 1) (xs ++ ys) → W.grownBy w1 v.ownBlock → (v1.ownBlock = v.ownBlock ∨ ∃ b, v1.ownBlock = some b ∧ W.heap.size ≤ b) → wpList P ops Q rest (a.put o.dst v1) w1) :
    wpList P ops Q (o :: rest) a (W.alloc (.cells ys.toArray e)) := by
  refine own_append hgd s x t e z size bytes ho ht hinfo hzs hsz hb0 base v n xs _ 1 cap ys hs hx (HO.alloc _) (by simpa using hl) (fun _ => ⟨_, rfl, fun j u hj => ?_⟩) h1c hlim (by simp; omega) fun v1 w1 h1 h2 h3 => h v1 w1 h1 (World.grownBy.trans (World.grownBy_alloc W _ _) h2) ?_
  · rw [add_plain]
    have hh := heap_alloc_new W (.cells ys.toArray e)
    unfold World.cell?
    dsimp only
    rw [hh]
    simpa using hj
  · rcases h3 with h3 | h3
    · exact .inl h3
    · exact .inr ⟨_, h3, by simp⟩
end

/-! A region that draws its order, whose operations read, and whose callees leave all that was as it was. -/
/-- A world in which nothing old has turned. -/
structure After (w : World) where
  val : World
  below : Below w.heap.size w val
instance (w : World) : Inhabited (After w) := ⟨⟨w, Below.refl _ _⟩⟩
theorem quiet_after {P : Program} {id : Nat} {Q : Exit → Act → World → Prop} {a : Act} {w : World} {l : List Oper} (hm : P.follows .mixedOrders = true) (hB : Region.lexB .any l.toArray = true)
    (h : wpQuiet P l.toArray (fun w' => ∃ p : After w, w' = p.val) (fun a' => ∀ w', (∃ p : After w, w' = p.val) → Q .normal a' w') l a) : (Code.region id l.toArray true).wp P Q a w :=
  wp_region_quiet (C := fun w' => ∃ p : After w, w' = p.val) hm hB ⟨⟨w.drew, (Below.refl _ _).drew⟩, rfl⟩ (by simpa using h)
theorem calls_after {P : Program} {f : FuncId} {args : Array Value} {w : World} {p : After w} {v : Value} (h : Calls P f args p.val (Gives v p.val)) :
    Calls P f args p.val fun e w'' => e = .returned v ∧ ∃ q : After w, w'' = q.val :=
  h.mono fun _ _ ⟨he, hb⟩ => ⟨he, ⟨⟨_, below_then p.below hb⟩, rfl⟩⟩
theorem calls_after' {P : Program} {f : FuncId} {args : Array Value} {w : World} {p : After w} {v : Value} (h : Calls P f args p.val (Tells v p.val)) :
    Calls P f args p.val fun e w'' => e = .returned v ∧ ∃ q : After w, w'' = q.val :=
  h.mono fun _ _ ⟨he, hb⟩ => ⟨he, ⟨⟨_, by rw [← hb]; exact p.below⟩, rfl⟩⟩
/-- The cells of a block that has just been laid. -/
theorem box_cell (w : World) (cs : List Value) (t : TypeId) (j : Nat) (v : Value) (hj : cs[j]? = some v) : (w.alloc (.cells cs.toArray t)).cell? ⟨w.heap.size, j, none⟩ = some v := by
  have h := heap_alloc_new w (.cells cs.toArray t)
  unfold World.cell?
  dsimp only
  rw [h]
  simpa using hj
theorem cell_after {w : World} {a : Addr} {v : Value} (hc : w.cell? a = some v) (p : After w) : p.val.cell? a = some v := below_cell p.below hc

/-! A label that is gone back to: a relation that bears a number, which each pass lowers; what is behind the label is walked once. -/
theorem jump_mono {l : Nat} {J J' : Act → World → Prop} {Q : Exit → Act → World → Prop} (h : ∀ a w, J a w → J' a w) : ∀ e a w, Exit.jump l J Q e a w → Exit.jump l J' Q e a w := by
  intro e a w hq
  cases e with
  | goto l' => exact ⟨hq.1, h _ _ hq.2⟩
  | _ => exact hq
theorem wp_scope_label {P : Program} {Q : Exit → Act → World → Prop} {a : Act} {w : World} {c b : Code} (l : Nat) (I : Nat → Act → World → Prop) (hf : findLabel c l = some (.seq .skip b))
    (iter : ∀ n a w, I n a w → b.wp P (Exit.jump l (fun a' w' => ∃ n', n' < n ∧ I n' a' w') Q) a w)
    (first : (∀ n a w, I n a w → b.wp P (Exit.jump l (fun a w => ∃ n, I n a w) Q) a w) → c.wp P (Exit.jump l (fun a w => ∃ n, I n a w) Q) a w) : (Code.scope c).wp P Q a w := by
  refine wp_scope_jumps l (fun a w => ∃ n, I n a w) (fun a w => leastOf (fun n => I n a w)) hf (first fun n a w h => wp_mono (iter n a w h) (jump_mono fun _ _ ⟨n', _, h'⟩ => ⟨n', h'⟩)) ?_
  intro a w hI
  refine wp_seq (wp_skip ?_)
  refine wp_mono (iter _ a w (leastOf_spec hI).1) (jump_mono ?_)
  rintro a' w' ⟨n', hlt, hI'⟩
  exact ⟨⟨n', hI'⟩, Nat.lt_of_le_of_lt ((leastOf_spec ⟨n', hI'⟩).2 n' hI') hlt⟩
end Go.Proofs.Tail
