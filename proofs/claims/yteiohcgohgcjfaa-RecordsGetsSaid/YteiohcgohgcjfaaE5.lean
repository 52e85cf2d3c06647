/- Rows read one by one, as plain functions; append of one literal. -/
import Derived.Test.YteiohcgohgcjfaaRows
import Derived.IntWalk
import Derived.Test.YteiohcgohgcjfaaWords
import Derived.Test.YteiohcgohgcjfaaByts
import Derived.Test.YteiohcgohgcjfaaStrs
import Derived.Test.YteiohcgohgcjfaaFrame
import Derived.Test.YteiohcgohgcjfaaElems
import Derived.Test.YteiohcgohgcjfaaS1
import Derived.Test.YteiohcgohgcjfaaD1
import Derived.Test.YteiohcgohgcjfaaE1
import Derived.Test.YteiohcgohgcjfaaE2
import Derived.Test.YteiohcgohgcjfaaE3
import Derived.Test.YteiohcgohgcjfaaE4
namespace Go.Proofs.Yteiohcgohgcjfaa
open Go Go.RowKit Go.Proofs.Tail
set_option linter.unusedSimpArgs false
set_option linter.unusedVariables false
section
variable {P : Program} {ops : Array Oper} {rest : List Oper} {o : Oper} {a : Act} {Q : Exit → Act → World → Prop}
/-- append(v, literals..): the world is one in which they have just been laid. -/
theorem own_append_lit {W : World} (hgd : o.guard = none) (s x : Operand) (t e : TypeId) (z : Value) (size bytes : Nat)
    (ho : o.op = .call { callee := .builtin .append, args := #[s, x], argTypes := #[t, t] })
    (ht : P.underlying t = some (.slice e)) (hinfo : (P.info? e).map (fun i => (i.zero, i.size, i.bytes)) = some (some z, size, bytes)) (hzs : z.cells.size = size) (hsz : 0 < size) (hb0 : 0 < bytes)
    (base : Nat) (v : Value) (n : Nat) (xs : List Value) (m cap : Nat) (ys : List Value) (hs : a.eval s = v) (hx : a.eval x = .slice (some ⟨W.heap.size, 0, Option.none⟩) m cap)
    (HO : W.ownsRow base e size v n xs) (hl : ys.length = m * size) (h1c : ∀ u ∈ ys, u.oneCell' = true) (hlim : (n + m) * bytes ≤ 140737488355328) (hbase : base ≤ W.heap.size)
    (h : ∀ v1 w1, w1.ownsRow base e size v1 (n + m) (xs ++ ys) → W.grownBy w1 v.ownBlock → (v1.ownBlock = v.ownBlock ∨ ∃ b, v1.ownBlock = some b ∧ W.heap.size ≤ b) → wpList P ops Q rest (a.put o.dst v1) w1) :
    wpList P ops Q (o :: rest) a (W.alloc (.cells ys.toArray e)) := by
  refine own_append hgd s x t e z size bytes ho ht hinfo hzs hsz hb0 base v n xs _ m cap ys hs hx (HO.alloc _) hl (fun _ => ⟨_, rfl, fun j u hj => ?_⟩) h1c hlim (by simp; omega) fun v1 w1 h1 h2 h3 => h v1 w1 h1 (World.grownBy.trans (World.grownBy_alloc W _ _) h2) ?_
  · rw [add_plain]
    exact box_cell W ys e j u hj
  · rcases h3 with h3 | h3
    · exact .inl h3
    · exact .inr ⟨_, h3, by simp⟩
end
/-- k items, one behind the other. -/
def rdN {α : Type} (rd : List Int → Option (α × List Int)) : Nat → List Int → Option (List α × List Int)
  | 0, xs => some ([], xs)
  | k + 1, xs => match rdN rd k xs with
    | none => none
    | some (l, ys) => match rd ys with
      | none => none
      | some (a, zs) => some (l ++ [a], zs)
theorem rdN_succ {α : Type} {rd : List Int → Option (α × List Int)} {k : Nat} {xs ys zs : List Int} {l : List α} {a : α} (h : rdN rd k xs = some (l, ys)) (hr : rd ys = some (a, zs)) : rdN rd (k + 1) xs = some (l ++ [a], zs) := by
  unfold rdN
  rw [h]
  dsimp only
  rw [hr]
theorem rdN_fail {α : Type} {rd : List Int → Option (α × List Int)} {k : Nat} {xs ys : List Int} {l : List α} (h : rdN rd k xs = some (l, ys)) (hr : rd ys = none) : rdN rd (k + 1) xs = none := by
  unfold rdN
  rw [h]
  dsimp only
  rw [hr]
theorem rdN_stuck {α : Type} {rd : List Int → Option (α × List Int)} {xs : List Int} {k n : Nat} (h : rdN rd k xs = none) (hn : k ≤ n) : rdN rd n xs = none := by
  induction n with
  | zero =>
    have : k = 0 := by omega
    subst this; exact h
  | succ n ih =>
    by_cases hk : k ≤ n
    · unfold rdN; rw [ih hk]
    · have : k = n + 1 := by omega
      subst this; exact h
theorem rdN_len {α : Type} {rd : List Int → Option (α × List Int)} : ∀ (k : Nat) (xs : List Int) (l : List α) (ys : List Int), rdN rd k xs = some (l, ys) → l.length = k
  | 0, xs, l, ys, h => by
    unfold rdN at h
    injection h with h
    injection h with h _
    rw [← h]; rfl
  | k + 1, xs, l, ys, h => by
    unfold rdN at h
    cases hq : rdN rd k xs with
    | none => rw [hq] at h; cases h
    | some p =>
      obtain ⟨l', ys'⟩ := p
      rw [hq] at h
      dsimp only at h
      cases hr : rd ys' with
      | none => rw [hr] at h; cases h
      | some q =>
        obtain ⟨a, zs⟩ := q
        rw [hr] at h
        injection h with h
        injection h with h _
        rw [← h, List.length_append, rdN_len k xs l' ys' hq]; rfl
def rowI (xs : List Int) : Int := wrap64 (val (xs.take 4))
theorem rowI_pos {xs : List Int} (h : InB xs) : 0 ≤ rowI xs := by
  have h1 := val_bound (xs.take 4) (InB.take h 4)
  have h2 := pw_le (n := (xs.take 4).length) (by rw [List.length_take]; omega)
  unfold rowI
  rw [IntWalk.wrap64_in _ ⟨by omega, by omega⟩]
  omega
def rowN {α : Type} (rd : List Int → Option (α × List Int)) (xs : List Int) : Option (List α × List Int) :=
  if 4 ≤ xs.length ∧ rowI xs ≤ 65536 then rdN rd (rowI xs).toNat (xs.drop 4) else none
def rd2 (xs : List Int) : Option (Rc × List Int) := if 16 ≤ xs.length then some ((wrap64 (val (xs.take 8)), wrap64 (val ((xs.drop 8).take 8))), xs.drop 16) else none
def rd3 (xs : List Int) : Option (Upd × List Int) := if u3B xs = true then some (u3U xs, u3R xs) else none
def Rc.rcs (x : Rc) : List Value := [.int .i64 x.1, .int .i64 x.2]
/-- An item is read: its value, the rest; or it is thrown. -/
def ItemP {α : Type} (enc : α → List Value) (rd : List Int → Option (α × List Int)) (R : Nat) (xs : List Int) (w : World) (e : Ending) (w' : World) : Prop :=
  (∀ a ys, rd xs = some (a, ys) → e = .returned (.agg (enc a).toArray) ∧ Rb w' R ys) ∧ (rd xs = none → Pan e) ∧ Fr (fun b => b = R) w w'
/-- A row is read. -/
def RowP {α : Type} (enc : α → List Value) (t : TypeId) (size : Nat) (rd : List Int → Option (α × List Int)) (R : Nat) (xs : List Int) (w : World) (e : Ending) (w' : World) : Prop :=
  (∀ L ys, rowN rd xs = some (L, ys) → ∃ v, e = .returned v ∧ w'.ownsRow w.heap.size t size v L.length (L.flatMap enc) ∧ Rb w' R ys) ∧ (rowN rd xs = none → Pan e) ∧ Fr (fun b => b = R) w w'
theorem item2 (V R : Nat) (xs : List Int) (w : World) (hV : Blk w V [.pointer (some ⟨R, 0, none⟩)] 77) (hne : V ≠ R) (h : Rb w R xs) : Calls Try.prog 36 #[.pointer (some ⟨V, 0, none⟩)] w (ItemP Rc.rcs rd2 R xs w) := by
  refine (rec2_any V R xs w hV hne h).mono fun e w' g => ⟨fun a ys hr => ?_, fun hr => ?_, g.2.2⟩
  · unfold rd2 at hr
    split at hr
    · rename_i hl
      injection hr with hr
      injection hr with h1 h2
      subst h1; subst h2
      exact g.1 hl
    · cases hr
  · unfold rd2 at hr
    split at hr
    · cases hr
    · exact g.2.1 (by omega)
theorem item3 (V R : Nat) (xs : List Int) (w : World) (hV : Blk w V [.pointer (some ⟨R, 0, none⟩)] 77) (hne : V ≠ R) (h : Rb w R xs) : Calls Try.prog 38 #[.pointer (some ⟨V, 0, none⟩)] w (ItemP Upd.ucs rd3 R xs w) := by
  refine (upd3_any V R xs w hV hne h).mono fun e w' g => ⟨fun a ys hr => ?_, fun hr => ?_, g.2.2⟩
  · unfold rd3 at hr
    split at hr
    · rename_i hl
      injection hr with hr
      injection hr with h1 h2
      subst h1; subst h2
      exact g.1 hl
    · cases hr
  · unfold rd3 at hr
    split at hr
    · cases hr
    · rename_i hl
      exact g.2.1 (by simpa using hl)
end Go.Proofs.Yteiohcgohgcjfaa
