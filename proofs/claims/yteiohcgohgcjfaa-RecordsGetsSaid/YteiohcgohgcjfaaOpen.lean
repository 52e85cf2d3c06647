/- How arguments that can be read as data are opened, type by type: of whatever program. -/
import Derived.Test.YteiohcgohgcjfaaWords
import Derived.ProofKit
import Derived.OpenShut
import Derived.ShutString
import Derived.ChangeOld
import Derived.Below
import Derived.SizedLaws
import Derived.Carry
namespace Go.Proofs.Tail
open Go.RowKit
section
variable {H : Type} {enc : TypeId × Value → H} {P : Program} {w : World} {base : Nat} {spare : Nat → Bool} {held : Bool}
/-- Whatever reads as data of type t tells an a. -/
def Opens {α : Type} (enc : TypeId × Value → H) (P : Program) (w : World) (base : Nat) (spare : Nat → Bool) (held : Bool) (t : TypeId) (V : List Value → α → Prop) : Prop :=
  ∀ fuel cs x, DataW.trod enc P w base spare held fuel t cs = some x → ∃ a, V cs a
def VInt (k : IntKind) (cs : List Value) (n : Int) : Prop := cs = [.int k n] ∧ (Lit.int k n).wf = true
def VBool (cs : List Value) (b : Bool) : Prop := cs = [.bool b]
def VString (cs : List Value) (s : ByteArray) : Prop := cs = [.string s] ∧ s.size ≤ maxLen
/-- A slice, that is read in w. -/
def VSlice {α : Type} (k : Nat) (R : World → Nat → Nat → α → Prop) (w : World) (cs : List Value) (xs : List α) : Prop := ∃ A n c, cs = [.slice A n c] ∧ Rd k R w A n c xs
theorem opens_int {t : TypeId} {k : IntKind} (ht : P.underlying t = some (.int k)) : Opens enc P w base spare held t (VInt k) := fun fuel cs x h => by
  obtain ⟨n, rfl, _, hw⟩ := DataW.trod_int ht h
  exact ⟨n, rfl, hw⟩
theorem opens_bool {t : TypeId} (ht : P.underlying t = some .bool) : Opens enc P w base spare held t VBool := fun fuel cs x h => by
  obtain ⟨b, rfl, _⟩ := DataW.trod_bool ht h
  exact ⟨b, rfl⟩
theorem opens_string {t : TypeId} (ht : P.underlying t = some .string) : Opens enc P w base spare held t VString := fun fuel cs x h => by
  have h' := h
  obtain ⟨s, rfl, _⟩ := DataW.trod_string ht h
  refine ⟨s, rfl, ?_⟩
  cases fuel with
  | zero => simp [DataW.trod] at h'
  | succ n =>
    unfold DataW.trod at h'
    rw [ht] at h'
    dsimp only at h'
    split at h'
    · assumption
    · cases h'
theorem choose_list {α β : Type} (p : Nat → α → Prop) : ∀ n, (∀ i, i < n → ∃ a, p i a) → ∃ l : List α, l.length = n ∧ ∀ i a, l[i]? = some a → p i a
  | 0, _ => ⟨[], rfl, fun i a h => by simp at h⟩
  | n + 1, h => by
    obtain ⟨l, hl, hp⟩ := choose_list (β := β) p n fun i hi => h i (by omega)
    obtain ⟨a, ha⟩ := h n (by omega)
    refine ⟨l ++ [a], by simp [hl], fun i b hb => ?_⟩
    rcases Nat.lt_or_ge i n with hi | hi
    · rw [List.getElem?_append_left (by omega)] at hb
      exact hp i b hb
    · have hin : i < n + 1 := by have := (List.getElem?_eq_some_iff.1 hb).1; simp [hl] at this; omega
      have : i = n := by omega
      subst this
      rw [List.getElem?_append_right (by omega), hl] at hb
      simp at hb
      subst hb
      exact ha
theorem opens_slice {α β : Type} {t e : TypeId} {k : Nat} {V : List Value → β → Prop} {R : World → Nat → Nat → α → Prop} (ht : P.underlying t = some (.slice e)) (hk : P.cellsOf e = k) (hk0 : 0 < k)
    (he : Opens enc P w base spare held e V) (hR : ∀ b o cs y, cs.length = k → (∀ i v, cs[i]? = some v → w.cell? ⟨b, o + i, none⟩ = some v) → V cs y → ∃ x, R w b o x) :
    Opens enc P w base spare held t (VSlice k R w) := fun fuel cs x h => by
  rcases DataW.trod_slice ht h with ⟨rfl, _⟩ | ⟨a, len, cap, elems, rest, n, _, rfl, _, hb, hl, hm, hlen, hel, _, _⟩
  · exact ⟨[], none, 0, 0, rfl, Rd.nil _ _ _⟩
  · have each : ∀ i, i < len → ∃ cs' y, w.cells? base (a.add (i * k)) k = some cs' ∧ V cs' y := by
      intro i hi
      have h1 := hel i hi
      rw [List.getElem?_eq_getElem (by omega), hk] at h1
      obtain ⟨cs', hc, hd⟩ := Option.bind_eq_some_iff.1 h1
      obtain ⟨y, hy⟩ := he _ _ _ hd
      exact ⟨cs', y, hc, hy⟩
    have hm' : len ≤ 9223372036854775807 := by unfold maxLen at hm; omega
    rcases Nat.eq_zero_or_pos len with h0 | h0
    · subst h0
      exact ⟨[], some a, 0, cap, rfl, rfl, hl, hm', fun hn => absurd hn (Nat.lt_irrefl _)⟩
    · obtain ⟨b, off, spot⟩ := a
      obtain ⟨_, _, hf, _⟩ := each 0 h0
      obtain ⟨_, hlc, hc0⟩ := World.cells?_some hf
      have h1 := hc0 0 hk0
      rw [List.getElem?_eq_getElem (by omega)] at h1
      have hspot : spot = none := by simpa [Addr.add] using World.cell?_spot h1
      subst hspot
      have each' : ∀ i, i < len → ∃ x, R w b (off + i * k) x := by
        intro i hi
        obtain ⟨cs', y, hc, hy⟩ := each i hi
        obtain ⟨_, hl', hce⟩ := World.cells?_some hc
        refine hR b (off + i * k) cs' y hl' (fun j v hj => ?_) hy
        have hjk : j < k := by have := (List.getElem?_eq_some_iff.1 hj).1; omega
        have h2 := hce j hjk
        rw [hj] at h2
        rw [← h2]
        congr 1
        unfold Addr.add
        by_cases e1 : i * k = 0 <;> by_cases e2 : j = 0 <;> simp [e1, e2, Nat.add_assoc]
      obtain ⟨xs, hx, hp⟩ := choose_list (β := Unit) _ len each'
      exact ⟨xs, _, len, cap, rfl, hx, hl, hm', fun _ => ⟨b, off, rfl, fun j y hj => hp j y hj⟩⟩
theorem opens_ints {t e : TypeId} (ht : P.underlying t = some (.slice e)) (he : P.underlying e = some (.int .i64)) (hc : P.cellsOf e = 1) : Opens enc P w base spare held t (VSlice 1 RInt w) :=
  opens_slice ht hc (by omega) (opens_int he) (by
    rintro b o cs a hl hcell ⟨rfl, _⟩
    exact ⟨a, hcell 0 _ rfl⟩)
/-- A struct's fields. -/
theorem opens_fields {t : TypeId} {fs : Array Field} {fuel : Nat} {cs : List Value} {x : DataW H × List MemPlace} (ht : P.underlying t = some (.struct fs)) (h : DataW.trod enc P w base spare held fuel t cs = some x) :
    cs.length = P.cellsOf t ∧ ∃ n, ∀ (i : Nat) (f : Field), fs[i]? = some f → ∃ y, DataW.trod enc P w base spare held n f.type ((cs.drop f.offset).take (P.cellsOf f.type)) = some y := by
  obtain ⟨xs, n, _, _, hl, hxl, hf⟩ := DataW.trod_struct ht h
  refine ⟨hl, n, fun i f hi => ?_⟩
  have hlt : i < xs.length := by have := (Array.getElem?_eq_some_iff.1 hi).1; omega
  exact ⟨_, (hf i f hi).trans (List.getElem?_eq_getElem hlt)⟩
end
end Go.Proofs.Tail
