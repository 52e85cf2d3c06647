/- Rows of times; how they are sorted; slices.SortFunc, Grow, Concat, Clone of them. -/
import Derived.Test.YtebpepjlhanopaaRows
import Derived.Lib.AppendZerosOnto
import Derived.Shelf.SlSortCmp.WholeK
import Derived.Test.YtebpepjlhanopaaWords
import Derived.Test.YtebpepjlhanopaaByts
import Derived.Test.YtebpepjlhanopaaFrame
import Derived.Test.YtebpepjlhanopaaElems
import Derived.Test.YtebpepjlhanopaaSortOwn
import Derived.Test.YtebpepjlhanopaaLay
import Derived.Test.YtebpepjlhanopaaS1
import Derived.Test.YtebpepjlhanopaaS2
import Derived.Test.YtebpepjlhanopaaS8
import Derived.Test.YtebpepjlhanopaaS9
import Derived.Test.YtebpepjlhanopaaEqs
namespace Go.Proofs.Ytebpepjlhanopaa
open Go Go.RowKit Go.Proofs.Tail Go.Sort
set_option linter.unusedSimpArgs false
set_option linter.unusedVariables false
def encT (t : T) : List Value := [.int .i64 t.d, .int .i64 t.e, .int .i64 t.a, .int .i64 t.b, .int .i64 t.c]
theorem At.stays : Stays At := fun _ _ _ _ _ hb h => h.below hb
abbrev Tms (w : World) (A : Option Addr) (n c : Nat) (ts : List T) : Prop := Rd 5 At w A n c ts
def recT (ts : List T) : List Value := ts.flatMap encT
theorem recT_length (ts : List T) : (recT ts).length = ts.length * 5 := flatMap_length (enc := encT) (k := 5) (fun _ => rfl) ts
theorem recT_append (xs ys : List T) : recT (xs ++ ys) = recT xs ++ recT ys := by simp [recT]
theorem recT_one (ts : List T) : ∀ u ∈ recT ts, u.oneCell' = true := by
  intro u hu
  simp only [recT, List.mem_flatMap, encT, List.mem_cons, List.not_mem_nil, or_false] at hu
  obtain ⟨x, _, rfl | rfl | rfl | rfl | rfl⟩ := hu <;> rfl
def VT (x : T) (vs : List Value) : Prop := vs = encT x
theorem recT_cells (xs : List T) : Cells 5 VT (recT xs) xs := by
  induction xs with
  | nil => exact Cells.nil _ _
  | cons x xs ih => exact (Cells.one (V := VT) (k := 5) (vs := encT x) rfl rfl).append ih
/-- A row of times of one's own is read. -/
theorem own_tms {w : World} {base n : Nat} {e : TypeId} {v : Value} {xs : List T} (h : w.ownsRow base e 5 v n (recT xs)) (hb : n ≤ 9223372036854775807) : ∃ A c, v = .slice A n c ∧ Tms w A n c xs := by
  have hl : xs.length = n := by have := h.1; rw [recT_length] at this; omega
  exact own_rd h hl hb (recT_cells xs) fun b o x vs hv hc => by
    subst hv
    exact ⟨hc 0 _ rfl, hc 1 _ rfl, hc 2 _ rfl, hc 3 _ rfl, hc 4 _ rfl⟩
theorem tms_src {w : World} {A : Option Addr} {m c : Nat} {ys : List T} (h : Tms w A m c ys) : 0 < m → ∃ ad, A = some ad ∧ ∀ j u, (recT ys)[j]? = some u → w.cell? (ad.add j) = some u := by
  intro hm
  obtain ⟨b, off, rfl, hc⟩ := h.at_ hm
  refine ⟨_, rfl, fun j u hu => ?_⟩
  have hj : j < ys.length * 5 := by have := (List.getElem?_eq_some_iff.1 hu).1; rwa [recT_length] at this
  have hj2 : j / 5 < ys.length := by omega
  have hr := hc (j / 5) _ (List.getElem?_eq_getElem hj2)
  have hg := flatMap_get (enc := encT) (k := 5) (fun _ => rfl) ys j hj
  rw [getElem!_pos ys _ hj2] at hg
  generalize ys[j / 5] = t at hr hg
  have ha : (⟨b, off, Option.none⟩ : Addr).add j = ⟨b, off + j, Option.none⟩ := by unfold Addr.add; split <;> simp_all
  rw [ha, ← hu]
  refine Eq.trans ?_ hg.symm
  have hm5 : j % 5 < 5 := Nat.mod_lt _ (by omega)
  have e : off + j = off + j / 5 * 5 + j % 5 := by omega
  rw [e]
  match j % 5, hm5 with
  | 0, _ => exact hr.c0
  | 1, _ => exact hr.c1
  | 2, _ => exact hr.c2
  | 3, _ => exact hr.c3
  | 4, _ => exact hr.c4
theorem infoT : (Try.prog.info? 28).map (fun i => (i.zero, i.size, i.bytes)) = some (some (.agg #[.int .i64 0, .int .i64 0, .int .i64 0, .int .i64 0, .int .i64 0]), 5, 40) := by kernel_rfl
section
variable {P : Program} {ops : Array Oper} {rest : List Oper} {o : Oper} {a : Act} {Q : Exit → Act → World → Prop}
/-- append(v, ys...), ys times that are read. -/
theorem own_append_tms {W : World} (hgd : o.guard = none) (s x : Operand) (t e : TypeId)
    (ho : o.op = .call { callee := .builtin .append, args := #[s, x], argTypes := #[t, t] })
    (ht : P.underlying t = some (.slice e)) (hinfo : (P.info? e).map (fun i => (i.zero, i.size, i.bytes)) = some (some (.agg #[.int .i64 0, .int .i64 0, .int .i64 0, .int .i64 0, .int .i64 0]), 5, 40))
    (base : Nat) (v : Value) (xs : List T) (A : Option Addr) (m c : Nat) (ys : List T) (hs : a.eval s = v) (hx : a.eval x = .slice A m c)
    (HO : W.ownsRow base e 5 v xs.length (recT xs)) (HR : Tms W A m c ys) (hlim : (xs.length + m) * 40 ≤ 140737488355328) (hbase : base ≤ W.heap.size)
    (h : ∀ v1 w1, w1.ownsRow base e 5 v1 (xs ++ ys).length (recT (xs ++ ys)) → W.grownBy w1 v.ownBlock → (v1.ownBlock = v.ownBlock ∨ v1.ownBlock = some W.heap.size) → wpList P ops Q rest (a.put o.dst v1) w1) :
    wpList P ops Q (o :: rest) a W :=
  own_append hgd s x t e _ 5 40 ho ht hinfo rfl (by omega) (by omega) base v xs.length (recT xs) A m c (recT ys) hs hx HO (by rw [recT_length, HR.len]) (tms_src HR) (recT_one _) hlim hbase
    fun v1 w1 h1 h2 h3 => h v1 w1 (by rw [recT_append, List.length_append, HR.len]; exact h1) h2 h3
end
/-- A row of times of one's own. -/
def GivesTms (xs : List T) (w : World) (e : Ending) (w' : World) : Prop := ∃ v, e = .returned v ∧ w'.ownsRow w.heap.size 28 5 v xs.length (recT xs) ∧ Below w.heap.size w w'
/-- How times are ordered. -/
def cfT (x y : T) : Int := cmpP x y 3
theorem orI_lt {x y : Int} : orI x y < 0 ↔ x < 0 ∨ x = 0 ∧ y < 0 := by unfold orI; split <;> omega
theorem orI_zero {x y : Int} : orI x y = 0 ↔ x = 0 ∧ y = 0 := by unfold orI; split <;> omega
theorem sgn_zero {x y : Int} : sgn x y = 0 ↔ x = y := by unfold sgn; (repeat' split) <;> omega
theorem sgn_lt {x y : Int} : sgn x y < 0 ↔ x < y := by unfold sgn; (repeat' split) <;> omega
theorem cfT_lt {x y : T} : cfT x y < 0 ↔ x.d < y.d ∨ x.d = y.d ∧ (x.e < y.e ∨ x.e = y.e ∧ (x.a < y.a ∨ x.a = y.a ∧ (x.b < y.b ∨ x.b = y.b ∧ x.c < y.c))) := by
  unfold cfT
  simp only [cmpP, T.lp, orI_lt, orI_zero, sgn_lt, sgn_zero]
  simp
  omega
theorem ltT (x y : T) : ltOf cfT x y = decide (x.d < y.d ∨ x.d = y.d ∧ (x.e < y.e ∨ x.e = y.e ∧ (x.a < y.a ∨ x.a = y.a ∧ (x.b < y.b ∨ x.b = y.b ∧ x.c < y.c)))) := by
  unfold ltOf
  exact decide_eq_decide.2 cfT_lt
theorem swoT : SWO (ltOf cfT) where
  irrefl x := by rw [ltT]; simp
  trans x y z h1 h2 := by rw [ltT] at *; simp only [decide_eq_true_eq] at *; omega
  ntrans x y z h1 h2 := by rw [ltT] at *; simp only [decide_eq_false_iff_not] at *; omega
theorem T.ext5 {s t : T} (h : s.d = t.d ∧ s.e = t.e ∧ s.a = t.a ∧ s.b = t.b ∧ s.c = t.c) : s = t := by
  obtain ⟨a, b, c, d, e⟩ := s; obtain ⟨a', b', c', d', e'⟩ := t
  simp only at h
  rw [h.1, h.2.1, h.2.2.1, h.2.2.2.1, h.2.2.2.2]
theorem totT (x y : T) (h1 : ltOf cfT x y = false) (h2 : ltOf cfT y x = false) : x = y := by
  rw [ltT] at *
  simp only [decide_eq_false_iff_not] at *
  exact T.ext5 (by omega)
def leT (x y : T) : Bool := !(ltOf cfT) y x
/-- The sorted row. -/
def sortT (xs : List T) : List T := xs.mergeSort leT
theorem cmpLays (blk off size : Nat) (w : World) : CmpLays Try.prog 29 #[] encT 5 cfT blk off size w := fun _ _ _ _ x y => cmp_any x y _
def Sorts (base : Nat) (v : Value) (ys : List T) (w : World) (e : Ending) (w' : World) : Prop :=
  e = .returned (.tuple #[]) ∧ w'.ownsRow base 28 5 v ys.length (recT ys) ∧ Fr (fun b => v.ownBlock = some b) w w'
theorem sortT_length (xs : List T) : (sortT xs).length = xs.length := (List.mergeSort_perm _ _).length_eq
theorem sort_any (base : Nat) (v : Value) (xs : List T) (w : World) (HO : w.ownsRow base 28 5 v xs.length (recT xs)) (hlim : xs.length < 4611686018427387904) :
    Calls Try.prog 45 #[v, .func (.func 29) #[] #[]] w (Sorts base v (sortT xs) w) := by
  rcases HO.2 with ⟨rfl, h0⟩ | ⟨g, cap, cur, rfl, hg, hh, hn, hm, hs, ht⟩
  · have hx : xs = [] := List.eq_nil_of_length_eq_zero h0
    subst hx
    have hcon := AnyF.slices_SortFunc_none { Try.sortR with } none 0 (.func (.func 29) #[] #[]) w
    change Calls Try.prog 45 _ _ _ at hcon
    refine hcon.mono ?_
    rintro e w' ⟨rfl, rfl⟩
    have e0 : sortT [] = [] := by simp [sortT]
    rw [e0]
    exact ⟨rfl, HO, Fr.refl _ _⟩
  · have eg : ∀ args w, (callFunc 29 args).run Try.prog w = .ok (.enter 29 args) w := enters_of Try.func29 (by kernel_rfl) rfl
    have hk : ∀ x : T, (encT x).length = 5 := fun _ => rfl
    have hcon := AnyQ.slices_SortFunc_total Try.sortR 5 Try.isAgg28 Try.sizeOf28 encT hk (fun x v hv => by simp [encT] at hv; rcases hv with rfl | rfl | rfl | rfl | rfl <;> rfl) cfT swoT 29 #[] g 0 cap xs.toArray w eg (cmpLays g 0 _ w) (holdsK_own hk HO) (lt_block hh) (by simpa using hlim) totT
    change Calls Try.prog 45 _ _ _ at hcon
    simp only [List.size_toArray] at hcon
    refine hcon.mono ?_
    rintro e w' ⟨rfl, q, os, rfl⟩
    obtain ⟨h1, h2⟩ := own_sorted (q := q) (os := os) hk HO (sortT_length xs)
    exact ⟨rfl, by rw [sortT_length]; exact h1, h2.mono fun i _ hi => by subst hi; rfl⟩
end Go.Proofs.Ytebpepjlhanopaa
