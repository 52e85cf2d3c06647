/- Maps whose entries are known, key by key: made, read, written, struck, counted, copied, gone over: of whatever program. -/
import Derived.Maps.RangeRun
import Derived.RangeFuncSeq
import Derived.OwnWalkIn
import Derived.Sort.MapsRangeIn
import Derived.Test.YtebpepjlhanopaaWords
namespace Go.Proofs.Tail
open Go Go.RowKit
open Go.ChangeMaps (setBlock heap_setBlock_same heap_setBlock_other)
set_option linter.unusedSectionVars false
set_option linter.unusedSimpArgs false
set_option linter.unusedVariables false
variable {α : Type} [DecidableEq α]
/-- What a map of a key's type does at a key. -/
structure KeyT (P : Program) (kt : TypeId) (enc : α → Value) : Prop where
  eq : ∀ a b w, (Op.equal kt (enc a) (enc b)).run P w = .ok (decide (a = b)) w
  now : ∃ d, P.underlying kt = some d ∧ ((∀ a b, Instr.sameNow d (enc a) (enc b) = none) ∨ (∀ a b, Instr.sameNow d (enc a) (enc b) = some (decide (a = b))))
  ck : ∀ a e w, (Instr.checkKey e 10000 kt (enc a)).run P w = .ok () w
  bits : ∀ a, Instr.sameBits 10000 (enc a) (enc a) = true
def fnd : List (α × Value) → α → Nat → Option (Nat × Value)
  | [], _, _ => none
  | p :: L, a, j => if a = p.1 then some (j, p.2) else fnd L a (j + 1)
/-- The element at a key. -/
def lk (L : List (α × Value)) (a : α) : Option Value := (fnd L a 0).map (·.2)
theorem fnd_some {L : List (α × Value)} {a : α} {j i : Nat} {v : Value} (h : fnd L a j = some (i, v)) : j ≤ i ∧ L[i - j]? = some (a, v) := by
  induction L generalizing j with
  | nil => cases h
  | cons p L ih =>
    unfold fnd at h
    split at h
    · rename_i e
      cases h
      refine ⟨Nat.le_refl _, ?_⟩
      rw [Nat.sub_self, e]
      rfl
    · obtain ⟨h1, h2⟩ := ih h
      refine ⟨by omega, ?_⟩
      rw [show i - j = (i - (j + 1)) + 1 by omega, List.getElem?_cons_succ]
      exact h2
theorem fnd_none {L : List (α × Value)} {a : α} {j : Nat} : fnd L a j = none ↔ a ∉ L.map Prod.fst := by
  induction L generalizing j with
  | nil => simp [fnd]
  | cons p L ih =>
    unfold fnd
    split
    · rename_i e; simp [e]
    · rename_i e
      rw [ih]
      simp only [List.map_cons, List.mem_cons, not_or]
      exact ⟨fun h => ⟨e, h⟩, fun h => h.2⟩
theorem fnd_shift {L : List (α × Value)} {a : α} (j : Nat) : fnd L a (j + 1) = (fnd L a j).map fun q => (q.1 + 1, q.2) := by
  induction L generalizing j with
  | nil => rfl
  | cons p L ih =>
    unfold fnd
    split
    · rfl
    · exact ih _
theorem lk_cons (p : α × Value) (L : List (α × Value)) (a : α) : lk (p :: L) a = if a = p.1 then some p.2 else lk L a := by
  unfold lk
  rw [fnd]
  split
  · rfl
  · rw [fnd_shift, Option.map_map]; rfl
theorem lk_nil (a : α) : lk [] a = none := rfl
theorem lk_none {L : List (α × Value)} {a : α} : lk L a = none ↔ a ∉ L.map Prod.fst := by
  unfold lk
  rw [Option.map_eq_none_iff, fnd_none]
theorem lk_append (L M : List (α × Value)) (a : α) : lk (L ++ M) a = (lk L a).or (lk M a) := by
  induction L with
  | nil => rfl
  | cons p L ih =>
    rw [List.cons_append, lk_cons, lk_cons]
    split
    · rfl
    · exact ih
theorem lk_some {L : List (α × Value)} {a : α} {v : Value} (h : lk L a = some v) : (a, v) ∈ L := by
  induction L with
  | nil => cases h
  | cons p L ih =>
    rw [lk_cons] at h
    split at h
    · rename_i e
      cases h
      rw [e]
      exact List.mem_cons_self
    · exact List.mem_cons_of_mem _ (ih h)
theorem lk_mem {L : List (α × Value)} (hn : (L.map Prod.fst).Nodup) {a : α} {v : Value} (h : (a, v) ∈ L) : lk L a = some v := by
  induction L with
  | nil => cases h
  | cons p L ih =>
    rw [lk_cons]
    rw [List.map_cons, List.nodup_cons] at hn
    rcases List.mem_cons.1 h with rfl | h
    · simp
    · have : a ≠ p.1 := fun e => hn.1 (e ▸ List.mem_map.2 ⟨_, h, rfl⟩)
      rw [if_neg this]
      exact ih hn.2 h
/-- L with an element put at a key. -/
def putL (L : List (α × Value)) (a : α) (v : Value) : List (α × Value) :=
  match fnd L a 0 with
  | some (i, _) => L.set i (a, v)
  | none => L ++ [(a, v)]
/-- L without a key. -/
def delL (L : List (α × Value)) (a : α) : List (α × Value) :=
  match fnd L a 0 with
  | some (i, _) => L.eraseIdx i
  | none => L
theorem keys_set {L : List (α × Value)} {i : Nat} {a : α} {u v : Value} (h : L[i]? = some (a, u)) : (L.set i (a, v)).map Prod.fst = L.map Prod.fst := by
  induction L generalizing i with
  | nil => cases h
  | cons p L ih =>
    cases i with
    | zero =>
      rw [List.getElem?_cons_zero] at h
      cases h
      rfl
    | succ i =>
      rw [List.getElem?_cons_succ] at h
      rw [List.set_cons_succ, List.map_cons, List.map_cons, ih h]
theorem putL_keys {L : List (α × Value)} {a : α} {v : Value} (hn : (L.map Prod.fst).Nodup) : ((putL L a v).map Prod.fst).Nodup := by
  unfold putL
  split
  · rename_i i u h
    have h2 := (fnd_some h).2
    rw [Nat.sub_zero] at h2
    rw [keys_set h2]
    exact hn
  · rename_i h
    rw [List.map_append, List.nodup_append]
    refine ⟨hn, by simp, ?_⟩
    intro x hx y hy e
    simp only [List.map_cons, List.map_nil, List.mem_cons, List.not_mem_nil, or_false] at hy
    subst hy e
    exact (fnd_none.1 h) hx
theorem delL_sub (L : List (α × Value)) (a : α) : (delL L a).Sublist L := by
  unfold delL
  split
  · exact List.eraseIdx_sublist _ _
  · exact List.Sublist.refl _
theorem delL_keys {L : List (α × Value)} {a : α} (hn : (L.map Prod.fst).Nodup) : ((delL L a).map Prod.fst).Nodup := hn.sublist ((delL_sub L a).map _)
theorem lk_set {L : List (α × Value)} (hn : (L.map Prod.fst).Nodup) {i : Nat} {a : α} {u v : Value} (h : L[i]? = some (a, u)) (c : α) : lk (L.set i (a, v)) c = if c = a then some v else lk L c := by
  induction L generalizing i with
  | nil => cases h
  | cons p L ih =>
    rw [List.map_cons, List.nodup_cons] at hn
    cases i with
    | zero =>
      rw [List.getElem?_cons_zero] at h
      cases h
      rw [List.set_cons_zero, lk_cons, lk_cons]
      by_cases e : c = a <;> simp [e]
    | succ i =>
      rw [List.getElem?_cons_succ] at h
      rw [List.set_cons_succ, lk_cons, lk_cons, ih hn.2 h]
      by_cases e : c = p.1
      · have : c ≠ a := fun e' => hn.1 (by rw [← e, e']; exact List.mem_map.2 ⟨_, List.mem_of_getElem? h, rfl⟩)
        simp [e]
        intro e2
        exact absurd (e.trans e2) this
      · simp [e]
theorem lk_putL {L : List (α × Value)} (hn : (L.map Prod.fst).Nodup) (a c : α) (v : Value) : lk (putL L a v) c = if c = a then some v else lk L c := by
  unfold putL
  split
  · rename_i i u h
    exact lk_set hn (by have := (fnd_some h).2; rwa [Nat.sub_zero] at this) c
  · rename_i h
    rw [lk_append, lk_cons, lk_nil]
    have h' : lk L a = none := by unfold lk; rw [h]; rfl
    by_cases e : c = a
    · simp [e, h']
    · simp [e]
theorem lk_eraseIdx {L : List (α × Value)} (hn : (L.map Prod.fst).Nodup) {i : Nat} {a : α} {u : Value} (h : L[i]? = some (a, u)) (c : α) : lk (L.eraseIdx i) c = if c = a then none else lk L c := by
  induction L generalizing i with
  | nil => cases h
  | cons p L ih =>
    rw [List.map_cons, List.nodup_cons] at hn
    cases i with
    | zero =>
      rw [List.getElem?_cons_zero] at h
      cases h
      rw [List.eraseIdx_cons_zero, lk_cons]
      by_cases e : c = a
      · rw [if_pos e, e]
        exact lk_none.2 hn.1
      · simp [e]
    | succ i =>
      rw [List.getElem?_cons_succ] at h
      rw [List.eraseIdx_cons_succ, lk_cons, lk_cons, ih hn.2 h]
      by_cases e : c = p.1
      · have : c ≠ a := fun e' => hn.1 (by rw [← e, e']; exact List.mem_map.2 ⟨_, List.mem_of_getElem? h, rfl⟩)
        simp [e]
        intro e2
        exact absurd (e.trans e2) this
      · simp [e]
theorem lk_delL {L : List (α × Value)} (hn : (L.map Prod.fst).Nodup) (a c : α) : lk (delL L a) c = if c = a then none else lk L c := by
  unfold delL
  split
  · rename_i i u h
    exact lk_eraseIdx hn (by have := (fnd_some h).2; rwa [Nat.sub_zero] at this) c
  · rename_i h
    have h' : lk L a = none := by unfold lk; rw [h]; rfl
    by_cases e : c = a
    · simp [e, h']
    · simp [e]
theorem putL_length (L : List (α × Value)) (a : α) (v : Value) : (putL L a v).length ≤ L.length + 1 := by
  unfold putL
  split <;> simp
theorem delL_length (L : List (α × Value)) (a : α) : (delL L a).length ≤ L.length := (delL_sub L a).length_le
/-- What a map's entries say. -/
structure Ent (enc : α → Value) (es : Array MapEntry) (clock : Nat) (L : List (α × Value)) : Prop where
  kv : es.toList.map (fun e => (e.key, e.val)) = L.map fun p => (enc p.1, p.2)
  nd : (L.map Prod.fst).Nodup
  bn : (es.toList.map (·.born)).Nodup
  lt : ∀ x ∈ es.toList, x.born < clock
/-- Block b is a map of just these. -/
def Mp (enc : α → Value) (w : World) (b : Nat) (L : List (α × Value)) : Prop := ∃ es clock, w.heap[b]? = some (.map es clock) ∧ Ent enc es clock L
section
variable {enc : α → Value} {w : World} {b : Nat} {L : List (α × Value)}
theorem Mp.lt (h : Mp enc w b L) : b < w.heap.size := by
  obtain ⟨es, clock, h, _⟩ := h
  exact (Array.getElem?_eq_some_iff.1 h).1
theorem Mp.nd (h : Mp enc w b L) : (L.map Prod.fst).Nodup := by
  obtain ⟨es, clock, _, h⟩ := h
  exact h.nd
theorem Mp.at_ (h : Mp enc w b L) {w' : World} (hb : w'.heap[b]? = w.heap[b]?) : Mp enc w' b L := by
  obtain ⟨es, clock, h, he⟩ := h
  exact ⟨es, clock, hb.trans h, he⟩
theorem Mp.below (h : Mp enc w b L) {w' : World} (hb : Below w.heap.size w w') : Mp enc w' b L := h.at_ (hb.block b h.lt)
theorem Mp.kept (h : Mp enc w b L) {w' : World} {row : Option Nat} (hg : w.grownBy w' row) (hne : some b ≠ row) : Mp enc w' b L := h.at_ (hg.block b h.lt hne)
theorem Mp.walks (h : Mp enc w b L) {w' : World} (hk : KeepsWalks w w') : Mp enc w' b L := by
  obtain ⟨es, clock, h, he⟩ := h
  exact ⟨es, clock, hk.same b _ h rfl, he⟩
theorem Mp.made (enc : α → Value) (w : World) : Mp enc (w.alloc (.map #[] 0)) w.heap.size [] := ⟨#[], 0, heap_alloc_new _ _, ⟨rfl, by simp, by simp, by simp⟩⟩
variable {P : Program} {kt : TypeId}
theorem fnd_run (K : KeyT P kt enc) (a : α) : ∀ (es : List MapEntry) (L : List (α × Value)) (j : Nat) (w : World), es.map (fun e => (e.key, e.val)) = L.map (fun p => (enc p.1, p.2)) → (Instr.findAsking kt (enc a) es j).run P w = .ok (fnd L a j) w
  | [], [], j, w, _ => by simp [Instr.findAsking, fnd]
  | [], _ :: _, _, _, h => by cases h
  | _ :: _, [], _, _, h => by cases h
  | e :: es, p :: L, j, w, h => by
    simp only [List.map_cons, List.cons.injEq, Prod.mk.injEq] at h
    obtain ⟨⟨h1, h2⟩, h3⟩ := h
    unfold Instr.findAsking
    rw [h1]
    simp only [Sem.run_bind, K.eq, Result.andThen_ok]
    unfold fnd
    by_cases ha : a = p.1
    · simp [ha, h2]
    · simp [ha, fnd_run K a es L (j + 1) w h3]
theorem fnd_now {d : TypeDesc} (h : ∀ a b, Instr.sameNow d (enc a) (enc b) = some (decide (a = b))) (a : α) : ∀ (es : List MapEntry) (L : List (α × Value)) (j : Nat), es.map (fun e => (e.key, e.val)) = L.map (fun p => (enc p.1, p.2)) → Instr.findNow d (enc a) es j = some (fnd L a j)
  | [], [], j, _ => rfl
  | [], _ :: _, _, h => by cases h
  | _ :: _, [], _, h => by cases h
  | e :: es, p :: L, j, he => by
    simp only [List.map_cons, List.cons.injEq, Prod.mk.injEq] at he
    obtain ⟨⟨h1, h2⟩, h3⟩ := he
    unfold Instr.findNow fnd
    rw [h1, h a p.1]
    by_cases ha : a = p.1
    · simp [ha, h2]
    · simp [ha, fnd_now h a es L (j + 1) h3]
theorem find_run (K : KeyT P kt enc) (a : α) {es : Array MapEntry} {clock : Nat} (he : Ent enc es clock L) (w : World) : (Instr.findKey kt (enc a) es.toList).run P w = .ok (fnd L a 0) w := by
  obtain ⟨d, hd, h | h⟩ := K.now
  · unfold Instr.findKey
    simp only [Sem.run_bind, run_underlying hd, Result.andThen_ok]
    have hr := fnd_run K a es.toList L 0 w he.kv
    have hkv := he.kv
    generalize es.toList = l at hr hkv
    cases l with
    | nil =>
      have : L = [] := by simpa using hkv.symm
      subst this
      simp [Instr.findNow, fnd]
    | cons e l =>
      have : Instr.findNow d (enc a) (e :: l) 0 = none := by
        cases L with
        | nil => cases hkv
        | cons p L =>
          simp only [List.map_cons, List.cons.injEq, Prod.mk.injEq] at hkv
          unfold Instr.findNow
          rw [hkv.1.1, h a p.1]
      rw [this]
      exact hr
  · unfold Instr.findKey
    simp only [Sem.run_bind, run_underlying hd, Result.andThen_ok]
    rw [fnd_now h a es.toList L 0 he.kv]
    simp
variable {t e : TypeId}
theorem Mp.lookup (h : Mp enc w b L) (K : KeyT P kt enc) (ht : P.underlying t = some (.map kt e)) {z : Value} (hz : (zeroValue e).run P w = .ok z w) (a : α) : (Instr.lookup t (.map (some b)) (enc a) false).run P w = .ok ((lk L a).getD z) w := by
  obtain ⟨es, clock, hb, he⟩ := h
  unfold Instr.lookup
  simp only [Sem.run_bind, run_underlying ht, Result.andThen_ok, MapKept.run_getObj_map hb, Sem.run_pure, K.ck, find_run K a he]
  unfold lk
  cases hf : fnd L a 0 with
  | none => simp [hz]
  | some q => simp
theorem Mp.lookup_ok (h : Mp enc w b L) (K : KeyT P kt enc) (ht : P.underlying t = some (.map kt e)) {z : Value} (hz : (zeroValue e).run P w = .ok z w) (a : α) : (Instr.lookup t (.map (some b)) (enc a) true).run P w = .ok (.tuple #[(lk L a).getD z, .bool (lk L a).isSome]) w := by
  obtain ⟨es, clock, hb, he⟩ := h
  unfold Instr.lookup
  simp only [Sem.run_bind, run_underlying ht, Result.andThen_ok, MapKept.run_getObj_map hb, Sem.run_pure, K.ck, find_run K a he]
  unfold lk
  cases hf : fnd L a 0 with
  | none => simp [hz]
  | some q => simp
theorem Mp.len (h : Mp enc w b L) (ht : P.underlying t = some (.map kt e)) (ty : TypeId) : (Builtin.len_ #[t] ty #[.map (some b)]).run P w = .ok (.int .i64 L.length) w := by
  obtain ⟨es, clock, hb, he⟩ := h
  have hl : es.size = L.length := by have := congrArg List.length he.kv; simpa using this
  simp [Builtin.len_, run_underlying ht, MapKept.run_getObj_map hb, goInt, hl]
theorem grown_set {es : Array MapEntry} {clock : Nat} (hb : w.heap[b]? = some (.map es clock)) (o : Obj) : w.grownBy (setBlock w b o) (some b) :=
  ⟨rfl, rfl, rfl, by simp [setBlock], fun i _ hi => heap_setBlock_other hb _ (fun e => hi (by rw [e]))⟩
theorem Mp.update (h : Mp enc w b L) (K : KeyT P kt enc) (ht : P.underlying t = some (.map kt e)) (a : α) (v : Value) : ∃ w', (Instr.mapUpdate t (.map (some b)) (enc a) v).run P w = .ok () w' ∧ Mp enc w' b (putL L a v) ∧ w.grownBy w' (some b) ∧ w'.heap.size = w.heap.size := by
  obtain ⟨es, clock, hb, he⟩ := h
  have hl : es.toList.length = L.length := by have := congrArg List.length he.kv; simpa using this
  cases hf : fnd L a 0 with
  | none =>
    refine ⟨setBlock w b (.map (es.push ⟨enc a, v, clock⟩) (clock + 1)), ?_, ⟨_, _, heap_setBlock_same hb _, ?_⟩, grown_set hb _, by simp [setBlock]⟩
    · simp [Instr.mapUpdate, run_underlying ht, MapKept.run_getObj_map hb, K.ck, find_run K a he, hf, MapKept.run_setObj_map _ hb, setBlock]
    · refine ⟨?_, putL_keys he.nd, ?_, ?_⟩
      · simp [putL, hf, he.kv]
      · rw [Array.toList_push, List.map_append, List.nodup_append]
        refine ⟨he.bn, by simp, ?_⟩
        intro x hx y hy e'
        simp only [List.map_cons, List.map_nil, List.mem_cons, List.not_mem_nil, or_false] at hy
        obtain ⟨z, hz, rfl⟩ := List.mem_map.1 hx
        have := he.lt z hz
        omega
      · intro x hx
        rw [Array.toList_push, List.mem_append] at hx
        rcases hx with hx | hx
        · have := he.lt x hx; omega
        · simp only [List.mem_cons, List.not_mem_nil, or_false] at hx
          subst hx
          exact Nat.lt_succ_self _
  | some q =>
    obtain ⟨i, u⟩ := q
    obtain ⟨_, hi⟩ := fnd_some hf
    rw [Nat.sub_zero] at hi
    have hiL := (List.getElem?_eq_some_iff.1 hi).1
    have hie : i < es.size := by have : es.toList.length = es.size := rfl; omega
    have hkey : es[i].key = enc a := by
      have := congrArg (fun l => l[i]?) he.kv
      simp only [List.getElem?_map, hi, Option.map_some] at this
      rw [Array.getElem?_toList, Array.getElem?_eq_getElem hie] at this
      simp only [Option.map_some, Option.some.injEq, Prod.mk.injEq] at this
      exact this.1
    refine ⟨setBlock w b (.map (es.modify i fun e => { e with key := enc a, val := v }) clock), ?_, ⟨_, _, heap_setBlock_same hb _, ?_⟩, grown_set hb _, by simp [setBlock]⟩
    · simp [Instr.mapUpdate, run_underlying ht, MapKept.run_getObj_map hb, K.ck, find_run K a he, hf, Array.getElem?_eq_getElem hie, hkey, Instr.keyThatStays, K.bits, MapKept.run_setObj_map _ hb, setBlock]
    · have hml : (es.modify i fun e => { e with key := enc a, val := v }).toList = es.toList.set i { es[i] with key := enc a, val := v } := by
        apply List.ext_getElem?
        intro k
        rw [Array.getElem?_toList, Array.getElem?_modify, List.getElem?_set, Array.getElem?_toList, Array.length_toList]
        by_cases hk : i = k
        · subst hk; simp [hie]
        · simp [hk]
      refine ⟨?_, putL_keys he.nd, ?_, ?_⟩
      · rw [hml]
        simp [putL, hf, List.map_set, he.kv]
      · rw [hml, List.map_set]
        have : (List.map (·.born) es.toList).set i es[i].born = List.map (·.born) es.toList := by
          apply List.ext_getElem?
          intro k
          rw [List.getElem?_set]
          split
          · rename_i hk; subst hk
            simp [hie]
          · rfl
        rw [this]
        exact he.bn
      · intro x hx
        rw [hml] at hx
        rcases List.mem_or_eq_of_mem_set hx with hx | hx
        · exact he.lt x hx
        · subst hx
          exact he.lt es[i] (by simp)
theorem Mp.delete (h : Mp enc w b L) (K : KeyT P kt enc) (ht : P.underlying t = some (.map kt e)) (a : α) (kt' ty : TypeId) : ∃ w', (Builtin.delete_ #[t, kt'] ty #[.map (some b), enc a]).run P w = .ok (.tuple #[]) w' ∧ Mp enc w' b (delL L a) ∧ w.grownBy w' (some b) ∧ w'.heap.size = w.heap.size := by
  obtain ⟨es, clock, hb, he⟩ := h
  have hl : es.toList.length = L.length := by have := congrArg List.length he.kv; simpa using this
  cases hf : fnd L a 0 with
  | none =>
    refine ⟨setBlock w b (.map es clock), ?_, ⟨_, _, heap_setBlock_same hb _, ?_⟩, grown_set hb _, by simp [setBlock]⟩
    · simp [Builtin.delete_, run_underlying ht, MapKept.run_getObj_map hb, K.ck, find_run K a he, hf, MapKept.run_setObj_map _ hb, setBlock]
    · have : delL L a = L := by unfold delL; rw [hf]
      rw [this]; exact he
  | some q =>
    obtain ⟨i, u⟩ := q
    obtain ⟨_, hi⟩ := fnd_some hf
    rw [Nat.sub_zero] at hi
    have hiL := (List.getElem?_eq_some_iff.1 hi).1
    have hie : i < es.size := by have : es.toList.length = es.size := rfl; omega
    refine ⟨setBlock w b (.map (es.eraseIdxIfInBounds i) clock), ?_, ⟨_, _, heap_setBlock_same hb _, ?_⟩, grown_set hb _, by simp [setBlock]⟩
    · simp [Builtin.delete_, run_underlying ht, MapKept.run_getObj_map hb, K.ck, find_run K a he, hf, MapKept.run_setObj_map _ hb, setBlock]
    · have hml : (es.eraseIdxIfInBounds i).toList = es.toList.eraseIdx i := by
        unfold Array.eraseIdxIfInBounds
        rw [dif_pos hie, Array.toList_eraseIdx]
      have hd : delL L a = L.eraseIdx i := by unfold delL; rw [hf]
      rw [hd]
      refine ⟨?_, by rw [← hd]; exact delL_keys he.nd, ?_, ?_⟩
      · have hem : ∀ {A B : Type} (f : A → B) (l : List A) (k : Nat), (l.eraseIdx k).map f = (l.map f).eraseIdx k := fun f l => by
          induction l with
          | nil => intro k; rfl
          | cons x l ih => intro k; cases k with
            | zero => rfl
            | succ k => simp [List.eraseIdx_cons_succ, ih]
        rw [hml, hem, he.kv, hem]
      · rw [hml]
        exact he.bn.sublist ((List.eraseIdx_sublist _ _).map _)
      · intro x hx
        rw [hml] at hx
        exact he.lt x (List.mem_of_mem_eraseIdx hx)
/-- Between 'mapEntry' and 'entryStore': the entry at a key is there, and bears a stamp. -/
def Md (enc : α → Value) (w : World) (b : Nat) (L : List (α × Value)) (a : α) (q : Nat) : Prop := ∃ es clock, w.heap[b]? = some (.map es clock) ∧ Ent enc es clock L ∧ ∃ (i : Nat) (x : MapEntry), es.toList[i]? = some x ∧ x.key = enc a ∧ x.born = q ∧ L[i]? = some (a, x.val)
theorem Md.mp {a : α} {q : Nat} (h : Md enc w b L a q) : Mp enc w b L := by
  obtain ⟨es, clock, hb, he, _⟩ := h
  exact ⟨es, clock, hb, he⟩
theorem Md.at_ {a : α} {q : Nat} (h : Md enc w b L a q) {w' : World} (hb : w'.heap[b]? = w.heap[b]?) : Md enc w' b L a q := by
  obtain ⟨es, clock, h, he⟩ := h
  exact ⟨es, clock, hb.trans h, he⟩
theorem Mp.entry (h : Mp enc w b L) (K : KeyT P kt enc) (ht : P.underlying t = some (.map kt e)) {z : Value} (hz : (zeroValue e).run P w = .ok z w) (a : α) : ∃ w' L' q, (Instr.mapEntry t (.map (some b)) (enc a)).run P w = .ok (.tuple #[(lk L a).getD z, .int .i64 (q : Nat)]) w' ∧ Md enc w' b L' a q ∧ (∀ c, lk L' c = if c = a then some ((lk L a).getD z) else lk L c) ∧ L'.length ≤ L.length + 1 ∧ w.grownBy w' (some b) ∧ w'.heap.size = w.heap.size := by
  obtain ⟨es, clock, hb, he⟩ := h
  have hl : es.toList.length = L.length := by have := congrArg List.length he.kv; simpa using this
  cases hf : fnd L a 0 with
  | none =>
    have hlk : lk L a = none := by unfold lk; rw [hf]; rfl
    refine ⟨setBlock w b (.map (es.push ⟨enc a, z, clock⟩) (clock + 1)), L ++ [(a, z)], clock, ?_, ⟨_, _, heap_setBlock_same hb _, ?_, es.size, ⟨enc a, z, clock⟩, ?_, rfl, rfl, ?_⟩, ?_, by simp, grown_set hb _, by simp [setBlock]⟩
    · simp [Instr.mapEntry, run_underlying ht, MapKept.run_getObj_map hb, K.ck, find_run K a he, hf, hz, hlk, MapKept.run_setObj_map _ hb, setBlock, goInt]
    · have hp : putL L a z = L ++ [(a, z)] := by unfold putL; rw [hf]
      refine ⟨?_, by rw [← hp]; exact putL_keys he.nd, ?_, ?_⟩
      · simp [he.kv]
      · rw [Array.toList_push, List.map_append, List.nodup_append]
        refine ⟨he.bn, by simp, ?_⟩
        intro x hx y hy e'
        simp only [List.map_cons, List.map_nil, List.mem_cons, List.not_mem_nil, or_false] at hy
        obtain ⟨z, hz, rfl⟩ := List.mem_map.1 hx
        have := he.lt z hz
        omega
      · intro x hx
        rw [Array.toList_push, List.mem_append] at hx
        rcases hx with hx | hx
        · have := he.lt x hx; omega
        · simp only [List.mem_cons, List.not_mem_nil, or_false] at hx
          subst hx
          exact Nat.lt_succ_self _
    · rw [Array.toList_push]
      exact List.getElem?_concat_length
    · have : es.size = L.length := hl
      rw [this]
      exact List.getElem?_concat_length
    · intro c
      have hp : putL L a z = L ++ [(a, z)] := by unfold putL; rw [hf]
      rw [← hp, lk_putL he.nd, hlk]
      rfl
  | some q =>
    obtain ⟨i, u⟩ := q
    have hlk : lk L a = some u := by unfold lk; rw [hf]; rfl
    obtain ⟨_, hi⟩ := fnd_some hf
    rw [Nat.sub_zero] at hi
    have hiL := (List.getElem?_eq_some_iff.1 hi).1
    have hie : i < es.size := by have : es.toList.length = es.size := rfl; omega
    have hkv : es[i].key = enc a ∧ es[i].val = u := by
      have := congrArg (fun l => l[i]?) he.kv
      simp only [List.getElem?_map, hi, Option.map_some] at this
      rw [Array.getElem?_toList, Array.getElem?_eq_getElem hie] at this
      simp only [Option.map_some, Option.some.injEq, Prod.mk.injEq] at this
      exact this
    have hme : (es.modify i fun e => { e with key := enc a }) = es := by
      apply Array.ext_getElem?
      intro k
      rw [Array.getElem?_modify]
      by_cases hk : i = k
      · subst hk
        rw [if_pos rfl, Array.getElem?_eq_getElem hie]
        simp only [Option.map_some, Option.some.injEq]
        rw [← hkv.1]
      · rw [if_neg hk]
    refine ⟨setBlock w b (.map es clock), L, es[i].born, ?_, ⟨_, _, heap_setBlock_same hb _, he, i, es[i], ?_, hkv.1, rfl, ?_⟩, ?_, by omega, grown_set hb _, by simp [setBlock]⟩
    · simp [Instr.mapEntry, run_underlying ht, MapKept.run_getObj_map hb, K.ck, find_run K a he, hf, hlk, Array.getElem?_eq_getElem hie, hkv.1, Instr.keyThatStays, K.bits, MapKept.run_setObj_map _ hb, setBlock, goInt, hme]
    · rw [Array.getElem?_toList, Array.getElem?_eq_getElem hie]
    · rw [hi, hkv.2]
    · intro c
      by_cases hc : c = a
      · rw [if_pos hc, hc, hlk]; rfl
      · rw [if_neg hc]
theorem Md.store {a : α} {q : Nat} (h : Md enc w b L a q) (t : TypeId) (v : Value) : ∃ w' L', (Instr.entryStore t (.map (some b)) (.int .i64 (q : Nat)) v).run P w = .ok () w' ∧ Mp enc w' b L' ∧ (∀ c, lk L' c = if c = a then some v else lk L c) ∧ L'.length = L.length ∧ w.grownBy w' (some b) ∧ w'.heap.size = w.heap.size := by
  obtain ⟨es, clock, hb, he, i, x, hx, hk, hq, hL⟩ := h
  have hie : i < es.size := (List.getElem?_eq_some_iff.1 hx).1
  have hxi : es[i] = x := by
    rw [Array.getElem?_toList, Array.getElem?_eq_getElem hie] at hx
    exact Option.some.inj hx
  have hfi : es.findIdx? (fun e => (e.born : Int) == (q : Int)) = some i := by
    rw [Array.findIdx?_eq_some_iff_getElem]
    refine ⟨hie, by rw [hxi, hq]; simp, ?_⟩
    intro j hj
    have hne : es[j].born ≠ q := by
      intro hc
      have h1 := he.bn
      have h2 := (List.pairwise_iff_getElem.1 h1) j i (by simp; omega) (by simpa using hie) hj
      apply h2
      simp [hxi, hq, hc]
    simp only [beq_iff_eq, Bool.not_eq_true, beq_eq_false_iff_ne, ne_eq]
    omega
  have hml : (es.modify i fun e => { e with val := v }).toList = es.toList.set i { es[i] with val := v } := by
    apply List.ext_getElem?
    intro k
    rw [Array.getElem?_toList, Array.getElem?_modify, List.getElem?_set, Array.getElem?_toList, Array.length_toList]
    by_cases hk : i = k
    · subst hk; simp [hie]
    · simp [hk]
  refine ⟨setBlock w b (.map (es.modify i fun e => { e with val := v }) clock), L.set i (a, v), ?_, ⟨_, _, heap_setBlock_same hb _, ?_⟩, fun c => lk_set he.nd hL c, by simp, grown_set hb _, by simp [setBlock]⟩
  · simp [Instr.entryStore, MapKept.run_getObj_map hb, MapKept.run_setObj_map _ hb, setBlock, asInt, asIntOf, hfi]
  · refine ⟨?_, by rw [keys_set hL]; exact he.nd, ?_, ?_⟩
    · rw [hml]
      simp [List.map_set, he.kv, hxi, hk]
    · rw [hml, List.map_set]
      have : (List.map (·.born) es.toList).set i es[i].born = List.map (·.born) es.toList := by
        apply List.ext_getElem?
        intro k
        rw [List.getElem?_set]
        split
        · rename_i hk; subst hk
          simp [hie]
        · rfl
      rw [this]
      exact he.bn
    · intro y hy
      rw [hml] at hy
      rcases List.mem_or_eq_of_mem_set hy with hy | hy
      · exact he.lt y hy
      · subst hy
        exact he.lt es[i] (by simp)
/-- Gone over: what has come so far. -/
structure It (enc : α → Value) (w : World) (r b : Nat) (L : List (α × Value)) (ys : List α) : Prop where
  ex : ∃ es clock, w.heap[b]? = some (.map es clock) ∧ Ent enc es clock L ∧ ∃ D R : List MapEntry, w.heap[r]? = some (.mapIter (some b) clock (D.map (·.born)).toArray clock) ∧ es.toList.Perm (D ++ R) ∧ D.map (·.key) = ys.map enc
def itLeft (N : Nat) (w : World) (r : Nat) : Nat := match w.heap[r]? with | some (.mapIter _ _ seen _) => N - seen.size | _ => 0
theorem It.walks {r : Nat} {ys : List α} (h : It enc w r b L ys) {w' : World} (hk : KeepsWalks w w') : It enc w' r b L ys := by
  obtain ⟨es, clock, h1, h2, D, R, h3, h4⟩ := h.ex
  exact ⟨es, clock, hk.same _ _ h1 rfl, h2, D, R, hk.same _ _ h3 rfl, h4⟩
theorem It.left {r : Nat} {ys : List α} (h : It enc w r b L ys) (N : Nat) : itLeft N w r = N - ys.length := by
  obtain ⟨es, clock, h1, h2, D, R, h3, h4, h5⟩ := h.ex
  have := congrArg List.length h5
  simp only [List.length_map] at this
  simp [itLeft, h3, this]
theorem It.iter_walk {r : Nat} {ys : List α} (h : It enc w r b L ys) : ∃ o, w.heap[r]? = some o ∧ o.isWalk = true := by
  obtain ⟨es, clock, h1, h2, D, R, h3, h4, h5⟩ := h.ex
  exact ⟨_, h3, rfl⟩
theorem Mp.range (h : Mp enc w b L) (ht : P.underlying t = some (.map kt e)) : ∃ w', (Instr.range t (.map (some b))).run P w = .ok (.pointer (some ⟨w.heap.size, 0, none⟩)) w' ∧ It enc w' w.heap.size b L [] ∧ w.grownBy w' none ∧ w'.heap.size = w.heap.size + 1 := by
  have hlt := h.lt
  obtain ⟨es, clock, hb, he⟩ := h
  refine ⟨_, run_range_map w t kt e b es clock ht hb, ⟨es, clock, ?_, he, [], es.toList, ?_, List.Perm.refl _, rfl⟩, World.grownBy_alloc _ _ _, by simp⟩
  · exact ((World.grownBy_alloc w _ none).block b hlt (by simp)).trans hb
  · exact heap_alloc_new _ _
theorem It.next {r : Nat} {ys : List α} (h : It enc w r b L ys) (hinj : ∀ a b, enc a = enc b → a = b) (ty : TypeId) :
    ((Instr.next (.pointer (some ⟨r, 0, none⟩)) false ty).run P w = .ok (.tuple #[.bool false]) w ∧ ys.Perm (L.map Prod.fst)) ∨
    ∃ a v w', (a, v) ∈ L ∧ (Instr.next (.pointer (some ⟨r, 0, none⟩)) false ty).run P w = .ok (.tuple #[.bool true, enc a, v]) w' ∧ It enc w' r b L (ys ++ [a]) ∧ ys.length < L.length ∧ w.grownBy w' (some r) ∧ w'.heap.size = w.heap.size ∧ (Instr.entry (.pointer (some ⟨r, 0, none⟩))).run P w' = .ok (.tuple #[enc a, v]) w' := by
  obtain ⟨es, clock, hb, he, D, R, hr, hp, hy⟩ := h.ex
  have hkeys : es.toList.map (·.key) = L.map fun p => enc p.1 := by
    have := congrArg (List.map Prod.fst) he.kv
    simpa [List.map_map, Function.comp_def] using this
  have hbn : ((D ++ R).map (·.born)).Nodup := (hp.map (·.born)).nodup_iff.1 he.bn
  rw [List.map_append, List.nodup_append] at hbn
  obtain ⟨hn1, hn2, hn3⟩ := hbn
  have hlen : es.toList.length = L.length := by have := congrArg List.length he.kv; simpa using this
  rcases run_next_at (P := P) w ty r b clock clock (D.map (·.born)).toArray es clock hr hb he.lt (Nat.le_refl _) with ⟨h0, hrun⟩ | ⟨x, hx, w1, hw1, hrun⟩
  · refine .inl ⟨hrun, ?_⟩
    have hR : R = [] := by
      rcases R with _ | ⟨z, R⟩
      · rfl
      · exfalso
        have hz : z ∈ es.toList := hp.mem_iff.2 (by simp)
        have : z ∈ (leftOf es (D.map (·.born)).toArray).toList := by
          unfold leftOf
          simp only [Array.mem_toList_iff, Array.mem_filter]
          refine ⟨by simpa using hz, ?_⟩
          simp only [Bool.not_eq_true', List.contains_toArray, Bool.not_eq_eq_eq_not, Bool.not_true]
          rw [← Bool.not_eq_true, List.contains_iff_mem]
          intro hc
          exact hn3 _ hc _ (by simp) rfl
        have := List.length_pos_of_mem this
        rw [Array.length_toList] at this
        omega
    rw [hR, List.append_nil] at hp
    have h2 := hp.map (·.key)
    rw [hkeys, hy] at h2
    have h3 : (List.map enc (L.map Prod.fst)).Perm (List.map enc ys) := by rw [List.map_map]; exact h2
    have hne1 : (List.map enc (L.map Prod.fst)).Nodup := List.Pairwise.map enc (fun a b hab hc => hab (hinj a b hc)) he.nd
    have hne2 : (List.map enc ys).Nodup := h3.nodup_iff.1 hne1
    have hny : ys.Nodup := by
      refine List.Pairwise.of_map enc (fun a b hab hc => hab (by rw [hc])) hne2
    refine (List.perm_ext_iff_of_nodup hny he.nd).2 fun a => ?_
    have := h3.mem_iff (a := enc a)
    constructor
    · intro h
      obtain ⟨c, hc, hca⟩ := List.mem_map.1 (this.2 (List.mem_map.2 ⟨a, h, rfl⟩))
      rw [← hinj _ _ hca]; exact hc
    · intro h
      obtain ⟨c, hc, hca⟩ := List.mem_map.1 (this.1 (List.mem_map.2 ⟨a, h, rfl⟩))
      rw [← hinj _ _ hca]; exact hc
  · refine .inr ?_
    have hx2 : x ∈ es.toList ∧ x.born ∉ D.map (·.born) := by
      unfold leftOf at hx
      simp only [Array.mem_toList_iff, Array.mem_filter] at hx
      refine ⟨by simpa using hx.1, ?_⟩
      have h2 := hx.2
      simp only [Bool.not_eq_true', List.contains_toArray, Bool.not_eq_eq_eq_not, Bool.not_true] at h2
      rw [← Bool.not_eq_true, List.contains_iff_mem] at h2
      exact h2
    have hxR : x ∈ R := by
      have := hp.mem_iff.1 hx2.1
      rcases List.mem_append.1 this with h | h
      · exact absurd (List.mem_map.2 ⟨x, h, rfl⟩) hx2.2
      · exact h
    obtain ⟨R1, R2, rfl⟩ := List.append_of_mem hxR
    have hkv : (x.key, x.val) ∈ L.map fun p => (enc p.1, p.2) := by rw [← he.kv]; exact List.mem_map.2 ⟨x, hx2.1, rfl⟩
    obtain ⟨⟨a, v⟩, hav, hq⟩ := List.mem_map.1 hkv
    simp only [Prod.mk.injEq] at hq
    have hr1 : w1.heap[r]? = some (.mapIter (some b) clock (D.map (·.born)).toArray clock) := by rcases hw1 with rfl | rfl <;> exact hr
    have hb1 : w1.heap[b]? = some (.map es clock) := by rcases hw1 with rfl | rfl <;> exact hb
    have hrlt : r < w1.heap.size := (Array.getElem?_eq_some_iff.1 hr1).1
    have hne : b ≠ r := by rintro rfl; rw [hb] at hr; cases hr
    have hrs : ∀ o, (setBlock w1 r o).heap[r]? = some o := fun o => by simp [setBlock, hrlt]
    have hro : ∀ o k, k ≠ r → (setBlock w1 r o).heap[k]? = w1.heap[k]? := fun o k hk => by simp [setBlock, Array.getElem?_setIfInBounds_ne (Ne.symm hk)]
    have hsz : w1.heap.size = w.heap.size := by rcases hw1 with rfl | rfl <;> rfl
    refine ⟨a, v, setBlock w1 r (.mapIter (some b) clock ((D.map (·.born)).toArray.push x.born) clock), hav, by rw [hrun, hq.1, hq.2], ⟨es, clock, (hro _ _ hne).trans hb1, he, D ++ [x], R1 ++ R2, ?_, ?_, ?_⟩, ?_, ?_, ?_, ?_⟩
    · rw [hrs]; simp
    · refine hp.trans ?_
      rw [List.append_assoc]
      refine List.Perm.append_left _ ?_
      exact (List.perm_middle).trans (by simp)
    · rw [List.map_append, List.map_append, hy]; simp [hq.1]
    · have h1 := hp.length_eq
      have h2 := congrArg List.length hy
      simp only [List.length_map, List.length_append, List.length_cons] at h1 h2
      omega
    · refine ⟨?_, ?_, ?_, by simp [setBlock, hsz], fun k hk hne' => ?_⟩
      · rcases hw1 with rfl | rfl <;> rfl
      · rcases hw1 with rfl | rfl <;> rfl
      · rcases hw1 with rfl | rfl <;> rfl
      · rw [hro _ _ (fun e' => hne' (by rw [e']))]
        rcases hw1 with rfl | rfl <;> rfl
    · simp [setBlock, hsz]
    · have := run_entry_at (P := P) (setBlock w1 r (.mapIter (some b) clock ((D.map (·.born)).toArray.push x.born) clock)) r b clock (D.map (·.born)).toArray es clock x (hrs _) ((hro _ _ hne).trans hb1) hx2.1 he.bn
      rw [this, hq.1, hq.2]
end
end Go.Proofs.Tail
