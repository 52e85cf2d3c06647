/- Rows of times that a statement makes by appends of times written out. -/
import Derived.Test.YtbojefdbkegimaaRows
import Derived.Test.YtbojefdbkegimaaWords
import Derived.Test.YtbojefdbkegimaaElems
import Derived.Test.YtbojefdbkegimaaFrame
import Derived.Test.YtbojefdbkegimaaS1
import Derived.Test.YtbojefdbkegimaaS2
import Derived.Test.YtbojefdbkegimaaBs
namespace Go.Proofs.Ytbojefdbkegimaa
open Go.RowKit Go.Proofs.Tail
set_option linter.unusedSimpArgs false
set_option linter.unusedVariables false
section
variable {P : Program} {ops : Array Oper} {rest : List Oper} {o : Oper} {a : Act} {Q : Exit → Act → World → Prop}
/-- append(v, literals..): the world is one in which they have just been laid. -/
theorem own_append_lit {W : World} (hgd : o.guard = none) (s x : Operand) (t e : TypeId) (z : Value) (size bytes : Nat)
    (ho : o.op = .call { callee := .builtin .append, args := #[s, x], argTypes := #[t, t] })
    (ht : P.underlying t = some (.slice e)) (hinfo : (P.info? e).map (fun i => (i.zero, i.size, i.bytes)) = some (some z, size, bytes)) (hzs : z.cells.size = size) (hsz : 0 < size) (hb0 : 0 < bytes)
    (base : Nat) (v : Value) (n : Nat) (xs : List Value) (m cap : Nat) (ys : List Value) (hs : a.eval s = v) (hx : a.eval x = .slice (some ⟨W.heap.size, 0, Option.none⟩) m cap)
    (HO : W.ownsRow base e size v n xs) (hl : ys.length = m * size) (h1c : ∀ u ∈ ys, u.oneCell' = true) (hlim : (n + m) * bytes ≤ 140737488355328) (hbase : base ≤ W.heap.size)
    (h : ∀ v1 w1, w1.ownsRow base e size v1 (n + m) (xs ++ ys) → W.grownBy w1 v.ownBlock → (v1.ownBlock = v.ownBlock ∨ ∃ b, v1.ownBlock = some b ∧ W.heap.size ≤ b) → wpList P ops Q rest (a.put o.dst v1) w1) :
    wpList P ops Q (o :: rest) a (W.alloc (.cells ys.toArray e)) := by
  refine own_append hgd s x t e z size bytes ho ht hinfo hzs hsz hb0 base v n xs _ m cap ys hs hx (HO.alloc _) hl (fun _ => ⟨_, rfl, fun j u hj => ?_⟩) h1c hlim (by simp; omega) fun v1 w1 h1 h2 h3 => h v1 w1 h1 (World.grownBy.trans (World.grownBy_alloc W _ _) h2) ?_
  · rw [add_plain]
    exact box_cell W ys e j u hj
  · rcases h3 with h3 | h3
    · exact .inl h3
    · exact .inr ⟨_, h3, by simp⟩
end
def tcs (ts : List T) : List Value := ts.flatMap fun t => [.int .i64 t.d, .int .i64 t.e, .int .i64 t.a, .int .i64 t.b, .int .i64 t.c]
theorem tcs_append (xs ys : List T) : tcs (xs ++ ys) = tcs xs ++ tcs ys := by simp [tcs]
theorem tcs_get : ∀ (ts : List T) (j : Nat) (t : T) (i : Nat) (v : Value), ts[j]? = some t → ([.int .i64 t.d, .int .i64 t.e, .int .i64 t.a, .int .i64 t.b, .int .i64 t.c] : List Value)[i]? = some v → (tcs ts)[j * 5 + i]? = some v
  | [], j, t, i, v, h, hv => by simp at h
  | x :: xs, 0, t, i, v, h, hv => by
    have hx : x = t := by simpa using h
    subst hx
    have hi : i < 5 := by have := (List.getElem?_eq_some_iff.1 hv).1; simpa using this
    show ([.int .i64 x.d, .int .i64 x.e, .int .i64 x.a, .int .i64 x.b, .int .i64 x.c] ++ tcs xs)[0 * 5 + i]? = some v
    rw [List.getElem?_append_left (by simp; omega), Nat.zero_mul, Nat.zero_add]
    exact hv
  | x :: xs, j + 1, t, i, v, h, hv => by
    have h' : xs[j]? = some t := by simpa using h
    have ih := tcs_get xs j t i v h' hv
    show ([.int .i64 x.d, .int .i64 x.e, .int .i64 x.a, .int .i64 x.b, .int .i64 x.c] ++ tcs xs)[(j + 1) * 5 + i]? = some v
    rw [List.getElem?_append_right (by simp; omega)]
    rw [← ih]
    congr 1
    simp
    omega
def Tok (t : T) : Prop := -9223372036854775808 ≤ t.d ∧ t.d ≤ 9223372036854775807
/-- A row of times of one's own. -/
structure Kn (wr : World) (B C : Nat) (v : Value) (m : Nat) : Prop where
  ex : ∃ ts : List T, (∀ t ∈ ts, Tok t) ∧ ts.length = m ∧ wr.ownsRow B 24 5 v m (tcs ts)
  ne : v.ownBlock ≠ some C
  lt : B ≤ wr.heap.size
theorem Kn.nil (wr : World) (B C : Nat) (h : B ≤ wr.heap.size) : Kn wr B C (.slice none 0 0) 0 := ⟨⟨[], by simp, rfl, World.ownsRow_nil _ _ _ _⟩, by simp [Value.ownBlock], h⟩
theorem Kn.snoc {W w1 : World} {B C : Nat} {v v1 : Value} {m : Nat} (h : Kn W B C v m) (t1 t2 t3 : T) (o1 : Tok t1) (o2 : Tok t2) (o3 : Tok t3) (hC : C < W.heap.size)
    (f : ∀ xs, W.ownsRow B 24 5 v m xs → w1.ownsRow B 24 5 v1 (m + 3) (xs ++ tcs [t1, t2, t3])) (hg : W.grownBy w1 v.ownBlock)
    (hat : v1.ownBlock = v.ownBlock ∨ ∃ b, v1.ownBlock = some b ∧ W.heap.size ≤ b) : Kn w1 B C v1 (m + 3) := by
  obtain ⟨ts, h1, h2, h3⟩ := h.ex
  refine ⟨⟨ts ++ [t1, t2, t3], ?_, by simp [h2], ?_⟩, ?_, Nat.le_trans h.lt hg.size⟩
  · intro t ht
    simp only [List.mem_append, List.mem_cons, List.not_mem_nil, or_false] at ht
    rcases ht with ht | rfl | rfl | rfl
    · exact h1 t ht
    · exact o1
    · exact o2
    · exact o3
  · rw [tcs_append]; exact f _ h3
  · rcases hat with e | ⟨b, e, hb⟩
    · rw [e]; exact h.ne
    · rw [e]; intro q; injection q with q; omega
/-- Another block that is minded. -/
theorem Kn.mind {wr : World} {B C : Nat} {v : Value} {m : Nat} (h : Kn wr B C v m) (o : Obj) (C' : Nat) (hC : wr.heap.size = C' ∨ C' < B) : Kn (wr.alloc o) B C' v m := by
  obtain ⟨ts, h1, h2, h3⟩ := h.ex
  refine ⟨⟨ts, h1, h2, h3.alloc _⟩, fun e => ?_, by simp; have := h.lt; omega⟩
  have := h3.lt _ e
  omega
theorem Kn.back {wr : World} {B C : Nat} {v : Value} {m : Nat} (h : Kn wr B C v m) (C' : Nat) (hC : C' < B) : Kn wr B C' v m := by
  obtain ⟨ts, h1, h2, h3⟩ := h.ex
  refine ⟨⟨ts, h1, h2, h3⟩, fun e => ?_, h.lt⟩
  have := h3.lt _ e
  omega
/-- A time that is read, right or not. -/
def RTok (w : World) (b o : Nat) (t : T) : Prop := At w b o t ∧ Tok t
theorem RTok.stays : Stays RTok := fun _ _ _ _ _ hb h => ⟨h.1.below hb, h.2⟩
theorem Kn.read {wr : World} {B C : Nat} {v : Value} {m : Nat} (h : Kn wr B C v m) (hm : 0 < m) (hb : m ≤ 9223372036854775807) : ∃ b c ts, v = .slice (some ⟨b, 0, none⟩) m c ∧ Rd 5 RTok wr (some ⟨b, 0, none⟩) m c ts ∧ B ≤ b := by
  obtain ⟨ts, h1, h2, h3⟩ := h.ex
  obtain ⟨g, cap, rfl, hg, hlt, hc⟩ := own_form h3 hm
  refine ⟨g, cap, ts, rfl, ⟨h2, hc, hb, fun _ => ⟨g, 0, rfl, fun j t hj => ⟨?_, h1 t (List.mem_of_getElem? hj)⟩⟩⟩, hg⟩
  have key : ∀ i v, ([.int .i64 t.d, .int .i64 t.e, .int .i64 t.a, .int .i64 t.b, .int .i64 t.c] : List Value)[i]? = some v → wr.cell? ⟨g, j * 5 + i, none⟩ = some v := by
    intro i v hv
    have := h3.cells (g := g) rfl (j * 5 + i) v (tcs_get ts j t i v hj hv)
    rwa [add_plain] at this
  rw [Nat.zero_add]
  exact ⟨key 0 _ rfl, key 1 _ rfl, key 2 _ rfl, key 3 _ rfl, key 4 _ rfl⟩
theorem infoT : (Try.prog.info? 24).map (fun i => (i.zero, i.size, i.bytes)) = some (some (.agg #[.int .i64 0, .int .i64 0, .int .i64 0, .int .i64 0, .int .i64 0]), 5, 40) := by kernel_rfl
end Go.Proofs.Ytbojefdbkegimaa
