/- Rows of counts; append in a drawn region, onto one's own row. -/
import Derived.Test.YtebpepjlhanopaaRows
import Derived.Deep.RegionHeld3
import Derived.Test.YtebpepjlhanopaaWords
import Derived.Test.YtebpepjlhanopaaByts
import Derived.Test.YtebpepjlhanopaaFrame
import Derived.Test.YtebpepjlhanopaaElems
import Derived.Test.YtebpepjlhanopaaSortOwn
import Derived.Test.YtebpepjlhanopaaS1
import Derived.Test.YtebpepjlhanopaaS2
import Derived.Test.YtebpepjlhanopaaU1
namespace Go.Proofs.Ytebpepjlhanopaa
open Go Go.RowKit Go.Proofs.Tail Go.Sort
set_option linter.unusedSimpArgs false
set_option linter.unusedVariables false
theorem run_own_append {P : Program} {W : World} (t e rt : TypeId) (z : Value) (size bytes : Nat)
    (ht : P.underlying t = some (.slice e)) (hinfo : (P.info? e).map (fun i => (i.zero, i.size, i.bytes)) = some (some z, size, bytes)) (hzs : z.cells.size = size) (hsz : 0 < size) (hb0 : 0 < bytes)
    (base : Nat) (v : Value) (n : Nat) (xs : List Value) (A : Option Addr) (m c : Nat) (news : List Value)
    (HO : W.ownsRow base e size v n xs) (hl : news.length = m * size) (hsrc : 0 < m → ∃ ad, A = some ad ∧ ∀ j u, news[j]? = some u → W.cell? (ad.add j) = some u)
    (h1c : ∀ u ∈ news, u.oneCell' = true) (hlim : (n + m) * bytes ≤ 140737488355328) (hbase : base ≤ W.heap.size) :
    ∃ v1 w1, (Builtin.append_ #[t, t] rt #[v, .slice A m c]).run P W = .ok v1 w1 ∧ w1.ownsRow base e size v1 (n + m) (xs ++ news) ∧ W.grownBy w1 v.ownBlock ∧ (v1.ownBlock = v.ownBlock ∨ v1.ownBlock = some W.heap.size) := by
  obtain ⟨i0, hi, hzz⟩ := Option.map_eq_some_iff.1 hinfo
  simp only [Prod.mk.injEq] at hzz
  obtain ⟨hz0, hz1, hz2⟩ := hzz
  have hlen : n + m ≤ 140737488355328 := Nat.le_trans (Nat.le_mul_of_pos_right _ hb0) hlim
  rcases A with _ | ad
  · have h0 : m = 0 := by
      rcases Nat.eq_zero_or_pos m with h0 | h0
      · exact h0
      · obtain ⟨ad, h, _⟩ := hsrc h0
        cases h
    subst h0
    obtain rfl : news = [] := List.eq_nil_of_length_eq_zero (by simpa using hl)
    refine ⟨v, W, ?_, by simpa using HO, World.grownBy.refl W _, .inl rfl⟩
    rcases HO.2 with ⟨rfl, hn⟩ | ⟨g, cap, cur, rfl, _, _, hnc, _⟩
    · simp [Builtin.append_, run_underlying ht, sizeOf, typeInfo, hi, Builtin.lenOf, Builtin.firstCells]
    · simp [Builtin.append_, run_underlying ht, sizeOf, typeInfo, hi, Builtin.lenOf, Builtin.firstCells, hnc, storeCells]
  · have hcells : ∀ j u, news[j]? = some u → W.cell? (ad.add j) = some u := by
      intro j u hu
      have hj : j < news.length := (List.getElem?_eq_some_iff.1 hu).1
      obtain ⟨ad', h', hc⟩ := hsrc (by
        rcases Nat.eq_zero_or_pos m with h0 | h0
        · subst h0; simp at hl; subst hl; simp at hj
        · exact h0)
      injection h' with h'
      subst h'
      exact hc j u hu
    obtain ⟨v1, w1, hr, h2, h3, _, h5⟩ := run_append_own_at (P := P) W base t rt e i0 z size bytes ht hi hz0 hz1 hz2 hzs hsz v n xs HO ad m c news hl hcells
      h1c (by simp only [maxLen]; omega) hlim hbase
    exact ⟨v1, w1, hr, h2, h3, h5⟩
/-- append(v, ys...) at a step of a drawn region. -/
theorem step_own_append {P : Program} {W : World} {ops : Array Oper} {o : Oper} {a : Act} {K : Act → World → Prop} {Q : Exit → Act → World → Prop} {E : Prop} (hgd : o.guard = none) (s x : Operand) (t e : TypeId) (z : Value) (size bytes : Nat)
    (ho : o.op = .call { callee := .builtin .append, args := #[s, x], argTypes := #[t, t] })
    (ht : P.underlying t = some (.slice e)) (hinfo : (P.info? e).map (fun i => (i.zero, i.size, i.bytes)) = some (some z, size, bytes)) (hzs : z.cells.size = size) (hsz : 0 < size) (hb0 : 0 < bytes)
    (base : Nat) (v : Value) (n : Nat) (xs : List Value) (A : Option Addr) (m c : Nat) (news : List Value) (hs : a.eval s = v) (hx : a.eval x = .slice A m c)
    (HO : W.ownsRow base e size v n xs) (hl : news.length = m * size) (hsrc : 0 < m → ∃ ad, A = some ad ∧ ∀ j u, news[j]? = some u → W.cell? (ad.add j) = some u)
    (h1c : ∀ u ∈ news, u.oneCell' = true) (hlim : (n + m) * bytes ≤ 140737488355328) (hbase : base ≤ W.heap.size)
    (h : ∀ v1 w1, w1.ownsRow base e size v1 (n + m) (xs ++ news) → W.grownBy w1 v.ownBlock → (v1.ownBlock = v.ownBlock ∨ v1.ownBlock = some W.heap.size) → K (a.put o.dst v1) w1) :
    if Region.wanted o (yielded ops a.tmps) = true then Oper.wp P o a W K Q else E := by
  have hw : Region.wanted o (yielded ops a.tmps) = true := by simp [Region.wanted, hgd]
  rw [if_pos hw]
  obtain ⟨v1, w1, hr, hown, hg, hat⟩ := run_own_append (P := P) (W := W) t e o.type z size bytes ht hinfo hzs hsz hb0 base v n xs A m c news HO hl hsrc h1c hlim hbase
  unfold Oper.wp execOp
  simp only [ho, resolve, invoke, builtin, Sem.run_bind, Sem.run_pure, Result.andThen_ok, List.map_toArray, List.map_cons, List.map_nil, hs, hx, hr]
  exact h v1 w1 hown hg hat
instance : Inhabited (T × Int) := ⟨(T0, 0)⟩
/-- A count in memory. -/
def RCo (w : World) (b o : Nat) (p : T × Int) : Prop := At w b o p.1 ∧ w.cell? ⟨b, o + 5, none⟩ = some (.int .i64 p.2)
theorem RCo.stays : Stays RCo := fun _ _ _ _ _ hb h => ⟨h.1.below hb, below_cell hb h.2⟩
abbrev Cos (w : World) (A : Option Addr) (n c : Nat) (ps : List (T × Int)) : Prop := Rd 6 RCo w A n c ps
def encC (p : T × Int) : List Value := [.int .i64 p.1.d, .int .i64 p.1.e, .int .i64 p.1.a, .int .i64 p.1.b, .int .i64 p.1.c, .int .i64 p.2]
def recC (ps : List (T × Int)) : List Value := ps.flatMap encC
theorem recC_length (ps : List (T × Int)) : (recC ps).length = ps.length * 6 := flatMap_length (enc := encC) (k := 6) (fun _ => rfl) ps
theorem recC_append (xs ys : List (T × Int)) : recC (xs ++ ys) = recC xs ++ recC ys := by simp [recC]
theorem recC_one (ps : List (T × Int)) : ∀ u ∈ recC ps, u.oneCell' = true := by
  intro u hu
  simp only [recC, List.mem_flatMap, encC, List.mem_cons, List.not_mem_nil, or_false] at hu
  obtain ⟨x, _, rfl | rfl | rfl | rfl | rfl | rfl⟩ := hu <;> rfl
def VC (x : T × Int) (vs : List Value) : Prop := vs = encC x
theorem recC_cells (xs : List (T × Int)) : Cells 6 VC (recC xs) xs := by
  induction xs with
  | nil => exact Cells.nil _ _
  | cons x xs ih => exact (Cells.one (V := VC) (k := 6) (vs := encC x) rfl rfl).append ih
theorem own_cos {w : World} {base n : Nat} {e : TypeId} {v : Value} {xs : List (T × Int)} (h : w.ownsRow base e 6 v n (recC xs)) (hb : n ≤ 9223372036854775807) : ∃ A c, v = .slice A n c ∧ Cos w A n c xs := by
  have hl : xs.length = n := by have := h.1; rw [recC_length] at this; omega
  exact own_rd h hl hb (recC_cells xs) fun b o x vs hv hc => by
    subst hv
    exact ⟨⟨hc 0 _ rfl, hc 1 _ rfl, hc 2 _ rfl, hc 3 _ rfl, hc 4 _ rfl⟩, hc 5 _ rfl⟩
theorem cos_src {w : World} {A : Option Addr} {m c : Nat} {ys : List (T × Int)} (h : Cos w A m c ys) : 0 < m → ∃ ad, A = some ad ∧ ∀ j u, (recC ys)[j]? = some u → w.cell? (ad.add j) = some u := by
  intro hm
  obtain ⟨b, off, rfl, hc⟩ := h.at_ hm
  refine ⟨_, rfl, fun j u hu => ?_⟩
  have hj : j < ys.length * 6 := by have := (List.getElem?_eq_some_iff.1 hu).1; rwa [recC_length] at this
  have hj2 : j / 6 < ys.length := by omega
  have hr := hc (j / 6) _ (List.getElem?_eq_getElem hj2)
  have hg := flatMap_get (enc := encC) (k := 6) (fun _ => rfl) ys j hj
  rw [getElem!_pos ys _ hj2] at hg
  generalize ys[j / 6] = t at hr hg
  have ha : (⟨b, off, Option.none⟩ : Addr).add j = ⟨b, off + j, Option.none⟩ := by unfold Addr.add; split <;> simp_all
  rw [ha, ← hu]
  refine Eq.trans ?_ hg.symm
  have hm5 : j % 6 < 6 := Nat.mod_lt _ (by omega)
  have e : off + j = off + j / 6 * 6 + j % 6 := by omega
  rw [e]
  match j % 6, hm5 with
  | 0, _ => exact hr.1.c0
  | 1, _ => exact hr.1.c1
  | 2, _ => exact hr.1.c2
  | 3, _ => exact hr.1.c3
  | 4, _ => exact hr.1.c4
  | 5, _ => exact hr.2
theorem infoCo : (Try.prog.info? 67).map (fun i => (i.zero, i.size, i.bytes)) = some (some (.agg #[.int .i64 0, .int .i64 0, .int .i64 0, .int .i64 0, .int .i64 0, .int .i64 0]), 6, 48) := by kernel_rfl
theorem Cos.take {w : World} {A : Option Addr} {n c : Nat} {ts : List (T × Int)} (h : Cos w A n c ts) {m : Nat} (hm : m ≤ n) : Cos w A m c (ts.take m) :=
  ⟨by rw [List.length_take, h.len]; omega, Nat.le_trans hm h.cap, Nat.le_trans hm h.big, fun hp => by
    obtain ⟨b, off, rfl, hc⟩ := h.at_ (by omega)
    refine ⟨b, off, rfl, fun j x hj => hc j x ?_⟩
    rw [List.getElem?_take] at hj
    split at hj
    · exact hj
    · cases hj⟩
theorem Cos.drop {w : World} {b o n c : Nat} {xs : List (T × Int)} (h : Cos w (some ⟨b, o, none⟩) n c xs) {m : Nat} (hm : m ≤ n) {c' : Nat} (hc : n - m ≤ c') : Cos w (some ⟨b, o + m * 6, none⟩) (n - m) c' (xs.drop m) :=
  ⟨by rw [List.length_drop, h.len], hc, by have := h.big; omega, fun hp => by
    obtain ⟨b', off, e, hc⟩ := h.at_ (by omega)
    injection e with e
    injection e with e1 e2
    subst e1 e2
    refine ⟨b, o + m * 6, rfl, fun j x hj => ?_⟩
    rw [List.getElem?_drop] at hj
    have := hc (m + j) x hj
    rw [Nat.add_mul, ← Nat.add_assoc] at this
    exact this⟩
theorem cslice_to {w : World} {A : Option Addr} {n c k : Nat} {xs : List (T × Int)} (h : Cos w A n c xs) (hk : k ≤ n) :
    ∀ W, (Instr.slice 38 (.slice A n c) none (some (.int .i64 k)) none).run Try.prog W = .ok (.slice A k c) W := by
  have hc := h.cap
  intro W
  have h1 : (0 : Int) ≤ k := by omega
  have h2 : (k : Int) ≤ c := by omega
  have u := Try.underlying38
  have z := Try.sizeOf67
  go_simp
theorem cslice_from {w : World} {A : Option Addr} {n c k : Nat} {xs : List (T × Int)} (h : Cos w A n c xs) (hk : k ≤ n) :
    ∃ Ad, (∀ W, (Instr.slice 38 (.slice A n c) (some (.int .i64 k)) none none).run Try.prog W = .ok (.slice Ad (n - k) (c - k)) W) ∧ Cos w Ad (n - k) (c - k) (xs.drop k) := by
  have hc := h.cap
  refine ⟨if c = k then A else A.map (·.add (k * 6)), fun W => ?_, ?_⟩
  · have h1 : (0 : Int) ≤ k := by omega
    have h2 : (k : Int) ≤ n := by omega
    have u := Try.underlying38
    have z := Try.sizeOf67
    go_simp
  · refine ⟨by rw [List.length_drop, h.len], by omega, by have := h.big; omega, fun hn => ?_⟩
    obtain ⟨b, off, rfl, _⟩ := h.at_ (by omega)
    rw [if_neg (by omega)]
    have := (h.drop hk (c' := n) (by omega)).at_ hn
    rw [show (some (⟨b, off, none⟩ : Addr)).map (·.add (k * 6)) = some ⟨b, off + k * 6, none⟩ by
      simp only [Option.map_some, Addr.add]; split <;> simp_all]
    exact this
end Go.Proofs.Ytebpepjlhanopaa
