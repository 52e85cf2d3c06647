/- Contracts of slices.IndexFunc (the first place), DeleteFunc, at times. -/
import Derived.Test.YtebpepjlhanopaaRows
import Derived.Laws.CopyRow
import Derived.Test.YtebpepjlhanopaaWords
import Derived.Test.YtebpepjlhanopaaByts
import Derived.Test.YtebpepjlhanopaaFrame
import Derived.Test.YtebpepjlhanopaaElems
import Derived.Test.YtebpepjlhanopaaS1
import Derived.Test.YtebpepjlhanopaaS2
import Derived.Test.YtebpepjlhanopaaU1
import Derived.Test.YtebpepjlhanopaaU3
namespace Go.Proofs.Ytebpepjlhanopaa
open Go Go.RowKit Go.Proofs.Tail Go.Sort
set_option linter.unusedSimpArgs false
set_option linter.unusedVariables false
def Idx1 (p : T → Bool) (xs : List T) (w : World) (e : Ending) (w' : World) : Prop :=
  Below w.heap.size w w' ∧ ((∃ (k : Nat) (x : T), xs[k]? = some x ∧ p x = true ∧ (∀ j z, j < k → xs[j]? = some z → p z = false) ∧ e = .returned (.int .i64 k)) ∨ (∀ x, x ∈ xs → p x = false) ∧ e = .returned (.int .i64 (-1)))
set_option maxRecDepth 100000 in
set_option maxHeartbeats 8000000 in
theorem index_fst (A : Option Addr) (n c : Nat) (f : FuncId) (cp : Value) (p : T → Bool) (xs : List T) (w : World) (hX : Tms w A n c xs)
    (eg : ∀ args W, (callFunc f args).run Try.prog W = .ok (.enter f args) W) (hP : Answers f #[cp] p xs w) :
    Calls Try.prog 49 #[.slice A n c, .func (.func f) #[] #[cp]] w (Idx1 p xs w) := by
  have HX := Lib.hid hX
  have HP := Lib.hid hP
  have HL := Lib.hid hX.len
  have hbig := hX.big
  have B0 := Lib.hid (Below.refl w.heap.size w)
  have N0 := Lib.hid (show ∀ j x, j < 0 → xs[j]? = some x → p x = false from fun j x h => absurd h (Nat.not_lt_zero _))
  clear hX hP
  go_enter Try.func49, Try.ntmps49
  go_wp2_with fail
  go_loopw [8] (fun i wr => ∃ k : Nat, k ≤ n ∧ i = .int .i64 k ∧ Hid (∀ j x, j < k → xs[j]? = some x → p x = false) ∧ Hid (Below w.heap.size w wr)) (fun i _ => n - (intOf i).toNat)
  case atStart => exact ⟨0, Nat.zero_le _, rfl, N0, B0⟩
  case round =>
    clear N0 B0
    obtain ⟨k, hk, rfl, HN, HB⟩ := hrel
    by_cases hlt : k < n
    · have hd : decide ((k : Int) < n) = true := decide_eq_true (by omega)
      have hd' : decide (k < n) = true := decide_eq_true (by omega)
      obtain ⟨b, off, x, rfl, hx, hc⟩ := (HX.out.below At.stays HB.out).elem hlt
      have c0 := hc.c0
      have c1 := hc.c1
      have c2 := hc.c2
      have c3 := hc.c3
      have c4 := hc.c4
      have HXE := Lib.hid hx
      have HT := Lib.hid (HP.out x (List.mem_of_getElem? hx) wr HB.out)
      clear hx hc
      go_wp2_with fail
      refine HT.out.mono ?_
      rintro e w2 ⟨rfl, hb⟩
      have HB2 := Lib.hid (below_then HB.out hb)
      cases hp : p x with
      | true =>
        have HQ := Lib.hid hp
        clear hb HT c0 c1 c2 c3 c4 HB
        go_wp2_with fail
        go_ret
        exact ⟨HB2.out, .inl ⟨k, x, HXE.out, HQ.out, HN.out, rfl⟩⟩
      | false =>
        have HQ := Lib.hid (show ∀ j z, j < k + 1 → xs[j]? = some z → p z = false from fun j z hj hz => by
          rcases Nat.eq_or_lt_of_le (Nat.le_of_lt_succ hj) with e | e
          · subst e; rw [HXE.out] at hz; injection hz with hz; subst hz; exact hp
          · exact HN.out j z e hz)
        clear hb HT c0 c1 c2 c3 c4 HB hp HN
        go_wp2_with fail
        go_roundw
        case rel => exact ⟨k + 1, by omega, by go_num, HQ, HB2⟩
        case measure => simp [intOf]; omega
    · have hkn : k = n := by omega
      subst hkn
      have hd : decide ((k : Int) < k) = false := decide_eq_false (by omega)
      have hd' : decide (k < k) = false := decide_eq_false (by omega)
      have HNN := Lib.hid (show ∀ x, x ∈ xs → p x = false from fun x hx => by
        obtain ⟨j, hj, h⟩ := List.getElem_of_mem hx
        exact HN.out j x (by rw [HL.out] at hj; exact hj) (by rw [← h, List.getElem?_eq_getElem hj]))
      clear HN
      go_wp2_with fail
      go_ret
      exact ⟨HB.out, .inr ⟨HNN.out, rfl⟩⟩
theorem recT_get (ys : List T) (j : Nat) (x : T) (h : ys[j]? = some x) : (recT ys)[j * 5]? = some (.int .i64 x.d) ∧ (recT ys)[j * 5 + 1]? = some (.int .i64 x.e) ∧ (recT ys)[j * 5 + 2]? = some (.int .i64 x.a) ∧ (recT ys)[j * 5 + 3]? = some (.int .i64 x.b) ∧ (recT ys)[j * 5 + 4]? = some (.int .i64 x.c) := by
  obtain ⟨hj, hx⟩ := List.getElem?_eq_some_iff.1 h
  have key : ∀ m, m < 5 → (recT ys)[j * 5 + m]? = (encT x)[m]? := fun m hm => by
    have h1 := flatMap_get (enc := encT) (k := 5) (fun _ => rfl) ys (j * 5 + m) (by omega)
    have e1 : (j * 5 + m) / 5 = j := by omega
    have e2 : (j * 5 + m) % 5 = m := by omega
    rw [e1, e2, getElem!_pos ys j hj, hx] at h1
    refine Eq.trans h1 ?_
    match m, hm with
    | 0, _ => rfl
    | 1, _ => rfl
    | 2, _ => rfl
    | 3, _ => rfl
    | 4, _ => rfl
  exact ⟨key 0 (by omega), key 1 (by omega), key 2 (by omega), key 3 (by omega), key 4 (by omega)⟩
theorem own_tcell {w : World} {base : Nat} {e : TypeId} {g n cap : Nat} {ys : List T} (h : w.ownsRow base e 5 (.slice (some ⟨g, 0, none⟩) n cap) n (recT ys)) {j : Nat} {x : T} (hj : ys[j]? = some x) :
    (w.cell? ⟨g, j * 5, none⟩ = some (.int .i64 x.d) ∧ w.cell? ⟨g, j * 5 + 1, none⟩ = some (.int .i64 x.e) ∧ w.cell? ⟨g, j * 5 + 2, none⟩ = some (.int .i64 x.a) ∧ w.cell? ⟨g, j * 5 + 3, none⟩ = some (.int .i64 x.b) ∧ w.cell? ⟨g, j * 5 + 4, none⟩ = some (.int .i64 x.c)) ∧ ∀ o, w.frozen? ⟨g, o, none⟩ = false := by
  obtain ⟨g0, g1, g2, g3, g4⟩ := recT_get ys j x hj
  have h0 := h.cells (g := g) rfl _ _ g0
  have h1 := h.cells (g := g) rfl _ _ g1
  have h2 := h.cells (g := g) rfl _ _ g2
  have h3 := h.cells (g := g) rfl _ _ g3
  have h4 := h.cells (g := g) rfl _ _ g4
  rw [add_plain] at h0 h1 h2 h3 h4
  exact ⟨⟨h0, h1, h2, h3, h4⟩, fun o => h.frozenAt _⟩
theorem recT_set : ∀ (ys : List T) (k : Nat) (x : T), recT (ys.set k x) = (((((recT ys).set (k * 5) (.int .i64 x.d)).set (k * 5 + 1) (.int .i64 x.e)).set (k * 5 + 2) (.int .i64 x.a)).set (k * 5 + 3) (.int .i64 x.b)).set (k * 5 + 4) (.int .i64 x.c)
  | [], k, x => by simp [recT]
  | y :: ys, 0, x => by simp [recT, encT]
  | y :: ys, k + 1, x => by
    have ih := recT_set ys k x
    rw [List.set_cons_succ]
    have e : ∀ (l : List T) (z : T), recT (z :: l) = encT z ++ recT l := fun l z => by simp [recT]
    rw [e, e, ih]
    have hl : (encT y).length = 5 := rfl
    rw [List.set_append_right _ _ (by rw [hl]; omega), List.set_append_right _ _ (by rw [hl]; omega), List.set_append_right _ _ (by rw [hl]; omega), List.set_append_right _ _ (by rw [hl]; omega), List.set_append_right _ _ (by rw [hl]; omega), hl]
    simp only [show (k + 1) * 5 - 5 = k * 5 by omega, show (k + 1) * 5 + 1 - 5 = k * 5 + 1 by omega, show (k + 1) * 5 + 2 - 5 = k * 5 + 2 by omega, show (k + 1) * 5 + 3 - 5 = k * 5 + 3 by omega, show (k + 1) * 5 + 4 - 5 = k * 5 + 4 by omega]
/-- A time stored into its five cells. -/
def setT (w : World) (g k : Nat) (x : T) : World := ((((w.setCell ⟨g, k * 5, none⟩ (.int .i64 x.d)).setCell ⟨g, k * 5 + 1, none⟩ (.int .i64 x.e)).setCell ⟨g, k * 5 + 2, none⟩ (.int .i64 x.a)).setCell ⟨g, k * 5 + 3, none⟩ (.int .i64 x.b)).setCell ⟨g, k * 5 + 4, none⟩ (.int .i64 x.c)
theorem own_tset {w : World} {base : Nat} {e : TypeId} {g n cap : Nat} {ys : List T} (h : w.ownsRow base e 5 (.slice (some ⟨g, 0, none⟩) n cap) n (recT ys)) (k : Nat) (x : T) :
    (setT w g k x).ownsRow base e 5 (.slice (some ⟨g, 0, none⟩) n cap) n (recT (ys.set k x)) := by
  rw [recT_set]
  exact (((((h.stored (k * 5) (.int .i64 x.d)).1.stored (k * 5 + 1) (.int .i64 x.e)).1.stored (k * 5 + 2) (.int .i64 x.a)).1.stored (k * 5 + 3) (.int .i64 x.b)).1.stored (k * 5 + 4) (.int .i64 x.c)).1
theorem setT_fr (w : World) (g k : Nat) (x : T) : Fr (fun b => b = g) w (setT w g k x) :=
  (((((Fr.refl (fun b => b = g) w).set (p := ⟨g, k * 5, none⟩) (fun _ => rfl) _).set (p := ⟨g, k * 5 + 1, none⟩) (fun _ => rfl) _).set (p := ⟨g, k * 5 + 2, none⟩) (fun _ => rfl) _).set (p := ⟨g, k * 5 + 3, none⟩) (fun _ => rfl) _).set (p := ⟨g, k * 5 + 4, none⟩) (fun _ => rfl) _
/-- clear(s[i:]) of a row of one's own: what stands ahead of i stays. -/
theorem clear_own {w : World} {base g n cap i : Nat} {R : List T} (h : w.ownsRow base 28 5 (.slice (some ⟨g, 0, none⟩) n cap) n (recT R)) (hi : i < n) :
    ∃ w', (∀ ty, (Builtin.clear_ #[33] ty #[.slice (some ⟨g, i * 5, none⟩) (n - i) (cap - i)]).run Try.prog w = .ok (.tuple #[]) w') ∧
      w'.ownsRow base 28 5 (.slice (some ⟨g, 0, none⟩) i cap) i (recT (R.take i)) ∧ Fr (fun k => k = g) w w' := by
  have hl : R.length = n := by have := h.1; rw [recT_length] at this; omega
  rcases h.2 with ⟨e, _⟩ | ⟨g', cap', cur, e, hb, hh, hnc, hm, hs, ht⟩
  · cases e
  · injection e with e1 _ e3
    injection e1 with e1
    injection e1 with e1
    subst e1; subst e3
    have hz : (Builtin.zeroCells (Value.agg #[.int .i64 0, .int .i64 0, .int .i64 0, .int .i64 0, .int .i64 0]).cells (n - i)).toList.length = (n - i) * 5 := by simp [Builtin.zeroCells, Value.cells]
    have h1 : ∀ v ∈ (Builtin.zeroCells (Value.agg #[.int .i64 0, .int .i64 0, .int .i64 0, .int .i64 0, .int .i64 0]).cells (n - i)).toList, v.oneCell' = true := by
      intro v hv
      simp only [Builtin.zeroCells, Value.cells, Array.toList_map, List.mem_map] at hv
      obtain ⟨k, _, rfl⟩ := hv
      have : k % 5 = 0 ∨ k % 5 = 1 ∨ k % 5 = 2 ∨ k % 5 = 3 ∨ k % 5 = 4 := by omega
      show (#[Value.int .i64 0, Value.int .i64 0, Value.int .i64 0, Value.int .i64 0, Value.int .i64 0][k % 5]!).oneCell' = true
      rcases this with e | e | e | e | e <;> rw [e] <;> rfl
    generalize hzs : (Builtin.zeroCells (Value.agg #[.int .i64 0, .int .i64 0, .int .i64 0, .int .i64 0, .int .i64 0]).cells (n - i)).toList = zs at *
    have hst := run_storeCells_at (P := Try.prog) g (i * 5) 28 zs 0 cur w hh (by rw [hz, hs]; omega) h1
    have hcl : cur.toList.length = cap * 5 := by rw [Array.length_toList, hs]
    have hn1 : (cur.toList.take (i * 5 + 0) ++ zs ++ cur.toList.drop (i * 5 + 0 + zs.length)).length = cap * 5 := by
      rw [List.length_append, List.length_append, List.length_take, List.length_drop, hz, hcl]; omega
    have hn2 : (cur.toList.take (i * 5 + 0) ++ zs ++ cur.toList.drop (i * 5 + 0 + zs.length)).take (i * 5) = cur.toList.take (i * 5) := by
      rw [List.append_assoc, List.take_append_of_le_length (by rw [List.length_take, hcl]; omega), List.take_take]
      congr 1; omega
    generalize cur.toList.take (i * 5 + 0) ++ zs ++ cur.toList.drop (i * 5 + 0 + zs.length) = ns at *
    refine ⟨w.setRow g ns.toArray, fun ty => ?_, ⟨by rw [recT_length, List.length_take, hl]; omega, .inr ⟨g, cap, _, rfl, hb, setRow_heap w g cur _ _ _ hh, by omega, hm, by simpa using hn1, ?_⟩⟩, ?_⟩
    · obtain ⟨m, hmm⟩ : ∃ m, n - i = m + 1 := ⟨n - i - 1, by omega⟩
      rw [hmm] at hzs ⊢
      have hv := Try.zeroValue28
      simp [Builtin.clear_, run_underlying Try.underlying33, hv, hzs, hst]
    · show ns.take (i * 5) = _
      rw [hn2]
      have : (cur.toList.take (n * 5)).take (i * 5) = (recT R).take (i * 5) := by rw [ht]
      rw [List.take_take, Nat.min_eq_left (by omega)] at this
      rw [this]
      conv => lhs; rw [← List.take_append_drop i R, recT_append]
      rw [List.take_append_of_le_length (by rw [recT_length, List.length_take, hl]; omega), List.take_of_length_le (by rw [recT_length, List.length_take, hl]; omega)]
    · exact ⟨rfl, rfl, rfl, by simp [World.setRow], fun k hk hn => by simp [World.setRow, Array.getElem?_modify, show g ≠ k from fun e => hn e.symm]⟩
/-- How far DeleteFunc has come. -/
structure Dl (w wr : World) (base r n cap : Nat) (p : T → Bool) (xs : List T) (i j : Nat) : Prop where
  ex : ∃ R, wr.ownsRow base 28 5 (.slice (some ⟨r, 0, none⟩) n cap) n (recT R) ∧ R.take i = (xs.take j).filter (fun x => !p x) ∧ R.drop j = xs.drop j ∧ ((xs.take j).filter (fun x => !p x)).length = i
  hf : Fr (fun k => k = r) w wr
/-- What DeleteFunc hands back. -/
def Del (base : Nat) (v : Value) (ys : List T) (w : World) (e : Ending) (w' : World) : Prop :=
  ∃ v', e = .returned v' ∧ w'.ownsRow base 28 5 v' ys.length (recT ys) ∧ Fr (fun k => v.ownBlock = some k) w w'
theorem filter_first {p : T → Bool} {xs : List T} {k : Nat} {x : T} (hx : xs[k]? = some x) (hp : p x = true) (hn : ∀ j z, j < k → xs[j]? = some z → p z = false) : (xs.take (k + 1)).filter (fun x => !p x) = xs.take k := by
  obtain ⟨hk, hx'⟩ := List.getElem?_eq_some_iff.1 hx
  rw [List.take_succ_eq_append_getElem hk, List.filter_append, hx']
  have h1 : (xs.take k).filter (fun x => !p x) = xs.take k := by
    rw [List.filter_eq_self]
    intro z hz
    obtain ⟨j, hj, h⟩ := List.getElem_of_mem hz
    rw [List.length_take] at hj
    rw [List.getElem_take] at h
    rw [hn j z (by omega) (by rw [← h, List.getElem?_eq_getElem (by omega)])]
    rfl
  rw [h1]
  simp [hp]
theorem filter_step {p : T → Bool} {xs : List T} {j : Nat} {x : T} (hx : xs[j]? = some x) : (xs.take (j + 1)).filter (fun x => !p x) = (xs.take j).filter (fun x => !p x) ++ (if p x = true then [] else [x]) := by
  obtain ⟨hk, hx'⟩ := List.getElem?_eq_some_iff.1 hx
  rw [List.take_succ_eq_append_getElem hk, List.filter_append, hx']
  cases hp : p x <;> simp [hp]
set_option maxRecDepth 100000 in
set_option maxHeartbeats 16000000 in
theorem delete_any (base : Nat) (v : Value) (f : FuncId) (cp : Value) (p : T → Bool) (xs : List T) (w : World) (HO0 : w.ownsRow base 28 5 v xs.length (recT xs)) (hlim : xs.length ≤ 1000000)
    (eg : ∀ args W, (callFunc f args).run Try.prog W = .ok (.enter f args) W) (hP : ∀ x W, Fr (fun k => v.ownBlock = some k) w W → Calls Try.prog f #[.agg #[.int .i64 x.d, .int .i64 x.e, .int .i64 x.a, .int .i64 x.b, .int .i64 x.c], cp] W (Gives (.bool (p x)) W)) :
    Calls Try.prog 30 #[v, .func (.func f) #[] #[cp]] w (Del base v (xs.filter fun x => !p x) w) := by
  obtain ⟨A, c, rfl, hr⟩ := own_tms HO0 (by omega)
  have HI := Lib.hid (index_fst A _ c f cp p xs w hr eg (fun x _ W hb => hP x W (Fr.of_below hb)))
  have HO := Lib.hid HO0
  have HP := Lib.hid hP
  clear hr HO0 hP
  generalize hn : xs.length = n at *
  have HN := Lib.hid hn
  clear hn
  go_enter Try.func30, Try.ntmps30
  go_wp2_with fail
  refine HI.out.mono ?_
  rintro e w1 ⟨hb, ⟨k, x, hx, hp, hnn, rfl⟩ | ⟨hnn, rfl⟩⟩
  · have hpn : k < n := by have := (List.getElem?_eq_some_iff.1 hx).1; rw [HN.out] at this; exact this
    obtain ⟨r, cap, eg1, hbr, hrl, hnc⟩ := own_form HO.out (by omega)
    injection eg1 with eg1 _ eg3
    subst eg1 eg3
    have hff := filter_first hx hp hnn
    have D0 := Lib.hid (show Dl w w1 base r n c p xs k (k + 1) from ⟨⟨xs, own_below HO.out hb, hff.symm, rfl, by rw [hff, List.length_take, HN.out]; omega⟩, Fr.of_below hb⟩)
    have hne : ((k : Int) == -1) = false := by simp
    clear hx hp hnn hb HI HO hbr hrl hff
    go_wp2_with fail
    go_loopw [5, 6] (fun a b wr => ∃ i j : Nat, i < j ∧ j ≤ n ∧ a = .int .i64 i ∧ b = .int .i64 j ∧ Hid (Dl w wr base r n c p xs i j)) (fun _ b _ => n - (intOf b).toNat)
    case atStart => exact ⟨k, k + 1, by omega, by omega, rfl, by first | rfl | go_num, D0⟩
    case round =>
      clear D0
      obtain ⟨i, j, hij, hj, rfl, rfl, HD⟩ := hrel
      obtain ⟨⟨R, ho, hRK, hRd, hKl⟩, hf⟩ := HD.out
      have HO := Lib.hid ho
      have HK := Lib.hid (And.intro hRK hKl)
      have HRD := Lib.hid hRd
      have HF := Lib.hid hf
      have HRL := Lib.hid (show R.length = n by have := ho.1; rw [recT_length] at this; omega)
      clear ho hRK hKl hRd hf HD
      by_cases hlt : j < n
      · have hd : decide ((j : Int) < n) = true := decide_eq_true (by omega)
        have hd' : decide (j < n) = true := decide_eq_true (by omega)
        have hjl : j < xs.length := by rw [HN.out]; exact hlt
        have hxj := List.getElem?_eq_getElem hjl
        generalize xs[j] = x at hxj
        have hRj : R[j]? = some x := by
          have := congrArg (fun l => l[0]?) HRD.out
          simpa [hxj] using this
        have HXJ := Lib.hid hxj
        obtain ⟨⟨c0, c1, c2, c3, c4⟩, _⟩ := own_tcell HO.out hRj
        have HRJ := Lib.hid hRj
        have B1 := Lib.hid (below_new wr (.cells #[.int .i64 x.d, .int .i64 x.e, .int .i64 x.a, .int .i64 x.b, .int .i64 x.c] 28))
        have X1 := Lib.hid (Bx.new wr x _ rfl)
        have HFB := Lib.hid (HF.out.trans (Fr.of_below (S := fun k => k = r) B1.out) (fun _ _ h => h))
        have HTK := Lib.hid (HP.out x _ (HFB.out.mono fun i _ h => by rw [h]; rfl))
        clear hxj hRj hjl
        go_wp2_with fail
        refine HTK.out.mono ?_
        rintro e w2 ⟨rfl, hb⟩
        have HFF := Lib.hid (HFB.out.trans (Fr.of_below (S := fun k => k = r) hb) (fun _ _ h => h))
        have HO2 := Lib.hid (own_below (own_below HO.out B1.out) hb)
        have X2 := Lib.hid (X1.out.below hb)
        clear c0 c1 c2 c3 c4 hb HTK HF HO X1 HFB B1
        cases hp : p x with
        | true =>
          have D2 := Lib.hid (show Dl w w2 base r n c p xs i (j + 1) from ⟨⟨R, HO2.out, by rw [filter_step HXJ.out, hp, HK.out.1]; simp, by have := congrArg (fun l => l.drop 1) HRD.out; simpa [List.drop_drop] using this, by rw [filter_step HXJ.out, hp]; simpa using HK.out.2⟩, HFF.out⟩)
          clear HO2 HK HRD X2 hp
          go_wp2_with fail
          go_roundw
          case rel => exact ⟨i, j + 1, by omega, by omega, rfl, by go_num, D2⟩
          case measure => simp [intOf]; omega
        | false =>
          obtain ⟨x0, x1, x2, x3, x4⟩ := X2.out.cells
          have hil : i < R.length := by rw [HRL.out]; omega
          have hget := List.getElem?_eq_getElem hil
          obtain ⟨⟨z0, z1, z2, z3, z4⟩, fz⟩ := own_tcell HO2.out hget
          generalize R[i] = z at z0 z1 z2 z3 z4
          have HST := Lib.hid (own_tset HO2.out i x)
          have HFS := Lib.hid (setT_fr w2 r i x)
          have D2 := Lib.hid (show Dl w (setT w2 r i x) base r n c p xs (i + 1) (j + 1) from by
            refine ⟨⟨R.set i x, HST.out, ?_, ?_, ?_⟩, HFF.out.trans HFS.out (fun _ _ h => h)⟩
            · rw [filter_step HXJ.out, hp, ← HK.out.1, List.take_succ_eq_append_getElem (by rw [List.length_set]; exact hil), List.take_set, List.set_eq_of_length_le (by rw [List.length_take]; omega), List.getElem_set_self]
              simp
            · rw [List.drop_set, if_pos (by omega)]
              have := congrArg (fun l => l.drop 1) HRD.out
              simpa [List.drop_drop] using this
            · rw [filter_step HXJ.out, hp, List.length_append, HK.out.2]; rfl)
          unfold setT at D2
          clear HO2 HK HRD hget hil X2 HST HFS hp
          go_wp2_with fail
          go_roundw
          case rel => exact ⟨i + 1, j + 1, by omega, by omega, by go_num, by go_num, D2⟩
          case measure => simp [intOf]; omega
      · have hjn : j = n := by omega
        subst hjn
        have hd : decide ((j : Int) < j) = false := decide_eq_false (by omega)
        have hd' : decide (j < j) = false := decide_eq_false (by omega)
        obtain ⟨w3, hcl, ho3, hf3⟩ := clear_own HO.out (show i < j by omega)
        have HO3 := Lib.hid ho3
        have HF3 := Lib.hid (HF.out.trans hf3 (fun _ _ h => h))
        have hcap : ¬ c = i := by omega
        have hcap' : ¬ (c : Int) = (i : Int) := by omega
        have hxt : xs.take j = xs := List.take_of_length_le (by rw [HN.out]; exact Nat.le_refl _)
        have HQ := Lib.hid (show R.take i = xs.filter (fun x => !p x) by rw [HK.out.1, hxt])
        have HQ2 := Lib.hid (show (xs.filter (fun x => !p x)).length = i by have := HK.out.2; rw [hxt] at this; exact this)
        have hle : (i : Int) ≤ j := by omega
        have hlc : (i : Int) ≤ c := by omega
        clear ho3 hf3 hxt
        go_wp2_with fail
        go_ret
        exact ⟨_, rfl, by rw [HQ2.out, ← HQ.out]; exact HO3.out, HF3.out.mono fun k _ h => by rw [h]; rfl⟩
  · have HB := Lib.hid hb
    have HQ := Lib.hid (show xs.filter (fun x => !p x) = xs by rw [List.filter_eq_self]; intro x hx; rw [hnn x hx]; rfl)
    clear hb hnn HI
    go_wp2_with fail
    go_ret
    exact ⟨_, rfl, by rw [HQ.out, HN.out]; exact own_below HO.out HB.out, Fr.of_below HB.out⟩
end Go.Proofs.Ytebpepjlhanopaa
