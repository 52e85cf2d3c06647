/- Records; contracts of cmp.Compare, cmp.Or, of both Compares; what '==' says of two records. -/
import Derived.Test.YtainoghjelfnkaaRows
import Derived.Laws.StructEq
import Derived.ChangeKeysEq
import Derived.Deep.RegionHeld3
import Derived.Shelf.SlSortCmp.WholeK
import Derived.Test.YtainoghjelfnkaaWords
import Derived.Test.YtainoghjelfnkaaByts
import Derived.Test.YtainoghjelfnkaaFrame
import Derived.Test.YtainoghjelfnkaaElems
namespace Go.Proofs.Ytainoghjelfnkaa
open Go.RowKit Go.Proofs.Tail Go.Sort
set_option linter.unusedSimpArgs false
set_option linter.unusedVariables false
/-- A record. -/
abbrev Rc := Int × Int
def enc2 (x : Rc) : List Value := [.int .i64 x.1, .int .i64 x.2]
abbrev Rc.v (x : Rc) : Value := .agg #[.int .i64 x.1, .int .i64 x.2]
def sgn (x y : Int) : Int := if x < y then -1 else if y < x then 1 else 0
def orI (x y : Int) : Int := if x = 0 then y else x
/-- How records are ordered. -/
def cfR (x y : Rc) : Int := orI (sgn x.1 y.1) (sgn x.2 y.2)
/-- A record that is read. -/
structure RRc (w : World) (b o : Nat) (x : Rc) : Prop where
  c0 : w.cell? ⟨b, o, none⟩ = some (.int .i64 x.1)
  c1 : w.cell? ⟨b, o + 1, none⟩ = some (.int .i64 x.2)
theorem RRc.stays : Stays RRc := fun _ _ _ _ _ hb h => ⟨below_cell hb h.c0, below_cell hb h.c1⟩
abbrev Recs (w : World) (A : Option Addr) (n c : Nat) (xs : List Rc) : Prop := Rd 2 RRc w A n c xs
def recV (xs : List Rc) : List Value := xs.flatMap enc2
theorem recV_length (xs : List Rc) : (recV xs).length = xs.length * 2 := by
  induction xs with
  | nil => rfl
  | cons x xs ih => simp only [recV, List.flatMap_cons, List.length_append, List.length_cons] at *; rw [ih]; simp [enc2]; omega
theorem recV_append (xs ys : List Rc) : recV (xs ++ ys) = recV xs ++ recV ys := by simp [recV]
theorem recV_one (xs : List Rc) : ∀ u ∈ recV xs, u.oneCell' = true := by
  intro u hu
  simp only [recV, List.mem_flatMap, enc2, List.mem_cons, List.not_mem_nil, or_false] at hu
  obtain ⟨x, _, rfl | rfl⟩ := hu <;> rfl
def VRc (x : Rc) (vs : List Value) : Prop := vs = enc2 x
theorem recV_cells (xs : List Rc) : Cells 2 VRc (recV xs) xs := by
  induction xs with
  | nil => exact Cells.nil _ _
  | cons x xs ih => exact (Cells.one (V := VRc) (k := 2) (vs := enc2 x) rfl rfl).append ih
theorem recV_get (xs : List Rc) (j : Nat) (x : Rc) (h : xs[j]? = some x) : (recV xs)[j * 2]? = some (.int .i64 x.1) ∧ (recV xs)[j * 2 + 1]? = some (.int .i64 x.2) := by
  have := (recV_cells xs).2 j x h
  have h0 : ((recV xs).drop (j * 2)).take 2 = enc2 x := this
  constructor
  · have h1 : (((recV xs).drop (j * 2)).take 2)[0]? = some (.int .i64 x.1) := by rw [h0]; rfl
    rw [List.getElem?_take, if_pos (by omega), List.getElem?_drop] at h1
    exact h1
  · have h1 : (((recV xs).drop (j * 2)).take 2)[1]? = some (.int .i64 x.2) := by rw [h0]; rfl
    rw [List.getElem?_take, if_pos (by omega), List.getElem?_drop] at h1
    exact h1
/-- A row of records of one's own is read. -/
theorem own_recs {w : World} {base n : Nat} {e : TypeId} {v : Value} {xs : List Rc} (h : w.ownsRow base e 2 v n (recV xs)) (hb : n ≤ 9223372036854775807) : ∃ A c, v = .slice A n c ∧ Recs w A n c xs := by
  have hl : xs.length = n := by have := h.1; rw [recV_length] at this; omega
  exact own_rd h hl hb (recV_cells xs) fun b o x vs hv hc => by
    subst hv
    exact ⟨hc 0 _ rfl, hc 1 _ rfl⟩
theorem recs_src {w : World} {A : Option Addr} {m c : Nat} {ys : List Rc} (h : Recs w A m c ys) : 0 < m → ∃ ad, A = some ad ∧ ∀ j u, (recV ys)[j]? = some u → w.cell? (ad.add j) = some u := by
  intro hm
  obtain ⟨b, off, rfl, hc⟩ := h.at_ hm
  refine ⟨_, rfl, fun j u hu => ?_⟩
  have hj : j < ys.length * 2 := by have := (List.getElem?_eq_some_iff.1 hu).1; rwa [recV_length] at this
  have hj2 : j / 2 < ys.length := by omega
  have hx := List.getElem?_eq_getElem hj2
  have hr := hc (j / 2) _ hx
  obtain ⟨g0, g1⟩ := recV_get ys (j / 2) _ hx
  have ha : (⟨b, off, Option.none⟩ : Addr).add j = ⟨b, off + j, Option.none⟩ := by unfold Addr.add; split <;> simp_all
  rw [ha]
  rcases Nat.mod_two_eq_zero_or_one j with hm | hm
  · have e : j / 2 * 2 = j := by omega
    rw [e] at g0
    have h0 := hr.c0
    rw [e] at h0
    rw [h0, ← g0, hu]
  · have e : j / 2 * 2 + 1 = j := by omega
    rw [e] at g1
    have h1 := hr.c1
    rw [show off + j / 2 * 2 + 1 = off + j by omega] at h1
    rw [h1, ← g1, hu]
theorem infoR : (Try.prog.info? 32).map (fun i => (i.zero, i.size, i.bytes)) = some (some (.agg #[.int .i64 0, .int .i64 0]), 2, 16) := by kernel_rfl
section
variable {P : Program} {ops : Array Oper} {rest : List Oper} {o : Oper} {a : Act} {Q : Exit → Act → World → Prop}
/-- append(v, ys...), ys records that are read. -/
theorem own_append_recs {W : World} (hgd : o.guard = none) (s x : Operand) (t e : TypeId)
    (ho : o.op = .call { callee := .builtin .append, args := #[s, x], argTypes := #[t, t] })
    (ht : P.underlying t = some (.slice e)) (hinfo : (P.info? e).map (fun i => (i.zero, i.size, i.bytes)) = some (some (.agg #[.int .i64 0, .int .i64 0]), 2, 16))
    (base : Nat) (v : Value) (xs : List Rc) (A : Option Addr) (m c : Nat) (ys : List Rc) (hs : a.eval s = v) (hx : a.eval x = .slice A m c)
    (HO : W.ownsRow base e 2 v xs.length (recV xs)) (HR : Recs W A m c ys) (hlim : (xs.length + m) * 16 ≤ 140737488355328) (hbase : base ≤ W.heap.size)
    (h : ∀ v1 w1, w1.ownsRow base e 2 v1 (xs ++ ys).length (recV (xs ++ ys)) → W.grownBy w1 v.ownBlock → (v1.ownBlock = v.ownBlock ∨ v1.ownBlock = some W.heap.size) → wpList P ops Q rest (a.put o.dst v1) w1) :
    wpList P ops Q (o :: rest) a W :=
  own_append hgd s x t e _ 2 16 ho ht hinfo rfl (by omega) (by omega) base v xs.length (recV xs) A m c (recV ys) hs hx HO (by rw [recV_length, HR.len]) (recs_src HR) (recV_one _) hlim hbase
    fun v1 w1 h1 h2 h3 => h v1 w1 (by rw [recV_append, List.length_append, HR.len]; exact h1) h2 h3
end
/-- A row of records of one's own. -/
def GivesRec (xs : List Rc) (w : World) (e : Ending) (w' : World) : Prop := ∃ v, e = .returned v ∧ w'.ownsRow w.heap.size 32 2 v xs.length (recV xs) ∧ Below w.heap.size w w'
def eqRc (x y : Rc) : Bool := x.1 == y.1 && x.2 == y.2
theorem eqRc_iff {x y : Rc} : eqRc x y = true ↔ x = y := by
  obtain ⟨a, b⟩ := x; obtain ⟨c, d⟩ := y
  simp [eqRc]
@[go_sem high] theorem eq_rec (a b c d : Int) (w : World) : (Op.equalIn 10000 32 (.agg #[.int .i64 a, .int .i64 b]) (.agg #[.int .i64 c, .int .i64 d])).run Try.prog w = .ok (eqRc (a, b) (c, d)) w := by
  have u3 := Try.underlying2
  have a3 := Try.isAgg2
  have z3 := Try.sizeOf2
  have hS : Try.prog.underlying 32 = some (.struct (Try.prog.fieldsOf 32)) := by kernel_rfl
  rw [show (10000 : Nat) = 9999 + 1 from rfl, run_equalIn_agg w 9999 32 _ _ hS (by kernel_rfl)]
  simp only [Program.fieldsOf, Try.underlying32]
  go_simp
  unfold eqRc
  by_cases h1 : a = c <;> by_cases h2 : b = d <;> simp [h1, h2]
theorem nan_any (x : Int) (w : World) : Calls Try.prog 41 #[.int .i64 x] w (Tells (.bool false) w) := by
  go_enter Try.func41, Try.ntmps41
  go_wp2
  go_ret
  exact .bool (by simp)
theorem compare_any (x y : Int) (w : World) : Calls Try.prog 33 #[.int .i64 x, .int .i64 y] w (Tells (.int .i64 (sgn x y)) w) := by
  have h1 := Lib.hid (nan_any x w)
  have h2 := Lib.hid (nan_any y w)
  go_enter Try.func33, Try.ntmps33
  go_wp2_with fail
  refine h1.out.mono ?_
  rintro e1 w1 ⟨rfl, rfl⟩
  go_wp2_with fail
  refine h2.out.mono ?_
  rintro e1 w1 ⟨rfl, rfl⟩
  go_wp2
  all_goals
    go_ret
    exact .int (by unfold sgn; split <;> (try split) <;> first | rfl | omega)
set_option maxHeartbeats 2000000 in
theorem or_any (x y : Int) (B : Nat) (w : World) (h0 : w.cell? ⟨B, 0, none⟩ = some (.int .i64 x)) (h1 : w.cell? ⟨B, 1, none⟩ = some (.int .i64 y)) : Calls Try.prog 32 #[.slice (some ⟨B, 0, none⟩) 2 2] w (Tells (.int .i64 (orI x y)) w) := by
  by_cases g : x = 0
  · have t0 : (x != 0) = false := by simpa using g
    have Q := Lib.hid (show orI x y = y by unfold orI; simp [g])
    clear g
    by_cases g : y = 0
    · have t1 : (y != 0) = false := by simpa using g
      have G := Lib.hid g
      clear g
      go_enter Try.func32, Try.ntmps32
      go_wp2
      refine wp_loop_rounds 3 ?_
      rw [rounds_succ]; go_wp2
      rw [rounds_succ]; go_wp2
      rw [rounds_succ]; go_wp2
      go_ret
      exact .int (by rw [Q.out, G.out])
    · have t1 : (y != 0) = true := by simpa using g
      clear g
      go_enter Try.func32, Try.ntmps32
      go_wp2
      refine wp_loop_rounds 3 ?_
      rw [rounds_succ]; go_wp2
      rw [rounds_succ]; go_wp2
      go_ret
      exact .int Q.out.symm
  · have t0 : (x != 0) = true := by simpa using g
    have Q := Lib.hid (show orI x y = x by unfold orI; simp [g])
    clear g
    go_enter Try.func32, Try.ntmps32
    go_wp2
    refine wp_loop_rounds 3 ?_
    rw [rounds_succ]; go_wp2
    go_ret
    exact .int Q.out.symm
theorem or_new (x y : Int) (B : Nat) (W : World) (hB : W.heap.size = B) : Calls Try.prog 32 #[.slice (some ⟨B, 0, none⟩) 2 2] (W.alloc (.cells #[.int .i64 x, .int .i64 y] 3)).drew (Tells (.int .i64 (orI x y)) (W.alloc (.cells #[.int .i64 x, .int .i64 y] 3)).drew) := by
  subst hB
  exact or_any x y _ _ (box_cell W [.int .i64 x, .int .i64 y] _ 0 _ rfl) (box_cell W [.int .i64 x, .int .i64 y] _ 1 _ rfl)
set_option maxRecDepth 100000 in
set_option maxHeartbeats 8000000 in
theorem cmp_any (x y : Rc) (w : World) : Calls Try.prog 19 #[.agg #[.int .i64 x.1, .int .i64 x.2], .agg #[.int .i64 y.1, .int .i64 y.2]] w fun e w' => e = .returned (.int .i64 (cfR x y)) ∧ ∃ q os', w' = grow (w.drewN q) os' := by
  have HS := Lib.hid compare_any
  have HO := Lib.hid or_new
  have X0 := Lib.hid ((Blk.new w [.int .i64 x.1, .int .i64 x.2] 32 _ rfl).then (below_new _ (.cells #[.int .i64 y.1, .int .i64 y.2] 32)))
  have Y0 := Lib.hid (Blk.new (w.alloc (.cells #[.int .i64 x.1, .int .i64 x.2] 32)) [.int .i64 y.1, .int .i64 y.2] 32 (w.heap.size + 1) (by simp))
  have x0 := X0.out.cell 0
  have x1 := X0.out.cell 1
  have y0 := Y0.out.cell 0
  have y1 := Y0.out.cell 1
  have HC : Hid (cfR x y = orI (sgn x.1 y.1) (sgn x.2 y.2)) := Lib.hid rfl
  go_enter Try.func19, Try.ntmps19
  go_wp2_with fail
  go_region_held3 (fun w' => w'.cell? ⟨w.heap.size, 0, none⟩ = some (.int .i64 x.1) ∧ w'.cell? ⟨w.heap.size + 1, 0, none⟩ = some (.int .i64 y.1) ∧ w'.cell? ⟨w.heap.size, 1, none⟩ = some (.int .i64 x.2) ∧ w'.cell? ⟨w.heap.size + 1, 1, none⟩ = some (.int .i64 y.2))
    (go_keep)
    (first
      | (go_at_call 33; refine (HS.out _ _ _).mono ?_; rintro e w' ⟨rfl, rfl⟩)
      | (go_at_call 32; refine (HO.out _ _ _ _ (by simp)).mono ?_; rintro e w' ⟨rfl, rfl⟩))
  go_wp2_with fail
  go_ret
  exact ⟨ret_int HC.out.symm, 1, #[.cells #[.int .i64 x.1, .int .i64 x.2] 32, .cells #[.int .i64 y.1, .int .i64 y.2] 32, .cells #[.int .i64 (sgn x.1 y.1), .int .i64 (sgn x.2 y.2)] 3], by simp only [alloc_eq_grow, grow_grow]; rfl⟩
theorem ltR (x y : Rc) : ltOf cfR x y = decide (x.1 < y.1 ∨ x.1 = y.1 ∧ x.2 < y.2) := by
  unfold ltOf cfR orI sgn
  by_cases h1 : x.1 < y.1
  · simp [h1]
  · by_cases h2 : y.1 < x.1
    · have : ¬ x.1 = y.1 := by omega
      simp [h1, h2, this]
    · have : x.1 = y.1 := by omega
      by_cases h3 : x.2 < y.2
      · simp [this, h3]
      · by_cases h4 : y.2 < x.2 <;> simp [this, h3, h4]
theorem swoR : SWO (ltOf cfR) where
  irrefl x := by rw [ltR]; simp
  trans x y z h1 h2 := by rw [ltR] at *; simp only [decide_eq_true_eq] at *; omega
  ntrans x y z h1 h2 := by rw [ltR] at *; simp only [decide_eq_false_iff_not] at *; omega
theorem totR (x y : Rc) (h1 : ltOf cfR x y = false) (h2 : ltOf cfR y x = false) : x = y := by
  obtain ⟨a, b⟩ := x; obtain ⟨c, d⟩ := y
  rw [ltR] at *
  simp only [decide_eq_false_iff_not] at *
  have : a = c ∧ b = d := by omega
  rw [this.1, this.2]
def leR (x y : Rc) : Bool := !(ltOf cfR) y x
/-- The sorted row. -/
def sortR (xs : List Rc) : List Rc := xs.mergeSort leR
theorem cmpLays (blk off size : Nat) (w : World) : CmpLays Try.prog 19 #[] enc2 2 cfR blk off size w := fun _ _ _ _ x y => cmp_any x y _
end Go.Proofs.Ytainoghjelfnkaa
