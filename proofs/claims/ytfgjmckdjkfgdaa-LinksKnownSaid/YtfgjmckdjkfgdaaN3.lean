/- slices.Clone of bytes; First. -/
import Derived.Test.YtfgjmckdjkfgdaaRows
import Derived.IntWalk
import Derived.Test.YtfgjmckdjkfgdaaWords
import Derived.Test.YtfgjmckdjkfgdaaByts
import Derived.Test.YtfgjmckdjkfgdaaStrs
import Derived.Test.YtfgjmckdjkfgdaaFrame
import Derived.Test.YtfgjmckdjkfgdaaN1
import Derived.Test.YtfgjmckdjkfgdaaN2
namespace Go.Proofs.Ytfgjmckdjkfgdaa
open Go Go.RowKit Go.Proofs.Tail
set_option linter.unusedSimpArgs false
set_option linter.unusedVariables false
theorem infoB : (Try.prog.info? 5).map (fun i => (i.zero, i.size, i.bytes)) = some (some (.int .u8 0), 1, 1) := by kernel_rfl
/-- A row of bytes of one's own. -/
def GivesRow1 (xs : List Int) (w : World) (e : Ending) (w' : World) : Prop := ∃ v, e = .returned v ∧ w'.ownsRow w.heap.size 5 1 v xs.length (byV xs) ∧ Below w.heap.size w w'
section
variable {P : Program} {ops : Array Oper} {rest : List Oper} {o : Oper} {a : Act} {Q : Exit → Act → World → Prop}
/-- append(v, ys...), ys bytes that are read. -/
theorem own_append_bytes {W : World} (hgd : o.guard = none) (s x : Operand) (t e : TypeId)
    (ho : o.op = .call { callee := .builtin .append, args := #[s, x], argTypes := #[t, t] })
    (ht : P.underlying t = some (.slice e)) (hinfo : (P.info? e).map (fun i => (i.zero, i.size, i.bytes)) = some (some (.int .u8 0), 1, 1))
    (base : Nat) (v : Value) (xs : List Int) (A : Option Addr) (m c : Nat) (ys : List Int) (hs : a.eval s = v) (hx : a.eval x = .slice A m c)
    (HO : W.ownsRow base e 1 v xs.length (byV xs)) (HR : Byts W A m c ys) (hlim : xs.length + m ≤ 140737488355328) (hbase : base ≤ W.heap.size)
    (h : ∀ v1 w1, w1.ownsRow base e 1 v1 (xs ++ ys).length (byV (xs ++ ys)) → W.grownBy w1 v.ownBlock → (v1.ownBlock = v.ownBlock ∨ v1.ownBlock = some W.heap.size) → wpList P ops Q rest (a.put o.dst v1) w1) :
    wpList P ops Q (o :: rest) a W :=
  own_append hgd s x t e _ 1 1 ho ht hinfo rfl (by omega) (by omega) base v xs.length (byV xs) A m c (byV ys) hs hx HO (by rw [byV_length, HR.len]; omega) (byV_src HR) (byV_one _) (by omega) hbase
    fun v1 w1 h1 h2 h3 => h v1 w1 (by rw [byV_append, List.length_append, HR.len]; exact h1) h2 h3
end
set_option maxHeartbeats 4000000 in
theorem clone_any (A : Option Addr) (n c : Nat) (xs : List Int) (w : World) (hR : Byts w A n c xs) (hlim : n ≤ 140737488355328) :
    Calls Try.prog 28 #[.slice A n c] w (GivesRow1 xs w) := by
  have HR := Lib.hid hR
  have hl := hR.len
  cases A with
  | none =>
    have h0 : n = 0 := by
      rcases Nat.eq_zero_or_pos n with h | h
      · exact h
      · obtain ⟨b, o, e, _⟩ := hR.at_ h; cases e
    subst h0
    obtain rfl := List.eq_nil_of_length_eq_zero hl
    have he : ∀ w, (binOp .eql 30 (.slice none 0 c) (.slice none 0 0)).run Try.prog w = .ok (.bool true) w := fun w => Lib.run_eql_slice_nil w _ _ none 0 c 0 0 Try.underlying30
    clear hl hR
    go_enter Try.func28, Try.ntmps28
    go_wp2_with fail
    go_ret
    exact ⟨_, rfl, World.ownsRow_nil _ _ _ _, Below.refl _ _⟩
  | some ad =>
    clear hR
    have HL := Lib.hid hl
    clear hl
    have he : ∀ w, (binOp .eql 30 (.slice (some ad) n c) (.slice none 0 0)).run Try.prog w = .ok (.bool false) w := fun w => Lib.run_eql_slice_nil w _ _ (some ad) n c 0 0 Try.underlying30
    go_enter Try.func28, Try.ntmps28
    go_wp2_with (at_builtin; (refine own_append_bytes (W := w.alloc (.cells #[] 5)) rfl (.tmp 5) (.tmp 6) 30 5 rfl Try.underlying30 infoB w.heap.size (.slice (some ⟨w.heap.size, 0, none⟩) 0 0) [] (some ad) n c xs rfl rfl ⟨rfl, .inr ⟨_, _, #[], rfl, Nat.le_refl _, heap_alloc_new w _, Nat.le_refl _, by decide, by simp, by simp [byV]⟩⟩ (HR.out.below RByte.stays (below_new w _)) (by simp; omega) (by simp) ?_); intro v1 w1 hown hgr hat; have HO := Lib.hid hown; have HB := Lib.hid (below_grown (below_new w _) hgr (fun k hk => by simp [Value.ownBlock] at hk; omega)); clear hown hgr hat)
    go_ret
    exact ⟨_, rfl, HO.out, HB.out⟩
/-- What First gives. -/
def GivesFirst (xs : List Int) (w : World) (e : Ending) (w' : World) : Prop := ∃ v, e = .returned (.tuple #[v, .bool true]) ∧ w'.ownsRow w.heap.size 5 1 v xs.length (byV xs) ∧ Below w.heap.size w w'
theorem first_yes {P a b E n c g o n1 c1 : Nat} {A1 : Option Addr} {xs : List Int} {w : World} (h : w.cell? ⟨P, 0, none⟩ = some (.int .i64 E)) (hE : E ≤ 64) (ha : a < E) (hb : b < E) (hr : w.cell? ⟨P, 1 + a * 64 + b, none⟩ = some (.slice (some ⟨g, o, none⟩) n c)) (hn : 0 < n) (he : w.cell? ⟨g, o, none⟩ = some (.slice A1 n1 c1)) (hx : Byts w A1 n1 c1 xs) (hlim : n1 ≤ 140737488355328) :
    Calls Try.prog 18 #[.pointer (some ⟨P, 0, none⟩), .int .i64 a, .int .i64 b] w (GivesFirst xs w) := by
  have HE := Lib.hid (link_yes h hE ha hb)
  have HC := Lib.hid (clone_any A1 n1 c1 xs w hx hlim)
  have d1 : ((n : Int) == 0) = false := by simp; omega
  have d2 : ¬ n = 0 := by omega
  have d3 : (0 : Int) < n := by omega
  clear hx
  go_enter Try.func18, Try.ntmps18
  go_wp2_with fail
  with_reducible refine HE.out.mono ?_
  rintro e w1 ⟨rfl, rfl⟩
  go_wp2_with fail
  with_reducible refine HC.out.mono ?_
  rintro e w2 ⟨v, rfl, hv, hb2⟩
  have HV := Lib.hid hv
  have HB := Lib.hid hb2
  clear hv hb2
  go_wp2_with fail
  go_ret2
  exact ⟨_, rfl, HV.out, HB.out⟩
theorem first_empty {P a b E c : Nat} {A : Option Addr} {w : World} (h : w.cell? ⟨P, 0, none⟩ = some (.int .i64 E)) (hE : E ≤ 64) (ha : a < E) (hb : b < E) (hr : w.cell? ⟨P, 1 + a * 64 + b, none⟩ = some (.slice A 0 c)) :
    Calls Try.prog 18 #[.pointer (some ⟨P, 0, none⟩), .int .i64 a, .int .i64 b] w (Tells (.tuple #[.slice none 0 0, .bool false]) w) := by
  have HE := Lib.hid (link_yes h hE ha hb)
  go_enter Try.func18, Try.ntmps18
  go_wp2_with fail
  with_reducible refine HE.out.mono ?_
  rintro e w1 ⟨rfl, rfl⟩
  go_wp2_with fail
  go_ret2
  exact ⟨rfl, rfl⟩
theorem first_no {P : Nat} {a b E : Int} {w : World} (h : w.cell? ⟨P, 0, none⟩ = some (.int .i64 E)) (hn : ¬ (0 ≤ a ∧ 0 ≤ b ∧ a < E ∧ b < E)) :
    Calls Try.prog 18 #[.pointer (some ⟨P, 0, none⟩), .int .i64 a, .int .i64 b] w (Tells (.tuple #[.slice none 0 0, .bool false]) w) := by
  have HE := Lib.hid (link_no h hn)
  go_enter Try.func18, Try.ntmps18
  go_wp2_with fail
  with_reducible refine HE.out.mono ?_
  rintro e w1 ⟨rfl, rfl⟩
  go_wp2_with fail
  go_ret2
  exact ⟨rfl, rfl⟩
end Go.Proofs.Ytfgjmckdjkfgdaa
