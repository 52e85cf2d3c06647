/- A Writer in memory; a number's bytes; contracts of the reference's Bytes, of Raw. -/
import Derived.Test.YteiohcgohgcjfaaRows
import Derived.Test.YteiohcgohgcjfaaWords
import Derived.Test.YteiohcgohgcjfaaByts
import Derived.Test.YteiohcgohgcjfaaStrs
import Derived.Test.YteiohcgohgcjfaaFrame
namespace Go.Proofs.Yteiohcgohgcjfaa
open Go.RowKit Go.Proofs.Tail
set_option linter.unusedSimpArgs false
set_option linter.unusedVariables false
/-- A number's bytes. -/
def be (n : Int) : Nat → List Int
  | 0 => []
  | k + 1 => be (n / 256) k ++ [n % 256]
theorem be_length (n : Int) : ∀ k, (be n k).length = k
  | 0 => rfl
  | k + 1 => by rw [be, List.length_append, be_length (n / 256) k]; rfl
theorem be_in : ∀ (k : Nat) (n : Int), InB (be n k)
  | 0, n => by intro x hx; simp [be] at hx
  | k + 1, n => by
    intro x hx
    rw [be, List.mem_append] at hx
    rcases hx with hx | hx
    · exact be_in k _ x hx
    · simp only [List.mem_cons, List.not_mem_nil, or_false] at hx; omega
theorem infoBy : (Try.prog.info? 5).map (fun i => (i.zero, i.size, i.bytes)) = some (some (.int .u8 0), 1, 1) := by kernel_rfl
/-- A row of bytes of one's own. -/
def GivesRow1 (xs : List Int) (w : World) (e : Ending) (w' : World) : Prop := ∃ v, e = .returned v ∧ w'.ownsRow w.heap.size 5 1 v xs.length (byV xs) ∧ Below w.heap.size w w'
section
variable {P : Program} {ops : Array Oper} {rest : List Oper} {o : Oper} {a : Act} {Q : Exit → Act → World → Prop}
/-- append(v, ys...), ys bytes that are read. -/
theorem own_append_bytes {W : World} (hgd : o.guard = none) (s x : Operand) (t e : TypeId)
    (ho : o.op = .call { callee := .builtin .append, args := #[s, x], argTypes := #[t, t] })
    (ht : P.underlying t = some (.slice e)) (hinfo : (P.info? e).map (fun i => (i.zero, i.size, i.bytes)) = some (some (.int .u8 0), 1, 1))
    (base : Nat) (v : Value) (xs : List Int) (A : Option Addr) (m c : Nat) (ys : List Int) (hs : a.eval s = v) (hx : a.eval x = .slice A m c)
    (HO : W.ownsRow base e 1 v xs.length (byV xs)) (HR : Byts W A m c ys) (hlim : xs.length + m ≤ 140737488355328) (hbase : base ≤ W.heap.size)
    (h : ∀ v1 w1, w1.ownsRow base e 1 v1 (xs ++ ys).length (byV (xs ++ ys)) → W.grownBy w1 v.ownBlock → (v1.ownBlock = v.ownBlock ∨ v1.ownBlock = some W.heap.size) → wpList P ops Q rest (a.put o.dst v1) w1) :
    wpList P ops Q (o :: rest) a W :=
  own_append hgd s x t e _ 1 1 ho ht hinfo rfl (by omega) (by omega) base v xs.length (byV xs) A m c (byV ys) hs hx HO (by rw [byV_length, HR.len]; omega) (byV_src HR) (byV_one _) (by omega) hbase
    fun v1 w1 h1 h2 h3 => h v1 w1 (by rw [byV_append, List.length_append, HR.len]; exact h1) h2 h3
end
set_option maxHeartbeats 4000000 in
theorem bytes_any : ∀ (k : Nat) (n : Int) (w : World), k ≤ 8 → 0 ≤ n → n < 18446744073709551616 → Calls Try.prog 44 #[.int .u64 n, .int .i64 k] w (GivesRow1 (be n k) w)
  | 0, n, w, hk, h0, h1 => by
    go_enter Try.func44, Try.ntmps44
    go_wp2_with fail
    go_ret
    exact ⟨_, rfl, World.ownsRow_nil _ _ _ _, Below.refl _ _⟩
  | k + 1, n, w, hk, h0, h1 => by
    have ih := Lib.hid (bytes_any k (n / 256) w (by omega) (by omega) (by omega))
    have hl := Lib.hid (be_length (n / 256) k)
    have hz : ((k + 1 : Nat) : Int) - 1 = (k : Int) := by omega
    have hne : (((k + 1 : Nat) : Int) == 0) = false := by simp; omega
    have hd : (n : Int).tdiv 256 = n / 256 := Int.tdiv_eq_ediv_of_nonneg h0
    go_enter Try.func44, Try.ntmps44
    go_wp2_with fail
    refine ih.out.mono ?_
    rintro e w1 ⟨v, rfl, ho, hb⟩
    have HO := Lib.hid ho
    have HB := Lib.hid hb
    have HS := Lib.hid hb.size
    have hk8 : (be (n / 256) k).length ≤ 8 := by rw [be_length]; omega
    clear ho hb ih
    go_wp2_with (at_builtin; (refine own_append_one (W := w1) rfl (.tmp 11) (.tmp 15) 36 5 (.int .u8 0) 1 1 rfl Try.underlying36 infoBy rfl (by omega) (by omega) w.heap.size v (be (n / 256) k).length (byV (be (n / 256) k)) 1 [.int .u8 (n % 256)] rfl rfl HO.out rfl (by simp [Value.oneCell']) (by omega) HS.out ?_); intro v1 w2 hown hgr hat)
    have hr : ∀ k, v.ownBlock = some k → w.heap.size ≤ k := fun k hk => own_lt HO.out k hk
    have HB2 := Lib.hid (below_grown HB.out hgr hr)
    have HN := Lib.hid (show w2.ownsRow w.heap.size 5 1 v1 (be n (k + 1)).length (byV (be n (k + 1))) by rw [be, List.length_append, byV_append]; exact hown)
    clear hown hgr hat hr HO HB HS
    go_wp2_with fail
    go_ret
    exact ⟨_, rfl, HN.out, HB2.out⟩
/-- A Writer. -/
structure Wr (w : World) (P : Nat) (v : Value) (xs : List Int) : Prop where
  blk : Blk w P [v] 64
  own : w.ownsRow (P + 1) 5 1 v xs.length (byV xs)
end Go.Proofs.Yteiohcgohgcjfaa
