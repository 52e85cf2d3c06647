/- Contracts of the two Put's. -/
import Derived.Test.YteiohcgohgcjfaaRows
import Derived.Test.YteiohcgohgcjfaaWords
import Derived.Test.YteiohcgohgcjfaaByts
import Derived.Test.YteiohcgohgcjfaaS1
import Derived.Test.YteiohcgohgcjfaaS2
namespace Go.Proofs.Yteiohcgohgcjfaa
open Go.RowKit Go.Proofs.Tail
set_option linter.unusedSimpArgs false
set_option linter.unusedVariables false
def putL (t : T) : List Int := if t.rightB = true then [t.d, t.e / 256, t.e % 256] ++ [t.a, t.b, t.c].take t.d.toNat else []
def putE (t : T) : Int := if t.rightB = true then 0 else 50
def GivesRow (xs : List Int) (code : Int) (w : World) (e : Ending) (w' : World) : Prop :=
  ∃ v, e = .returned (.tuple #[v, .int .i64 code]) ∧ w'.ownsRow w.heap.size 5 1 v xs.length (byV xs) ∧ Below w.heap.size w w'
theorem Bx.loop {w : World} {B : Nat} {t : T} (h : Bx w B t) {k : Nat} (hk : k < 3) : w.cell? ⟨B, 2 + k, none⟩ = some (.int .i64 (t.lp k)) := by
  obtain ⟨x0, x1, x2, x3, x4⟩ := h.cells
  obtain rfl | rfl | rfl : k = 0 ∨ k = 1 ∨ k = 2 := by omega
  · exact x2
  · exact x3
  · exact x4
theorem Bx.grown {w w' : World} {B : Nat} {t : T} {row : Option Nat} (h : Bx w B t) (hg : w.grownBy w' row) (hr : ∀ k, row = some k → B < k) : Bx w' B t :=
  ⟨(hg.block B h.lt (fun e => by have := hr B e.symm; omega)).trans h.h⟩
theorem take_lp (t : T) {k : Nat} (hk : k < 3) : [t.a, t.b, t.c].take (k + 1) = [t.a, t.b, t.c].take k ++ [t.lp k] := by
  obtain rfl | rfl | rfl : k = 0 ∨ k = 1 ∨ k = 2 := by omega
  all_goals rfl
theorem lp_small {t : T} (h : t.right) (k : Nat) : 0 ≤ t.lp k ∧ t.lp k < 16 := by
  unfold T.right at h
  unfold T.lp
  split
  · omega
  · split <;> omega
theorem infoB : (Try.prog.info? 5).map (fun i => (i.zero, i.size, i.bytes)) = some (some (.int .u8 0), 1, 1) := by kernel_rfl
theorem own_fresh (w : World) (base : Nat) (hb : base ≤ w.heap.size) (e : TypeId) (cs : List Value) (hn : cs.length ≤ maxLen) : (w.alloc (.cells cs.toArray e)).ownsRow base e 1 (.slice (some ⟨w.heap.size, 0, none⟩) cs.length cs.length) cs.length cs :=
  ⟨by simp, .inr ⟨_, _, _, rfl, hb, heap_alloc_new w _, Nat.le_refl _, hn, by simp, by simp⟩⟩
set_option maxRecDepth 100000 in
set_option maxHeartbeats 8000000 in
theorem put_any (t : T) (w : World) : Calls Try.prog 50 #[.agg #[.int .i64 t.d, .int .i64 t.e, .int .i64 t.a, .int .i64 t.b, .int .i64 t.c]] w (GivesRow (putL t) (putE t) w) := by
  have BX := Lib.hid (Bx.new w t _ rfl)
  have HB := Lib.hid (below_new w (.cells #[.int .i64 t.d, .int .i64 t.e, .int .i64 t.a, .int .i64 t.b, .int .i64 t.c] 24))
  have H1 := Lib.hid (right_any t)
  by_cases r : t.right
  · have hr := rightB_of r
    rw [hr] at H1
    have HL := Lib.hid (show putL t = [t.d, t.e / 256, t.e % 256] ++ [t.a, t.b, t.c].take t.d.toNat by unfold putL; rw [hr]; rfl)
    have HE := Lib.hid (show putE t = 0 by unfold putE; rw [hr]; rfl)
    have HS := Lib.hid (lp_small r)
    obtain ⟨d, e, a, b, c⟩ := t
    unfold T.right at r
    dsimp only at r
    obtain ⟨r0, r1, r2, r3, r4, r5, r6, r7, r8, r9, r10, r11, r12⟩ := r
    obtain ⟨m, rfl⟩ : ∃ m : Nat, d = m := ⟨d.toNat, by omega⟩
    have hm : m ≤ 3 := by omega
    clear r0 r1 r4 r5 r6 r7 r8 r9 r10 r11 r12 hr
    go_enter Try.func50, Try.ntmps50
    go_wp2_with fail
    refine (H1.out _).mono ?_
    rintro e1 w1 ⟨rfl, hb1⟩
    have B1 := Lib.hid (below_then HB.out hb1)
    have BX1 := Lib.hid (BX.out.below hb1)
    have BX2 := Lib.hid ((BX.out.below hb1).below (below_new w1 (.cells #[.int .u8 m, .int .u8 (e / 256), .int .u8 (e % 256)] 5)))
    obtain ⟨x0, x1, x2, x3, x4⟩ := BX1.out.cells
    obtain ⟨y0, y1, y2, y3, y4⟩ := BX2.out.cells
    have HO := Lib.hid (own_fresh w1 (w.heap.size + 1) BX1.out.lt 5 [.int .u8 m, .int .u8 (e / 256), .int .u8 (e % 256)] (by simp [maxLen]))
    have B2 := Lib.hid (below_alloc B1.out (.cells #[.int .u8 m, .int .u8 (e / 256), .int .u8 (e % 256)] 5))
    clear hb1
    have hal : Try.prog.arrayLen 22 = 3 := by kernel_rfl
    have hm' : (m : Int) ≤ 3 := by omega
    go_wp2_with fail
    clear x0 x1 x2 x3 x4 y0 y1 y2 y3 y4
    go_loopw [4, 6, 26] (fun v _ i wr => ∃ k : Nat, i = .int .i64 k ∧ k ≤ m ∧ Hid (Bx wr w.heap.size ⟨m, e, a, b, c⟩) ∧ Hid (wr.ownsRow (w.heap.size + 1) 5 1 v (3 + k) (byV ([(m : Int), e / 256, e % 256] ++ [a, b, c].take k))) ∧ Hid (Below w.heap.size w wr)) (fun _ _ i _ => m - (intOf i).toNat)
    case atStart => exact ⟨0, rfl, by omega, BX2, HO, B2⟩
    case round =>
      clear BX2 HO B2 BX1 B1 BX HB
      obtain ⟨k, rfl, hk, BXr, HO, HB⟩ := hrel
      by_cases hlt : k < m
      · have cl := BXr.out.loop (k := k) (by omega)
        obtain ⟨l0, l1⟩ := HS.out k
        have HT := Lib.hid (take_lp ⟨m, e, a, b, c⟩ (k := k) (by omega))
        generalize T.lp ⟨m, e, a, b, c⟩ k = x at cl l0 l1 HT
        go_wp2_with (at_builtin; refine own_append_one rfl _ _ 36 5 (.int .u8 0) 1 1 rfl Try.underlying36 infoB rfl (by omega) (by omega) (w.heap.size + 1) u4 (3 + k) (byV ([(m : Int), e / 256, e % 256] ++ [a, b, c].take k)) 1 [.int .u8 x] rfl rfl HO.out rfl (by simp [Value.oneCell']) (by omega) (by have := BXr.out.lt; omega) ?_; intro v1 w2 hown hg hat)
        have hlt2 : ∀ q, Value.ownBlock u4 = some q → w.heap.size < q := fun q hq => own_lt HO.out q hq
        go_roundw
        case rel => exact ⟨k + 1, by go_num, by omega, Lib.hid (BXr.out.grown hg hlt2), Lib.hid (by rw [HT.out, ← List.append_assoc, show byV (([(m : Int), e / 256, e % 256] ++ [a, b, c].take k) ++ [x]) = byV ([(m : Int), e / 256, e % 256] ++ [a, b, c].take k) ++ [.int .u8 x] by simp [byV]]; exact hown), Lib.hid (below_grown HB.out hg fun q hq => Nat.le_of_lt (hlt2 q hq))⟩
        case measure => simp [intOf]; omega
      · obtain rfl : k = m := by omega
        go_wp2
        go_ret2
        have hl : ([(k : Int), e / 256, e % 256] ++ [a, b, c].take k).length = 3 + k := by
          obtain rfl | rfl | rfl | rfl : k = 0 ∨ k = 1 ∨ k = 2 ∨ k = 3 := by omega
          all_goals rfl
        refine ⟨_, by rw [HE.out]; rfl, ?_, HB.out⟩
        rw [HL.out]
        dsimp only [Int.toNat_natCast]
        rw [hl]
        exact own_base HO.out (Nat.le_succ _)
  · have hr := rightB_not r
    rw [hr] at H1
    have HL := Lib.hid (show putL t = [] by unfold putL; rw [hr]; rfl)
    have HE := Lib.hid (show putE t = 50 by unfold putE; rw [hr]; rfl)
    clear r hr
    go_enter Try.func50, Try.ntmps50
    go_wp2_with fail
    refine (H1.out _).mono ?_
    rintro e1 w1 ⟨rfl, hb1⟩
    have B1 := Lib.hid (below_then HB.out hb1)
    clear hb1
    go_wp2
    go_ret2
    exact ⟨_, by rw [HE.out]; rfl, by rw [HL.out]; exact World.ownsRow_nil _ _ _ _, B1.out⟩
set_option maxRecDepth 100000 in
set_option maxHeartbeats 8000000 in
theorem refput_any (t : T) (w : World) : Calls Try.prog 22 #[.agg #[.int .i64 t.d, .int .i64 t.e, .int .i64 t.a, .int .i64 t.b, .int .i64 t.c]] w (GivesRow (putL t) (putE t) w) := by
  have BX := Lib.hid (Bx.new w t _ rfl)
  have HB := Lib.hid (below_new w (.cells #[.int .i64 t.d, .int .i64 t.e, .int .i64 t.a, .int .i64 t.b, .int .i64 t.c] 24))
  have H1 := Lib.hid (refright_any t)
  by_cases r : t.right
  · have hr := rightB_of r
    rw [hr] at H1
    have HL := Lib.hid (show putL t = [t.d, t.e / 256, t.e % 256] ++ [t.a, t.b, t.c].take t.d.toNat by unfold putL; rw [hr]; rfl)
    have HE := Lib.hid (show putE t = 0 by unfold putE; rw [hr]; rfl)
    have HS := Lib.hid (lp_small r)
    obtain ⟨d, e, a, b, c⟩ := t
    unfold T.right at r
    dsimp only at r
    obtain ⟨r0, r1, r2, r3, r4, r5, r6, r7, r8, r9, r10, r11, r12⟩ := r
    obtain ⟨m, rfl⟩ : ∃ m : Nat, d = m := ⟨d.toNat, by omega⟩
    have hm : m ≤ 3 := by omega
    clear r0 r1 r4 r5 r6 r7 r8 r9 r10 r11 r12 hr
    go_enter Try.func22, Try.ntmps22
    go_wp2_with fail
    refine (H1.out _).mono ?_
    rintro e1 w1 ⟨rfl, hb1⟩
    have B1 := Lib.hid (below_then HB.out hb1)
    have BX1 := Lib.hid (BX.out.below hb1)
    have BX2 := Lib.hid ((BX.out.below hb1).below (below_new w1 (.cells #[.int .u8 m, .int .u8 (e / 256), .int .u8 (e % 256)] 5)))
    obtain ⟨x0, x1, x2, x3, x4⟩ := BX1.out.cells
    obtain ⟨y0, y1, y2, y3, y4⟩ := BX2.out.cells
    have HO := Lib.hid (own_fresh w1 (w.heap.size + 1) BX1.out.lt 5 [.int .u8 m, .int .u8 (e / 256), .int .u8 (e % 256)] (by simp [maxLen]))
    have B2 := Lib.hid (below_alloc B1.out (.cells #[.int .u8 m, .int .u8 (e / 256), .int .u8 (e % 256)] 5))
    clear hb1
    have hal : Try.prog.arrayLen 22 = 3 := by kernel_rfl
    have hm' : (m : Int) ≤ 3 := by omega
    go_wp2_with fail
    clear x0 x1 x2 x3 x4 y0 y1 y2 y3 y4
    go_loopw [4, 5] (fun v i wr => ∃ k : Nat, i = .int .i64 k ∧ k ≤ m ∧ Hid (Bx wr w.heap.size ⟨m, e, a, b, c⟩) ∧ Hid (wr.ownsRow (w.heap.size + 1) 5 1 v (3 + k) (byV ([(m : Int), e / 256, e % 256] ++ [a, b, c].take k))) ∧ Hid (Below w.heap.size w wr)) (fun _ i _ => m - (intOf i).toNat)
    case atStart => exact ⟨0, rfl, by omega, BX2, HO, B2⟩
    case round =>
      clear BX2 HO B2 BX1 B1 BX HB
      obtain ⟨k, rfl, hk, BXr, HO, HB⟩ := hrel
      obtain ⟨x0, x1, x2, x3, x4⟩ := BXr.out.cells
      clear x1 x2 x3 x4
      by_cases hlt : k < m
      · have cl := BXr.out.loop (k := k) (by omega)
        obtain ⟨l0, l1⟩ := HS.out k
        have HT := Lib.hid (take_lp ⟨m, e, a, b, c⟩ (k := k) (by omega))
        generalize T.lp ⟨m, e, a, b, c⟩ k = x at cl l0 l1 HT
        go_wp2_with (at_builtin; refine own_append_one rfl _ _ 36 5 (.int .u8 0) 1 1 rfl Try.underlying36 infoB rfl (by omega) (by omega) (w.heap.size + 1) u4 (3 + k) (byV ([(m : Int), e / 256, e % 256] ++ [a, b, c].take k)) 1 [.int .u8 x] rfl rfl HO.out rfl (by simp [Value.oneCell']) (by omega) (by have := BXr.out.lt; omega) ?_; intro v1 w2 hown hg hat)
        have hlt2 : ∀ q, Value.ownBlock u4 = some q → w.heap.size < q := fun q hq => own_lt HO.out q hq
        go_roundw
        case rel => exact ⟨k + 1, by go_num, by omega, Lib.hid (BXr.out.grown hg hlt2), Lib.hid (by rw [HT.out, ← List.append_assoc, show byV (([(m : Int), e / 256, e % 256] ++ [a, b, c].take k) ++ [x]) = byV ([(m : Int), e / 256, e % 256] ++ [a, b, c].take k) ++ [.int .u8 x] by simp [byV]]; exact hown), Lib.hid (below_grown HB.out hg fun q hq => Nat.le_of_lt (hlt2 q hq))⟩
        case measure => simp [intOf]; omega
      · obtain rfl : k = m := by omega
        go_wp2
        go_ret2
        have hl : ([(k : Int), e / 256, e % 256] ++ [a, b, c].take k).length = 3 + k := by
          obtain rfl | rfl | rfl | rfl : k = 0 ∨ k = 1 ∨ k = 2 ∨ k = 3 := by omega
          all_goals rfl
        refine ⟨_, by rw [HE.out]; rfl, ?_, HB.out⟩
        rw [HL.out]
        dsimp only [Int.toNat_natCast]
        rw [hl]
        exact own_base HO.out (Nat.le_succ _)
  · have hr := rightB_not r
    rw [hr] at H1
    have HL := Lib.hid (show putL t = [] by unfold putL; rw [hr]; rfl)
    have HE := Lib.hid (show putE t = 50 by unfold putE; rw [hr]; rfl)
    clear r hr
    go_enter Try.func22, Try.ntmps22
    go_wp2_with fail
    refine (H1.out _).mono ?_
    rintro e1 w1 ⟨rfl, hb1⟩
    have B1 := Lib.hid (below_then HB.out hb1)
    clear hb1
    go_wp2
    go_ret2
    exact ⟨_, by rw [HE.out]; rfl, by rw [HL.out]; exact World.ownsRow_nil _ _ _ _, B1.out⟩
end Go.Proofs.Yteiohcgohgcjfaa
