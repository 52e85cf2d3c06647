/- Contracts of 'took', of slices.IndexFunc, DeleteFunc with it, of value.Less. -/
import Derived.Test.YtainoghjelfnkaaRows
import Derived.Laws.CopyRow
import Derived.Test.YtainoghjelfnkaaWords
import Derived.Test.YtainoghjelfnkaaByts
import Derived.Test.YtainoghjelfnkaaFrame
import Derived.Test.YtainoghjelfnkaaElems
import Derived.Test.YtainoghjelfnkaaV1
import Derived.Test.YtainoghjelfnkaaV2
import Derived.Test.YtainoghjelfnkaaV3
import Derived.Test.YtainoghjelfnkaaV4
import Derived.Test.YtainoghjelfnkaaV6
import Derived.Test.YtainoghjelfnkaaV7
import Derived.Test.YtainoghjelfnkaaP1
namespace Go.Proofs.Ytainoghjelfnkaa
open Go Go.RowKit Go.Proofs.Tail Go.Sort
set_option linter.unusedSimpArgs false
set_option linter.unusedVariables false
/-- What is yet to be taken: its box, in which block its records are. -/
structure Gn (w : World) (B G : Nat) (g : List Rc) : Prop where
  ex : ∃ A n c, Blk w B [.slice A n c] 22 ∧ Recs w A n c g ∧ ∀ a, A = some a → a.block = G
  ne : B ≠ G
theorem RRc.block {w w' : World} {b o : Nat} {x : Rc} (hb : w'.heap[b]? = w.heap[b]?) (h : RRc w b o x) : RRc w' b o x :=
  ⟨(World.cell?_of_block (w := w) (a := ⟨b, o, none⟩) hb).trans h.c0, (World.cell?_of_block (w := w) (a := ⟨b, o + 1, none⟩) hb).trans h.c1⟩
theorem RRc.lt {w : World} {b o : Nat} {x : Rc} (h : RRc w b o x) : b < w.heap.size := below_lt h.c0
theorem recs_fr {S : Nat → Prop} {w w' : World} {A : Option Addr} {n c : Nat} {xs : List Rc} (h : Recs w A n c xs) (hf : Fr S w w') (hn : ∀ a, A = some a → ¬ S a.block) : Recs w' A n c xs :=
  Rd.fr (R := RRc) (fun _ _ _ _ _ hb h => RRc.block hb h) (fun _ _ _ h => RRc.lt h) h hf hn
theorem Gn.fr {S : Nat → Prop} {w w' : World} {B G : Nat} {g : List Rc} (h : Gn w B G g) (hf : Fr S w w') (h1 : ¬ S B) (h2 : ¬ S G) : Gn w' B G g := by
  obtain ⟨A, n, c, hb, hr, hg⟩ := h.ex
  exact ⟨⟨A, n, c, hb.fr hf h1, recs_fr hr hf (fun a ha => by rw [hg a ha]; exact h2), hg⟩, h.ne⟩
theorem Gn.below {w w' : World} {B G : Nat} {g : List Rc} (h : Gn w B G g) (hb : Below w.heap.size w w') : Gn w' B G g := h.fr (Fr.of_below (S := fun _ => False) hb) (fun h => h) (fun h => h)
theorem Gn.lt {w : World} {B G : Nat} {g : List Rc} (h : Gn w B G g) : B < w.heap.size := by obtain ⟨_, _, _, hb, _⟩ := h.ex; exact hb.lt
/-- What 'took' answers. -/
def Took (B G : Nat) (x : Rc) (g : List Rc) (w : World) (e : Ending) (w' : World) : Prop :=
  ∃ b g', e = .returned (.bool b) ∧ (g.head? = some x ∧ b = true ∧ g' = g.tail ∨ g.head? ≠ some x ∧ b = false ∧ g' = g) ∧ Gn w' B G g' ∧ Fr (fun k => k = B) w w'
set_option maxRecDepth 100000 in
set_option maxHeartbeats 8000000 in
theorem took_any (B G : Nat) (x : Rc) (g : List Rc) (w : World) (hG : Gn w B G g) :
    Calls Try.prog 27 #[.agg #[.int .i64 x.1, .int .i64 x.2], .pointer (some ⟨B, 0, none⟩)] w (Took B G x g w) := by
  obtain ⟨A, n, c, hb, hr, hg⟩ := hG.ex
  have HN := Lib.hid hG.ne
  have HG := Lib.hid hG
  have b1 := (hb.then (below_new w (.cells #[.int .i64 x.1, .int .i64 x.2] 32)))
  have X0 := Blk.new w [.int .i64 x.1, .int .i64 x.2] 32 _ rfl
  have R1 := hr.below RRc.stays (below_new w (.cells #[.int .i64 x.1, .int .i64 x.2] 32))
  have F1 := Lib.hid (Fr.of_below (S := fun k => k = B) (below_new w (.cells #[.int .i64 x.1, .int .i64 x.2] 32)))
  have HL := Lib.hid hr.len
  have hcap := hr.cap
  have hbig := hr.big
  have HGG := Lib.hid hg
  have f0 := b1.frozen 0
  have q0 := fun p : After (w.alloc (.cells #[.int .i64 x.1, .int .i64 x.2] 32)) => (b1.then p.below).cell 0
  have q1 := fun p : After (w.alloc (.cells #[.int .i64 x.1, .int .i64 x.2] 32)) => (X0.then p.below).cell 0
  have q2 := fun p : After (w.alloc (.cells #[.int .i64 x.1, .int .i64 x.2] 32)) => (X0.then p.below).cell 1
  have HB1 := Lib.hid b1
  have HR1 := Lib.hid R1
  clear hb hr hg hG b1 X0 R1
  cases g with
  | nil =>
    have hn0 : n = 0 := by rw [← HL.out]; rfl
    subst hn0
    go_enter Try.func27, Try.ntmps27
    go_wp2_with fail
    refine quiet_after (by kernel_rfl) (by kernel_rfl) ?_
    repeat (first | go_big_quiet_step (fail) | quiet_step (fail))
    refine wpQuiet_nil ?_
    intro wz hw'
    obtain ⟨q, rfl⟩ := hw'
    obtain ⟨w5, hbq⟩ := q
    dsimp only
    have HF := Lib.hid (F1.out.then hbq)
    have HBW := Lib.hid (below_then (below_new w _) hbq)
    clear q0 q1 q2 hbq
    go_wp2_with fail
    go_ret
    exact ⟨false, [], rfl, .inr ⟨by simp, rfl, rfl⟩, HG.out.below HBW.out, HF.out⟩
  | cons y ys =>
    have hn0 : 0 < n := by rw [← HL.out]; simp
    obtain ⟨b, off, rfl, hc⟩ := HR1.out.at_ hn0
    have hcy := hc 0 y rfl
    rw [Nat.zero_mul, Nat.add_zero] at hcy
    have hbG : b = G := HGG.out _ rfl
    subst hbG
    have y0 := fun p : After (w.alloc (.cells #[.int .i64 x.1, .int .i64 x.2] 32)) => cell_after hcy.c0 p
    have y1 := fun p : After (w.alloc (.cells #[.int .i64 x.1, .int .i64 x.2] 32)) => cell_after hcy.c1 p
    have hne : ((n : Int) == 0) = false := by simp; omega
    have hne' : (n == 0) = false := by simp; omega
    clear hc hcy
    by_cases hxy : y = x
    · subst hxy
      have he := eqRc_of (rfl : y = y)
      go_enter Try.func27, Try.ntmps27
      go_wp2_with fail
      refine quiet_after (by kernel_rfl) (by kernel_rfl) ?_
      repeat (first | go_big_quiet_step (fail) | quiet_step (fail))
      refine wpQuiet_nil ?_
      intro wz hw'
      obtain ⟨q, rfl⟩ := hw'
      obtain ⟨w5, hbq⟩ := q
      dsimp only
      have HB5 := Lib.hid (HB1.out.then hbq)
      have HR5 := Lib.hid (HR1.out.below RRc.stays hbq)
      have HF := Lib.hid (F1.out.then hbq)
      have c0 := HB5.out.cell 0
      have f5 := HB5.out.frozen 0
      clear q0 q1 q2 y0 y1 hbq he f0
      have hlen : ∀ A' c', (n - 1 ≤ c') → Recs w5 A' (n - 1) c' ys → (∀ a, A' = some a → a.block = b) → Gn (w5.setCell ⟨B, 0, none⟩ (.slice A' (n - 1) c')) B b ys := fun A' c' _ hr hg =>
        ⟨⟨A', n - 1, c', HB5.out.set 0 _, recs_fr hr ((Fr.refl (fun k => k = B) w5).set (p := ⟨B, 0, none⟩) (fun _ => rfl) _) (fun a ha e => HN.out (by rw [← hg a ha]; exact e.symm)), hg⟩, HN.out⟩
      have HLEN := Lib.hid hlen
      have HFF := Lib.hid (fun v => HF.out.set (p := ⟨B, 0, none⟩) (fun _ => rfl) v)
      have h1n : (1 : Int) ≤ n := by omega
      clear hlen
      by_cases hc1 : c = 1
      · subst hc1
        obtain rfl : n = 1 := by omega
        have hys : ys = [] := List.eq_nil_of_length_eq_zero (by have := HL.out; simpa using this)
        have HYS := Lib.hid hys
        clear hys
        go_wp2_with fail
        go_ret
        exact ⟨true, ys, rfl, .inl ⟨rfl, rfl, rfl⟩, HLEN.out (some ⟨b, off, none⟩) 0 (Nat.le_refl _) ⟨by rw [HYS.out]; rfl, Nat.le_refl _, by omega, fun h => absurd h (Nat.lt_irrefl _)⟩ (fun a ha => by cases ha; rfl), HFF.out _⟩
      · have R6 := Lib.hid (recs_drop HR5.out (show 1 ≤ n by omega) (Nat.sub_le_sub_right hcap 1))
        go_wp2_with fail
        go_ret
        exact ⟨true, ys, rfl, .inl ⟨rfl, rfl, rfl⟩, HLEN.out (some ⟨b, off + 1 * 2, none⟩) (c - 1) (by omega) R6.out (fun a ha => by cases ha; rfl), HFF.out _⟩
    · have he := eqRc_no hxy
      have HE := Lib.hid hxy
      clear hxy
      go_enter Try.func27, Try.ntmps27
      go_wp2_with fail
      refine quiet_after (by kernel_rfl) (by kernel_rfl) ?_
      repeat (first | go_big_quiet_step (fail) | quiet_step (fail))
      refine wpQuiet_nil ?_
      intro wz hw'
      obtain ⟨q, rfl⟩ := hw'
      obtain ⟨w5, hbq⟩ := q
      dsimp only
      have HF := Lib.hid (F1.out.then hbq)
      have HBW := Lib.hid (below_then (below_new w _) hbq)
      clear q0 q1 q2 y0 y1 hbq he f0
      go_wp2_with fail
      go_ret
      exact ⟨false, y :: ys, rfl, .inr ⟨fun e => HE.out (by simpa using e), rfl, rfl⟩, HG.out.below HBW.out, HF.out⟩
/-- What IndexFunc answers, asked with 'took'. -/
def Idx (B G : Nat) (xs g : List Rc) (w : World) (e : Ending) (w' : World) : Prop :=
  Fr (fun k => k = B) w w' ∧ ((∃ p : Nat, ∃ y, xs[p]? = some y ∧ g.head? = some y ∧ (∀ j x, j < p → xs[j]? = some x → g.head? ≠ some x) ∧ e = .returned (.int .i64 p) ∧ Gn w' B G g.tail) ∨
    ((∀ x, x ∈ xs → g.head? ≠ some x) ∧ e = .returned (.int .i64 (-1)) ∧ Gn w' B G g))
theorem Idx.at {B G : Nat} {xs g : List Rc} {w w' : World} {p : Nat} {y : Rc} (hf : Fr (fun k => k = B) w w') (h1 : xs[p]? = some y) (h2 : g.head? = some y) (h3 : ∀ j x, j < p → xs[j]? = some x → g.head? ≠ some x) (h4 : Gn w' B G g.tail) : Idx B G xs g w (.returned (.int .i64 p)) w' :=
  ⟨hf, .inl ⟨p, y, h1, h2, h3, rfl, h4⟩⟩
theorem Idx.no {B G : Nat} {xs g : List Rc} {w w' : World} (hf : Fr (fun k => k = B) w w') (h3 : ∀ x, x ∈ xs → g.head? ≠ some x) (h4 : Gn w' B G g) : Idx B G xs g w (.returned (.int .i64 (-1))) w' :=
  ⟨hf, .inr ⟨h3, rfl, h4⟩⟩
set_option maxRecDepth 100000 in
set_option maxHeartbeats 8000000 in
theorem index_any (A : Option Addr) (n c B G : Nat) (xs g : List Rc) (w : World) (hX : Recs w A n c xs) (hG : Gn w B G g) (hA : ∀ a, A = some a → a.block ≠ B) :
    Calls Try.prog 37 #[.slice A n c, .func (.func 27) #[] #[.pointer (some ⟨B, 0, none⟩)]] w (Idx B G xs g w) := by
  have X0 := Lib.hid (And.intro hX hG)
  have HA := Lib.hid hA
  have HL := Lib.hid hX.len
  have hbig := hX.big
  have F0 := Lib.hid (Fr.refl (fun k => k = B) w)
  have N0 := Lib.hid (show ∀ j x, j < 0 → xs[j]? = some x → g.head? ≠ some x from fun j x h => absurd h (Nat.not_lt_zero _))
  clear hX hG hA
  go_enter Try.func37, Try.ntmps37
  go_wp2_with fail
  go_loopw [8] (fun i wr => ∃ k : Nat, k ≤ n ∧ i = .int .i64 k ∧ Hid (∀ j x, j < k → xs[j]? = some x → g.head? ≠ some x) ∧ Hid (Recs wr A n c xs ∧ Gn wr B G g) ∧ Hid (Fr (fun k => k = B) w wr)) (fun i _ => n - (intOf i).toNat)
  case atStart => exact ⟨0, Nat.zero_le _, rfl, N0, X0, F0⟩
  case round =>
    clear N0 X0 F0
    obtain ⟨k, hk, rfl, HN, HX, HF⟩ := hrel
    by_cases hlt : k < n
    · have hd : decide ((k : Int) < n) = true := decide_eq_true (by omega)
      have hd' : decide (k < n) = true := decide_eq_true (by omega)
      obtain ⟨b, off, x, rfl, hx, hc⟩ := HX.out.1.elem hlt
      have c0 := hc.c0
      have c1 := hc.c1
      have HXE := Lib.hid hx
      have HT := Lib.hid (took_any B G x g wr HX.out.2)
      clear hx hc
      go_wp2_with fail
      refine HT.out.mono ?_
      rintro e w2 ⟨r, g', rfl, hr, hG, hf⟩
      have HF2 := Lib.hid (HF.out.trans hf (fun _ _ h => h))
      rcases hr with ⟨h1, rfl, rfl⟩ | ⟨h1, rfl, rfl⟩
      · have HQ := Lib.hid (And.intro h1 hG)
        clear h1 hG hf HT c0 c1 HX HF
        go_wp2_with fail
        go_ret
        exact Idx.at HF2.out HXE.out HQ.out.1 HN.out HQ.out.2
      · have HQ := Lib.hid (show ∀ j z, j < k + 1 → xs[j]? = some z → g'.head? ≠ some z from fun j z hj hz => by
          rcases Nat.eq_or_lt_of_le (Nat.le_of_lt_succ hj) with e | e
          · subst e; rw [HXE.out] at hz; injection hz with hz; subst hz; exact h1
          · exact HN.out j z e hz)
        have HX2 := Lib.hid (show Recs w2 (some ⟨b, off, none⟩) n c xs ∧ Gn w2 B G g' from ⟨recs_fr HX.out.1 hf (fun a ha => HA.out a ha), hG⟩)
        clear h1 hG hf HT c0 c1 HX HF HN
        go_wp2_with fail
        go_roundw
        case rel => exact ⟨k + 1, by omega, by go_num, HQ, HX2, HF2⟩
        case measure => simp [intOf]; omega
    · have hkn : k = n := by omega
      subst hkn
      have hd : decide ((k : Int) < k) = false := decide_eq_false (by omega)
      have hd' : decide (k < k) = false := decide_eq_false (by omega)
      have HNN := Lib.hid (show ∀ x, x ∈ xs → g.head? ≠ some x from fun x hx => by
        obtain ⟨j, hj, h⟩ := List.getElem_of_mem hx
        exact HN.out j x (by rw [HL.out] at hj; exact hj) (by rw [← h, List.getElem?_eq_getElem hj]))
      clear HN
      go_wp2_with fail
      go_ret
      exact Idx.no HF.out HNN.out HX.out.2
end Go.Proofs.Ytainoghjelfnkaa
