/- The reference's Get: what its steps tell; plain laws; its endings. The reference's Get: memory on the way; its endings. -/
import Derived.Test.YteiohcgohgcjfaaRows
import Derived.IntWalk
import Derived.Test.YteiohcgohgcjfaaWords
import Derived.Test.YteiohcgohgcjfaaByts
import Derived.Test.YteiohcgohgcjfaaStrs
import Derived.Test.YteiohcgohgcjfaaFrame
import Derived.Test.YteiohcgohgcjfaaElems
import Derived.Test.YteiohcgohgcjfaaBitsW
import Derived.Test.YteiohcgohgcjfaaS1
import Derived.Test.YteiohcgohgcjfaaS2
import Derived.Test.YteiohcgohgcjfaaEqs
import Derived.Test.YteiohcgohgcjfaaS11
import Derived.Test.YteiohcgohgcjfaaG1
import Derived.Test.YteiohcgohgcjfaaD1
import Derived.Test.YteiohcgohgcjfaaD5
import Derived.Test.YteiohcgohgcjfaaD6
import Derived.Test.YteiohcgohgcjfaaD9
import Derived.Test.YteiohcgohgcjfaaE1
import Derived.Test.YteiohcgohgcjfaaE2
import Derived.Test.YteiohcgohgcjfaaE4
import Derived.Test.YteiohcgohgcjfaaE5
import Derived.Test.YteiohcgohgcjfaaE8
import Derived.Test.YteiohcgohgcjfaaE9
import Derived.Test.YteiohcgohgcjfaaPA
import Derived.Test.YteiohcgohgcjfaaB0
import Derived.Test.YteiohcgohgcjfaaH2
import Derived.Test.YteiohcgohgcjfaaM1
import Derived.Test.YteiohcgohgcjfaaM2
import Derived.Test.YteiohcgohgcjfaaE8b
namespace Go.Proofs.Yteiohcgohgcjfaa
open Go Go.RowKit Go.Proofs.Tail
set_option linter.unusedSimpArgs false
set_option linter.unusedVariables false
def StepN (k : Nat) (xs : List Int) (b : Bool) (v : Int) (ys : List Int) (c : Bool) : Prop :=
  (I64 v ∧ ys.length ≤ xs.length) ∧ ((b = false ∧ k ≤ xs.length ∧ v = wrap64 (val (xs.take k)) ∧ ys = xs.drop k ∧ c = false) ∨ ((b = true ∨ xs.length < k) ∧ c = true))
def StepT (xs : List Int) (b : Bool) (t : T) (ys : List Int) (c : Bool) : Prop :=
  ys.length ≤ xs.length ∧ ((b = false ∧ getB xs = true ∧ t = getT xs ∧ ys = getR xs ∧ c = false) ∨ ((b = true ∨ getB xs = false) ∧ c = true))
theorem getR_le (xs : List Int) : (getR xs).length ≤ xs.length := by
  unfold getR
  split
  · rw [List.length_drop]; omega
  · simp
theorem rnum_step (R k : Nat) (xs : List Int) (b : Bool) (w : World) (h : Rr w R xs b) (h1 : 1 ≤ k) (h8 : k ≤ 8) : Calls Try.prog 40 #[.pointer (some ⟨R, 0, none⟩), .int .i64 k] w
    (fun e w' => ∃ v ys c, e = .returned (.int .i64 v) ∧ Rr w' R ys c ∧ Fr (fun b => b = R) w w' ∧ StepN k xs b v ys c) := by
  by_cases hb : b = true ∨ xs.length < k
  · refine (rnum_no R k xs b w h hb).mono ?_
    rintro e w' ⟨rfl, h2, h3⟩
    exact ⟨_, _, _, rfl, h2, h3, ⟨by unfold I64; omega, Nat.le_refl _⟩, .inr ⟨hb, rfl⟩⟩
  · have hbf : b = false := by cases b with | true => exact absurd (.inl rfl) hb | false => rfl
    have hk : k ≤ xs.length := by rcases Nat.lt_or_ge xs.length k with h9 | h9; (exact absurd (.inr h9) hb); exact h9
    subst hbf
    refine (rnum_ok R k xs w h h1 h8 hk).mono ?_
    rintro e w' ⟨rfl, h2, h3⟩
    exact ⟨_, _, _, rfl, h2, h3, ⟨wrap_i64 _, by rw [List.length_drop]; omega⟩, .inl ⟨rfl, hk, rfl, rfl, rfl⟩⟩
theorem rtime_step (R : Nat) (xs : List Int) (b : Bool) (w : World) (h : Rr w R xs b) : Calls Try.prog 41 #[.pointer (some ⟨R, 0, none⟩)] w
    (fun e w' => ∃ t ys c, e = .returned (.agg #[.int .i64 t.d, .int .i64 t.e, .int .i64 t.a, .int .i64 t.b, .int .i64 t.c]) ∧ Rr w' R ys c ∧ Fr (fun b => b = R) w w' ∧ StepT xs b t ys c) := by
  refine (rrtime_any R xs b w h).mono ?_
  rintro e w' ⟨h1, h2, h3⟩
  by_cases hb : b = true ∨ getB xs = false
  · obtain ⟨rfl, h4⟩ := h2 hb
    exact ⟨T0, _, _, rfl, h4, h3, Nat.le_refl _, .inr ⟨hb, rfl⟩⟩
  · have hbf : b = false := by cases b with | true => exact absurd (.inl rfl) hb | false => rfl
    have hg : getB xs = true := by cases h : getB xs with | true => rfl | false => exact absurd (.inr h) hb
    obtain ⟨rfl, h4⟩ := h1 ⟨hbf, hg⟩
    exact ⟨_, _, _, rfl, h4, h3, getR_le _, .inl ⟨hbf, hg, rfl, rfl, rfl⟩⟩
theorem StepN.good {k : Nat} {xs ys : List Int} {b : Bool} {v : Int} (h : StepN k xs b v ys false) : b = false ∧ k ≤ xs.length ∧ v = wrap64 (val (xs.take k)) ∧ ys = xs.drop k := by
  rcases h.2 with h | h
  · exact ⟨h.1, h.2.1, h.2.2.1, h.2.2.2.1⟩
  · cases h.2
theorem StepN.ok {k : Nat} {xs ys : List Int} {b c : Bool} {v : Int} (h : StepN k xs b v ys c) (hb : b = false) (hk : k ≤ xs.length) : c = false ∧ v = wrap64 (val (xs.take k)) ∧ ys = xs.drop k := by
  rcases h.2 with h | h
  · exact ⟨h.2.2.2.2, h.2.2.1, h.2.2.2.1⟩
  · rcases h.1 with h9 | h9
    · rw [hb] at h9; cases h9
    · omega
theorem StepT.good {xs ys : List Int} {b : Bool} {t : T} (h : StepT xs b t ys false) : b = false ∧ getB xs = true ∧ t = getT xs ∧ ys = getR xs := by
  rcases h.2 with h | h
  · exact ⟨h.1, h.2.1, h.2.2.1, h.2.2.2.1⟩
  · cases h.2
theorem StepT.ok {xs ys : List Int} {b c : Bool} {t : T} (h : StepT xs b t ys c) (hb : b = false) (hk : getB xs = true) : c = false ∧ t = getT xs ∧ ys = getR xs := by
  rcases h.2 with h | h
  · exact ⟨h.2.2.2.2, h.2.2.1, h.2.2.2.1⟩
  · rcases h.1 with h9 | h9
    · rw [hb] at h9; cases h9
    · rw [hk] at h9; cases h9
theorem bool_or (c : Bool) : c = false ∨ c = true := by cases c <;> simp
theorem step_rd2 {y y1 y2 : List Int} {v1 v2 : Int} {b1 b2 : Bool} (h1 : StepN 8 y false v1 y1 b1) (h2 : StepN 8 y1 b1 v2 y2 b2) : (b2 = false ∧ rd2 y = some ((v1, v2), y2)) ∨ (b2 = true ∧ rd2 y = none) := by
  by_cases hl : 16 ≤ y.length
  · obtain ⟨rfl, rfl, rfl⟩ := h1.ok rfl (by omega)
    obtain ⟨rfl, rfl, rfl⟩ := h2.ok rfl (by rw [List.length_drop]; omega)
    refine .inl ⟨rfl, ?_⟩
    unfold rd2
    rw [if_pos hl, List.drop_drop]
  · have hn : rd2 y = none := by unfold rd2; rw [if_neg hl]
    refine .inr ⟨?_, hn⟩
    rcases bool_or b2 with h | h
    · subst h
      obtain ⟨rfl, h3, _, _⟩ := h2.good
      obtain ⟨_, h4, _, rfl⟩ := h1.good
      rw [List.length_drop] at h3
      omega
    · exact h
theorem step_rd3 {y y1 y2 y3 y4 : List Int} {v1 v2 v4 : Int} {t : T} {b1 b2 b3 b4 b5 : Bool} (h1 : StepN 1 y false v1 y1 b1) (h2 : StepN 1 y1 b1 v2 y2 b2) (hb : b3 = (b2 || decide (1 < v2))) (h3 : StepT y2 b3 t y3 b4) (h4 : StepN 8 y3 b4 v4 y4 b5) :
    (b5 = false ∧ rd3 y = some (⟨v1, decide (v2 = 1), t, v4⟩, y4)) ∨ (b5 = true ∧ rd3 y = none) := by
  have hdd : (y.drop 1).drop 1 = y.drop 2 := by rw [List.drop_drop]
  by_cases hu : u3B y = true
  · have hu' := hu
    unfold u3B at hu'
    rw [decide_eq_true_eq] at hu'
    obtain ⟨l1, l2, l3, l4⟩ := hu'
    obtain ⟨rfl, rfl, rfl⟩ := h1.ok rfl (by omega)
    obtain ⟨rfl, hv2, rfl⟩ := h2.ok rfl (by rw [List.length_drop]; omega)
    have hv : v2 = heldV y := by rw [hv2]; rfl
    have hb3 : b3 = false := by rw [hb, hv, decide_eq_false (by omega)]; rfl
    rw [hdd] at h3
    obtain ⟨rfl, rfl, rfl⟩ := h3.ok hb3 l3
    obtain ⟨rfl, rfl, rfl⟩ := h4.ok rfl l4
    refine .inl ⟨rfl, ?_⟩
    unfold rd3
    rw [if_pos hu, hv]
    rfl
  · have hn : rd3 y = none := by unfold rd3; rw [if_neg hu]
    refine .inr ⟨?_, hn⟩
    rcases bool_or b5 with h | h
    · exfalso
      subst h
      obtain ⟨rfl, g1, _, _⟩ := h4.good
      obtain ⟨hb3, g2, _, rfl⟩ := h3.good
      rw [hb3] at hb
      have hb2 : b2 = false := by cases b2 with | true => simp at hb | false => rfl
      subst hb2
      obtain ⟨rfl, g3, hv2, rfl⟩ := h2.good
      obtain ⟨_, g4, _, rfl⟩ := h1.good
      rw [hdd] at g1 g2
      refine hu ?_
      unfold u3B
      rw [decide_eq_true_eq]
      rw [List.length_drop] at g3
      refine ⟨by omega, ?_, g2, g1⟩
      have hv : v2 = heldV y := by rw [hv2]; rfl
      rw [← hv]
      rcases Int.lt_or_le 1 v2 with h9 | h9
      · rw [decide_eq_true h9] at hb; simp at hb
      · exact h9
    · exact h
section
variable {α : Type} {rd : List Int → Option (α × List Int)}
/-- Where a loop over items stands. -/
def LoopR (rd : List Int → Option (α × List Int)) (y : List Int) (b0 : Bool) (k : Nat) (l : List α) (ys : List Int) (b : Bool) : Prop :=
  (b = false ∧ b0 = false ∧ rdN rd k y = some (l, ys)) ∨ (b = true ∧ (b0 = true ∨ rdN rd k y = none))
theorem LoopR.zero (y : List Int) (b : Bool) : LoopR rd y b 0 [] y b := by
  rcases bool_or b with h | h
  · subst h; exact .inl ⟨rfl, rfl, rfl⟩
  · subst h; exact .inr ⟨rfl, .inl rfl⟩
theorem LoopR.next {y ys zs : List Int} {b0 c : Bool} {k : Nat} {l : List α} {a : α} (h : LoopR rd y b0 k l ys false) (hs : (c = false ∧ rd ys = some (a, zs)) ∨ (c = true ∧ rd ys = none)) : LoopR rd y b0 (k + 1) (l ++ [a]) zs c := by
  rcases h with ⟨_, h1, h2⟩ | ⟨h1, _⟩
  · rcases hs with ⟨h3, h4⟩ | ⟨h3, h4⟩
    · exact .inl ⟨h3, h1, rdN_succ h2 h4⟩
    · exact .inr ⟨h3, .inr (rdN_fail h2 h4)⟩
  · cases h1
theorem rdN_room (h : ∀ xs a ys, rd xs = some (a, ys) → ys.length < xs.length) : ∀ (k : Nat) (xs : List Int) (l : List α) (ys : List Int), rdN rd k xs = some (l, ys) → k + ys.length ≤ xs.length
  | 0, xs, l, ys, e => by
    unfold rdN at e
    injection e with e
    injection e with e1 e2
    subst e2
    omega
  | k + 1, xs, l, ys, e => by
    unfold rdN at e
    split at e
    · cases e
    · rename_i l' zs hl
      have i1 := rdN_room h k xs l' zs hl
      split at e
      · cases e
      · rename_i a ws hr
        injection e with e
        injection e with e1 e2
        subst e2
        have := h zs a _ hr
        omega
end
theorem rd2_less (xs : List Int) (a : Rc) (ys : List Int) (h : rd2 xs = some (a, ys)) : ys.length < xs.length := by
  unfold rd2 at h
  split at h
  · injection h with h
    injection h with h1 h2
    rw [← h2, List.length_drop]
    omega
  · cases h
theorem rd3_less (xs : List Int) (a : Upd) (ys : List Int) (h : rd3 xs = some (a, ys)) : ys.length < xs.length := by
  unfold rd3 at h
  split at h
  · rename_i hb
    injection h with h
    injection h with h1 h2
    unfold u3B at hb
    rw [decide_eq_true_eq] at hb
    obtain ⟨l1, l2, l3, l4⟩ := hb
    have hg : (getR (xs.drop 2)).length ≤ (xs.drop 2).length := by
      unfold getR
      rw [if_pos l3, List.length_drop (i := 3 + _)]
      omega
    rw [List.length_drop] at hg
    rw [← h2]
    unfold u3R
    rw [List.length_drop]
    omega
  · cases h
/-- The reference's answer, where nothing is spoilt. -/
def fin (m : Msg) (r : List Int) : Option Msg := if r.length = 0 ∧ mayB m = true then some m else none
theorem may_big {m : Msg} (h : 65536 < m.L.length ∨ 65536 < m.U.length) : mayB m = false := by
  unfold mayB
  split
  · unfold may1
    rcases h with h | h
    · rw [decide_eq_false (show ¬ m.L.length ≤ 65536 by omega)]; simp
    · rw [decide_eq_false (show ¬ m.U.length = 0 by omega)]; simp
  · split
    · unfold may2
      rcases h with h | h
      · have : ¬ sameB m (bare m) = true := fun h9 => by
          have e := sameB_iff.1 h9
          have : m.L = [] := by rw [e]; rfl
          rw [this] at h; simp at h
        rw [Bool.eq_false_iff.2 this]; simp
      · rw [decide_eq_false (show ¬ m.U.length ≤ 65536 by omega)]; simp
    · rfl
theorem getM_two {xs y1 y2 ys : List Int} {v1 n : Int} {b1 b2 b : Bool} {l : List Upd} {k : Nat} (s1 : StepN 1 xs false v1 y1 b1) (hk : IntKind.u8.wrap v1 ≠ 1) (s2 : StepN 4 y1 b1 n y2 b2) (hl : LoopR rd3 y2 b2 k l ys b) (hkn : k ≤ n.toNat) (hend : b = true ∨ n ≤ k) (hin : InB xs) :
    (b = false → getM xs = fin ⟨IntKind.u8.wrap v1, 0, 0, 0, 0, T0, [], l⟩ ys) ∧ (b = true → getM xs = none) := by
  constructor
  · intro hb
    subst hb
    rcases hl with ⟨_, h2, h3⟩ | ⟨h9, _⟩
    · subst h2
      obtain ⟨rfl, g2, rfl, rfl⟩ := s2.good
      obtain ⟨_, g1, rfl, rfl⟩ := s1.good
      have hke : k = (rowI (xs.drop 1)).toNat := by
        rcases hend with h | h
        · cases h
        · unfold rowI; omega
      have hlen := rdN_len _ _ _ _ h3
      have hp := rowI_pos (InB.drop hin 1)
      have hpm : parseM xs = parseP (IntKind.u8.wrap (wrap64 (val (xs.take 1)))) (xs.drop 1) := by
        unfold parseM
        rw [if_pos g1, if_neg (by exact hk)]
        rfl
      unfold getM
      rw [hpm]
      unfold parseP rowN
      by_cases h6 : rowI (xs.drop 1) ≤ 65536
      · rw [if_pos ⟨g2, h6⟩, ← hke, h3]
        rfl
      · rw [if_neg (fun h => h6 h.2)]
        unfold fin
        rw [if_neg (fun h => by rw [may_big (.inr (by dsimp only; omega))] at h; cases h.2)]
    · cases h9
  · intro hb
    subst hb
    rcases hl with ⟨h9, _⟩ | ⟨_, h2⟩
    · cases h9
    · match hp : parseM xs with
      | none => exact getM_none hp
      | some (m, r) =>
        exfalso
        unfold parseM at hp
        split at hp
        · rename_i g1
          obtain ⟨hb1, hv1, hy1⟩ := s1.ok rfl g1
          rw [if_neg (by unfold n1; rw [← hv1]; exact hk)] at hp
          unfold parseP at hp
          rw [← hy1] at hp
          split at hp
          · cases hp
          · rename_i U r' hrow
            unfold rowN at hrow
            split at hrow
            · rename_i hc
              obtain ⟨hb2, hn, hy2⟩ := s2.ok hb1 hc.1
              rcases h2 with h2 | h2
              · rw [hb2] at h2; cases h2
              · have := rdN_stuck h2 hkn
                rw [hn, hy2] at this
                unfold rowI at hrow
                rw [this] at hrow
                cases hrow
            · cases hrow
        · cases hp
theorem getM_one {xs y1 y2 y3 y4 y5 y6 y7 ys : List Int} {v1 f t i q n : Int} {s : T} {b1 b2 b3 b4 b5 b6 b7 b : Bool} {l : List Rc} {k : Nat} (s1 : StepN 1 xs false v1 y1 b1) (hk : IntKind.u8.wrap v1 = 1)
    (s2 : StepN 1 y1 b1 f y2 b2) (s3 : StepN 1 y2 b2 t y3 b3) (s4 : StepN 1 y3 b3 i y4 b4) (s5 : StepN 8 y4 b4 q y5 b5) (s6 : StepT y5 b5 s y6 b6) (s7 : StepN 4 y6 b6 n y7 b7)
    (hl : LoopR rd2 y7 b7 k l ys b) (hkn : k ≤ n.toNat) (hend : b = true ∨ n ≤ k) (hin : InB xs) :
    (b = false → getM xs = fin ⟨1, f, t, i, q, s, l, []⟩ ys) ∧ (b = true → getM xs = none) := by
  constructor
  · intro hb
    subst hb
    rcases hl with ⟨_, h2, h3⟩ | ⟨h9, _⟩
    · subst h2
      obtain ⟨rfl, g7, hn, rfl⟩ := s7.good
      obtain ⟨rfl, g6, rfl, rfl⟩ := s6.good
      obtain ⟨rfl, g5, rfl, rfl⟩ := s5.good
      obtain ⟨rfl, g4, rfl, rfl⟩ := s4.good
      obtain ⟨rfl, g3, rfl, rfl⟩ := s3.good
      obtain ⟨rfl, g2, rfl, rfl⟩ := s2.good
      obtain ⟨_, g1, rfl, rfl⟩ := s1.good
      obtain ⟨y, hy⟩ : ∃ y, y = xs.drop 1 := ⟨_, rfl⟩
      have hiny : InB y := by rw [hy]; exact InB.drop hin 1
      rw [← hy] at g2 g3 g4 g5 g6 g7 h3 hn ⊢
      have e2 : (y.drop 1).drop 1 = y.drop 2 := by rw [List.drop_drop]
      have e3 : ((y.drop 1).drop 1).drop 1 = y.drop 3 := by rw [List.drop_drop, List.drop_drop]
      have e11 : (((y.drop 1).drop 1).drop 1).drop 8 = y.drop 11 := by rw [List.drop_drop, List.drop_drop, List.drop_drop]
      rw [e11] at g6 g7 h3 hn ⊢
      rw [e3] at g5 ⊢
      rw [e2] at g4 ⊢
      have hl3 : 3 ≤ y.length := by rw [List.length_drop] at g4 g3; omega
      have hpr := rowI_pos (getR_in (InB.drop hiny 11))
      have hke : k = (rowI (getR (y.drop 11))).toNat := by
        rcases hend with h | h
        · cases h
        · rw [hn] at h hkn
          unfold rowI at *
          omega
      have hlen := rdN_len _ _ _ _ h3
      have hpm : parseM xs = parseD 1 y := by
        unfold parseM
        rw [if_pos g1, if_pos (by exact hk), hy]
      unfold getM
      rw [hpm]
      unfold parseD rowN
      rw [if_pos ⟨hl3, g5, g6⟩]
      by_cases h6 : rowI (getR (y.drop 11)) ≤ 65536
      · rw [if_pos ⟨g7, h6⟩, ← hke, h3]
        rfl
      · rw [if_neg (fun h => h6 h.2)]
        unfold fin
        rw [if_neg (fun h => by rw [may_big (.inl (by dsimp only; omega))] at h; cases h.2)]
    · cases h9
  · intro hb
    subst hb
    rcases hl with ⟨h9, _⟩ | ⟨_, h2⟩
    · cases h9
    · match hp : parseM xs with
      | none => exact getM_none hp
      | some (m, r) =>
        exfalso
        unfold parseM at hp
        split at hp
        · rename_i g1
          obtain ⟨hb1, hv1, hy1⟩ := s1.ok rfl g1
          rw [if_pos (by unfold n1; rw [← hv1]; exact hk)] at hp
          unfold parseD at hp
          rw [← hy1] at hp
          split at hp
          · rename_i hc
            obtain ⟨c1, c2, c3⟩ := hc
            obtain ⟨hb2, _, hy2⟩ := s2.ok hb1 (by omega)
            obtain ⟨hb3, _, hy3⟩ := s3.ok hb2 (by rw [hy2, List.length_drop]; omega)
            obtain ⟨hb4, _, hy4⟩ := s4.ok hb3 (by rw [hy3, hy2, List.length_drop, List.length_drop]; omega)
            have e4 : y4 = y1.drop 3 := by rw [hy4, hy3, hy2, List.drop_drop, List.drop_drop]
            obtain ⟨hb5, _, hy5⟩ := s5.ok hb4 (by rw [e4]; exact c2)
            have e5 : y5 = y1.drop 11 := by rw [hy5, e4, List.drop_drop]
            obtain ⟨hb6, _, hy6⟩ := s6.ok hb5 (by rw [e5]; exact c3)
            split at hp
            · cases hp
            · rename_i L r' hrow
              unfold rowN at hrow
              rw [← e5, ← hy6] at hrow
              split at hrow
              · rename_i hcc
                obtain ⟨hb7, hn, hy7⟩ := s7.ok hb6 hcc.1
                rcases h2 with h2 | h2
                · rw [hb7] at h2; cases h2
                · have := rdN_stuck h2 hkn
                  rw [hn, hy7] at this
                  unfold rowI at hrow
                  rw [this] at hrow
                  cases hrow
              · cases hrow
          · cases hp
        · cases hp
end Go.Proofs.Yteiohcgohgcjfaa

namespace Go.Proofs.Yteiohcgohgcjfaa
open Go Go.RowKit Go.Proofs.Tail
set_option linter.unusedSimpArgs false
set_option linter.unusedVariables false
structure Sg (w : World) (M : Nat) (cs : List Value) (xs : List Int) (b : Bool) (wr : World) : Prop where
  z : Blk wr w.heap.size zcs 34
  rd : Rr wr (w.heap.size + 1) xs b
  m : Blk wr M cs 34
  hM : w.heap.size + 1 < M
  b : Below w.heap.size w wr
structure Sx (w : World) (M : Nat) (cs : List Value) (xs : List Int) (b : Bool) (X : Nat) (t : TypeId) (ds : List Value) (e : TypeId) (size : Nat) (lv : Value) (n : Nat) (vs : List Value) (wr : World) : Prop where
  s : Sg w M cs xs b wr
  x : Blk wr X ds t
  hX : M < X
  own : wr.ownsRow (M + 1) e size lv n vs
  ne : lv.ownBlock ≠ some X
section
variable {w wr w2 : World} {M : Nat} {cs : List Value} {xs ys : List Int} {b c : Bool}
theorem Sg.fr (h : Sg w M cs xs b wr) (hf : Fr (fun k => k = w.heap.size + 1) wr w2) (hr : Rr w2 (w.heap.size + 1) ys c) : Sg w M cs ys c w2 :=
  ⟨h.z.fr hf (by omega), hr, h.m.fr hf (by have := h.hM; omega), h.hM, h.b.trans (hf.below h.b.size (fun k hk e => by omega))⟩
theorem Sg.below (h : Sg w M cs xs b wr) (hb : Below wr.heap.size wr w2) : Sg w M cs xs b w2 := ⟨h.z.then hb, h.rd.below hb, h.m.then hb, h.hM, below_then h.b hb⟩
theorem Sg.drew (h : Sg w M cs xs b wr) : Sg w M cs xs b wr.drew := h.below ((Below.refl _ _).drew)
theorem Sg.set (h : Sg w M cs xs b wr) (o : Nat) (v : Value) : Sg w M (cs.set o v) xs b (wr.setCell ⟨M, o, none⟩ v) :=
  ⟨h.z.other _ _ (by have := h.hM; dsimp only; omega), h.rd.fr ((Fr.refl (fun k => k = M) wr).set (p := ⟨M, o, none⟩) (fun _ => rfl) v) (fun k hk e => by have := h.hM; omega), h.m.set o v, h.hM, h.b.setCell (by have := h.hM; dsimp only; omega) v⟩
theorem Sg.grown {row : Option Nat} (h : Sg w M cs xs b wr) (hg : wr.grownBy w2 row) (hr : ∀ k, row = some k → M < k) : Sg w M cs xs b w2 := by
  have hf : Fr (fun k => M < k) wr w2 := (Fr.refl _ wr).grown hg (fun k hk _ => hr k hk)
  exact ⟨h.z.fr hf (by have := h.hM; omega), h.rd.fr hf (fun k hk e => by have := h.hM; omega), h.m.fr hf (by omega), h.hM, h.b.trans (hf.below h.b.size (fun k hk e => by have := h.hM; omega))⟩
variable {X : Nat} {t : TypeId} {ds : List Value} {e : TypeId} {size : Nat} {lv : Value} {n : Nat} {vs : List Value}
theorem Sx.new (h : Sg w M cs xs b wr) (ho : wr.ownsRow (M + 1) e size lv n vs) (t : TypeId) (ds : List Value) : Sx w M cs xs b wr.heap.size t ds e size lv n vs (wr.alloc (.cells ds.toArray t)) :=
  ⟨h.below (below_new _ _), Blk.new _ _ _ _ rfl, h.m.lt, ho.alloc _, fun e => by have := (ho.lt _ e).2; omega⟩
theorem Sx.fr (h : Sx w M cs xs b X t ds e size lv n vs wr) (hf : Fr (fun k => k = w.heap.size + 1) wr w2) (hr : Rr w2 (w.heap.size + 1) ys c) : Sx w M cs ys c X t ds e size lv n vs w2 :=
  ⟨h.s.fr hf hr, h.x.fr hf (by have := h.hX; have := h.s.hM; omega), h.hX, own_fr h.own hf (fun k hk e => by have := own_lt h.own k hk; have := h.s.hM; omega), h.ne⟩
theorem Sx.setx (h : Sx w M cs xs b X t ds e size lv n vs wr) (o : Nat) (v : Value) : Sx w M cs xs b X t (ds.set o v) e size lv n vs (wr.setCell ⟨X, o, none⟩ v) := by
  have hf : Fr (fun k => k = X) wr (wr.setCell ⟨X, o, none⟩ v) := (Fr.refl (fun k => k = X) wr).set (fun _ => rfl) v
  have h1 := h.hX
  have h2 := h.s.hM
  exact ⟨⟨h.s.z.fr hf (by omega), h.s.rd.fr hf (fun k hk e => by omega), h.s.m.fr hf (by omega), h.s.hM, h.s.b.setCell (by dsimp only; omega) v⟩, h.x.set o v, h.hX, own_fr h.own hf (fun k hk e => h.ne (by rw [hk, e])), h.ne⟩
theorem Sx.bad (h : Sx w M cs xs b X t ds e size lv n vs wr) : Sx w M cs xs true X t ds e size lv n vs (wr.setCell ⟨w.heap.size + 1, 1, none⟩ (.bool true)) := by
  have hf : Fr (fun k => k = w.heap.size + 1) wr (wr.setCell ⟨w.heap.size + 1, 1, none⟩ (.bool true)) := (Fr.refl (fun k => k = w.heap.size + 1) wr).set (fun _ => rfl) _
  exact h.fr hf h.s.rd.bad
end
/-- What Get tells. -/
def GivesG (o : Option Msg) (w : World) (e : Ending) (w' : World) : Prop :=
  (o = none → e = .returned (.tuple #[.agg zcs.toArray, .bool false])) ∧
  (∀ m, o = some m → ∃ A c B d, e = .returned (.tuple #[.agg (m.cs A c B d).toArray, .bool true]) ∧ Mg w' m A c B d) ∧ Below w.heap.size w w'
theorem g_cells (W : World) (tmps : Array Value) (M : Nat) (cs : List Value) (x : Value) (hl : cs.length = 12) (h2 : tmps.getD 2 undef = .pointer (some ⟨M, 0, none⟩)) (h3 : tmps.getD 3 undef = x) (hR : Blk W M cs 34) :
    (results Try.f15 tmps).run Try.prog W = .ok (.tuple #[.agg cs.toArray, x]) W := by
  have hr : Try.f15.results = #[.cell 2 34, .tmp 3] := rfl
  have h2' : tmps[2]?.getD undef = .pointer (some ⟨M, 0, none⟩) := by simpa using h2
  have h3' : tmps[3]?.getD undef = x := by simpa using h3
  have hm := run_loadVar_row (P := Try.prog) W M 34 34 cs.toArray _ _ hR.h Try.underlying34 rfl (by rw [show (Try.prog.info? 34).map (·.size) = some 12 by kernel_rfl]; simp [hl])
  unfold results
  rw [hr]
  simp [h2', h3', asAddr, hm, Result.andThen, Sem.run_bind]
theorem g_none {o : Option Msg} {w wr : World} (z : Blk wr w.heap.size zcs 34) (hb : Below w.heap.size w wr) (ho : o = none) (tmps : Array Value) (h2 : tmps.getD 2 undef = .pointer (some ⟨w.heap.size, 0, none⟩)) (h3 : tmps.getD 3 undef = .bool false) :
    bodyPost Try.prog Try.f15 (GivesG o w) .ret ⟨tmps, []⟩ (sets12 wr w.heap.size (.int .u8 0) (.int .i64 0) (.int .i64 0) (.int .i64 0) (.int .i64 0) (.int .i64 0) (.int .i64 0) (.int .i64 0) (.int .i64 0) (.int .i64 0) (.slice none 0 0) (.slice none 0 0)) := by
  obtain ⟨hM, hf⟩ := set12 z (.int .u8 0) (.int .i64 0) (.int .i64 0) (.int .i64 0) (.int .i64 0) (.int .i64 0) (.int .i64 0) (.int .i64 0) (.int .i64 0) (.int .i64 0) (.slice none 0 0) (.slice none 0 0)
  refine bodyPost_ret (v := .tuple #[.agg zcs.toArray, .bool false]) ?_ rfl ?_
  · exact g_cells _ _ w.heap.size zcs _ rfl h2 h3 hM
  · exact ⟨fun _ => rfl, fun m hm => (by rw [ho] at hm; cases hm), hb.trans (hf.below hb.size (fun k hk e => by omega))⟩
theorem g_some {o : Option Msg} {w wr : World} {m : Msg} {A B : Option Addr} {c d : Nat} (z : Blk wr w.heap.size zcs 34) (hb : Below w.heap.size w wr)
    (hm : ∀ W, Fr (fun k => k = w.heap.size) wr W → Mg W m A c B d) (ho : o = some m) (tmps : Array Value) (h2 : tmps.getD 2 undef = .pointer (some ⟨w.heap.size, 0, none⟩)) (h3 : tmps.getD 3 undef = .bool true) :
    bodyPost Try.prog Try.f15 (GivesG o w) .ret ⟨tmps, []⟩ (sets12 wr w.heap.size (.int .u8 m.k) (.int .i64 m.f) (.int .i64 m.t) (.int .i64 m.i) (.int .i64 m.q) (.int .i64 m.s.d) (.int .i64 m.s.e) (.int .i64 m.s.a) (.int .i64 m.s.b) (.int .i64 m.s.c) (.slice A m.L.length c) (.slice B m.U.length d)) := by
  obtain ⟨hM, hf⟩ := set12 z (.int .u8 m.k) (.int .i64 m.f) (.int .i64 m.t) (.int .i64 m.i) (.int .i64 m.q) (.int .i64 m.s.d) (.int .i64 m.s.e) (.int .i64 m.s.a) (.int .i64 m.s.b) (.int .i64 m.s.c) (.slice A m.L.length c) (.slice B m.U.length d)
  refine bodyPost_ret (v := .tuple #[.agg (m.cs A c B d).toArray, .bool true]) ?_ rfl ?_
  · exact g_cells _ _ w.heap.size (m.cs A c B d) _ rfl h2 h3 hM
  · refine ⟨fun h => (by rw [ho] at h; cases h), fun m' hm' => ?_, hb.trans (hf.below hb.size (fun k hk e => by omega))⟩
    rw [ho] at hm'
    injection hm' with hm'
    subst hm'
    exact ⟨A, c, B, d, rfl, hm _ hf⟩
end Go.Proofs.Yteiohcgohgcjfaa
