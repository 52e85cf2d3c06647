/- Plain laws of messages. -/
import Derived.Test.YteiohcgohgcjfaaWords
import Derived.Test.YteiohcgohgcjfaaByts
import Derived.Test.YteiohcgohgcjfaaS1
import Derived.Test.YteiohcgohgcjfaaS2
import Derived.Test.YteiohcgohgcjfaaS11
import Derived.Test.YteiohcgohgcjfaaA1
import Derived.Test.YteiohcgohgcjfaaD1
import Derived.Test.YteiohcgohgcjfaaD5
import Derived.Test.YteiohcgohgcjfaaD6
import Derived.Test.YteiohcgohgcjfaaD7
import Derived.Test.YteiohcgohgcjfaaD9
import Derived.Test.YteiohcgohgcjfaaE1
import Derived.Test.YteiohcgohgcjfaaE4
import Derived.Test.YteiohcgohgcjfaaE5
import Derived.Test.YteiohcgohgcjfaaE9
import Derived.Test.YteiohcgohgcjfaaG1
import Derived.Test.YteiohcgohgcjfaaP0
import Derived.Test.YteiohcgohgcjfaaP1
namespace Go.Proofs.Yteiohcgohgcjfaa
open Go Go.RowKit Go.Proofs.Tail
set_option linter.unusedSimpArgs false
set_option linter.unusedVariables false
/-- Its numbers are the machine's. -/
structure Msg.fit (m : Msg) : Prop where
  q : I64 m.q
  l : ∀ x ∈ m.L, I64 x.1 ∧ I64 x.2
  u : ∀ u ∈ m.U, I64 u.m
theorem n1_cons (x : Int) (h : 0 ≤ x ∧ x < 256) (r : List Int) : n1 (x :: r) = x := by
  unfold n1
  show wrap64 (val [x]) = _
  rw [val_one, wrap_small h]
theorem parse_one {m : Msg} (h : mayB m = true) (hf : m.fit) (r : List Int) (hk : m.k = 1) : parseM (msgL m ++ r) = some (m, r) := by
  obtain ⟨hf1, ht1, hi1, hq0, hq1, hs, hL, hU⟩ := mayB_one h hk
  have hs' := right_iff.2 hs
  obtain ⟨k, f, t, i, q, s, L, U⟩ := m
  dsimp only at hk hf1 ht1 hi1 hq0 hq1 hs hs' hL hU
  subst hk; subst hU
  obtain ⟨R, hR⟩ : ∃ R, R = be L.length 4 ++ L.flatMap recL ++ r := ⟨_, rfl⟩
  obtain ⟨Y, hY⟩ : ∃ Y, Y = putL s ++ R := ⟨_, rfl⟩
  obtain ⟨Z, hZ⟩ : ∃ Z, Z = be q 8 ++ Y := ⟨_, rfl⟩
  have e : msgL ⟨1, f, t, i, q, s, L, []⟩ ++ r = 1 :: f :: t :: i :: Z := by
    rw [hZ, hY, hR]
    unfold msgL
    rw [if_pos rfl]
    dsimp only
    rw [be_one, be_one, be_one, be_one, show f % 256 = f by omega, show t % 256 = t by omega, show i % 256 = i by omega, show (1 : Int) % 256 = 1 from rfl]
    simp only [List.append_assoc, List.cons_append, List.nil_append]
  have hrow : rowN rd2 R = some (L, r) := by rw [hR]; exact rowN_of (rd := rd2) (enc := recL) L r hL (fun a ha r => rd2_of a (hf.l a ha) r)
  obtain ⟨g1, g2, g3⟩ := get_put hs' R
  rw [← hY] at g1 g2 g3
  have hz : 0 ≤ q ∧ q < pw 8 := by rw [pw8]; omega
  have d8 : Z.drop 8 = Y := by rw [hZ]; exact (be_cut q 8 _).2.1
  have l8 : 8 ≤ Z.length := by rw [hZ]; exact (be_cut q 8 _).2.2
  have h8 : n8 Z = q := by
    unfold n8
    rw [hZ, (be_cut q 8 _).1, val_be 8 q hz.1 hz.2]
    exact IntWalk.wrap64_in _ hf.q
  have t1 : (f :: t :: i :: Z).drop 1 = t :: i :: Z := rfl
  have t2 : (f :: t :: i :: Z).drop 2 = i :: Z := rfl
  have t3 : (f :: t :: i :: Z).drop 3 = Z := rfl
  have t11 : (f :: t :: i :: Z).drop 11 = Y := by rw [show (f :: t :: i :: Z).drop 11 = Z.drop 8 from rfl, d8]
  have f1 := n1_cons f (by omega) (t :: i :: Z)
  have f2 := n1_cons t (by omega) (i :: Z)
  have f3 := n1_cons i (by omega) Z
  rw [e]
  clear e hZ hY hR
  have hd : parseD 1 (f :: t :: i :: Z) = some (⟨1, f, t, i, q, s, L, []⟩, r) := by
    unfold parseD
    rw [t11, t3, t2, t1, g1, g2, g3, hrow, f1, f2, f3, h8, if_pos ⟨by simp only [List.length_cons]; omega, l8, rfl⟩]
  unfold parseM
  rw [if_pos (by simp only [List.length_cons]; omega), n1_cons 1 (by omega), if_pos (by decide)]
  exact hd
theorem parse_two {m : Msg} (h : mayB m = true) (hf : m.fit) (r : List Int) (hk : m.k ≠ 1) : parseM (msgL m ++ r) = some (m, r) := by
  obtain ⟨h2, hU, hw, hb⟩ := mayB_two h hk
  obtain ⟨k, f, t, i, q, s, L, U⟩ := m
  unfold bare at hb
  injection hb with b1 b2 b3 b4 b5 b6 b7
  dsimp only at h2 hU hw b1 b2 b3 b4 b5 b6 b7
  subst h2; subst b2; subst b3; subst b4; subst b5; subst b6; subst b7
  obtain ⟨Z, hZ⟩ : ∃ Z, Z = be U.length 4 ++ U.flatMap updL ++ r := ⟨_, rfl⟩
  have e : msgL ⟨2, 0, 0, 0, 0, T0, [], U⟩ ++ r = 2 :: Z := by
    rw [hZ]
    unfold msgL
    rw [if_neg (show ¬ ((2 : Int) = 1) by decide)]
    dsimp only
    rw [be_one, show (2 : Int) % 256 = 2 from rfl]
    simp only [List.append_assoc, List.cons_append, List.nil_append]
  have hrow : rowN rd3 Z = some (U, r) := by rw [hZ]; exact rowN_of (rd := rd3) (enc := updL) U r hU (fun a ha r => rd3_of a ⟨(hw a ha).1, (hw a ha).2, hf.u a ha⟩ r)
  have hn := n1_cons 2 (by omega) Z
  have hu : IntKind.u8.wrap 2 = 2 := by decide
  have hne : ¬ ((2 : Int) = 1) := by decide
  rw [e]
  clear e hZ
  have hp : parseP 2 Z = some (⟨2, 0, 0, 0, 0, T0, [], U⟩, r) := by
    unfold parseP
    rw [hrow]
  unfold parseM
  rw [if_pos (by simp only [List.length_cons]; omega), hn, hu, if_neg hne, List.drop_succ_cons, List.drop_zero]
  exact hp
theorem parse_of {m : Msg} (h : mayB m = true) (hf : m.fit) (r : List Int) : parseM (msgL m ++ r) = some (m, r) := by
  by_cases hk : m.k = 1
  · exact parse_one h hf r hk
  · exact parse_two h hf r hk
theorem parse_back {xs : List Int} {m : Msg} {r : List Int} (hin : InB xs) (h : parseM xs = some (m, r)) (hm : mayB m = true) : xs = msgL m ++ r ∧ m.fit := by
  unfold parseM at h
  split at h
  · rename_i h1
    obtain ⟨x0, ys, rfl⟩ : ∃ x0 ys, xs = x0 :: ys := by
      cases xs with
      | nil => simp at h1
      | cons x0 ys => exact ⟨x0, ys, rfl⟩
    have a0 := hin x0 (by simp)
    have hin' : InB ys := fun x hx => hin x (by simp [hx])
    rw [n1_cons x0 a0] at h
    have hw : IntKind.u8.wrap x0 = x0 := by
      simp only [IntKind.wrap, IntKind.bits, IntKind.signed]
      simp
      omega
    rw [hw] at h
    simp only [List.drop_succ_cons, List.drop_zero] at h
    split at h
    · rename_i hk
      subst hk
      unfold parseD at h
      split at h
      · rename_i hc
        obtain ⟨c1, c2, c3⟩ := hc
        obtain ⟨f, t, i, zs, rfl⟩ : ∃ f t i zs, ys = f :: t :: i :: zs := by
          cases ys with
          | nil => simp at c1
          | cons f ys =>
            cases ys with
            | nil => simp at c1
            | cons t ys =>
              cases ys with
              | nil => simp at c1
              | cons i zs => exact ⟨f, t, i, zs, rfl⟩
        have b0 := hin' f (by simp)
        have b1 := hin' t (by simp)
        have b2 := hin' i (by simp)
        have hin3 : InB zs := fun x hx => hin' x (by simp [hx])
        have hd : (f :: t :: i :: zs).drop 11 = zs.drop 8 := rfl
        rw [hd] at h c3
        obtain ⟨p1, p2⟩ := put_get (InB.drop hin3 8) c3
        have hR := getR_in (InB.drop hin3 8)
        split at h
        · cases h
        · rename_i L r' hrow
          injection h with h
          injection h with e1 e2
          subst e1; subst e2
          obtain ⟨q1, q2, q3, q4⟩ := rowN_back (p := fun x : Rc => I64 x.1 ∧ I64 x.2) hR (fun xs a r hi he => ⟨(rd2_back xs a r hi he).1, (rd2_back xs a r hi he).2⟩) hrow
          refine ⟨?_, ⟨wrap_i64 _, q4, by intro u hu; cases hu⟩⟩
          unfold msgL
          rw [if_pos rfl]
          dsimp only
          rw [show (f :: t :: i :: zs).drop 1 = t :: i :: zs from rfl, show (f :: t :: i :: zs).drop 2 = i :: zs from rfl, show (f :: t :: i :: zs).drop 3 = zs from rfl, n1_cons f b0, n1_cons t b1, n1_cons i b2]
          have hq := mayB_one hm rfl
          have hq0 : 0 ≤ n8 zs ∧ n8 zs ≤ 4611686018427387904 := ⟨hq.2.2.2.1, hq.2.2.2.2.1⟩
          have hn : u64 (n8 zs) = n8 zs := by unfold u64; omega
          have h8 := num8' (InB.take hin3 8) (by rw [List.length_take]; exact Nat.min_eq_left c2)
          rw [show wrap64 (val (zs.take 8)) = n8 zs from rfl, hn] at h8
          rw [h8]
          rw [be_one, be_one, be_one, be_one, show f % 256 = f by omega, show t % 256 = t by omega, show i % 256 = i by omega]
          simp only [List.append_assoc, List.cons_append, List.nil_append]
          rw [List.append_assoc] at q1
          rw [← q1, p2, List.take_append_drop]
          rfl
      · cases h
    · rename_i hk
      unfold parseP at h
      split at h
      · cases h
      · rename_i U r' hrow
        injection h with h
        injection h with e1 e2
        subst e1; subst e2
        obtain ⟨q1, q2, q3, q4⟩ := rowN_back (p := fun u : Upd => I64 u.m) hin' (fun xs a r hi he => rd3_back xs a r hi he) hrow
        refine ⟨?_, ⟨show I64 0 by unfold I64; decide, by intro x hx; (cases hx), q4⟩⟩
        unfold msgL
        rw [if_neg hk]
        dsimp only
        rw [be_one, show x0 % 256 = x0 by omega]
        simp only [List.append_assoc, List.cons_append, List.nil_append]
        rw [List.append_assoc] at q1
        rw [← q1]
  · cases h
theorem get_of {m : Msg} (h : mayB m = true) (hf : m.fit) : getM (msgL m) = some m := by
  have := parse_of h hf []
  rw [List.append_nil] at this
  unfold getM
  rw [this]
  dsimp only
  rw [if_pos ⟨rfl, h⟩]
theorem get_back {xs : List Int} {m : Msg} (hin : InB xs) (h : getM xs = some m) : msgL m = xs ∧ mayB m = true ∧ m.fit := by
  unfold getM at h
  split at h
  · cases h
  · rename_i m' r hp
    split at h
    · rename_i hc
      injection h with h
      subst h
      have hr : r = [] := List.eq_nil_of_length_eq_zero hc.1
      subst hr
      obtain ⟨e, f⟩ := parse_back hin hp hc.2
      rw [List.append_nil] at e
      exact ⟨e.symm, hc.2, f⟩
    · cases h
theorem get_more {m : Msg} (h : mayB m = true) (hf : m.fit) (x : Int) (r : List Int) : getM (msgL m ++ x :: r) = none := by
  unfold getM
  rw [parse_of h hf (x :: r)]
  dsimp only
  rw [if_neg (by simp)]
theorem InB.app {xs ys : List Int} (h : InB xs) (h' : InB ys) : InB (xs ++ ys) := fun x hx => by
  rcases List.mem_append.1 hx with hx | hx
  · exact h x hx
  · exact h' x hx
theorem InB.flat {α : Type} {enc : α → List Int} {L : List α} (h : ∀ a ∈ L, InB (enc a)) : InB (L.flatMap enc) := fun x hx => by
  obtain ⟨a, ha, hx⟩ := List.mem_flatMap.1 hx
  exact h a ha x hx
theorem putL_in (t : T) : InB (putL t) := by
  unfold putL
  split
  · rename_i h
    have r := right_iff.1 h
    unfold T.right at r
    refine InB.app ?_ (InB.take ?_ _)
    · intro x hx
      simp only [List.mem_cons, List.not_mem_nil, or_false] at hx
      rcases hx with rfl | rfl | rfl <;> omega
    · intro x hx
      simp only [List.mem_cons, List.not_mem_nil, or_false] at hx
      rcases hx with rfl | rfl | rfl <;> omega
  · intro x hx; cases hx
theorem msgL_in (m : Msg) : InB (msgL m) := by
  unfold msgL
  split
  · exact InB.app (InB.app (InB.app (InB.app (InB.app (be_in _ _) (InB.app (InB.app (be_in _ _) (be_in _ _)) (be_in _ _))) (be_in _ _)) (putL_in _)) (be_in _ _)) (InB.flat fun a _ => InB.app (be_in _ _) (be_in _ _))
  · exact InB.app (InB.app (be_in _ _) (be_in _ _)) (InB.flat fun a _ => InB.app (InB.app (InB.app (be_in _ _) (be_in _ _)) (putL_in _)) (be_in _ _))
theorem get_fewer {m : Msg} (h : mayB m = true) (hf : m.fit) {k : Nat} (hk : k < (msgL m).length) : getM ((msgL m).take k) = none := by
  match hg : getM ((msgL m).take k) with
  | none => rfl
  | some y =>
    exfalso
    obtain ⟨e, hy, fy⟩ := get_back (InB.take (msgL_in m) k) hg
    have e2 : msgL m = msgL y ++ (msgL m).drop k := by rw [e, List.take_append_drop]
    have p1 := parse_of h hf []
    rw [List.append_nil, e2, parse_of hy fy] at p1
    injection p1 with p1
    injection p1 with _ p1
    have := congrArg List.length p1
    rw [List.length_drop] at this
    simp only [List.length_nil] at this
    omega
theorem msgL_inj {m n : Msg} (h : mayB m = true) (hf : m.fit) (h' : mayB n = true) (hf' : n.fit) (e : msgL m = msgL n) : m = n := by
  have p1 := get_of h hf
  rw [e, get_of h' hf'] at p1
  injection p1 with p1
  exact p1.symm
theorem msgL_pos (m : Msg) : 0 < (msgL m).length := by
  unfold msgL
  split <;> (simp only [List.length_append, be_length]; omega)
end Go.Proofs.Yteiohcgohgcjfaa
