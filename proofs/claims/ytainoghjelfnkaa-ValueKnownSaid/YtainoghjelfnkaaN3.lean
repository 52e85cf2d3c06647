/- Contract of the reference's Get. -/
import Derived.Test.YtainoghjelfnkaaRows
import Derived.IntWalk
import Derived.Test.YtainoghjelfnkaaWords
import Derived.Test.YtainoghjelfnkaaByts
import Derived.Test.YtainoghjelfnkaaFrame
import Derived.Test.YtainoghjelfnkaaElems
import Derived.Laws.OwnMore
import Derived.Test.YtainoghjelfnkaaV1
import Derived.Test.YtainoghjelfnkaaV2
import Derived.Test.YtainoghjelfnkaaV10
import Derived.Test.YtainoghjelfnkaaN1
import Derived.Test.YtainoghjelfnkaaN2
namespace Go.Proofs.Ytainoghjelfnkaa
open Go Go.RowKit Go.Proofs.Tail Go.Sort
set_option linter.unusedSimpArgs false
set_option linter.unusedVariables false
def errG (r : Option (List Rc)) : Int := if r.isSome then 0 else 2
def GivesGet (r : Option (List Rc)) (w : World) (e : Ending) (w' : World) : Prop :=
  ∃ v, e = .returned (.tuple #[v, .int .i64 (errG r)]) ∧ w'.ownsRow w.heap.size 32 2 v (r.getD []).length (recV (r.getD [])) ∧ Below w.heap.size w w'
theorem recs_len (xs : List Int) : (recs xs).length = xs.length / 16 := by simp [recs]
/-- Those of the first k. -/
def recsK (xs : List Int) (k : Nat) : List Rc := (List.range k).map fun j => recAt xs (16 * j)
theorem recsK_succ (xs : List Int) (k : Nat) : recsK xs (k + 1) = recsK xs k ++ [recAt xs (16 * k)] := by simp [recsK, List.range_succ]
theorem recsK_len (xs : List Int) (k : Nat) : (recsK xs k).length = k := by simp [recsK]
theorem recs_one (W : World) (a b : Int) : Recs (W.alloc (.cells #[.int .i64 a, .int .i64 b] 32)) (some ⟨W.heap.size, 0, none⟩) 1 1 [(a, b)] := by
  have h1 := World.ownsRow_lit (e := 32) (size := 2) (base := 0) W #[.int .i64 a, .int .i64 b] 1 (Nat.zero_le _) (by unfold maxLen; omega) rfl
  obtain ⟨A, c, e, hr⟩ := own_recs (xs := [(a, b)]) h1 (by omega)
  cases e
  exact hr
set_option maxRecDepth 100000 in
set_option maxHeartbeats 8000000 in
theorem refget_any (A : Option Addr) (n c : Nat) (xs : List Int) (w : World) (hX : Byts w A n c xs) (hi : InB xs) (hlim : n ≤ 100000) :
    Calls Try.prog 24 #[.slice A n c] w (GivesGet (getB xs) w) := by
  have HX := Lib.hid hX
  have lx := hX.len
  have LX := Lib.hid lx
  have HI := Lib.hid hi
  by_cases hm : n % 16 = 0
  · obtain ⟨m, hnm⟩ : ∃ m, n = 16 * m := ⟨n / 16, by omega⟩
    have HQ := Lib.hid (show getB xs = some (recsK xs m) by
      unfold getB recs recsK
      rw [lx, if_pos hm, show n / 16 = m by omega])
    have z1 : ((n : Int).tmod 16) = 0 := by rw [Int.tmod_eq_emod_of_nonneg (by omega)]; omega
    have z1' : (n : Int) % 16 = 0 := by omega
    have O0 := Lib.hid (show w.ownsRow w.heap.size 32 2 (.slice none 0 0) 0 (recV (recsK xs 0)) from World.ownsRow_nil _ _ _ _)
    have B0 := Lib.hid (Below.refl w.heap.size w)
    have hmb : m ≤ 6250 := by omega
    have HNM := Lib.hid hnm
    clear hX hi lx hm hnm
    go_enter Try.func24, Try.ntmps24
    go_wp2_with fail
    go_loopw [4, 5] (fun v i wr => ∃ k : Nat, k ≤ m ∧ i = .int .i64 ((16 * k : Nat) : Int) ∧ Hid (wr.ownsRow w.heap.size 32 2 v k (recV (recsK xs k))) ∧ Hid (Below w.heap.size w wr)) (fun _ i _ => n - (intOf i).toNat)
    case atStart => exact ⟨0, Nat.zero_le _, rfl, O0, B0⟩
    case round =>
      clear O0 B0
      obtain ⟨k, hk, rfl, HO, HB⟩ := hrel
      by_cases hlt : k < m
      · obtain ⟨p, hp⟩ : ∃ p, p = 16 * k := ⟨_, rfl⟩
        have hpn : p + 16 ≤ n := by have := HNM.out; omega
        have hp1 : 16 * (k + 1) = p + 16 := by omega
        have HP1 := Lib.hid hp1
        have HR := Lib.hid (recsK_succ xs k)
        have HKL := Lib.hid (recsK_len xs k)
        have hre : recAt xs (16 * k) = (num ((xs.drop p).take 8), num ((xs.drop (p + 8)).take 8)) := by rw [← hp]; rfl
        have HRE := Lib.hid hre
        rw [← hp]
        have hkm := hlt
        clear hp hp1 hre hlt
        have hd : decide ((p : Int) < n) = true := decide_eq_true (by omega)
        have hd' : decide (p < n) = true := decide_eq_true (by omega)
        have C1 := Lib.hid (refnumber_any A n c p xs wr (HX.out.below RByte.stays HB.out) HI.out (by omega) (by omega))
        have C2 := Lib.hid (show ∀ W, Below w.heap.size w W → Calls Try.prog 36 #[.slice A n c, .int .i64 ((p : Int) + 8)] W (Gives (.int .i64 (num ((xs.drop (p + 8)).take 8))) W) from fun W h => refnumber_any A n c (p + 8) xs W (HX.out.below RByte.stays h) HI.out (by omega) (by omega))
        generalize num ((xs.drop p).take 8) = a at *
        generalize num ((xs.drop (p + 8)).take 8) = b at *
        go_wp2_with fail
        refine C1.out.mono ?_
        rintro e w1 ⟨rfl, hb⟩
        have HB1 := Lib.hid (below_then HB.out hb)
        have HO1 := Lib.hid (own_below HO.out hb)
        clear hb C1 HO HB
        go_wp2_with fail
        refine (C2.out _ HB1.out).mono ?_
        rintro e w2 ⟨rfl, hb⟩
        have HB2 := Lib.hid (below_then HB1.out hb)
        have HO2 := Lib.hid (own_below HO1.out hb)
        clear hb C2 HO1 HB1
        go_wp2_with (at_builtin; go_loud (refine own_append_recs rfl (.tmp 16) (.tmp 25) 22 32 rfl Try.underlying22 infoR w.heap.size _ (recsK xs k) (some ⟨w2.heap.size, 0, none⟩) 1 1 [(a, b)] rfl rfl (own_below (by rw [HKL.out]; exact HO2.out) (below_new w2 _)) (recs_one w2 a b) (by rw [HKL.out]; omega) (below_then HB2.out (below_new w2 _)).size ?_); intro v1 w3 hown hgr hat)
        have HB3 := Lib.hid ((below_then HB2.out (below_new w2 _)).grown hgr (below_then HB2.out (below_new w2 _)).size (fun k hk => own_lt HO2.out k hk))
        have HN := Lib.hid (show w3.ownsRow w.heap.size 32 2 v1 (k + 1) (recV (recsK xs (k + 1))) by rw [HR.out, HRE.out, show k + 1 = (recsK xs k ++ [(a, b)]).length by rw [List.length_append, HKL.out]; rfl]; exact hown)
        clear hown hgr hat HO2 HB2
        go_roundw
        case rel => exact ⟨k + 1, by omega, by rw [HP1.out]; go_num, HN, HB3⟩
        case measure => simp [intOf]; omega
      · obtain rfl : k = m := by omega
        have hnm := HNM.out
        rw [← hnm]
        clear hnm
        have hd : decide ((n : Int) < n) = false := decide_eq_false (by omega)
        have hd' : decide (n < n) = false := decide_eq_false (by omega)
        go_wp2_with fail
        go_ret2
        exact ⟨_, by rw [HQ.out]; rfl, by rw [HQ.out]; show World.ownsRow _ _ _ _ _ (recsK xs k).length (recV (recsK xs k)); rw [recsK_len]; exact HO.out, HB.out⟩
  · have HQ := Lib.hid (show getB xs = none by unfold getB; rw [lx, if_neg hm])
    have z1 : (((n : Int).tmod 16) != 0) = true := by rw [Int.tmod_eq_emod_of_nonneg (by omega)]; simp; omega
    have z1' : (((n : Int) % 16) != 0) = true := by simp; omega
    have B0 := Lib.hid (Below.refl w.heap.size w)
    clear hX hi lx hm
    go_enter Try.func24, Try.ntmps24
    go_wp2_with fail
    go_ret2
    exact ⟨_, by rw [HQ.out]; rfl, by rw [HQ.out]; exact World.ownsRow_nil _ _ _ _, B0.out⟩
end Go.Proofs.Ytainoghjelfnkaa
