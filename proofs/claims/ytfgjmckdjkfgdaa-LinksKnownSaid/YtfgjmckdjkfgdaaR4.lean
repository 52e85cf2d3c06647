/- The reference's Clear. -/
import Derived.Test.YtfgjmckdjkfgdaaRows
import Derived.IntWalk
import Derived.Test.YtfgjmckdjkfgdaaWords
import Derived.Test.YtfgjmckdjkfgdaaByts
import Derived.Test.YtfgjmckdjkfgdaaStrs
import Derived.Test.YtfgjmckdjkfgdaaFrame
import Derived.Test.YtfgjmckdjkfgdaaElems
import Derived.Test.YtfgjmckdjkfgdaaHeads
import Derived.Test.YtfgjmckdjkfgdaaN11
import Derived.Test.YtfgjmckdjkfgdaaR1
import Derived.Test.YtfgjmckdjkfgdaaR2
import Derived.Test.YtfgjmckdjkfgdaaR3
namespace Go.Proofs.Ytfgjmckdjkfgdaa
open Go Go.RowKit Go.Proofs.Tail
set_option linter.unusedSimpArgs false
set_option linter.unusedVariables false
variable {w w' w2 : World} {D : Nat → Prop} {M : Nat} {R : RefS} {v v1 : Value}
def offE (e : Int) (m : Mail) : Bool := m.f != e && m.t != e
def clearR (R : RefS) (e : Int) : RefS := { R with L := R.L.filter (offE e) }
def GivesCr (D : Nat → Prop) (M : Nat) (R' : RefS) (w : World) (e : Ending) (w' : World) : Prop := e = .returned (.tuple #[]) ∧ Ref w' (grewD D w w') M R' ∧ Fr D w w'
set_option maxHeartbeats 8000000 in
theorem refclear_any (hR : Ref w D M R) (e : Int) : Calls Try.prog 22 #[.pointer (some ⟨M, 0, none⟩), .int .i64 e] w (GivesCr D M (clearR R e) w) := by
  obtain ⟨v, h⟩ := hR
  obtain ⟨A, c, rfl, hm, c0, c1, c2, c3, fz⟩ := h.reads
  have HH := Lib.hid h
  have HX := Lib.hid hm
  have HC := Lib.hid c1
  have HZ := Lib.hid (fz 1)
  have hlim := h.lim
  have HQ := Lib.hid (show ∀ k, k = R.L.length → clearR R e = { R with L := (R.L.take k).filter (offE e) } from fun k hk => by rw [hk, List.take_length]; rfl)
  clear h hm c0 c1 c2 c3 fz
  obtain ⟨n, hn⟩ : ∃ n, n = R.L.length := ⟨_, rfl⟩
  rw [← hn] at HX HC HH HQ hlim
  have HN := Lib.hid hn
  clear hn
  have c1 := HC.out
  go_enter Try.func22, Try.ntmps22
  go_wp2_with fail
  clear c1
  go_loopw [4, 5] (fun l i wr => ∃ k : Nat, k ≤ n ∧ i = .int .i64 k ∧ Hid (wr.ownsRow w.heap.size 70 3 l ((R.L.take k).filter (offE e)).length (recM ((R.L.take k).filter (offE e)))) ∧ Hid (Below w.heap.size w wr)) (fun _ i _ => n - (intOf i).toNat)
  case atStart => exact ⟨0, Nat.zero_le _, rfl, Lib.hid (by simpa [recM] using World.ownsRow_nil w w.heap.size 70 3), Lib.hid (Below.refl _ _)⟩
  case round =>
    obtain ⟨k, hk, rfl, HO, HB⟩ := hrel
    have c1 := below_cell HB.out HC.out
    by_cases hlt : k < n
    · have hd : decide ((k : Int) < n) = true := decide_eq_true (by omega)
      have hd' : decide (k < n) = true := decide_eq_true (by omega)
      have hk0 : (0 : Int) ≤ k := by omega
      have hkn : (k : Int) < n := by omega
      obtain ⟨g, off, x, rfl, hx, hc⟩ := HX.out.elem hlt
      have hcr := RMail.stays _ _ _ _ _ HB.out hc
      obtain ⟨x0, x1, x2⟩ := hcr
      have HT := Lib.hid (take_succ_get hx)
      clear hx hc
      by_cases hf : x.f = e
      · have q1 : (x.f != e) = false := by simpa using hf
        have HF := Lib.hid (show (R.L.take (k + 1)).filter (offE e) = (R.L.take k).filter (offE e) by rw [HT.out, List.filter_append]; simp [offE, hf])
        clear hf x2
        go_wp2_with fail
        go_roundw
        case rel => exact ⟨k + 1, by omega, by go_num, Lib.hid (by rw [HF.out]; exact HO.out), HB⟩
        case measure => simp [intOf]; omega
      · have q1 : (x.f != e) = true := by simpa using hf
        by_cases ht : x.t = e
        · have q2 : (x.t != e) = false := by simpa using ht
          have HF := Lib.hid (show (R.L.take (k + 1)).filter (offE e) = (R.L.take k).filter (offE e) by rw [HT.out, List.filter_append]; simp [offE, ht])
          clear hf ht x2
          go_wp2_with fail
          go_roundw
          case rel => exact ⟨k + 1, by omega, by go_num, Lib.hid (by rw [HF.out]; exact HO.out), HB⟩
          case measure => simp [intOf]; omega
        · have q2 : (x.t != e) = true := by simpa using ht
          have HF := Lib.hid (show (R.L.take (k + 1)).filter (offE e) = (R.L.take k).filter (offE e) ++ [x] by rw [HT.out, List.filter_append]; simp [offE, ht, hf])
          have HL := Lib.hid (show (((R.L.take k).filter (offE e)).length + 1) * 32 ≤ 140737488355328 by
            have : ((R.L.take k).filter (offE e)).length ≤ k := Nat.le_trans (List.length_filter_le _ _) (by rw [List.length_take]; omega)
            omega)
          clear hf ht
          go_wp2_with (at_builtin; (refine own_append_one (W := wr) rfl (.tmp 37) (.tmp 45) 57 70 (.agg #[.int .i64 0, .int .i64 0, .string { data := #[] }]) 3 32 rfl Try.underlying57 infoM rfl (by omega) (by omega) w.heap.size _ _ (recM ((R.L.take k).filter (offE e))) 1 [.int .i64 x.f, .int .i64 x.t, .string (strOfNums x.b)] rfl rfl HO.out rfl (by simp [Value.oneCell']) HL.out HB.out.size ?_)
                       intro v1 w1 hown hgr hat
                       have HO1 := Lib.hid hown
                       have HB1 := Lib.hid (below_grown HB.out hgr (fun j hj => own_lt HO.out j hj))
                       clear hown hgr hat c1 x0 x1 x2)
          go_roundw
          case rel => exact ⟨k + 1, by omega, by go_num, Lib.hid (by rw [HF.out, recM_append, List.length_append]; exact HO1.out), HB1⟩
          case measure => simp [intOf]; omega
    · have hd : decide ((k : Int) < n) = false := decide_eq_false (by omega)
      have hd' : decide (k < n) = false := decide_eq_false (by omega)
      have hke : k = n := by omega
      subst hke
      have z1 : wr.frozen? ⟨M, 1, none⟩ = false := (World.frozen?_of_block (HB.out.block M (HH.out.lt M HH.out.dM))).trans HZ.out
      obtain ⟨A3, c3, rfl⟩ := (OwnAt.of HO.out).form
      go_wp2_with fail
      go_end0
      have hput := HH.out.put (w2 := wr) (v1 := .slice A3 ((R.L.take k).filter (offE e)).length c3) (L := (R.L.take k).filter (offE e)) (fun j hj _ => HB.out.block j (HH.out.lt j hj)) HB.out.size (own_base HO.out (Nat.zero_le _)) (fun j hj => .inr (own_lt HO.out j hj)) (by
        have : ((R.L.take k).filter (offE e)).length ≤ k := Nat.le_trans (List.length_filter_le _ _) (by rw [List.length_take]; omega)
        omega)
      unfold GivesCr
      rw [HQ.out k rfl]
      refine ⟨rfl, ⟨.slice A3 ((R.L.take k).filter (offE e)).length c3, ?_⟩, (Fr.of_below (S := D) HB.out).set (fun _ => HH.out.dM) _⟩
      have hD : grewD D w (wr.setCell ⟨M, 1, none⟩ (.slice A3 ((R.L.take k).filter (offE e)).length c3)) = grewD D w wr := by
        unfold grewD
        simp [World.setCell]
      rw [hD]
      exact hput
end Go.Proofs.Ytfgjmckdjkfgdaa
