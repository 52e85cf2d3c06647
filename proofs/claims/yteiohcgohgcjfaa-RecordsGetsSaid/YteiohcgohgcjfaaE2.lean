/- A time is read. -/
import Derived.Test.YteiohcgohgcjfaaRows
import Derived.IntWalk
import Derived.Test.YteiohcgohgcjfaaWords
import Derived.Test.YteiohcgohgcjfaaByts
import Derived.Test.YteiohcgohgcjfaaStrs
import Derived.Test.YteiohcgohgcjfaaFrame
import Derived.Test.YteiohcgohgcjfaaElems
import Derived.Test.YteiohcgohgcjfaaBitsW
import Derived.Test.YteiohcgohgcjfaaS1
import Derived.Test.YteiohcgohgcjfaaS2
import Derived.Test.YteiohcgohgcjfaaEqs
import Derived.Test.YteiohcgohgcjfaaS11
import Derived.Test.YteiohcgohgcjfaaG1
import Derived.Test.YteiohcgohgcjfaaG2
import Derived.Test.YteiohcgohgcjfaaG3
import Derived.Test.YteiohcgohgcjfaaE1
namespace Go.Proofs.Yteiohcgohgcjfaa
open Go Go.RowKit Go.Proofs.Tail
set_option linter.unusedSimpArgs false
set_option linter.unusedVariables false
def Tim (R : Nat) (xs : List Int) (w : World) (e : Ending) (w' : World) : Prop :=
  (getB xs = true → e = .returned (.agg #[.int .i64 (getT xs).d, .int .i64 (getT xs).e, .int .i64 (getT xs).a, .int .i64 (getT xs).b, .int .i64 (getT xs).c]) ∧ Rb w' R (getR xs)) ∧ (getB xs = false → Pan e) ∧ Fr (fun b => b = R) w w'
theorem getR_in {xs : List Int} (h : InB xs) : InB (getR xs) := by
  unfold getR
  split
  · exact InB.drop h _
  · intro x hx; simp at hx
theorem byts_ne {w : World} {R n c : Nat} {t : TypeId} {cs : List Value} {A : Option Addr} {xs : List Int} (hB : Blk w R cs t) (hv : ∀ v ∈ cs, ∀ x, v ≠ .int .u8 x) (h : Byts w A n c xs) (hn : 0 < n) : ∀ a, A = some a → a.block ≠ R := by
  intro a ha he
  obtain ⟨b, o, e, hc⟩ := h.byte hn
  rw [ha] at e
  injection e with e
  rw [e] at he
  dsimp only at he
  rw [he, hB.cell] at hc
  exact hv _ (List.mem_of_getElem? hc) _ rfl
theorem stamp_cells (W : World) (tmps : Array Value) (g : Nat) (v0 v1 v2 v3 v4 : Value) (hp : tmps.getD 2 undef = .pointer (some ⟨g, 0, none⟩)) (hB : Blk W g [v0, v1, v2, v3, v4] 24) : (results Try.f34 tmps).run Try.prog W = .ok (.agg #[v0, v1, v2, v3, v4]) W :=
  results_cell_row rfl tmps W g _ _ _ _ hp hB.h Try.underlying24 rfl (by kernel_rfl)
set_option maxHeartbeats 8000000 in
theorem rtime_any (R : Nat) (xs : List Int) (w : World) (h : Rb w R xs) : Calls Try.prog 34 #[.pointer (some ⟨R, 0, none⟩)] w (Tim R xs w) := by
  obtain ⟨⟨A, c, hblk, hby, hlo⟩, hin⟩ := h
  have HLO := Lib.hid hlo
  have hb1 := below_new w (.cells #[.int .i64 0, .int .i64 0, .int .i64 0, .int .i64 0, .int .i64 0] 24)
  have c0 : (w.alloc (.cells #[.int .i64 0, .int .i64 0, .int .i64 0, .int .i64 0, .int .i64 0] 24)).cell? ⟨R, 0, none⟩ = some (.slice A xs.length c) := (hblk.then hb1).cell 0
  have HG := Lib.hid (get_near A xs.length c xs _ (hby.below RByte.stays hb1) hin)
  have HB1 := Lib.hid hb1
  have HX := Lib.hid (hblk.then hb1)
  have HIN := Lib.hid hin
  have HR0 := Lib.hid hblk.lt
  have hz : ∀ W, (zeroValue 24).run Try.prog W = .ok (.agg #[.int .i64 0, .int .i64 0, .int .i64 0, .int .i64 0, .int .i64 0]) W := fun W => by
    go_simp
  clear hblk hby hin hb1 hlo
  go_enter Try.func34, Try.ntmps34
  go_wp2_with fail
  refine HG.out.mono ?_
  rintro e w2 ⟨A2, n2, c2, rfl, hy2, hb2, hnear⟩
  have HLN := Lib.hid (show 0 < (getR xs).length → ∀ a, A2 = some a → a.block + 2 < R from fun hp a ha => by
    obtain ⟨b, hb, e⟩ := hnear a ha
    rw [e]; exact HLO.out (by unfold getR at hp; split at hp; (rw [List.length_drop] at hp; omega); (simp at hp)) b hb)
  clear hnear
  have hl2 := hy2.len
  have hbel := below_then HB1.out hb2
  have HX2 := HX.out.then hb2
  have HO := Lib.hid (show Blk w2 w.heap.size [.int .i64 0, .int .i64 0, .int .i64 0, .int .i64 0, .int .i64 0] 24 from (Blk.new w [.int .i64 0, .int .i64 0, .int .i64 0, .int .i64 0, .int .i64 0] 24 _ rfl).then hb2)
  have hb3 := below_new w2 (.cells #[.int .i64 (getT xs).d, .int .i64 (getT xs).e, .int .i64 (getT xs).a, .int .i64 (getT xs).b, .int .i64 (getT xs).c] 24)
  have HX3 := Lib.hid (HX2.then hb3)
  have HB3 := Lib.hid (below_then hbel hb3)
  have HY3 := Lib.hid ((hy2.below RByte.stays hb2).below RByte.stays hb3)
  have HO3 := Lib.hid (HO.out.then hb3)
  have hsz := hbel.size
  have HLT := Lib.hid (HO.out.lt)
  have WY := Lib.hid (fun W => want_yes W)
  have WN := Lib.hid (fun W => want_no W)
  cases hg : getB xs with
  | false =>
    have hE : getE xs = 50 := by unfold getE; rw [hg]; rfl
    have HG0 := Lib.hid hg
    rw [hE]
    clear hg hE hy2 hb2 hbel HX2 hb3 HG c0 hl2
    go_wp2_with fail
    refine (WN.out _).mono ?_
    rintro e w3 ⟨rfl, rfl⟩
    exact ⟨rfl, fun h => absurd (HG0.out.symm.trans h) (by decide), fun _ => rfl, Fr.of_below HB3.out⟩
  | true =>
    have hE : getE xs = 0 := by unfold getE; rw [hg]; rfl
    have HG0 := Lib.hid hg
    have HN := Lib.hid (Blk.new w2 [.int .i64 (getT xs).d, .int .i64 (getT xs).e, .int .i64 (getT xs).a, .int .i64 (getT xs).b, .int .i64 (getT xs).c] 24 _ rfl)
    rw [hE]
    clear hg hE hy2 hb2 hbel HX2 hb3 HG c0
    go_wp2_with fail
    refine (WY.out _).mono ?_
    rintro e w3 ⟨rfl, hw3⟩
    dsimp only [List.toArray, List.toArrayAux] at HN
    have hne : w2.heap.size ≠ R := by have := HX3.out.lt; have := HR0.out; have := HLT.out; omega
    have hor : w.heap.size ≠ R := by have := HR0.out; omega
    simp only [List.toArray, List.toArrayAux, Array.push, List.concat, hw3] at HN HX3 HY3 HO3 HB3
    generalize w2.heap.size = B3 at *
    have cx := HX3.out.cell 0
    have fz := HX3.out.frozen 0
    have hL := HN.out.other ⟨R, 0, none⟩ (.slice A2 n2 c2) (Ne.symm hne)
    have hO := HO3.out.other ⟨R, 0, none⟩ (.slice A2 n2 c2) (Ne.symm hor)
    have HX4 := Lib.hid (HX3.out.set 0 (.slice A2 n2 c2))
    have HF4 := Lib.hid ((Fr.of_below (S := fun b => b = R) HB3.out).set (p := ⟨R, 0, none⟩) (fun _ => rfl) (.slice A2 n2 c2))
    have HY4 := Lib.hid (byts_fr' HY3.out (((Fr.refl (fun b => b = R) _).set (p := ⟨R, 0, none⟩) (fun _ => rfl) (.slice A2 n2 c2))) (rb_ne HX3.out (fun x h => by cases h) HY3.out))
    have l0 := hL.cell 0
    have l1 := hL.cell 1
    have l2 := hL.cell 2
    have l3 := hL.cell 3
    have l4 := hL.cell 4
    have fo0 := fun o => hO.frozen o
    have m0 := hO.cell 0
    have m1 := hO.cell 1
    have m2 := hO.cell 2
    have m3 := hO.cell 3
    have m4 := hO.cell 4
    have HOR := Lib.hid hor
    have HQ := Lib.hid hO
    have HL2 := Lib.hid hl2
    clear HN HX3 HO3 HB3 hL hO HB1 HX HO HY3 hne hor
    go_wp2_with fail
    have hX5 := (((((HX4.out.other ⟨w.heap.size, 0, none⟩ (.int .i64 (getT xs).d) HOR.out).other ⟨w.heap.size, 1, none⟩ (.int .i64 (getT xs).e) HOR.out).other ⟨w.heap.size, 2, none⟩ (.int .i64 (getT xs).a) HOR.out).other ⟨w.heap.size, 3, none⟩ (.int .i64 (getT xs).b) HOR.out).other ⟨w.heap.size, 4, none⟩ (.int .i64 (getT xs).c) HOR.out)
    have hf := fun (S : Nat → Prop) (hS : S w.heap.size) => (((((Fr.refl S (w3.setCell ⟨R, 0, none⟩ (.slice A2 n2 c2))).set (p := ⟨w.heap.size, 0, none⟩) (fun _ => hS) (.int .i64 (getT xs).d)).set (p := ⟨w.heap.size, 1, none⟩) (fun _ => hS) (.int .i64 (getT xs).e)).set (p := ⟨w.heap.size, 2, none⟩) (fun _ => hS) (.int .i64 (getT xs).a)).set (p := ⟨w.heap.size, 3, none⟩) (fun _ => hS) (.int .i64 (getT xs).b)).set (p := ⟨w.heap.size, 4, none⟩) (fun _ => hS) (.int .i64 (getT xs).c)
    have hR := ((((HQ.out.set 0 (.int .i64 (getT xs).d)).set 1 (.int .i64 (getT xs).e)).set 2 (.int .i64 (getT xs).a)).set 3 (.int .i64 (getT xs).b)).set 4 (.int .i64 (getT xs).c)
    have hA := byts_fr' HY4.out (hf (fun b => b = w.heap.size) rfl) (byts_ne HQ.out (by intro v hv x; simp only [List.mem_cons, List.not_mem_nil, or_false] at hv; rcases hv with rfl | rfl | rfl | rfl | rfl <;> (intro q; cases q)) HY4.out)
    have hF := HF4.out.trans (hf (fun b => b = w.heap.size) rfl) (fun i hi he => absurd he (by omega))
    generalize (((((w3.setCell ⟨R, 0, none⟩ (.slice A2 n2 c2)).setCell ⟨w.heap.size, 0, none⟩ (.int .i64 (getT xs).d)).setCell ⟨w.heap.size, 1, none⟩ (.int .i64 (getT xs).e)).setCell ⟨w.heap.size, 2, none⟩ (.int .i64 (getT xs).a)).setCell ⟨w.heap.size, 3, none⟩ (.int .i64 (getT xs).b)).setCell ⟨w.heap.size, 4, none⟩ (.int .i64 (getT xs).c) = w9 at *
    dsimp only [List.set] at hR hX5
    rw [← HL2.out] at hA hX5
    refine bodyPost_ret (v := .agg #[.int .i64 (getT xs).d, .int .i64 (getT xs).e, .int .i64 (getT xs).a, .int .i64 (getT xs).b, .int .i64 (getT xs).c]) ?_ rfl ?_
    · exact stamp_cells _ _ w.heap.size _ _ _ _ _ rfl hR
    · exact ⟨fun _ => ⟨rfl, ⟨A2, c2, hX5, hA, HLN.out⟩, getR_in HIN.out⟩, fun h => absurd (HG0.out.symm.trans h) (by decide), hF⟩
end Go.Proofs.Yteiohcgohgcjfaa
