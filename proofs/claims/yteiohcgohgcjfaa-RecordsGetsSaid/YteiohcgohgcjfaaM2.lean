/- The reference's reader: number, time. -/
import Derived.Test.YteiohcgohgcjfaaRows
import Derived.IntWalk
import Derived.Test.YteiohcgohgcjfaaWords
import Derived.Test.YteiohcgohgcjfaaByts
import Derived.Test.YteiohcgohgcjfaaStrs
import Derived.Test.YteiohcgohgcjfaaFrame
import Derived.Test.YteiohcgohgcjfaaElems
import Derived.Test.YteiohcgohgcjfaaBitsW
import Derived.Test.YteiohcgohgcjfaaS1
import Derived.Test.YteiohcgohgcjfaaS2
import Derived.Test.YteiohcgohgcjfaaEqs
import Derived.Test.YteiohcgohgcjfaaS11
import Derived.Test.YteiohcgohgcjfaaG1
import Derived.Test.YteiohcgohgcjfaaG2
import Derived.Test.YteiohcgohgcjfaaG3
import Derived.Test.YteiohcgohgcjfaaE1
import Derived.Test.YteiohcgohgcjfaaE2
import Derived.Test.YteiohcgohgcjfaaPA
import Derived.Test.YteiohcgohgcjfaaM1
namespace Go.Proofs.Yteiohcgohgcjfaa
open Go Go.RowKit Go.Proofs.Tail
set_option linter.unusedSimpArgs false
set_option linter.unusedVariables false
/-- A reader: the bytes that are left, whether it is spoilt. -/
structure Rr (w : World) (R : Nat) (xs : List Int) (b : Bool) : Prop where
  sl : ∃ A c, Blk w R [.slice A xs.length c, .bool b] 89 ∧ Byts w A xs.length c xs ∧ (0 < xs.length → ∀ a, A = some a → a.block < R)
  inb : InB xs
theorem Rr.lt {w : World} {R : Nat} {xs : List Int} {b : Bool} (h : Rr w R xs b) : R < w.heap.size := by
  obtain ⟨⟨A, c, h1, _, _⟩, _⟩ := h
  exact h1.lt
theorem Rr.fr {w w' : World} {R : Nat} {xs : List Int} {b : Bool} {S : Nat → Prop} (h : Rr w R xs b) (hf : Fr S w w') (hs : ∀ k, k ≤ R → ¬ S k) : Rr w' R xs b := by
  obtain ⟨⟨A, c, h1, h2, h3⟩, h4⟩ := h
  exact ⟨⟨A, c, h1.fr hf (hs R (Nat.le_refl _)), byts_fr' h2 hf (fun hp a ha => hs _ (Nat.le_of_lt (h3 hp a ha))), h3⟩, h4⟩
theorem Rr.below {w w' : World} {R : Nat} {xs : List Int} {b : Bool} (h : Rr w R xs b) (hb : Below w.heap.size w w') : Rr w' R xs b := h.fr (S := fun _ => False) (Fr.of_below hb) (fun _ _ h => h)
theorem Rr.bad {w : World} {R : Nat} {xs : List Int} {b : Bool} (h : Rr w R xs b) : Rr (w.setCell ⟨R, 1, none⟩ (.bool true)) R xs true := by
  obtain ⟨⟨A, c, h1, h2, h3⟩, h4⟩ := h
  have hf : Fr (fun b => b = R) w (w.setCell ⟨R, 1, none⟩ (.bool true)) := (Fr.refl (fun b => b = R) w).set (fun _ => rfl) _
  exact ⟨⟨A, c, h1.set 1 (.bool true), byts_fr' h2 hf (fun hp a ha he => by have := h3 hp a ha; omega), h3⟩, h4⟩
set_option maxHeartbeats 8000000 in
theorem rnum_ok (R k : Nat) (xs : List Int) (w : World) (h : Rr w R xs false) (h1 : 1 ≤ k) (h8 : k ≤ 8) (hk : k ≤ xs.length) : Calls Try.prog 40 #[.pointer (some ⟨R, 0, none⟩), .int .i64 k] w
    (fun e w' => e = .returned (.int .i64 (wrap64 (val (xs.take k)))) ∧ Rr w' R (xs.drop k) false ∧ Fr (fun b => b = R) w w') := by
  obtain ⟨⟨A, c, hblk, hby, hlo⟩, hin⟩ := h
  have c0 : w.cell? ⟨R, 0, none⟩ = some (.slice A xs.length c) := hblk.cell 0
  have c1 : w.cell? ⟨R, 1, none⟩ = some (.bool false) := hblk.cell 1
  have hd : decide ((xs.length : Int) < k) = false := decide_eq_false (by omega)
  have hd' : decide (xs.length < k) = false := decide_eq_false (by omega)
  have s1 := fun W => bslice_to (A := A) hk hby.cap W
  obtain ⟨Ad, s2, hdr, hbl⟩ := bslice_from hby hk
  have HLO := Lib.hid (show 0 < (xs.drop k).length → ∀ a, Ad = some a → a.block < R from fun hp a ha => by
    obtain ⟨b, hb, e⟩ := hbl a ha
    rw [e]; exact hlo (by rw [List.length_drop] at hp; omega) b hb)
  have HC := Lib.hid (fun W (hW : Below w.heap.size w W) => rnumber_any k A k (xs.take k) W ((byts_take (m := k) (c' := k) hby hk (Nat.le_refl _)).below RByte.stays hW) (InB.take hin k) h8)
  have HN := Lib.hid (fun W => rnumber_any k A c (xs.take k) W)
  have HT := Lib.hid (byts_take (m := k) (c' := c) hby hk (by have := hby.cap; omega))
  have HD := Lib.hid hdr
  have HBL := Lib.hid hblk
  have HIN := Lib.hid hin
  have K8 := Lib.hid h8
  have fz := hblk.frozen 0
  have gz : IntKind.i64.wrap (val (xs.take k)) = wrap64 (val (xs.take k)) := by simp [wrap64, IntKind.wrap_i64]
  obtain ⟨n, hn⟩ : ∃ n, n = xs.length := ⟨_, rfl⟩
  rw [← hn] at c0 hd hd' s1 s2 HBL HD
  have HNL := Lib.hid hn
  clear hblk hby hin hdr hbl hn h8 hlo hk HC
  go_enter Try.func40, Try.ntmps40
  go_wp2_with fail
  refine (HN.out _ HT.out (InB.take HIN.out k) K8.out).mono ?_
  rintro e w2 ⟨rfl, hb⟩
  have HB := Lib.hid hb
  have d0 := below_cell hb c0
  have f0 := (HBL.out.then hb).frozen 0
  have HBL2 := Lib.hid (HBL.out.then hb)
  have HD2 := Lib.hid (HD.out.below RByte.stays hb)
  clear hb c0 c1 fz
  go_wp2_with fail
  go_ret
  have hf : Fr (fun b => b = R) w2 (w2.setCell ⟨R, 0, none⟩ (.slice Ad (n - k) (c - k))) := (Fr.refl (fun b => b = R) w2).set (fun _ => rfl) _
  have hl : (xs.drop k).length = n - k := by rw [List.length_drop, HNL.out]
  refine ⟨rfl, ⟨⟨Ad, c - k, ?_, ?_, HLO.out⟩, InB.drop HIN.out k⟩, (Fr.of_below HB.out).trans hf (fun _ _ h => h)⟩
  · rw [hl]
    exact HBL2.out.set 0 _
  · rw [hl]
    exact byts_fr' HD2.out hf (fun hp a ha he => by have := HLO.out (by omega) a ha; omega)
set_option maxHeartbeats 8000000 in
theorem rnum_no (R k : Nat) (xs : List Int) (b : Bool) (w : World) (h : Rr w R xs b) (hk : b = true ∨ xs.length < k) : Calls Try.prog 40 #[.pointer (some ⟨R, 0, none⟩), .int .i64 k] w
    (fun e w' => e = .returned (.int .i64 0) ∧ Rr w' R xs true ∧ Fr (fun b => b = R) w w') := by
  have HR := Lib.hid h
  obtain ⟨⟨A, c, hblk, hby, hlo⟩, hin⟩ := h
  have c0 : w.cell? ⟨R, 0, none⟩ = some (.slice A xs.length c) := hblk.cell 0
  have c1 : w.cell? ⟨R, 1, none⟩ = some (.bool b) := hblk.cell 1
  have f1 := hblk.frozen 1
  have HF := Lib.hid (show Fr (fun b => b = R) w (w.setCell ⟨R, 1, none⟩ (.bool true)) from (Fr.refl (fun b => b = R) w).set (fun _ => rfl) _)
  cases b with
  | true =>
    clear hblk hby hin hlo hk
    go_enter Try.func40, Try.ntmps40
    go_wp2_with fail
    go_ret
    exact ⟨rfl, HR.out.bad, HF.out⟩
  | false =>
    have hk' : xs.length < k := by rcases hk with h | h; (cases h); exact h
    have hd : decide ((xs.length : Int) < k) = true := decide_eq_true (by omega)
    have hd' : decide (xs.length < k) = true := decide_eq_true (by omega)
    clear hblk hby hin hlo hk hk'
    go_enter Try.func40, Try.ntmps40
    go_wp2_with fail
    go_ret
    exact ⟨rfl, HR.out.bad, HF.out⟩
def sets5 (w : World) (g : Nat) (v0 v1 v2 v3 v4 : Value) : World := ((((w.setCell ⟨g, 0, none⟩ v0).setCell ⟨g, 1, none⟩ v1).setCell ⟨g, 2, none⟩ v2).setCell ⟨g, 3, none⟩ v3).setCell ⟨g, 4, none⟩ v4
theorem set5 {w : World} {g : Nat} {t : TypeId} {c0 c1 c2 c3 c4 : Value} (h : Blk w g [c0, c1, c2, c3, c4] t) (v0 v1 v2 v3 v4 : Value) :
    Blk (sets5 w g v0 v1 v2 v3 v4) g [v0, v1, v2, v3, v4] t ∧ Fr (fun b => b = g) w (sets5 w g v0 v1 v2 v3 v4) :=
  ⟨((((h.set 0 v0).set 1 v1).set 2 v2).set 3 v3).set 4 v4,
   (((((Fr.refl (fun b => b = g) w).set (p := ⟨g, 0, none⟩) (fun _ => rfl) v0).set (p := ⟨g, 1, none⟩) (fun _ => rfl) v1).set (p := ⟨g, 2, none⟩) (fun _ => rfl) v2).set (p := ⟨g, 3, none⟩) (fun _ => rfl) v3).set (p := ⟨g, 4, none⟩) (fun _ => rfl) v4⟩
theorem rstamp_cells (W : World) (tmps : Array Value) (g : Nat) (v0 v1 v2 v3 v4 : Value) (hp : tmps.getD 2 undef = .pointer (some ⟨g, 0, none⟩)) (hB : Blk W g [v0, v1, v2, v3, v4] 24) : (results Try.f41 tmps).run Try.prog W = .ok (.agg #[v0, v1, v2, v3, v4]) W :=
  results_cell_row rfl tmps W g _ _ _ _ hp hB.h Try.underlying24 rfl (by kernel_rfl)
/-- What time tells. -/
def TimR (R : Nat) (xs : List Int) (b : Bool) (w : World) (e : Ending) (w' : World) : Prop :=
  (b = false ∧ getB xs = true → e = .returned (.agg #[.int .i64 (getT xs).d, .int .i64 (getT xs).e, .int .i64 (getT xs).a, .int .i64 (getT xs).b, .int .i64 (getT xs).c]) ∧ Rr w' R (getR xs) false) ∧
  (b = true ∨ getB xs = false → e = .returned (.agg #[.int .i64 0, .int .i64 0, .int .i64 0, .int .i64 0, .int .i64 0]) ∧ Rr w' R xs true) ∧ Fr (fun b => b = R) w w'
set_option maxHeartbeats 8000000 in
theorem rrtime_any (R : Nat) (xs : List Int) (b : Bool) (w : World) (h : Rr w R xs b) : Calls Try.prog 41 #[.pointer (some ⟨R, 0, none⟩)] w (TimR R xs b w) := by
  have HR := Lib.hid h
  obtain ⟨⟨A, c, hblk, hby, hlo⟩, hin⟩ := h
  have hb1 := below_new w (.cells #[.int .i64 0, .int .i64 0, .int .i64 0, .int .i64 0, .int .i64 0] 24)
  have c0 : (w.alloc (.cells #[.int .i64 0, .int .i64 0, .int .i64 0, .int .i64 0, .int .i64 0] 24)).cell? ⟨R, 0, none⟩ = some (.slice A xs.length c) := (hblk.then hb1).cell 0
  have HG := Lib.hid (refget_near A xs.length c xs _ (hby.below RByte.stays hb1) hin)
  have HB1 := Lib.hid hb1
  have HX := Lib.hid (hblk.then hb1)
  have HIN := Lib.hid hin
  have HLO := Lib.hid hlo
  have HR0 := Lib.hid hblk.lt
  have HO := Lib.hid (show Blk (w.alloc (.cells #[.int .i64 0, .int .i64 0, .int .i64 0, .int .i64 0, .int .i64 0] 24)) w.heap.size [.int .i64 0, .int .i64 0, .int .i64 0, .int .i64 0, .int .i64 0] 24 from Blk.new w [.int .i64 0, .int .i64 0, .int .i64 0, .int .i64 0, .int .i64 0] 24 _ rfl)
  clear hblk hby hin hb1 hlo
  go_enter Try.func41, Try.ntmps41
  go_wp2_with fail
  refine HG.out.mono ?_
  rintro e w2 ⟨A2, n2, c2, rfl, hy2, hb2, hnear⟩
  have hbel := below_then HB1.out hb2
  have hl2 := hy2.len
  obtain ⟨w3, hw3⟩ : ∃ w3, w3 = w2.alloc (.cells #[.int .i64 (getT xs).d, .int .i64 (getT xs).e, .int .i64 (getT xs).a, .int .i64 (getT xs).b, .int .i64 (getT xs).c] 24) := ⟨_, rfl⟩
  have hb3 : Below w2.heap.size w2 w3 := by rw [hw3]; exact below_new _ _
  have HN := Lib.hid (show Blk w3 w2.heap.size [.int .i64 (getT xs).d, .int .i64 (getT xs).e, .int .i64 (getT xs).a, .int .i64 (getT xs).b, .int .i64 (getT xs).c] 24 from by rw [hw3]; exact Blk.new _ _ _ _ rfl)
  have hX3 := (HX.out.then hb2).then hb3
  have HX3 := Lib.hid hX3
  have HB3 := Lib.hid (below_then hbel hb3)
  have HR3 := Lib.hid (HR.out.below HB3.out)
  have HY3 := Lib.hid ((hy2.below RByte.stays hb2).below RByte.stays hb3)
  have HO3 := Lib.hid ((HO.out.then hb2).then hb3)
  have HLT := Lib.hid (HO.out.then hb2).lt
  have HLN := Lib.hid (show 0 < (getR xs).length → ∀ a, A2 = some a → a.block < R from fun hp a ha => by
    obtain ⟨b, hb, e⟩ := hnear a ha
    rw [e]; exact HLO.out (by unfold getR at hp; split at hp; (rw [List.length_drop] at hp; omega); (simp at hp)) b hb)
  have q1 := hX3.cell 1
  simp only [List.getElem?_cons_succ, List.getElem?_cons_zero] at q1
  have f1 := hX3.frozen 1
  have e3 := hw3.symm
  have HL2 := Lib.hid hl2
  clear hy2 hb2 hbel hnear hb3 hw3 hX3 c0 HG hl2
  by_cases hbad : b = true ∨ getB xs = false
  · -- spoilt
    have HO4 := Lib.hid (HO3.out.other ⟨R, 1, none⟩ (.bool true) (by have := HR0.out; dsimp only; omega))
    have m0 := HO4.out.cell 0
    have m1 := HO4.out.cell 1
    have m2 := HO4.out.cell 2
    have m3 := HO4.out.cell 3
    have m4 := HO4.out.cell 4
    have fm := fun o => HO4.out.frozen o
    have HBD := Lib.hid hbad
    have HEND : Hid (∀ tmps : Array Value, tmps.getD 2 undef = .pointer (some ⟨w.heap.size, 0, none⟩) → bodyPost Try.prog Try.f41 (TimR R xs b w) .ret ⟨tmps, []⟩ (sets5 (w3.setCell ⟨R, 1, none⟩ (.bool true)) w.heap.size (.int .i64 0) (.int .i64 0) (.int .i64 0) (.int .i64 0) (.int .i64 0))) := Lib.hid fun tmps htm => by
      obtain ⟨hM, hf⟩ := set5 HO4.out (.int .i64 0) (.int .i64 0) (.int .i64 0) (.int .i64 0) (.int .i64 0)
      refine bodyPost_ret (v := .agg #[.int .i64 0, .int .i64 0, .int .i64 0, .int .i64 0, .int .i64 0]) ?_ rfl ?_
      · exact rstamp_cells _ _ w.heap.size _ _ _ _ _ htm hM
      · refine ⟨fun h => ?_, fun _ => ⟨rfl, HR3.out.bad.fr hf (fun k hk e => by have := HR0.out; omega)⟩, ?_⟩
        · rcases HBD.out with h9 | h9
          · rw [h.1] at h9; cases h9
          · rw [h.2] at h9; cases h9
        · exact ((Fr.of_below (S := fun b => b = R) HB3.out).set (p := ⟨R, 1, none⟩) (fun _ => rfl) _).trans hf (fun i hi he => by omega)
    cases b with
    | true =>
      clear hbad
      go_wp2_with fail
      exact HEND.out _ rfl
    | false =>
      have hg : getB xs = false := by rcases hbad with h | h; (cases h); exact h
      have hE : getE xs = 50 := by unfold getE; rw [hg]; rfl
      clear hbad hg
      go_wp2_with fail
      exact HEND.out _ rfl
  · have hbf : b = false := by cases b with | true => exact absurd (.inl rfl) hbad | false => rfl
    have hg : getB xs = true := by cases h : getB xs with | true => rfl | false => exact absurd (.inr h) hbad
    have hE : getE xs = 0 := by unfold getE; rw [hg]; rfl
    subst hbf
    have HG0 := Lib.hid hg
    have q0 := HX3.out.cell 0
    simp only [List.getElem?_cons_zero] at q0
    have f0 := HX3.out.frozen 0
    have hne : w2.heap.size ≠ R := by have := HR0.out; have := HLT.out; omega
    have hor : w.heap.size ≠ R := by have := HR0.out; omega
    have hL := HN.out.other ⟨R, 0, none⟩ (.slice A2 n2 c2) (Ne.symm hne)
    have HO4 := Lib.hid (HO3.out.other ⟨R, 0, none⟩ (.slice A2 n2 c2) (Ne.symm hor))
    have HX4 := Lib.hid (HX3.out.set 0 (.slice A2 n2 c2))
    have HY4 := Lib.hid (byts_fr' HY3.out (((Fr.refl (fun b => b = R) w3).set (p := ⟨R, 0, none⟩) (fun _ => rfl) (.slice A2 n2 c2))) (fun hp a ha he => by have := HLN.out (by have := HL2.out; omega) a ha; omega))
    have m0 := HO4.out.cell 0
    have m1 := HO4.out.cell 1
    have m2 := HO4.out.cell 2
    have m3 := HO4.out.cell 3
    have m4 := HO4.out.cell 4
    have fm := fun o => HO4.out.frozen o
    have l0 := hL.cell 0
    have l1 := hL.cell 1
    have l2 := hL.cell 2
    have l3 := hL.cell 3
    have l4 := hL.cell 4
    have HNE := Lib.hid (And.intro hne hor)
    have HEND : Hid (∀ tmps : Array Value, tmps.getD 2 undef = .pointer (some ⟨w.heap.size, 0, none⟩) → bodyPost Try.prog Try.f41 (TimR R xs false w) .ret ⟨tmps, []⟩ (sets5 (w3.setCell ⟨R, 0, none⟩ (.slice A2 n2 c2)) w.heap.size (.int .i64 (getT xs).d) (.int .i64 (getT xs).e) (.int .i64 (getT xs).a) (.int .i64 (getT xs).b) (.int .i64 (getT xs).c))) := Lib.hid fun tmps htm => by
      obtain ⟨hM, hf⟩ := set5 HO4.out (.int .i64 (getT xs).d) (.int .i64 (getT xs).e) (.int .i64 (getT xs).a) (.int .i64 (getT xs).b) (.int .i64 (getT xs).c)
      have hl3 := HL2.out
      subst hl3
      refine bodyPost_ret (v := .agg #[.int .i64 (getT xs).d, .int .i64 (getT xs).e, .int .i64 (getT xs).a, .int .i64 (getT xs).b, .int .i64 (getT xs).c]) ?_ rfl ?_
      · exact rstamp_cells _ _ w.heap.size _ _ _ _ _ htm hM
      · refine ⟨fun _ => ⟨rfl, ?_⟩, fun h => ?_, ?_⟩
        · exact Rr.fr (w := w3.setCell ⟨R, 0, none⟩ (.slice A2 (getR xs).length c2)) ⟨⟨A2, c2, HX4.out, HY4.out, HLN.out⟩, getR_in HIN.out⟩ hf (fun k hk e => by have := HR0.out; omega)
        · rcases h with h9 | h9
          · cases h9
          · rw [HG0.out] at h9; cases h9
        · exact ((Fr.of_below (S := fun b => b = R) HB3.out).set (p := ⟨R, 0, none⟩) (fun _ => rfl) _).trans hf (fun i hi he => by omega)
    clear hbad hg hL hne hor
    go_wp2_with fail
    exact HEND.out _ rfl
end Go.Proofs.Yteiohcgohgcjfaa
