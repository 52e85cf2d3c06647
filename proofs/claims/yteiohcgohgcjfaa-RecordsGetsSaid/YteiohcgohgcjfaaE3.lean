/- A record is read. -/
import Derived.Test.YteiohcgohgcjfaaRows
import Derived.IntWalk
import Derived.Test.YteiohcgohgcjfaaWords
import Derived.Test.YteiohcgohgcjfaaByts
import Derived.Test.YteiohcgohgcjfaaStrs
import Derived.Test.YteiohcgohgcjfaaFrame
import Derived.Test.YteiohcgohgcjfaaElems
import Derived.Test.YteiohcgohgcjfaaBitsW
import Derived.Test.YteiohcgohgcjfaaS1
import Derived.Test.YteiohcgohgcjfaaS2
import Derived.Test.YteiohcgohgcjfaaEqs
import Derived.Test.YteiohcgohgcjfaaS11
import Derived.Test.YteiohcgohgcjfaaG1
import Derived.Test.YteiohcgohgcjfaaE1
import Derived.Test.YteiohcgohgcjfaaE2
namespace Go.Proofs.Yteiohcgohgcjfaa
open Go Go.RowKit Go.Proofs.Tail
set_option linter.unusedSimpArgs false
set_option linter.unusedVariables false
theorem Rb.drew {w : World} {R : Nat} {xs : List Int} (h : Rb w R xs) : Rb w.drew R xs := h.below ((Below.refl _ _).drew)
theorem num_ok (R k : Nat) (xs : List Int) (w : World) (h : Rb w R xs) (h1 : 1 ≤ k) (h8 : k ≤ 8) (hk : k ≤ xs.length) : Calls Try.prog 33 #[.pointer (some ⟨R, 0, none⟩), .int .i64 k] w (fun e w' => e = .returned (.int .i64 (wrap64 (val (xs.take k)))) ∧ Rb w' R (xs.drop k) ∧ Fr (fun b => b = R) w w') :=
  (number_any R k xs w h h1 h8).mono fun _ _ g => ⟨(g.1 hk).1, (g.1 hk).2, g.2.2⟩
theorem num_no (R k : Nat) (xs : List Int) (w : World) (h : Rb w R xs) (h1 : 1 ≤ k) (h8 : k ≤ 8) (hk : xs.length < k) : Calls Try.prog 33 #[.pointer (some ⟨R, 0, none⟩), .int .i64 k] w (fun e w' => Pan e ∧ Fr (fun b => b = R) w w') :=
  (number_any R k xs w h h1 h8).mono fun _ _ g => ⟨g.2.1 hk, g.2.2⟩
theorem Rb.apart {w w' : World} {R B : Nat} {cs : List Value} {t : TypeId} {xs : List Int} (h : Rb w R xs) (hB : Blk w B cs t) (hv : ∀ v ∈ cs, ∀ x, v ≠ .int .u8 x) (hne : B ≠ R) (hf : Fr (fun b => b = B) w w') : Rb w' R xs := by
  obtain ⟨⟨A, c, h1, h2, h4⟩, h3⟩ := h
  exact ⟨⟨A, c, h1.fr hf (fun e => hne e.symm), byts_fr' h2 hf (byts_ne hB hv h2), h4⟩, h3⟩
/-- What grows or turns beyond a bound leaves the bytes as they are. -/
theorem Rb.beyond {S : Nat → Prop} {w w' : World} {R : Nat} {xs : List Int} (h : Rb w R xs) (hf : Fr S w w') (hs : ∀ k, S k → R < k) : Rb w' R xs := by
  obtain ⟨⟨A, c, h1, h2, h4⟩, h3⟩ := h
  exact ⟨⟨A, c, h1.fr hf (fun e => Nat.lt_irrefl _ (hs R e)), byts_fr' h2 hf (fun hp a ha hS => by have := h4 hp a ha; have := hs _ hS; omega), h4⟩, h3⟩
def Rec2 (R : Nat) (xs : List Int) (w : World) (e : Ending) (w' : World) : Prop :=
  (16 ≤ xs.length → e = .returned (.agg #[.int .i64 (wrap64 (val (xs.take 8))), .int .i64 (wrap64 (val ((xs.drop 8).take 8)))]) ∧ Rb w' R (xs.drop 16)) ∧ (xs.length < 16 → Pan e) ∧ Fr (fun b => b = R) w w'
theorem rec_cells (W : World) (tmps : Array Value) (g : Nat) (v0 v1 : Value) (hp : tmps.getD 1 undef = .pointer (some ⟨g, 0, none⟩)) (hB : Blk W g [v0, v1] 50) : (results Try.f36 tmps).run Try.prog W = .ok (.agg #[v0, v1]) W :=
  results_cell_row rfl tmps W g _ _ _ _ hp hB.h Try.underlying50 rfl (by kernel_rfl)
set_option maxHeartbeats 8000000 in
theorem rec2_any (V R : Nat) (xs : List Int) (w : World) (hV : Blk w V [.pointer (some ⟨R, 0, none⟩)] 77) (hne : V ≠ R) (h : Rb w R xs) : Calls Try.prog 36 #[.pointer (some ⟨V, 0, none⟩)] w (Rec2 R xs w) := by
  have hb1 := below_new w (.cells #[.int .i64 0, .int .i64 0] 50)
  have HV := Lib.hid (hV.then hb1)
  have cV := (hV.then hb1).cell 0
  have HB1 := Lib.hid hb1
  have HO := Lib.hid (show Blk (w.alloc (.cells #[.int .i64 0, .int .i64 0] 50)) w.heap.size [.int .i64 0, .int .i64 0] 50 from Blk.new w [.int .i64 0, .int .i64 0] 50 _ rfl)
  have HNE := Lib.hid hne
  have HLR := Lib.hid h.lt
  have HR := Lib.hid (h.below hb1)
  have N1 := Lib.hid (fun W (hW : Rb W R xs) => show Calls Try.prog 33 #[.pointer (some ⟨R, 0, none⟩), .int .i64 8] W _ from number_any R 8 xs W hW (by omega) (by omega))
  have N2 := Lib.hid (fun W (hW : Rb W R (xs.drop 8)) => show Calls Try.prog 33 #[.pointer (some ⟨R, 0, none⟩), .int .i64 8] W _ from number_any R 8 (xs.drop 8) W hW (by omega) (by omega))
  have HD := Lib.hid (show (xs.drop 8).drop 8 = xs.drop 16 by rw [List.drop_drop])
  have HDL := Lib.hid (List.length_drop (l := xs) (i := 8))
  clear hV h hb1
  go_enter Try.func36, Try.ntmps36
  go_wp2_with fail
  generalize (w.alloc (.cells #[.int .i64 0, .int .i64 0] 50)) = w1 at *
  go_region_law (first
    | (go_simp; go_at_call 33; (with_reducible refine (N2.out _ HR2.out).mono ?_); rintro e w3 hn3
       have HF3 := Lib.hid (HF2.out.trans hn3.2.2 (fun _ _ h => h))
       rcases Nat.lt_or_ge (xs.drop 8).length 8 with hlt | hge
       · have hp := hn3.2.1 hlt
         unfold Pan at hp
         subst hp
         exact ⟨rfl, fun q => by have := HDL.out; omega, fun _ => rfl, HF3.out⟩
       obtain ⟨rfl, hr3⟩ := hn3.1 hge
       have hO := (HO2.out.fr hn3.2.2 (fun e => by have := HLR.out; omega))
       have HR3 := Lib.hid hr3; have HO3 := Lib.hid hO; have o0 := hO.cell 0; have o1 := hO.cell 1; have fo := fun o => hO.frozen o; have HG3 := Lib.hid hge; clear hr3 hn3 hO hge)
    | (go_simp; go_at_call 33; first | (with_reducible refine (N1.out _ HR.out).mono ?_) | (with_reducible refine (N1.out _ HR.out.drew).mono ?_) | (with_reducible refine (N1.out _ HR.out.drew.drew).mono ?_)
       rintro e w2 hn2
       have HF2 := Lib.hid (show Fr (fun b => b = R) w w2 from by first | exact (Fr.of_below HB1.out).trans hn2.2.2 (fun _ _ h => h) | exact (Fr.of_below HB1.out.drew).trans hn2.2.2 (fun _ _ h => h) | exact (Fr.of_below HB1.out.drew.drew).trans hn2.2.2 (fun _ _ h => h))
       rcases Nat.lt_or_ge xs.length 8 with hlt | hge
       · have hp := hn2.2.1 hlt
         unfold Pan at hp
         subst hp
         exact ⟨rfl, fun q => by omega, fun _ => rfl, HF2.out⟩
       obtain ⟨rfl, hr2⟩ := hn2.1 hge
       have HO2 := Lib.hid (show Blk w2 w.heap.size _ _ from by first | exact (HO.out.fr hn2.2.2 (fun e => by have := HLR.out; omega)) | exact (HO.out.drew.fr hn2.2.2 (fun e => by have := HLR.out; omega)) | exact (HO.out.drew.drew.fr hn2.2.2 (fun e => by have := HLR.out; omega)))
       have cV2 : w2.cell? ⟨V, 0, none⟩ = some (.pointer (some ⟨R, 0, none⟩)) := by first | exact hn2.2.2.cell cV HNE.out | exact hn2.2.2.cell (HV.out.drew.cell 0) HNE.out | exact hn2.2.2.cell (HV.out.drew.drew.cell 0) HNE.out
       have HR2 := Lib.hid hr2; clear hr2 hn2 hge))
  all_goals
    have hR := (HO3.out.set 0 (.int .i64 (wrap64 (val (xs.take 8))))).set 1 (.int .i64 (wrap64 (val ((xs.drop 8).take 8))))
    have hne2 : w.heap.size ≠ R := fun e => by have := HLR.out; omega
    have hf := ((Fr.refl (fun b => b = w.heap.size) w3).set (p := ⟨w.heap.size, 0, none⟩) (fun _ => rfl) (.int .i64 (wrap64 (val (xs.take 8))))).set (p := ⟨w.heap.size, 1, none⟩) (fun _ => rfl) (.int .i64 (wrap64 (val ((xs.drop 8).take 8))))
    have hF := HF3.out.trans hf (fun i hi he => absurd he (by omega))
    have hB := HR3.out.apart HO3.out (by intro v hv x; simp only [List.mem_cons, List.not_mem_nil, or_false] at hv; rcases hv with rfl | rfl <;> (intro q; cases q)) hne2 hf
    rw [HD.out] at hB
    generalize ((w3.setCell ⟨w.heap.size, 0, none⟩ (.int .i64 (wrap64 (val (xs.take 8))))).setCell ⟨w.heap.size, 1, none⟩ (.int .i64 (wrap64 (val ((xs.drop 8).take 8))))) = w9 at *
    dsimp only [List.set] at hR
    go_wp2_with fail
    refine bodyPost_ret (v := .agg #[.int .i64 (wrap64 (val (xs.take 8))), .int .i64 (wrap64 (val ((xs.drop 8).take 8)))]) ?_ rfl ?_
    · exact rec_cells _ _ w.heap.size _ _ rfl hR
    · exact ⟨fun _ => ⟨rfl, hB⟩, fun q => by have := HDL.out; have := HG3.out; omega, hF⟩
end Go.Proofs.Yteiohcgohgcjfaa
