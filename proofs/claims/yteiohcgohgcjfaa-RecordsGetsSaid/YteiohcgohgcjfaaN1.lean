/- RecordsGets. -/
import Derived.Test.YteiohcgohgcjfaaRows
import Derived.Lib.ConvBytes
import Derived.Deep.RegionHeld3
import Derived.IntWalk
import Derived.Test.YteiohcgohgcjfaaWords
import Derived.Test.YteiohcgohgcjfaaByts
import Derived.Test.YteiohcgohgcjfaaStrs
import Derived.Test.YteiohcgohgcjfaaFrame
import Derived.Test.YteiohcgohgcjfaaElems
import Derived.Test.YteiohcgohgcjfaaS1
import Derived.Test.YteiohcgohgcjfaaS2
import Derived.Test.YteiohcgohgcjfaaEqs
import Derived.Test.YteiohcgohgcjfaaD1
import Derived.Test.YteiohcgohgcjfaaD5
import Derived.Test.YteiohcgohgcjfaaD6
import Derived.Test.YteiohcgohgcjfaaD9
import Derived.Test.YteiohcgohgcjfaaE1
import Derived.Test.YteiohcgohgcjfaaE9
import Derived.Test.YteiohcgohgcjfaaPA
import Derived.Test.YteiohcgohgcjfaaC1
import Derived.Test.YteiohcgohgcjfaaB0
import Derived.Test.YteiohcgohgcjfaaB1
import Derived.Test.YteiohcgohgcjfaaH2
import Derived.Test.YteiohcgohgcjfaaI1
import Derived.Test.YteiohcgohgcjfaaMB
import Derived.Test.YteiohcgohgcjfaaM5
import Derived.Test.YteiohcgohgcjfaaF1
namespace Go.Proofs.Yteiohcgohgcjfaa
open Go Go.RowKit Go.Proofs.Tail
set_option linter.unusedSimpArgs false
set_option linter.unusedVariables false
/-- The message that is none. -/
def mz : Msg := ⟨0, 0, 0, 0, 0, T0, [], []⟩
theorem mz_cs : (mz.cs none 0 none 0).toArray = #[.int .u8 0, .int .i64 0, .int .i64 0, .int .i64 0, .int .i64 0, .int .i64 0, .int .i64 0, .int .i64 0, .int .i64 0, .int .i64 0, .slice none 0 0, .slice none 0 0] := rfl
theorem mz_mg (w : World) : Mg w mz none 0 none 0 := ⟨Rd.nil _ _ _, Rd.nil _ _ _⟩
theorem may_U {m : Msg} (h : mayB m = true) : m.U.length ≤ 100000 := by
  by_cases hk : m.k = 1
  · obtain ⟨_, _, _, _, _, _, _, h8⟩ := mayB_one h hk
    rw [h8]; simp
  · have := (mayB_two h hk).2.1
    omega
/-- What both Gets tell: a message, in cells of each one's own. -/
theorem get_both (A G : Option Addr) (c g : Nat) (bs : List Int) (hin : InB bs) (hl : bs.length ≤ 6000) : ∃ (m : Msg) (e : Int) (ok : Bool), m.U.length ≤ 100000 ∧ ((e = 0 ∧ ok = true) ∨ (e = 210 ∧ ok = false)) ∧
    (∀ W, Byts W A bs.length c bs → Calls Try.prog 14 #[.slice A bs.length c] W (fun x W' => ∃ A1 c1 B1 d1, x = .returned (.tuple #[.agg (m.cs A1 c1 B1 d1).toArray, .int .i64 e]) ∧ Mg W' m A1 c1 B1 d1 ∧ Below W.heap.size W W')) ∧
    (∀ W, Byts W G bs.length g bs → Calls Try.prog 15 #[.slice G bs.length g] W (fun x W' => ∃ A1 c1 B1 d1, x = .returned (.tuple #[.agg (m.cs A1 c1 B1 d1).toArray, .bool ok]) ∧ Mg W' m A1 c1 B1 d1 ∧ Below W.heap.size W W')) := by
  match h : getM bs with
  | some m =>
    refine ⟨m, 0, true, may_U (get_back hin h).2.1, .inl ⟨rfl, rfl⟩, fun W hW => ?_, fun W hW => ?_⟩
    · exact get_some A c bs m W hW hin h
    · refine (refg_any G g bs W hW hin hl).mono ?_
      rintro x W' ⟨_, h2, h3⟩
      obtain ⟨A1, c1, B1, d1, rfl, hm⟩ := h2 m h
      exact ⟨A1, c1, B1, d1, rfl, hm, h3⟩
  | none =>
    refine ⟨mz, 210, false, by simp [mz], .inr ⟨rfl, rfl⟩, fun W hW => ?_, fun W hW => ?_⟩
    · refine (get_non A c bs W hW hin h).mono ?_
      rintro x W' ⟨rfl, h3⟩
      exact ⟨none, 0, none, 0, rfl, mz_mg W', h3⟩
    · refine (refg_any G g bs W hW hin hl).mono ?_
      rintro x W' ⟨h1, _, h3⟩
      have e := h1 h
      subst e
      exact ⟨none, 0, none, 0, rfl, mz_mg W', h3⟩
set_option maxRecDepth 100000 in
set_option maxHeartbeats 32000000 in
theorem law_gets (G : Option Addr) (g : Nat) (bs : List Int) (w : World) (hY : Byts w G bs.length g bs) (hin : InB bs) :
    Calls Try.prog 4 #[.slice G bs.length g] w (Gives (.bool true) w) := by
  have HW := Lib.hid works_any
  by_cases hl : 6000 < bs.length
  · have g1 : decide ((6000 : Int) < bs.length) = true := decide_eq_true (by omega)
    have g2 : decide (6000 < bs.length) = true := decide_eq_true hl
    clear hY hin
    go_enter Try.func4, Try.ntmps4
    go_wp2_with fail
    refine (HW.out _).mono ?_
    rintro e w4 ⟨rfl, hb⟩
    have HB := Lib.hid hb
    clear hb
    go_wp2_with fail
    go_ret
    exact .bool rfl HB.out
  have g1 : decide ((6000 : Int) < bs.length) = false := decide_eq_false (by omega)
  have g2 : decide (6000 < bs.length) = false := decide_eq_false hl
  have hcb := conv_bytes w 5 (strOfNums bs) (by rw [strOfNums_size]; unfold maxLen; omega)
  rw [nums_str hin] at hcb
  obtain ⟨m, ec, ok, hU, hec, hG1, hG2⟩ := get_both (some ⟨w.heap.size, 0, none⟩) G (grownCap w (strOfNums bs).size 0 5) g bs hin (by omega)
  rw [show bs.length = (strOfNums bs).size from (strOfNums_size bs).symm] at hG1
  have HG1 := Lib.hid hG1
  have HG2 := Lib.hid hG2
  have HY0 := Lib.hid hY
  have HCB := Lib.hid hcb.1
  have HCY := Lib.hid hcb.2
  have HIN := Lib.hid hin
  have HU := Lib.hid hU
  have HEC := Lib.hid hec
  have q0 := run_convert_byts (P := Try.prog) w 36 5 Try.underlying36 Try.underlying5 hY 9 Try.underlying9
  have hcv := Go.Lib.run_convert_string_bytes (P := Try.prog) w 9 36 5 (strOfNums bs) Try.underlying9 Try.underlying36 Try.underlying5
  clear hcb hG1 hG2 hY hin hU hl hec
  go_enter Try.func4, Try.ntmps4
  go_wp2_with fail
  clear q0 hcv
  generalize hW2 : Go.Lib.bytesWorld w 5 (strOfNums bs) = w2 at HCB HCY ⊢
  clear hW2
  refine (HG1.out w2 (by have := HCY.out; rw [strOfNums_size] at *; exact this)).mono ?_
  rintro e w3 ⟨A1, c1, B1, d1, rfl, hm, hb⟩
  have HB3 := Lib.hid (HCB.out.trans (hb.mono HCB.out.size))
  have HC3 := Lib.hid (HCY.out.below RByte.stays hb)
  have HM3 := Lib.hid hm
  clear hm hb HCB HCY HG1
  rw [Msg.cs_eq]
  go_wp2_with fail
  have hb4 := below_new w3 (.cells #[.int .u8 m.k, .int .i64 m.f, .int .i64 m.t, .int .i64 m.i, .int .i64 m.q, .int .i64 m.s.d, .int .i64 m.s.e, .int .i64 m.s.a, .int .i64 m.s.b, .int .i64 m.s.c, .slice A1 m.L.length c1, .slice B1 m.U.length d1] 28)
  have K4 := Lib.hid (show Blk (w3.alloc (.cells #[.int .u8 m.k, .int .i64 m.f, .int .i64 m.t, .int .i64 m.i, .int .i64 m.q, .int .i64 m.s.d, .int .i64 m.s.e, .int .i64 m.s.a, .int .i64 m.s.b, .int .i64 m.s.c, .slice A1 m.L.length c1, .slice B1 m.U.length d1] 28)) w3.heap.size (m.cs A1 c1 B1 d1) 28 from Blk.new _ _ _ _ rfl)
  have HB4 := Lib.hid (HB3.out.trans (hb4.mono HB3.out.size))
  have HC4 := Lib.hid (HC3.out.below RByte.stays hb4)
  have HM4 := Lib.hid (HM3.out.below hb4)
  have HY4 := Lib.hid (HY0.out.below RByte.stays HB4.out)
  clear hb4
  generalize (w3.alloc (.cells #[.int .u8 m.k, .int .i64 m.f, .int .i64 m.t, .int .i64 m.i, .int .i64 m.q, .int .i64 m.s.d, .int .i64 m.s.e, .int .i64 m.s.a, .int .i64 m.s.b, .int .i64 m.s.c, .slice A1 m.L.length c1, .slice B1 m.U.length d1] 28)) = w4 at K4 HB4 HC4 HM4 HY4 ⊢
  clear HB3 HC3 HM3
  refine (HG2.out w4 HY4.out).mono ?_
  rintro e w5 ⟨A2, c2, B2, d2, rfl, hm, hb⟩
  have K5 := Lib.hid (K4.out.then hb)
  have HB5 := Lib.hid (HB4.out.trans (hb.mono HB4.out.size))
  have HC5 := Lib.hid (HC4.out.below RByte.stays hb)
  have HY5 := Lib.hid (HY4.out.below RByte.stays hb)
  have HM5 := Lib.hid (HM4.out.below hb)
  have HN5 := Lib.hid hm
  clear hm hb HG2 K4 HB4 HC4 HY4 HM4 HY0
  rw [Msg.cs_eq]
  go_wp2_with fail
  have hb6 := below_new w5 (.cells #[.int .u8 m.k, .int .i64 m.f, .int .i64 m.t, .int .i64 m.i, .int .i64 m.q, .int .i64 m.s.d, .int .i64 m.s.e, .int .i64 m.s.a, .int .i64 m.s.b, .int .i64 m.s.c, .slice A2 m.L.length c2, .slice B2 m.U.length d2] 34)
  have R6 := Lib.hid (show Blk (w5.alloc (.cells #[.int .u8 m.k, .int .i64 m.f, .int .i64 m.t, .int .i64 m.i, .int .i64 m.q, .int .i64 m.s.d, .int .i64 m.s.e, .int .i64 m.s.a, .int .i64 m.s.b, .int .i64 m.s.c, .slice A2 m.L.length c2, .slice B2 m.U.length d2] 34)) w5.heap.size (m.cs A2 c2 B2 d2) 34 from Blk.new _ _ _ _ rfl)
  have K6 := Lib.hid (K5.out.then hb6)
  have HB6 := Lib.hid (HB5.out.trans (hb6.mono HB5.out.size))
  have HC6 := Lib.hid (HC5.out.below RByte.stays hb6)
  have HY6 := Lib.hid (HY5.out.below RByte.stays hb6)
  have HM6 := Lib.hid (HM5.out.below hb6)
  have HN6 := Lib.hid (HN5.out.below hb6)
  clear hb6
  generalize (w5.alloc (.cells #[.int .u8 m.k, .int .i64 m.f, .int .i64 m.t, .int .i64 m.i, .int .i64 m.q, .int .i64 m.s.d, .int .i64 m.s.e, .int .i64 m.s.a, .int .i64 m.s.b, .int .i64 m.s.c, .slice A2 m.L.length c2, .slice B2 m.U.length d2] 34)) = w6 at R6 K6 HB6 HC6 HY6 HM6 HN6 ⊢
  clear K5 HB5 HC5 HY5 HM5 HN5
  have LA := Lib.hid (show ∀ W, Below w6.heap.size w6 W → ∀ o, W.cell? ⟨w3.heap.size, o, none⟩ = (Mb.cs ⟨0, m, A1, c1, B1, d1⟩)[o]? from fun W hW o => by rw [(K6.out.then hW).cell, Mb.cs, ← Msg.cs_eq]; simp)
  have LB := Lib.hid (show ∀ W, Below w6.heap.size w6 W → ∀ o, W.cell? ⟨w5.heap.size, o, none⟩ = (Mb.cs ⟨0, m, A2, c2, B2, d2⟩)[o]? from fun W hW o => by rw [(R6.out.then hW).cell, Mb.cs, ← Msg.cs_eq]; simp)
  have ZC := Lib.hid (show ∀ W, Below w6.heap.size w6 W → (convert 36 9 (.slice (some ⟨w.heap.size, 0, none⟩) (strOfNums bs).size (grownCap w (strOfNums bs).size 0 5))).run Try.prog W = .ok (.string (strOfNums bs)) W from fun W hW => run_convert_byts (P := Try.prog) W 36 5 Try.underlying36 Try.underlying5 (HC6.out.below RByte.stays hW) 9 Try.underlying9)
  have ZY := Lib.hid (show ∀ W, Below w6.heap.size w6 W → (convert 36 9 (.slice G bs.length g)).run Try.prog W = .ok (.string (strOfNums bs)) W from fun W hW => run_convert_byts (P := Try.prog) W 36 5 Try.underlying36 Try.underlying5 (HY6.out.below RByte.stays hW) 9 Try.underlying9)
  have PM := Lib.hid (fun (W : World) (hW : Below w6.heap.size w6 W) => show Calls Try.prog 11 #[.agg (Mb.cs ⟨0, m, A1, c1, B1, d1⟩)] W (GivesPl m A1 c1 W) from plain_any m A1 B1 c1 d1 W (HM6.out.below hW) HU.out)
  have RS := Lib.hid (fun (W : World) (B3 : Option Addr) (d3 : Nat) (hM : Mg W m A1 c1 B3 d3) (hW : Below w6.heap.size w6 W) => show Calls Try.prog 16 #[.agg (m.cs A1 c1 B3 d3).toArray, .agg (Mb.cs ⟨0, m, A2, c2, B2, d2⟩)] W (Gives (.bool true) W) from by
    have := refsame_any m m A1 B3 A2 B2 c1 d3 c2 d2 W hM (HN6.out.below hW)
    rw [show sameB m m = true from sameB_iff.2 rfl] at this
    exact this)
  have HBW := Lib.hid ((Below.refl w6.heap.size w6).drew)
  dsimp only [Mb.cs] at LA LB PM RS
  clear R6 K6 HC6 HY6 HM6 HN6
  have HSW := Lib.hid (show ∀ W, Below w6.heap.size w6 W → (∀ o, W.cell? ⟨w3.heap.size, o, none⟩ = (#[.int .u8 m.k, .int .i64 m.f, .int .i64 m.t, .int .i64 m.i, .int .i64 m.q, .int .i64 m.s.d, .int .i64 m.s.e, .int .i64 m.s.a, .int .i64 m.s.b, .int .i64 m.s.c, .slice A1 m.L.length c1, .slice B1 m.U.length d1] : Array Value)[o]?) ∧ (∀ o, W.cell? ⟨w5.heap.size, o, none⟩ = (#[.int .u8 m.k, .int .i64 m.f, .int .i64 m.t, .int .i64 m.i, .int .i64 m.q, .int .i64 m.s.d, .int .i64 m.s.e, .int .i64 m.s.a, .int .i64 m.s.b, .int .i64 m.s.c, .slice A2 m.L.length c2, .slice B2 m.U.length d2] : Array Value)[o]?) ∧ (convert 36 9 (.slice (some ⟨w.heap.size, 0, none⟩) (strOfNums bs).size (grownCap w (strOfNums bs).size 0 5))).run Try.prog W = .ok (.string (strOfNums bs)) W ∧ (convert 36 9 (.slice G bs.length g)).run Try.prog W = .ok (.string (strOfNums bs)) W from fun W hW => ⟨LA.out W hW, LB.out W hW, ZC.out W hW, ZY.out W hW⟩)
  have hec := HEC.out
  rcases hec with ⟨rfl, rfl⟩ | ⟨rfl, rfl⟩
  · go_wp2_with fail
    refine region_start (S := fun W : World => (∀ o, W.cell? ⟨w3.heap.size, o, none⟩ = (#[.int .u8 m.k, .int .i64 m.f, .int .i64 m.t, .int .i64 m.i, .int .i64 m.q, .int .i64 m.s.d, .int .i64 m.s.e, .int .i64 m.s.a, .int .i64 m.s.b, .int .i64 m.s.c, .slice A1 m.L.length c1, .slice B1 m.U.length d1] : Array Value)[o]?) ∧ (∀ o, W.cell? ⟨w5.heap.size, o, none⟩ = (#[.int .u8 m.k, .int .i64 m.f, .int .i64 m.t, .int .i64 m.i, .int .i64 m.q, .int .i64 m.s.d, .int .i64 m.s.e, .int .i64 m.s.a, .int .i64 m.s.b, .int .i64 m.s.c, .slice A2 m.L.length c2, .slice B2 m.U.length d2] : Array Value)[o]?) ∧ (convert 36 9 (.slice (some ⟨w.heap.size, 0, none⟩) (strOfNums bs).size (grownCap w (strOfNums bs).size 0 5))).run Try.prog W = .ok (.string (strOfNums bs)) W ∧ (convert 36 9 (.slice G bs.length g)).run Try.prog W = .ok (.string (strOfNums bs)) W) 28 #[false, false, false, false, false, false, false, false, false, false, false, false, false, false, false, false, false, false, false, false, false, false, false, false, false, false, false, false] rfl rfl rfl (HSW.out _ HBW.out) ?_
    have hH := Lib.hid (HSW.out _ HBW.out)
    refine wpAnyH_take (i := 0) (oi := ⟨_, _, _, _, _, _⟩) (v := ?_) rfl (by kernel_rfl) (by kernel_rfl) (by kernel_rfl) (fun _ _ _ h => h) (Or.inl ⟨by rfl, ?_⟩) hH.out ?_
    rotate_left
    · intro W hS
      obtain ⟨r0, r1, r2, r3⟩ := hS
      go_simp
      try with_reducible rfl
    simp only [Act.put, List.setIfInBounds_toArray, List.set_cons_zero, List.set_cons_succ]
    refine wpAnyH_take (i := 1) (oi := ⟨_, _, _, _, _, _⟩) (v := ?_) rfl (by kernel_rfl) (by kernel_rfl) (by kernel_rfl) (fun _ _ _ h => h) (Or.inl ⟨by rfl, ?_⟩) hH.out ?_
    rotate_left
    · intro W hS
      obtain ⟨r0, r1, r2, r3⟩ := hS
      go_simp
      try with_reducible rfl
    simp only [Act.put, List.setIfInBounds_toArray, List.set_cons_zero, List.set_cons_succ]
    refine wpAnyH_take (i := 2) (oi := ⟨_, _, _, _, _, _⟩) (v := ?_) rfl (by kernel_rfl) (by kernel_rfl) (by kernel_rfl) (fun _ _ _ h => h) (Or.inl ⟨by rfl, ?_⟩) hH.out ?_
    rotate_left
    · intro W hS
      obtain ⟨r0, r1, r2, r3⟩ := hS
      go_simp
      try with_reducible rfl
    simp only [Act.put, List.setIfInBounds_toArray, List.set_cons_zero, List.set_cons_succ]
    refine wpAnyH_take (i := 3) (oi := ⟨_, _, _, _, _, _⟩) (v := ?_) rfl (by kernel_rfl) (by kernel_rfl) (by kernel_rfl) (fun _ _ _ h => h) (Or.inl ⟨by rfl, ?_⟩) hH.out ?_
    rotate_left
    · intro W hS
      obtain ⟨r0, r1, r2, r3⟩ := hS
      go_simp
      try with_reducible rfl
    simp only [Act.put, List.setIfInBounds_toArray, List.set_cons_zero, List.set_cons_succ]
    refine wpAnyH_take (i := 4) (oi := ⟨_, _, _, _, _, _⟩) (v := ?_) rfl (by kernel_rfl) (by kernel_rfl) (by kernel_rfl) (fun _ _ _ h => h) (Or.inl ⟨by rfl, ?_⟩) hH.out ?_
    rotate_left
    · intro W hS
      obtain ⟨r0, r1, r2, r3⟩ := hS
      go_simp
      try with_reducible rfl
    simp only [Act.put, List.setIfInBounds_toArray, List.set_cons_zero, List.set_cons_succ]
    refine wpAnyH_take (i := 5) (oi := ⟨_, _, _, _, _, _⟩) (v := ?_) rfl (by kernel_rfl) (by kernel_rfl) (by kernel_rfl) (fun _ _ _ h => h) (Or.inl ⟨by rfl, ?_⟩) hH.out ?_
    rotate_left
    · intro W hS
      obtain ⟨r0, r1, r2, r3⟩ := hS
      go_simp
      try with_reducible rfl
    simp only [Act.put, List.setIfInBounds_toArray, List.set_cons_zero, List.set_cons_succ]
    refine wpAnyH_take (i := 6) (oi := ⟨_, _, _, _, _, _⟩) (v := ?_) rfl (by kernel_rfl) (by kernel_rfl) (by kernel_rfl) (fun _ _ _ h => h) (Or.inl ⟨by rfl, ?_⟩) hH.out ?_
    rotate_left
    · intro W hS
      obtain ⟨r0, r1, r2, r3⟩ := hS
      go_simp
      try with_reducible rfl
    simp only [Act.put, List.setIfInBounds_toArray, List.set_cons_zero, List.set_cons_succ]
    refine wpAnyH_take (i := 7) (oi := ⟨_, _, _, _, _, _⟩) (v := undef) rfl (by kernel_rfl) (by kernel_rfl) (by kernel_rfl) (fun _ _ _ h => h) (Or.inr ⟨by rfl, rfl⟩) hH.out ?_
    simp only [Act.put, List.setIfInBounds_toArray, List.set_cons_zero, List.set_cons_succ]
    refine wpAnyH_take (i := 8) (oi := ⟨_, _, _, _, _, _⟩) (v := undef) rfl (by kernel_rfl) (by kernel_rfl) (by kernel_rfl) (fun _ _ _ h => h) (Or.inr ⟨by rfl, rfl⟩) hH.out ?_
    simp only [Act.put, List.setIfInBounds_toArray, List.set_cons_zero, List.set_cons_succ]
    refine wpAnyH_take (i := 9) (oi := ⟨_, _, _, _, _, _⟩) (v := ?_) rfl (by kernel_rfl) (by kernel_rfl) (by kernel_rfl) (fun _ _ _ h => h) (Or.inl ⟨by rfl, ?_⟩) hH.out ?_
    rotate_left
    · intro W hS
      obtain ⟨r0, r1, r2, r3⟩ := hS
      go_simp
      try with_reducible rfl
    simp only [Act.put, List.setIfInBounds_toArray, List.set_cons_zero, List.set_cons_succ]
    refine wpAnyH_take (i := 10) (oi := ⟨_, _, _, _, _, _⟩) (v := ?_) rfl (by kernel_rfl) (by kernel_rfl) (by kernel_rfl) (fun _ _ _ h => h) (Or.inl ⟨by rfl, ?_⟩) hH.out ?_
    rotate_left
    · intro W hS
      obtain ⟨r0, r1, r2, r3⟩ := hS
      go_simp
      try with_reducible rfl
    simp only [Act.put, List.setIfInBounds_toArray, List.set_cons_zero, List.set_cons_succ]
    refine wpAnyH_take (i := 11) (oi := ⟨_, _, _, _, _, _⟩) (v := ?_) rfl (by kernel_rfl) (by kernel_rfl) (by kernel_rfl) (fun _ _ _ h => h) (Or.inl ⟨by rfl, ?_⟩) hH.out ?_
    rotate_left
    · intro W hS
      obtain ⟨r0, r1, r2, r3⟩ := hS
      go_simp
      try with_reducible rfl
    simp only [Act.put, List.setIfInBounds_toArray, List.set_cons_zero, List.set_cons_succ]
    refine wpAnyH_take (i := 12) (oi := ⟨_, _, _, _, _, _⟩) (v := ?_) rfl (by kernel_rfl) (by kernel_rfl) (by kernel_rfl) (fun _ _ _ h => h) (Or.inl ⟨by rfl, ?_⟩) hH.out ?_
    rotate_left
    · intro W hS
      obtain ⟨r0, r1, r2, r3⟩ := hS
      go_simp
      try with_reducible rfl
    simp only [Act.put, List.setIfInBounds_toArray, List.set_cons_zero, List.set_cons_succ]
    refine wpAnyH_take (i := 14) (oi := ⟨_, _, _, _, _, _⟩) (v := ?_) rfl (by kernel_rfl) (by kernel_rfl) (by kernel_rfl) (fun _ _ _ h => h) (Or.inl ⟨by rfl, ?_⟩) hH.out ?_
    rotate_left
    · intro W hS
      obtain ⟨r0, r1, r2, r3⟩ := hS
      go_simp
      try with_reducible rfl
    simp only [Act.put, List.setIfInBounds_toArray, List.set_cons_zero, List.set_cons_succ]
    refine wpAnyH_ready (rs := [13]) (by kernel_rfl) (by simp) ?_
    refine AllReadyH.cons (o := ⟨_, _, _, _, _, _⟩) rfl (fun K hK => ?_) AllReadyH.nil
    go_simp
    refine (PM.out _ HBW.out).mono ?_
    rintro e wz1 ⟨B3, d3, rfl, hm3, hb⟩
    replace HBW := Lib.hid (below_then HBW.out hb)
    have MM := Lib.hid hm3
    clear hb hm3
    refine hK.out _ _ ⟨LA.out _ HBW.out, LB.out _ HBW.out, ZC.out _ HBW.out, ZY.out _ HBW.out⟩ (fun hS => ?_)
    clear hH
    have hH := Lib.hid hS
    clear hS hK K
    simp only [Act.put, List.setIfInBounds_toArray, List.set_cons_zero, List.set_cons_succ]
    refine wpAnyH_ready (rs := [15]) (by kernel_rfl) (by simp) ?_
    refine AllReadyH.cons (o := ⟨_, _, _, _, _, _⟩) rfl (fun K hK => ?_) AllReadyH.nil
    go_simp
    refine (RS.out _ B3 d3 MM.out HBW.out).mono ?_
    rintro e wz2 ⟨rfl, hb⟩
    replace HBW := Lib.hid (below_then HBW.out hb)
    clear hb
    refine hK.out _ _ ⟨LA.out _ HBW.out, LB.out _ HBW.out, ZC.out _ HBW.out, ZY.out _ HBW.out⟩ (fun hS => ?_)
    clear hH
    have hH := Lib.hid hS
    clear hS hK K
    simp only [Act.put, List.setIfInBounds_toArray, List.set_cons_zero, List.set_cons_succ]
    refine wpAnyH_take (i := 16) (oi := ⟨_, _, _, _, _, _⟩) (v := ?_) rfl (by kernel_rfl) (by kernel_rfl) (by kernel_rfl) (fun _ _ _ h => h) (Or.inl ⟨by rfl, ?_⟩) hH.out ?_
    rotate_left
    · intro W hS
      obtain ⟨r0, r1, r2, r3⟩ := hS
      go_simp
      try with_reducible rfl
    simp only [Act.put, List.setIfInBounds_toArray, List.set_cons_zero, List.set_cons_succ]
    refine wpAnyH_take (i := 17) (oi := ⟨_, _, _, _, _, _⟩) (v := ?_) rfl (by kernel_rfl) (by kernel_rfl) (by kernel_rfl) (fun _ _ _ h => h) (Or.inl ⟨by rfl, ?_⟩) hH.out ?_
    rotate_left
    · intro W hS
      obtain ⟨r0, r1, r2, r3⟩ := hS
      go_simp
      try with_reducible rfl
    simp only [Act.put, List.setIfInBounds_toArray, List.set_cons_zero, List.set_cons_succ]
    refine wpAnyH_take (i := 18) (oi := ⟨_, _, _, _, _, _⟩) (v := ?_) rfl (by kernel_rfl) (by kernel_rfl) (by kernel_rfl) (fun _ _ _ h => h) (Or.inl ⟨by rfl, ?_⟩) hH.out ?_
    rotate_left
    · intro W hS
      obtain ⟨r0, r1, r2, r3⟩ := hS
      go_simp
      try with_reducible rfl
    simp only [Act.put, List.setIfInBounds_toArray, List.set_cons_zero, List.set_cons_succ]
    refine wpAnyH_take (i := 19) (oi := ⟨_, _, _, _, _, _⟩) (v := ?_) rfl (by kernel_rfl) (by kernel_rfl) (by kernel_rfl) (fun _ _ _ h => h) (Or.inl ⟨by rfl, ?_⟩) hH.out ?_
    rotate_left
    · intro W hS
      obtain ⟨r0, r1, r2, r3⟩ := hS
      go_simp
      try with_reducible rfl
    simp only [Act.put, List.setIfInBounds_toArray, List.set_cons_zero, List.set_cons_succ]
    refine wpAnyH_take (i := 20) (oi := ⟨_, _, _, _, _, _⟩) (v := ?_) rfl (by kernel_rfl) (by kernel_rfl) (by kernel_rfl) (fun _ _ _ h => h) (Or.inl ⟨by rfl, ?_⟩) hH.out ?_
    rotate_left
    · intro W hS
      obtain ⟨r0, r1, r2, r3⟩ := hS
      go_simp
      try with_reducible rfl
    simp only [Act.put, List.setIfInBounds_toArray, List.set_cons_zero, List.set_cons_succ]
    refine wpAnyH_take (i := 21) (oi := ⟨_, _, _, _, _, _⟩) (v := ?_) rfl (by kernel_rfl) (by kernel_rfl) (by kernel_rfl) (fun _ _ _ h => h) (Or.inl ⟨by rfl, ?_⟩) hH.out ?_
    rotate_left
    · intro W hS
      obtain ⟨r0, r1, r2, r3⟩ := hS
      go_simp
      try with_reducible rfl
    simp only [Act.put, List.setIfInBounds_toArray, List.set_cons_zero, List.set_cons_succ]
    refine wpAnyH_take (i := 22) (oi := ⟨_, _, _, _, _, _⟩) (v := ?_) rfl (by kernel_rfl) (by kernel_rfl) (by kernel_rfl) (fun _ _ _ h => h) (Or.inl ⟨by rfl, ?_⟩) hH.out ?_
    rotate_left
    · intro W hS
      obtain ⟨r0, r1, r2, r3⟩ := hS
      go_simp
      try with_reducible rfl
    simp only [Act.put, List.setIfInBounds_toArray, List.set_cons_zero, List.set_cons_succ]
    refine wpAnyH_take (i := 23) (oi := ⟨_, _, _, _, _, _⟩) (v := ?_) rfl (by kernel_rfl) (by kernel_rfl) (by kernel_rfl) (fun _ _ _ h => h) (Or.inl ⟨by rfl, ?_⟩) hH.out ?_
    rotate_left
    · intro W hS
      obtain ⟨r0, r1, r2, r3⟩ := hS
      go_simp
      try with_reducible rfl
    simp only [Act.put, List.setIfInBounds_toArray, List.set_cons_zero, List.set_cons_succ]
    refine wpAnyH_take (i := 24) (oi := ⟨_, _, _, _, _, _⟩) (v := ?_) rfl (by kernel_rfl) (by kernel_rfl) (by kernel_rfl) (fun _ _ _ h => h) (Or.inl ⟨by rfl, ?_⟩) hH.out ?_
    rotate_left
    · intro W hS
      obtain ⟨r0, r1, r2, r3⟩ := hS
      go_simp
      try with_reducible rfl
    simp only [Act.put, List.setIfInBounds_toArray, List.set_cons_zero, List.set_cons_succ]
    refine wpAnyH_ready (rs := [25]) (by kernel_rfl) (by simp) ?_
    refine AllReadyH.cons (o := ⟨_, _, _, _, _, _⟩) rfl (fun K hK => ?_) AllReadyH.nil
    go_simp
    refine (HW.out _).mono ?_
    rintro e wz3 ⟨rfl, hb⟩
    replace HBW := Lib.hid (below_then HBW.out hb)
    clear hb
    refine hK.out _ _ ⟨LA.out _ HBW.out, LB.out _ HBW.out, ZC.out _ HBW.out, ZY.out _ HBW.out⟩ (fun hS => ?_)
    clear hH
    have hH := Lib.hid hS
    clear hS hK K
    simp only [Act.put, List.setIfInBounds_toArray, List.set_cons_zero, List.set_cons_succ]
    refine wpAnyH_take (i := 26) (oi := ⟨_, _, _, _, _, _⟩) (v := ?_) rfl (by kernel_rfl) (by kernel_rfl) (by kernel_rfl) (fun _ _ _ h => h) (Or.inl ⟨by rfl, ?_⟩) hH.out ?_
    rotate_left
    · intro W hS
      obtain ⟨r0, r1, r2, r3⟩ := hS
      go_simp
      try with_reducible rfl
    simp only [Act.put, List.setIfInBounds_toArray, List.set_cons_zero, List.set_cons_succ]
    refine wpAnyH_take (i := 27) (oi := ⟨_, _, _, _, _, _⟩) (v := ?_) rfl (by kernel_rfl) (by kernel_rfl) (by kernel_rfl) (fun _ _ _ h => h) (Or.inl ⟨by rfl, ?_⟩) hH.out ?_
    rotate_left
    · intro W hS
      obtain ⟨r0, r1, r2, r3⟩ := hS
      go_simp
      try with_reducible rfl
    simp only [Act.put, List.setIfInBounds_toArray, List.set_cons_zero, List.set_cons_succ]
    refine wpAnyH_done (by kernel_rfl) ?_ _
    clear hH
    go_wp2_with fail
    go_ret
    exact .bool rfl (HB6.out.trans (HBW.out.mono HB6.out.size))
  · go_wp2_with fail
    refine region_start (S := fun W : World => (∀ o, W.cell? ⟨w3.heap.size, o, none⟩ = (#[.int .u8 m.k, .int .i64 m.f, .int .i64 m.t, .int .i64 m.i, .int .i64 m.q, .int .i64 m.s.d, .int .i64 m.s.e, .int .i64 m.s.a, .int .i64 m.s.b, .int .i64 m.s.c, .slice A1 m.L.length c1, .slice B1 m.U.length d1] : Array Value)[o]?) ∧ (∀ o, W.cell? ⟨w5.heap.size, o, none⟩ = (#[.int .u8 m.k, .int .i64 m.f, .int .i64 m.t, .int .i64 m.i, .int .i64 m.q, .int .i64 m.s.d, .int .i64 m.s.e, .int .i64 m.s.a, .int .i64 m.s.b, .int .i64 m.s.c, .slice A2 m.L.length c2, .slice B2 m.U.length d2] : Array Value)[o]?) ∧ (convert 36 9 (.slice (some ⟨w.heap.size, 0, none⟩) (strOfNums bs).size (grownCap w (strOfNums bs).size 0 5))).run Try.prog W = .ok (.string (strOfNums bs)) W ∧ (convert 36 9 (.slice G bs.length g)).run Try.prog W = .ok (.string (strOfNums bs)) W) 28 #[false, false, false, false, false, false, false, false, false, false, false, false, false, false, false, false, false, false, false, false, false, false, false, false, false, false, false, false] rfl rfl rfl (HSW.out _ HBW.out) ?_
    have hH := Lib.hid (HSW.out _ HBW.out)
    refine wpAnyH_take (i := 0) (oi := ⟨_, _, _, _, _, _⟩) (v := ?_) rfl (by kernel_rfl) (by kernel_rfl) (by kernel_rfl) (fun _ _ _ h => h) (Or.inl ⟨by rfl, ?_⟩) hH.out ?_
    rotate_left
    · intro W hS
      obtain ⟨r0, r1, r2, r3⟩ := hS
      go_simp
      try with_reducible rfl
    simp only [Act.put, List.setIfInBounds_toArray, List.set_cons_zero, List.set_cons_succ]
    refine wpAnyH_take (i := 1) (oi := ⟨_, _, _, _, _, _⟩) (v := ?_) rfl (by kernel_rfl) (by kernel_rfl) (by kernel_rfl) (fun _ _ _ h => h) (Or.inl ⟨by rfl, ?_⟩) hH.out ?_
    rotate_left
    · intro W hS
      obtain ⟨r0, r1, r2, r3⟩ := hS
      go_simp
      try with_reducible rfl
    simp only [Act.put, List.setIfInBounds_toArray, List.set_cons_zero, List.set_cons_succ]
    refine wpAnyH_take (i := 2) (oi := ⟨_, _, _, _, _, _⟩) (v := ?_) rfl (by kernel_rfl) (by kernel_rfl) (by kernel_rfl) (fun _ _ _ h => h) (Or.inl ⟨by rfl, ?_⟩) hH.out ?_
    rotate_left
    · intro W hS
      obtain ⟨r0, r1, r2, r3⟩ := hS
      go_simp
      try with_reducible rfl
    simp only [Act.put, List.setIfInBounds_toArray, List.set_cons_zero, List.set_cons_succ]
    refine wpAnyH_take (i := 3) (oi := ⟨_, _, _, _, _, _⟩) (v := ?_) rfl (by kernel_rfl) (by kernel_rfl) (by kernel_rfl) (fun _ _ _ h => h) (Or.inl ⟨by rfl, ?_⟩) hH.out ?_
    rotate_left
    · intro W hS
      obtain ⟨r0, r1, r2, r3⟩ := hS
      go_simp
      try with_reducible rfl
    simp only [Act.put, List.setIfInBounds_toArray, List.set_cons_zero, List.set_cons_succ]
    refine wpAnyH_take (i := 4) (oi := ⟨_, _, _, _, _, _⟩) (v := ?_) rfl (by kernel_rfl) (by kernel_rfl) (by kernel_rfl) (fun _ _ _ h => h) (Or.inl ⟨by rfl, ?_⟩) hH.out ?_
    rotate_left
    · intro W hS
      obtain ⟨r0, r1, r2, r3⟩ := hS
      go_simp
      try with_reducible rfl
    simp only [Act.put, List.setIfInBounds_toArray, List.set_cons_zero, List.set_cons_succ]
    refine wpAnyH_take (i := 5) (oi := ⟨_, _, _, _, _, _⟩) (v := ?_) rfl (by kernel_rfl) (by kernel_rfl) (by kernel_rfl) (fun _ _ _ h => h) (Or.inl ⟨by rfl, ?_⟩) hH.out ?_
    rotate_left
    · intro W hS
      obtain ⟨r0, r1, r2, r3⟩ := hS
      go_simp
      try with_reducible rfl
    simp only [Act.put, List.setIfInBounds_toArray, List.set_cons_zero, List.set_cons_succ]
    refine wpAnyH_take (i := 6) (oi := ⟨_, _, _, _, _, _⟩) (v := ?_) rfl (by kernel_rfl) (by kernel_rfl) (by kernel_rfl) (fun _ _ _ h => h) (Or.inl ⟨by rfl, ?_⟩) hH.out ?_
    rotate_left
    · intro W hS
      obtain ⟨r0, r1, r2, r3⟩ := hS
      go_simp
      try with_reducible rfl
    simp only [Act.put, List.setIfInBounds_toArray, List.set_cons_zero, List.set_cons_succ]
    refine wpAnyH_take (i := 7) (oi := ⟨_, _, _, _, _, _⟩) (v := ?_) rfl (by kernel_rfl) (by kernel_rfl) (by kernel_rfl) (fun _ _ _ h => h) (Or.inl ⟨by rfl, ?_⟩) hH.out ?_
    rotate_left
    · intro W hS
      obtain ⟨r0, r1, r2, r3⟩ := hS
      go_simp
      try with_reducible rfl
    simp only [Act.put, List.setIfInBounds_toArray, List.set_cons_zero, List.set_cons_succ]
    refine wpAnyH_take (i := 8) (oi := ⟨_, _, _, _, _, _⟩) (v := ?_) rfl (by kernel_rfl) (by kernel_rfl) (by kernel_rfl) (fun _ _ _ h => h) (Or.inl ⟨by rfl, ?_⟩) hH.out ?_
    rotate_left
    · intro W hS
      obtain ⟨r0, r1, r2, r3⟩ := hS
      go_simp
      try with_reducible rfl
    simp only [Act.put, List.setIfInBounds_toArray, List.set_cons_zero, List.set_cons_succ]
    refine wpAnyH_take (i := 9) (oi := ⟨_, _, _, _, _, _⟩) (v := ?_) rfl (by kernel_rfl) (by kernel_rfl) (by kernel_rfl) (fun _ _ _ h => h) (Or.inl ⟨by rfl, ?_⟩) hH.out ?_
    rotate_left
    · intro W hS
      obtain ⟨r0, r1, r2, r3⟩ := hS
      go_simp
      try with_reducible rfl
    simp only [Act.put, List.setIfInBounds_toArray, List.set_cons_zero, List.set_cons_succ]
    refine wpAnyH_take (i := 10) (oi := ⟨_, _, _, _, _, _⟩) (v := ?_) rfl (by kernel_rfl) (by kernel_rfl) (by kernel_rfl) (fun _ _ _ h => h) (Or.inl ⟨by rfl, ?_⟩) hH.out ?_
    rotate_left
    · intro W hS
      obtain ⟨r0, r1, r2, r3⟩ := hS
      go_simp
      try with_reducible rfl
    simp only [Act.put, List.setIfInBounds_toArray, List.set_cons_zero, List.set_cons_succ]
    refine wpAnyH_take (i := 11) (oi := ⟨_, _, _, _, _, _⟩) (v := ?_) rfl (by kernel_rfl) (by kernel_rfl) (by kernel_rfl) (fun _ _ _ h => h) (Or.inl ⟨by rfl, ?_⟩) hH.out ?_
    rotate_left
    · intro W hS
      obtain ⟨r0, r1, r2, r3⟩ := hS
      go_simp
      try with_reducible rfl
    simp only [Act.put, List.setIfInBounds_toArray, List.set_cons_zero, List.set_cons_succ]
    refine wpAnyH_take (i := 12) (oi := ⟨_, _, _, _, _, _⟩) (v := ?_) rfl (by kernel_rfl) (by kernel_rfl) (by kernel_rfl) (fun _ _ _ h => h) (Or.inl ⟨by rfl, ?_⟩) hH.out ?_
    rotate_left
    · intro W hS
      obtain ⟨r0, r1, r2, r3⟩ := hS
      go_simp
      try with_reducible rfl
    simp only [Act.put, List.setIfInBounds_toArray, List.set_cons_zero, List.set_cons_succ]
    refine wpAnyH_take (i := 14) (oi := ⟨_, _, _, _, _, _⟩) (v := ?_) rfl (by kernel_rfl) (by kernel_rfl) (by kernel_rfl) (fun _ _ _ h => h) (Or.inl ⟨by rfl, ?_⟩) hH.out ?_
    rotate_left
    · intro W hS
      obtain ⟨r0, r1, r2, r3⟩ := hS
      go_simp
      try with_reducible rfl
    simp only [Act.put, List.setIfInBounds_toArray, List.set_cons_zero, List.set_cons_succ]
    refine wpAnyH_ready (rs := [13]) (by kernel_rfl) (by simp) ?_
    refine AllReadyH.cons (o := ⟨_, _, _, _, _, _⟩) rfl (fun K hK => ?_) AllReadyH.nil
    go_simp
    refine (PM.out _ HBW.out).mono ?_
    rintro e wz1 ⟨B3, d3, rfl, hm3, hb⟩
    replace HBW := Lib.hid (below_then HBW.out hb)
    have MM := Lib.hid hm3
    clear hb hm3
    refine hK.out _ _ ⟨LA.out _ HBW.out, LB.out _ HBW.out, ZC.out _ HBW.out, ZY.out _ HBW.out⟩ (fun hS => ?_)
    clear hH
    have hH := Lib.hid hS
    clear hS hK K
    simp only [Act.put, List.setIfInBounds_toArray, List.set_cons_zero, List.set_cons_succ]
    refine wpAnyH_ready (rs := [15]) (by kernel_rfl) (by simp) ?_
    refine AllReadyH.cons (o := ⟨_, _, _, _, _, _⟩) rfl (fun K hK => ?_) AllReadyH.nil
    go_simp
    refine (RS.out _ B3 d3 MM.out HBW.out).mono ?_
    rintro e wz2 ⟨rfl, hb⟩
    replace HBW := Lib.hid (below_then HBW.out hb)
    clear hb
    refine hK.out _ _ ⟨LA.out _ HBW.out, LB.out _ HBW.out, ZC.out _ HBW.out, ZY.out _ HBW.out⟩ (fun hS => ?_)
    clear hH
    have hH := Lib.hid hS
    clear hS hK K
    simp only [Act.put, List.setIfInBounds_toArray, List.set_cons_zero, List.set_cons_succ]
    refine wpAnyH_take (i := 16) (oi := ⟨_, _, _, _, _, _⟩) (v := ?_) rfl (by kernel_rfl) (by kernel_rfl) (by kernel_rfl) (fun _ _ _ h => h) (Or.inl ⟨by rfl, ?_⟩) hH.out ?_
    rotate_left
    · intro W hS
      obtain ⟨r0, r1, r2, r3⟩ := hS
      go_simp
      try with_reducible rfl
    simp only [Act.put, List.setIfInBounds_toArray, List.set_cons_zero, List.set_cons_succ]
    refine wpAnyH_take (i := 17) (oi := ⟨_, _, _, _, _, _⟩) (v := ?_) rfl (by kernel_rfl) (by kernel_rfl) (by kernel_rfl) (fun _ _ _ h => h) (Or.inl ⟨by rfl, ?_⟩) hH.out ?_
    rotate_left
    · intro W hS
      obtain ⟨r0, r1, r2, r3⟩ := hS
      go_simp
      try with_reducible rfl
    simp only [Act.put, List.setIfInBounds_toArray, List.set_cons_zero, List.set_cons_succ]
    refine wpAnyH_take (i := 18) (oi := ⟨_, _, _, _, _, _⟩) (v := ?_) rfl (by kernel_rfl) (by kernel_rfl) (by kernel_rfl) (fun _ _ _ h => h) (Or.inl ⟨by rfl, ?_⟩) hH.out ?_
    rotate_left
    · intro W hS
      obtain ⟨r0, r1, r2, r3⟩ := hS
      go_simp
      try with_reducible rfl
    simp only [Act.put, List.setIfInBounds_toArray, List.set_cons_zero, List.set_cons_succ]
    refine wpAnyH_take (i := 19) (oi := ⟨_, _, _, _, _, _⟩) (v := ?_) rfl (by kernel_rfl) (by kernel_rfl) (by kernel_rfl) (fun _ _ _ h => h) (Or.inl ⟨by rfl, ?_⟩) hH.out ?_
    rotate_left
    · intro W hS
      obtain ⟨r0, r1, r2, r3⟩ := hS
      go_simp
      try with_reducible rfl
    simp only [Act.put, List.setIfInBounds_toArray, List.set_cons_zero, List.set_cons_succ]
    refine wpAnyH_take (i := 20) (oi := ⟨_, _, _, _, _, _⟩) (v := ?_) rfl (by kernel_rfl) (by kernel_rfl) (by kernel_rfl) (fun _ _ _ h => h) (Or.inl ⟨by rfl, ?_⟩) hH.out ?_
    rotate_left
    · intro W hS
      obtain ⟨r0, r1, r2, r3⟩ := hS
      go_simp
      try with_reducible rfl
    simp only [Act.put, List.setIfInBounds_toArray, List.set_cons_zero, List.set_cons_succ]
    refine wpAnyH_take (i := 21) (oi := ⟨_, _, _, _, _, _⟩) (v := ?_) rfl (by kernel_rfl) (by kernel_rfl) (by kernel_rfl) (fun _ _ _ h => h) (Or.inl ⟨by rfl, ?_⟩) hH.out ?_
    rotate_left
    · intro W hS
      obtain ⟨r0, r1, r2, r3⟩ := hS
      go_simp
      try with_reducible rfl
    simp only [Act.put, List.setIfInBounds_toArray, List.set_cons_zero, List.set_cons_succ]
    refine wpAnyH_take (i := 22) (oi := ⟨_, _, _, _, _, _⟩) (v := ?_) rfl (by kernel_rfl) (by kernel_rfl) (by kernel_rfl) (fun _ _ _ h => h) (Or.inl ⟨by rfl, ?_⟩) hH.out ?_
    rotate_left
    · intro W hS
      obtain ⟨r0, r1, r2, r3⟩ := hS
      go_simp
      try with_reducible rfl
    simp only [Act.put, List.setIfInBounds_toArray, List.set_cons_zero, List.set_cons_succ]
    refine wpAnyH_take (i := 23) (oi := ⟨_, _, _, _, _, _⟩) (v := ?_) rfl (by kernel_rfl) (by kernel_rfl) (by kernel_rfl) (fun _ _ _ h => h) (Or.inl ⟨by rfl, ?_⟩) hH.out ?_
    rotate_left
    · intro W hS
      obtain ⟨r0, r1, r2, r3⟩ := hS
      go_simp
      try with_reducible rfl
    simp only [Act.put, List.setIfInBounds_toArray, List.set_cons_zero, List.set_cons_succ]
    refine wpAnyH_take (i := 24) (oi := ⟨_, _, _, _, _, _⟩) (v := ?_) rfl (by kernel_rfl) (by kernel_rfl) (by kernel_rfl) (fun _ _ _ h => h) (Or.inl ⟨by rfl, ?_⟩) hH.out ?_
    rotate_left
    · intro W hS
      obtain ⟨r0, r1, r2, r3⟩ := hS
      go_simp
      try with_reducible rfl
    simp only [Act.put, List.setIfInBounds_toArray, List.set_cons_zero, List.set_cons_succ]
    refine wpAnyH_ready (rs := [25]) (by kernel_rfl) (by simp) ?_
    refine AllReadyH.cons (o := ⟨_, _, _, _, _, _⟩) rfl (fun K hK => ?_) AllReadyH.nil
    go_simp
    refine (HW.out _).mono ?_
    rintro e wz3 ⟨rfl, hb⟩
    replace HBW := Lib.hid (below_then HBW.out hb)
    clear hb
    refine hK.out _ _ ⟨LA.out _ HBW.out, LB.out _ HBW.out, ZC.out _ HBW.out, ZY.out _ HBW.out⟩ (fun hS => ?_)
    clear hH
    have hH := Lib.hid hS
    clear hS hK K
    simp only [Act.put, List.setIfInBounds_toArray, List.set_cons_zero, List.set_cons_succ]
    refine wpAnyH_take (i := 26) (oi := ⟨_, _, _, _, _, _⟩) (v := ?_) rfl (by kernel_rfl) (by kernel_rfl) (by kernel_rfl) (fun _ _ _ h => h) (Or.inl ⟨by rfl, ?_⟩) hH.out ?_
    rotate_left
    · intro W hS
      obtain ⟨r0, r1, r2, r3⟩ := hS
      go_simp
      try with_reducible rfl
    simp only [Act.put, List.setIfInBounds_toArray, List.set_cons_zero, List.set_cons_succ]
    refine wpAnyH_take (i := 27) (oi := ⟨_, _, _, _, _, _⟩) (v := ?_) rfl (by kernel_rfl) (by kernel_rfl) (by kernel_rfl) (fun _ _ _ h => h) (Or.inl ⟨by rfl, ?_⟩) hH.out ?_
    rotate_left
    · intro W hS
      obtain ⟨r0, r1, r2, r3⟩ := hS
      go_simp
      try with_reducible rfl
    simp only [Act.put, List.setIfInBounds_toArray, List.set_cons_zero, List.set_cons_succ]
    refine wpAnyH_done (by kernel_rfl) ?_ _
    clear hH
    go_wp2_with fail
    go_ret
    exact .bool rfl (HB6.out.trans (HBW.out.mono HB6.out.size))
end Go.Proofs.Yteiohcgohgcjfaa
