/- RecordsPuts. -/
import Derived.Test.YteiohcgohgcjfaaRows
import Derived.IntWalk
import Derived.Test.YteiohcgohgcjfaaWords
import Derived.Test.YteiohcgohgcjfaaByts
import Derived.Test.YteiohcgohgcjfaaStrs
import Derived.Test.YteiohcgohgcjfaaFrame
import Derived.Test.YteiohcgohgcjfaaElems
import Derived.Test.YteiohcgohgcjfaaS1
import Derived.Test.YteiohcgohgcjfaaS2
import Derived.Test.YteiohcgohgcjfaaEqs
import Derived.Test.YteiohcgohgcjfaaS11
import Derived.Test.YteiohcgohgcjfaaA1
import Derived.Test.YteiohcgohgcjfaaD1
import Derived.Test.YteiohcgohgcjfaaD5
import Derived.Test.YteiohcgohgcjfaaD6
import Derived.Test.YteiohcgohgcjfaaD7
import Derived.Test.YteiohcgohgcjfaaD9
import Derived.Test.YteiohcgohgcjfaaP0
import Derived.Test.YteiohcgohgcjfaaP2
import Derived.Test.YteiohcgohgcjfaaB0
import Derived.Test.YteiohcgohgcjfaaB1
import Derived.Test.YteiohcgohgcjfaaH2
import Derived.Test.YteiohcgohgcjfaaK1
import Derived.Test.YteiohcgohgcjfaaK2
import Derived.Test.YteiohcgohgcjfaaJ1
import Derived.Test.YteiohcgohgcjfaaF1
namespace Go.Proofs.Yteiohcgohgcjfaa
open Go Go.RowKit Go.Proofs.Tail
set_option linter.unusedSimpArgs false
set_option linter.unusedVariables false
theorem byV_get (xs : List Int) (i : Nat) (hi : i < xs.length) : (byV xs)[i]? = some (.int .u8 (xs.getD i 0)) := by
  simp [byV, List.getD_eq_getElem?_getD, List.getElem?_eq_getElem hi]
theorem own_bset {w : World} {base g n cap : Nat} {e : TypeId} {xs : List Int} (h : w.ownsRow base e 1 (.slice (some ⟨g, 0, none⟩) n cap) n (byV xs)) (i : Nat) (x : Int) :
    (w.setCell ⟨g, i, none⟩ (.int .u8 x)).ownsRow base e 1 (.slice (some ⟨g, 0, none⟩) n cap) n (byV (xs.set i x)) := by
  have hs := (h.stored i (.int .u8 x)).1
  have he : (byV xs).set i (.int .u8 x) = byV (xs.set i x) := by simp [byV, List.map_set]
  rwa [he] at hs
theorem own_bcell {w : World} {base g n cap : Nat} {e : TypeId} {xs : List Int} (h : w.ownsRow base e 1 (.slice (some ⟨g, 0, none⟩) n cap) n (byV xs)) {i : Nat} (hi : i < n) :
    w.cell? ⟨g, i, none⟩ = some (.int .u8 (xs.getD i 0)) ∧ w.frozen? ⟨g, i, none⟩ = false := by
  have hl : xs.length = n := by have := h.1; simp [byV] at this; exact this
  constructor
  · have hc := h.cells (g := g) rfl i _ (byV_get xs i (by omega))
    rwa [add_plain] at hc
  · rcases h.2 with ⟨h', _⟩ | ⟨g', cap', cur, h', _, hh, _⟩
    · cases h'
    · have : g = g' := by injection h' with h'; injection h' with h'; injection h' with h'
      subst this
      simp [World.frozen?, hh]
theorem own_bform {w : World} {base n : Nat} {e : TypeId} {A : Option Addr} {c n2 : Nat} {xs : List Value} (h : w.ownsRow base e 1 (.slice A n2 c) n xs) (hn : 0 < n) :
    ∃ g, A = some ⟨g, 0, none⟩ ∧ base ≤ g ∧ n ≤ c := by
  rcases h.2 with ⟨_, h0⟩ | ⟨g, cap, cur, e1, hbg, hh, hnc, _⟩
  · omega
  · injection e1 with e1 e2 e3
    subst e3
    exact ⟨g, e1, hbg, hnc⟩
/-- The box of the message; what is told of the world. -/
structure Pu (w : World) (m : Msg) (A : Option Addr) (c : Nat) (C : Option Addr) (d : Nat) (wr : World) : Prop where
  blk : Blk wr w.heap.size (m.cs A c C d) 28
  b : Below w.heap.size w wr
section
variable {w wr w2 : World} {m : Msg} {A C : Option Addr} {c d : Nat}
theorem Pu.below (h : Pu w m A c C d wr) (hb : Below wr.heap.size wr w2) : Pu w m A c C d w2 := ⟨h.blk.then hb, below_then h.b hb⟩
theorem Pu.set (h : Pu w m A c C d wr) {g j : Nat} (hg : w.heap.size < g) (v : Value) : Pu w m A c C d (wr.setCell ⟨g, j, none⟩ v) :=
  ⟨h.blk.other _ _ (by dsimp only; omega), h.b.setCell (by dsimp only; omega) v⟩
theorem Pu.la (h : Pu w m A c C d wr) : ∀ o, wr.cell? ⟨w.heap.size, o, none⟩ = (Mb.cs ⟨0, m, A, c, C, d⟩)[o]? := fun o => by rw [h.blk.cell, Mb.cs, ← Msg.cs_eq]; simp
theorem Pu.lt (h : Pu w m A c C d wr) : w.heap.size < wr.heap.size := h.blk.lt
end
/-- Put's row, as a law wants it that writes into it. -/
theorem put_row (m : Msg) (A C : Option Addr) (c d : Nat) (w : World) (hm : Mg w m A c C d) (hk : 0 ≤ m.k ∧ m.k < 256) (xs : List Int) (code : Int) (hx : (if mayB m = true then msgL m else []) = xs) (hc : (if mayB m = true then 0 else 2) = code) (hl : xs.length ≤ 10000) :
    Calls Try.prog 13 #[.agg (Mb.cs ⟨0, m, A, c, C, d⟩)] w
    (fun e w' => ∃ A1 c1, e = .returned (.tuple #[.slice A1 xs.length c1, .int .i64 code]) ∧ w'.ownsRow w.heap.size 5 1 (.slice A1 xs.length c1) xs.length (byV xs) ∧ Byts w' A1 xs.length c1 xs ∧ Below w.heap.size w w') := by
  have hp := mput_any m A C c d w hm hk
  rw [hx, hc] at hp
  refine hp.mono ?_
  rintro e w1 ⟨v, rfl, ho, hb⟩
  obtain ⟨A1, c1, rfl, hy⟩ := own_bytes ho (by omega)
  exact ⟨A1, c1, rfl, ho, hy, hb⟩
theorem rfl_str (X : List Int) : ((strOfNums X).toList == (strOfNums X).toList) = true := by simp
theorem str_nil {X : List Int} (h : X = []) : (strOfNums X).toList = [] := by subst h; simp [strOfNums]
set_option maxRecDepth 100000 in
set_option maxHeartbeats 16000000 in
theorem law_puts (m : Msg) (A C : Option Addr) (c d : Nat) (w : World) (hm : Mg w m A c C d) (hk : 0 ≤ m.k ∧ m.k < 256) :
    Calls Try.prog 3 #[.agg (m.cs A c C d).toArray] w (Gives (.bool true) w) := by
  obtain ⟨w1, hw1⟩ : ∃ w1, w1 = w.alloc (.cells (m.cs A c C d).toArray 28) := ⟨_, rfl⟩
  have N1 := Lib.hid (show Pu w m A c C d w1 from by rw [hw1]; exact ⟨Blk.new w _ _ _ rfl, below_new w _⟩)
  have la := N1.out.la
  dsimp only [Mb.cs] at la
  have e1 := hw1.symm
  rw [Msg.cs_eq] at e1
  rw [Msg.cs_eq]
  have HW := Lib.hid works_any
  have HM := Lib.hid (fun (W : World) (hW : Below w.heap.size w W) => hm.below hW)
  have HC := Lib.hid (few_box ⟨0, m, A, c, C, d⟩ w1)
  dsimp only [Mb.cs] at HC
  have HK := Lib.hid hk
  clear hw1 hm hk
  cases hfm : fewB m with
  | false =>
    rw [hfm] at HC
    go_enter Try.func3, Try.ntmps3
    go_wp2_with fail
    refine HC.out.mono ?_
    rintro e w3 ⟨rfl, hb⟩
    have N3 := Lib.hid (N1.out.below hb)
    clear hb HC
    go_wp2_with fail
    refine (HW.out _).mono ?_
    rintro e w4 ⟨rfl, hb⟩
    have N4 := Lib.hid (N3.out.below hb)
    clear hb
    go_wp2_with fail
    go_ret
    exact .bool rfl N4.out.b
  | true =>
    rw [hfm] at HC
    have HL := Lib.hid (few_len hfm)
    have HU := Lib.hid (few_U hfm)
    go_enter Try.func3, Try.ntmps3
    go_wp2_with fail
    refine HC.out.mono ?_
    rintro e w3 ⟨rfl, hb⟩
    have N3 := Lib.hid (N1.out.below hb)
    clear hb HC la N1 e1
    have la := N3.out.la
    dsimp only [Mb.cs] at la
    have HC := Lib.hid (plain_box ⟨0, m, A, c, C, d⟩ w3 (HM.out _ N3.out.b) HU.out)
    dsimp only [Mb.cs] at HC
    go_wp2_with fail
    refine HC.out.mono ?_
    rintro e w4 ⟨B4, d4, rfl, hm4, hb⟩
    have N4 := Lib.hid (N3.out.below hb)
    have HC4 := Lib.hid (refmay_any m A B4 c d4 w4 hm4)
    clear hb HC la N3 hm4
    go_wp2_with fail
    refine HC4.out.mono ?_
    rintro e w5 ⟨rfl, hb⟩
    have N5 := Lib.hid (N4.out.below hb)
    clear hb HC4 N4
    cases hmm : mayB m with
    | false =>
      obtain ⟨X, hX⟩ : ∃ X : List Int, X = [] := ⟨_, rfl⟩
      have HX := Lib.hid hX
      have HXL := Lib.hid (show X.length ≤ 10000 by rw [hX]; simp)
      clear hX
      have HPR := Lib.hid (fun (W : World) (hW : Below w.heap.size w W) => put_row m A C c d W (HM.out _ hW) HK.out (X) 2 (by rw [hmm, HX.out]; rfl) (by rw [hmm]; rfl) HXL.out)
      dsimp only [Mb.cs] at HPR
      go_wp2_with fail
      go_loopw [5] (fun i wr => ∃ t : Nat, t ≤ 2 ∧ i = .int .i64 t ∧ Hid (Pu w m A c C d wr)) (fun i _ => 2 - (intOf i).toNat)
      case atStart => exact ⟨0, by omega, rfl, N5⟩
      case round =>
        obtain ⟨t, ht, rfl, NR⟩ := hrel
        by_cases hlt : t < 2
        · have hd : decide ((t : Int) < 2) = true := decide_eq_true (by omega)
          have hd' : decide (t < 2) = true := decide_eq_true hlt
          have la := NR.out.la
          dsimp only [Mb.cs] at la
          go_wp2_with fail
          refine (HPR.out _ NR.out.b).mono ?_
          rintro e w11 ⟨A1, c1, rfl, ho, hy, hb⟩
          have N11 := Lib.hid (NR.out.below hb)
          have HO := Lib.hid (show ∃ ys, w11.ownsRow wr.heap.size 5 1 (.slice A1 (X).length c1) (X).length (byV ys) from ⟨_, ho⟩)
          have q1 := run_convert_byts (P := Try.prog) w11 36 5 Try.underlying36 Try.underlying5 hy 9 Try.underlying9
          have HLT := Lib.hid (NR.out.lt)
          have HLN := Lib.hid (show (X).length ≤ 10000 by exact HXL.out)
          have hsn := str_nil HX.out
          clear ho hy hb la
          go_wp2_with fail
          clear q1 hsn
          go_loopw [8] (fun j wx => ∃ q : Nat, q ≤ (X).length ∧ j = .int .i64 q ∧ Hid (∃ ys, wx.ownsRow wr.heap.size 5 1 (.slice A1 (X).length c1) (X).length (byV ys)) ∧ Hid (Pu w m A c C d wx)) (fun j _ => (X).length - (intOf j).toNat)
          case atStart => exact ⟨0, Nat.zero_le _, rfl, HO, N11⟩
          case round =>
            rename_i wx _ _
            obtain ⟨q, hq, rfl, HOX, NX⟩ := hrel
            by_cases hqt : q < (X).length
            · have qd : decide ((q : Int) < (X).length) = true := decide_eq_true (by omega)
              have qd' : decide (q < (X).length) = true := decide_eq_true hqt
              obtain ⟨ys, hys⟩ := HOX.out
              obtain ⟨g, hA, hg, hgc⟩ := own_bform hys (by omega)
              subst hA
              obtain ⟨cg, fg⟩ := own_bcell hys hqt
              have hq0 : (0 : Int) ≤ q := by omega
              have hlx := HLN.out
              have hqn : (q : Int) < (X).length := by omega
              have HYS := Lib.hid hys
              have HG := Lib.hid (show w.heap.size < g by have := HLT.out; omega)
              clear hys hg
              go_wp2_with fail
              go_roundw
              case rel => exact ⟨q + 1, by omega, by go_num, Lib.hid ⟨_, own_bset HYS.out q _⟩, Lib.hid (NX.out.set HG.out _)⟩
              case measure => simp [intOf]; omega
            · have qd : decide ((q : Int) < (X).length) = false := decide_eq_false (by omega)
              have qd' : decide (q < (X).length) = false := decide_eq_false (by omega)
              go_wp2_with fail
              go_roundw
              case rel => exact ⟨t + 1, by omega, by go_num, NX⟩
              case measure => simp [intOf]; omega
        · have hd : decide ((t : Int) < 2) = false := decide_eq_false (by omega)
          have hd' : decide (t < 2) = false := decide_eq_false (by omega)
          go_wp2_with fail
          refine (HW.out _).mono ?_
          rintro e w20 ⟨rfl, hb⟩
          have N20 := Lib.hid (NR.out.below hb)
          clear hb
          go_wp2_with fail
          go_ret
          exact .bool rfl N20.out.b
    | true =>
      have la := N5.out.la
      dsimp only [Mb.cs] at la
      have HC := Lib.hid (plain_box ⟨0, m, A, c, C, d⟩ w5 (HM.out _ N5.out.b) HU.out)
      dsimp only [Mb.cs] at HC
      go_wp2_with fail
      refine HC.out.mono ?_
      rintro e w6 ⟨B6, d6, rfl, hm6, hb⟩
      have N6 := Lib.hid (N5.out.below hb)
      have HC6 := Lib.hid (refbytes_any m A B6 c d6 w6 hm6 hmm HL.out)
      obtain ⟨X, hX⟩ : ∃ X, X = msgL m := ⟨_, rfl⟩
      have HX := Lib.hid hX
      rw [← hX] at HC6 HL
      clear hb HC la N5 hm6 hX
      go_wp2_with fail
      refine HC6.out.mono ?_
      rintro e w7 ⟨A7, c7, rfl, hy, hb⟩
      have N7 := Lib.hid (N6.out.below hb)
      have q0 := run_convert_byts (P := Try.prog) w7 36 5 Try.underlying36 Try.underlying5 hy 9 Try.underlying9
      clear hb hy HC6 N6
      have HPR := Lib.hid (fun (W : World) (hW : Below w.heap.size w W) => put_row m A C c d W (HM.out _ hW) HK.out (X) 0 (by rw [hmm, HX.out]; rfl) (by rw [hmm]; rfl) HL.out)
      dsimp only [Mb.cs] at HPR
      go_wp2_with fail
      go_loopw [5] (fun i wr => ∃ t : Nat, t ≤ 2 ∧ i = .int .i64 t ∧ Hid (Pu w m A c C d wr)) (fun i _ => 2 - (intOf i).toNat)
      case atStart => exact ⟨0, by omega, rfl, N7⟩
      case round =>
        obtain ⟨t, ht, rfl, NR⟩ := hrel
        by_cases hlt : t < 2
        · have hd : decide ((t : Int) < 2) = true := decide_eq_true (by omega)
          have hd' : decide (t < 2) = true := decide_eq_true hlt
          have la := NR.out.la
          dsimp only [Mb.cs] at la
          go_wp2_with fail
          refine (HPR.out _ NR.out.b).mono ?_
          rintro e w11 ⟨A1, c1, rfl, ho, hy, hb⟩
          have N11 := Lib.hid (NR.out.below hb)
          have HO := Lib.hid (show ∃ ys, w11.ownsRow wr.heap.size 5 1 (.slice A1 (X).length c1) (X).length (byV ys) from ⟨_, ho⟩)
          have q1 := run_convert_byts (P := Try.prog) w11 36 5 Try.underlying36 Try.underlying5 hy 9 Try.underlying9
          have HLT := Lib.hid (NR.out.lt)
          have HLN := Lib.hid (show (X).length ≤ 10000 by exact HL.out)
          have hsn := rfl_str X
          clear ho hy hb la
          go_wp2_with fail
          clear q1 hsn
          go_loopw [8] (fun j wx => ∃ q : Nat, q ≤ (X).length ∧ j = .int .i64 q ∧ Hid (∃ ys, wx.ownsRow wr.heap.size 5 1 (.slice A1 (X).length c1) (X).length (byV ys)) ∧ Hid (Pu w m A c C d wx)) (fun j _ => (X).length - (intOf j).toNat)
          case atStart => exact ⟨0, Nat.zero_le _, rfl, HO, N11⟩
          case round =>
            rename_i wx _ _
            obtain ⟨q, hq, rfl, HOX, NX⟩ := hrel
            by_cases hqt : q < (X).length
            · have qd : decide ((q : Int) < (X).length) = true := decide_eq_true (by omega)
              have qd' : decide (q < (X).length) = true := decide_eq_true hqt
              obtain ⟨ys, hys⟩ := HOX.out
              obtain ⟨g, hA, hg, hgc⟩ := own_bform hys (by omega)
              subst hA
              obtain ⟨cg, fg⟩ := own_bcell hys hqt
              have hq0 : (0 : Int) ≤ q := by omega
              have hlx := HLN.out
              have hqn : (q : Int) < (X).length := by omega
              have HYS := Lib.hid hys
              have HG := Lib.hid (show w.heap.size < g by have := HLT.out; omega)
              clear hys hg
              go_wp2_with fail
              go_roundw
              case rel => exact ⟨q + 1, by omega, by go_num, Lib.hid ⟨_, own_bset HYS.out q _⟩, Lib.hid (NX.out.set HG.out _)⟩
              case measure => simp [intOf]; omega
            · have qd : decide ((q : Int) < (X).length) = false := decide_eq_false (by omega)
              have qd' : decide (q < (X).length) = false := decide_eq_false (by omega)
              go_wp2_with fail
              go_roundw
              case rel => exact ⟨t + 1, by omega, by go_num, NX⟩
              case measure => simp [intOf]; omega
        · have hd : decide ((t : Int) < 2) = false := decide_eq_false (by omega)
          have hd' : decide (t < 2) = false := decide_eq_false (by omega)
          go_wp2_with fail
          refine (HW.out _).mono ?_
          rintro e w20 ⟨rfl, hb⟩
          have N20 := Lib.hid (NR.out.below hb)
          clear hb
          go_wp2_with fail
          go_ret
          exact .bool rfl N20.out.b
end Go.Proofs.Yteiohcgohgcjfaa
