/- The walk of AntichainHolds. -/
import Derived.Test.YtamniepfgddecaaRows
import Derived.Test.YtamniepfgddecaaWords
import Derived.Test.YtamniepfgddecaaByts
import Derived.Test.YtamniepfgddecaaFrame
import Derived.Test.YtamniepfgddecaaElems
import Derived.Test.YtamniepfgddecaaS1
import Derived.Test.YtamniepfgddecaaS2
import Derived.Test.YtamniepfgddecaaS4
import Derived.Test.YtamniepfgddecaaS7
import Derived.Test.YtamniepfgddecaaU1
import Derived.Test.YtamniepfgddecaaU4
import Derived.Test.YtamniepfgddecaaA1
import Derived.Test.YtamniepfgddecaaA2
import Derived.Test.YtamniepfgddecaaA3
import Derived.Test.YtamniepfgddecaaA4
import Derived.Test.YtamniepfgddecaaA5
import Derived.Test.YtamniepfgddecaaB1
import Derived.Test.YtamniepfgddecaaB3
import Derived.Test.YtamniepfgddecaaB4
import Derived.Test.YtamniepfgddecaaB5
import Derived.Test.YtamniepfgddecaaB6
import Derived.Test.YtamniepfgddecaaP1
import Derived.Test.YtamniepfgddecaaP3
import Derived.Test.YtamniepfgddecaaW1
import Derived.Test.YtamniepfgddecaaL0
import Derived.Test.YtamniepfgddecaaL3
import Derived.Test.YtamniepfgddecaaL5
namespace Go.Proofs.Ytamniepfgddecaa
open Go Go.RowKit Go.Proofs.Tail Go.Sort
set_option linter.unusedSimpArgs false
set_option linter.unusedVariables false
theorem any_take {ts : List T} {t y : T} {k : Nat} (h : ts[k]? = some y) : (ts.take (k + 1)).any (fun s => leqB s t) = ((ts.take k).any (fun s => leqB s t) || leqB y t) := by
  rw [List.take_add_one, h]; simp
set_option maxRecDepth 100000 in
set_option maxHeartbeats 16000000 in
theorem law_holds_any (A : Option Addr) (n c : Nat) (ts : List T) (t s : T) (w : World) (hX : Tms w A n c ts) :
    Calls Try.prog 4 #[.slice A n c, .agg #[.int .i64 t.d, .int .i64 t.e, .int .i64 t.a, .int .i64 t.b, .int .i64 t.c], .agg #[.int .i64 s.d, .int .i64 s.e, .int .i64 s.a, .int .i64 s.b, .int .i64 s.c]] w (Gives (.bool true) w) := by
  have HB00 := Lib.hid (below_alloc (below_new w (.cells #[.int .i64 t.d, .int .i64 t.e, .int .i64 t.a, .int .i64 t.b, .int .i64 t.c] 32)) (.cells #[.int .i64 s.d, .int .i64 s.e, .int .i64 s.a, .int .i64 s.b, .int .i64 s.c] 32))
  by_cases h : 60 < n
  · have d1 : decide (60 < (n : Int)) = true := decide_eq_true (by omega)
    clear h hX
    go_enter Try.func4, Try.ntmps4
    go_wp2_with fail
    refine (works_any _).mono ?_
    rintro e w1 ⟨rfl, hb⟩
    have HB1 := Lib.hid (below_then HB00.out hb)
    clear hb HB00
    go_wp2_with fail
    go_ret
    exact .bool rfl HB1.out
  have d1 : decide (60 < (n : Int)) = false := decide_eq_false (by omega)
  have l1 : n ≤ 60 := by omega
  clear h
  have HX := Lib.hid (hX.below At.stays HB00.out)
  have lx := hX.len
  have LX := Lib.hid lx
  have hbg := hX.big
  have BT := Lib.hid ((Bx.new w t _ rfl).below (below_new _ (.cells #[.int .i64 s.d, .int .i64 s.e, .int .i64 s.a, .int .i64 s.b, .int .i64 s.c] 32)))
  have BS := Lib.hid (Bx.new (w.alloc (.cells #[.int .i64 t.d, .int .i64 t.e, .int .i64 t.a, .int .i64 t.b, .int .i64 t.c] 32)) s (w.heap.size + 1) (by simp))
  clear hX
  have bb := (show ((ofT ts).getD []).length ≤ 60 from Nat.le_trans of_len (by omega))
  obtain ⟨q1, m1, e1, is⟩ := Is.of (ofT ts) (by omega)
  have k1 : m1 ≤ 60 := by rw [← is.len, ← is.row]; exact bb
  have I1 := Lib.hid is
  have L1 := Lib.hid is.len
  have HE1 := Lib.hid (show e1 = 50 ∨ e1 = 0 ∧ (ofT ts) = some q1 from by
    cases e : (ofT ts) with
    | none => rw [e] at is; exact .inl is.none.2.2
    | some l => rw [e] at is; obtain ⟨h, _, h2⟩ := is.some; rw [h]; exact .inr ⟨h2, rfl⟩)
  clear is bb
  clear lx
  obtain ⟨x, Ex⟩ : ∃ b, holdsF ts t = b := ⟨_, rfl⟩
  obtain ⟨lq, El⟩ : ∃ b, leqB s t = b := ⟨_, rfl⟩
  have FD := Lib.hid (show x = true → lq = true → holdsF ts s = true from fun h1 h2 => holds_down (Ex.trans h1) (El.trans h2))
  have CX := Lib.hid (show ∀ W : World, Tms W A n c ts → Calls Try.prog 16 #[.slice A n c, .agg #[.int .i64 t.d, .int .i64 t.e, .int .i64 t.a, .int .i64 t.b, .int .i64 t.c]] W (Gives (.bool x) W) from fun W h => by have := holds_any A n c ts t W h (by omega); rw [Ex] at this; exact this)
  have CY := Lib.hid (show ∀ W : World, Tms W A n c ts → Calls Try.prog 17 #[.slice A n c, .agg #[.int .i64 t.d, .int .i64 t.e, .int .i64 t.a, .int .i64 t.b, .int .i64 t.c]] W (Gives (.bool x) W) from fun W h => by have := refholds_any A n c ts t W h (by omega); rw [Ex] at this; exact this)
  have CL := Lib.hid (show ∀ W : World, Calls Try.prog 18 #[.agg #[.int .i64 s.d, .int .i64 s.e, .int .i64 s.a, .int .i64 s.b, .int .i64 s.c], .agg #[.int .i64 t.d, .int .i64 t.e, .int .i64 t.a, .int .i64 t.b, .int .i64 t.c]] W (Gives (.bool lq) W) from fun W => by have := leq_any s t W; rw [El] at this; exact this)
  clear Ex El
  go_enter Try.func4, Try.ntmps4
  obtain ⟨x0, x1, x2, x3, x4⟩ := BT.out.cells
  obtain ⟨y0, y1, y2, y3, y4⟩ := BS.out.cells
  go_wp2_with fail
  refine (CX.out _ HX.out).mono ?_
  clear x0 x1 x2 x3 x4 y0 y1 y2 y3 y4
  rintro e w1 ⟨rfl, hb⟩
  have HX' := Lib.hid (HX.out.below At.stays hb)
  clear HX
  have HX := HX'
  clear HX'
  have BT' := Lib.hid (BT.out.below hb)
  clear BT
  have BT := BT'
  clear BT'
  have BS' := Lib.hid (BS.out.below hb)
  clear BS
  have BS := BS'
  clear BS'
  have HB1 := Lib.hid (below_then HB00.out hb)
  clear hb HB00
  obtain ⟨x0, x1, x2, x3, x4⟩ := BT.out.cells
  obtain ⟨y0, y1, y2, y3, y4⟩ := BS.out.cells
  go_upto_region 4 with fail
  go_cut [37] (fun b wx => b = .bool false ∧ Hid (Below w1.heap.size w1 wx))
  case first =>
    clear HB1
    have HL0 := Lib.hid (Below.refl w1.heap.size w1)
    go_wp2_with fail
    refine (CY.out _ HX.out).mono ?_
    clear x0 x1 x2 x3 x4 y0 y1 y2 y3 y4
    rintro e w2 ⟨rfl, hb⟩
    have HX' := Lib.hid (HX.out.below At.stays hb)
    clear HX
    have HX := HX'
    clear HX'
    have BT' := Lib.hid (BT.out.below hb)
    clear BT
    have BT := BT'
    clear BT'
    have BS' := Lib.hid (BS.out.below hb)
    clear BS
    have BS := BS'
    clear BS'
    have HB2 := Lib.hid (below_then HL0.out hb)
    clear hb HL0
    obtain ⟨x0, x1, x2, x3, x4⟩ := BT.out.cells
    obtain ⟨y0, y1, y2, y3, y4⟩ := BS.out.cells
    cases x with
    | false =>
      go_wp2_with fail
      go_meet
      exact ⟨rfl, HB2⟩
    | true =>
      go_wp2_with fail
      refine (CL.out _).mono ?_
      clear x0 x1 x2 x3 x4 y0 y1 y2 y3 y4
      rintro e w3 ⟨rfl, hb⟩
      have HX' := Lib.hid (HX.out.below At.stays hb)
      clear HX
      have HX := HX'
      clear HX'
      have BT' := Lib.hid (BT.out.below hb)
      clear BT
      have BT := BT'
      clear BT'
      have BS' := Lib.hid (BS.out.below hb)
      clear BS
      have BS := BS'
      clear BS'
      have HB3 := Lib.hid (below_then HB2.out hb)
      clear hb HB2
      obtain ⟨x0, x1, x2, x3, x4⟩ := BT.out.cells
      obtain ⟨y0, y1, y2, y3, y4⟩ := BS.out.cells
      cases lq with
      | false =>
        go_wp2_with fail
        go_meet
        exact ⟨rfl, HB3⟩
      | true =>
        have hd := (show holdsF ts s = true from by first | exact FD.out rfl rfl | exact FD.out trivial | simpa using FD.out)
        have CH := Lib.hid (holds_any A n c ts s _ HX.out (by omega))
        rw [hd] at CH
        clear hd
        go_wp2_with fail
        refine (CH.out).mono ?_
        clear x0 x1 x2 x3 x4 y0 y1 y2 y3 y4
        rintro e w4 ⟨rfl, hb⟩
        have HX' := Lib.hid (HX.out.below At.stays hb)
        clear HX
        have HX := HX'
        clear HX'
        have BT' := Lib.hid (BT.out.below hb)
        clear BT
        have BT := BT'
        clear BT'
        have BS' := Lib.hid (BS.out.below hb)
        clear BS
        have BS := BS'
        clear BS'
        have HB4 := Lib.hid (below_then HB3.out hb)
        clear hb HB3
        obtain ⟨x0, x1, x2, x3, x4⟩ := BT.out.cells
        obtain ⟨y0, y1, y2, y3, y4⟩ := BS.out.cells
        go_wp2_with fail
        go_meet
        exact ⟨rfl, HB4⟩
  case rest =>
    as_aux_lemma =>
      obtain ⟨rfl, HCU⟩ := hcut
      have hb := HCU.out
      clear HCU FD CX CY CL
      clear x0 x1 x2 x3 x4 y0 y1 y2 y3 y4
      obtain ⟨w2, hwq⟩ : ∃ q, q = wc := ⟨_, rfl⟩
      subst hwq
      have HX' := Lib.hid (HX.out.below At.stays hb)
      clear HX
      have HX := HX'
      clear HX'
      have BT' := Lib.hid (BT.out.below hb)
      clear BT
      have BT := BT'
      clear BT'
      have BS' := Lib.hid (BS.out.below hb)
      clear BS
      have BS := BS'
      clear BS'
      have HB2 := Lib.hid (below_then HB1.out hb)
      clear hb HB1
      obtain ⟨x0, x1, x2, x3, x4⟩ := BT.out.cells
      obtain ⟨y0, y1, y2, y3, y4⟩ := BS.out.cells
      go_wp2_with fail
      refine ((of_any A n c ts _ HX.out (by omega)).mono fun _ _ => I1.out.gives).mono ?_
      clear x0 x1 x2 x3 x4 y0 y1 y2 y3 y4
      rintro e w3 ⟨Q, qc, rfl, _, hr, hb⟩
      have HQ := Lib.hid hr
      clear hr
      have HX' := Lib.hid (HX.out.below At.stays hb)
      clear HX
      have HX := HX'
      clear HX'
      have BT' := Lib.hid (BT.out.below hb)
      clear BT
      have BT := BT'
      clear BT'
      have BS' := Lib.hid (BS.out.below hb)
      clear BS
      have BS := BS'
      clear BS'
      have HB3 := Lib.hid (below_then HB2.out hb)
      clear hb HB2
      obtain ⟨x0, x1, x2, x3, x4⟩ := BT.out.cells
      obtain ⟨y0, y1, y2, y3, y4⟩ := BS.out.cells
      have CR := Lib.hid (fun W => right_any t W)
      have a0 := fun p : After w3 => cell_after x0 p
      have a1 := fun p : After w3 => cell_after x1 p
      have a2 := fun p : After w3 => cell_after x2 p
      have a3 := fun p : After w3 => cell_after x3 p
      have a4 := fun p : After w3 => cell_after x4 p
      clear x0 x1 x2 x3 x4 y0 y1 y2 y3 y4
      rcases HE1.out with h | ⟨h, hf⟩
      · subst h
        go_wp2_with fail
        refine quiet_after (by kernel_rfl) (by kernel_rfl) ?_
        repeat (first | go_big_quiet_step (fail) | quiet_step (fail))
        refine wpQuiet_nil ?_
        intro wz hw'
        obtain ⟨p, rfl⟩ := hw'
        obtain ⟨w4, hb⟩ := p
        dsimp only
        clear a0 a1 a2 a3 a4
        have HX' := Lib.hid (HX.out.below At.stays hb)
        clear HX
        have HX := HX'
        clear HX'
        have HQ' := Lib.hid (HQ.out.below At.stays hb)
        clear HQ
        have HQ := HQ'
        clear HQ'
        have BT' := Lib.hid (BT.out.below hb)
        clear BT
        have BT := BT'
        clear BT'
        have BS' := Lib.hid (BS.out.below hb)
        clear BS
        have BS := BS'
        clear BS'
        have HB4 := Lib.hid (below_then HB3.out hb)
        clear hb HB3
        obtain ⟨x0, x1, x2, x3, x4⟩ := BT.out.cells
        obtain ⟨y0, y1, y2, y3, y4⟩ := BS.out.cells
        go_wp2_with fail
        refine (works_any _).mono ?_
        clear x0 x1 x2 x3 x4 y0 y1 y2 y3 y4
        rintro e w5 ⟨rfl, hb⟩
        have HX' := Lib.hid (HX.out.below At.stays hb)
        clear HX
        have HX := HX'
        clear HX'
        have HQ' := Lib.hid (HQ.out.below At.stays hb)
        clear HQ
        have HQ := HQ'
        clear HQ'
        have BT' := Lib.hid (BT.out.below hb)
        clear BT
        have BT := BT'
        clear BT'
        have BS' := Lib.hid (BS.out.below hb)
        clear BS
        have BS := BS'
        clear BS'
        have HB5 := Lib.hid (below_then HB4.out hb)
        clear hb HB4
        obtain ⟨x0, x1, x2, x3, x4⟩ := BT.out.cells
        obtain ⟨y0, y1, y2, y3, y4⟩ := BS.out.cells
        go_wp2_with fail
        go_ret
        exact .bool rfl HB5.out
      subst h
      cases g : t.rightB with
      | false =>
        rw [g] at CR
        clear g hf
        go_wp2_with fail
        refine quiet_after (by kernel_rfl) (by kernel_rfl) ?_
        repeat (first | go_big_quiet_step ((go_at_call 19; with_reducible exact calls_after (CR.out _))) | quiet_step ((go_at_call 19; with_reducible exact calls_after (CR.out _))))
        refine wpQuiet_nil ?_
        intro wz hw'
        obtain ⟨p, rfl⟩ := hw'
        obtain ⟨w4, hb⟩ := p
        dsimp only
        clear a0 a1 a2 a3 a4 CR
        have HX' := Lib.hid (HX.out.below At.stays hb)
        clear HX
        have HX := HX'
        clear HX'
        have HQ' := Lib.hid (HQ.out.below At.stays hb)
        clear HQ
        have HQ := HQ'
        clear HQ'
        have BT' := Lib.hid (BT.out.below hb)
        clear BT
        have BT := BT'
        clear BT'
        have BS' := Lib.hid (BS.out.below hb)
        clear BS
        have BS := BS'
        clear BS'
        have HB4 := Lib.hid (below_then HB3.out hb)
        clear hb HB3
        obtain ⟨x0, x1, x2, x3, x4⟩ := BT.out.cells
        obtain ⟨y0, y1, y2, y3, y4⟩ := BS.out.cells
        go_wp2_with fail
        refine (works_any _).mono ?_
        clear x0 x1 x2 x3 x4 y0 y1 y2 y3 y4
        rintro e w5 ⟨rfl, hb⟩
        have HX' := Lib.hid (HX.out.below At.stays hb)
        clear HX
        have HX := HX'
        clear HX'
        have HQ' := Lib.hid (HQ.out.below At.stays hb)
        clear HQ
        have HQ := HQ'
        clear HQ'
        have BT' := Lib.hid (BT.out.below hb)
        clear BT
        have BT := BT'
        clear BT'
        have BS' := Lib.hid (BS.out.below hb)
        clear BS
        have BS := BS'
        clear BS'
        have HB5 := Lib.hid (below_then HB4.out hb)
        clear hb HB4
        obtain ⟨x0, x1, x2, x3, x4⟩ := BT.out.cells
        obtain ⟨y0, y1, y2, y3, y4⟩ := BS.out.cells
        go_wp2_with fail
        go_ret
        exact .bool rfl HB5.out
      | true =>
        rw [g] at CR
        by_cases hn0 : n = 0
        · have e0 : decide ((0 : Int) < n) = false := decide_eq_false (by omega)
          have e0' : decide (0 < n) = false := decide_eq_false (by omega)
          have hdd : ts = [] ∨ (ts.headD T0).d = t.d := .inl (List.eq_nil_of_length_eq_zero (by rw [LX.out]; exact hn0))
          go_wp2_with fail
          refine quiet_after (by kernel_rfl) (by kernel_rfl) ?_
          repeat (first | go_big_quiet_step ((go_at_call 19; with_reducible exact calls_after (CR.out _))) | quiet_step ((go_at_call 19; with_reducible exact calls_after (CR.out _))))
          refine wpQuiet_nil ?_
          intro wz hw'
          obtain ⟨p, rfl⟩ := hw'
          obtain ⟨w4, hb⟩ := p
          dsimp only
          clear a0 a1 a2 a3 a4 CR
          have HX' := Lib.hid (HX.out.below At.stays hb)
          clear HX
          have HX := HX'
          clear HX'
          have HQ' := Lib.hid (HQ.out.below At.stays hb)
          clear HQ
          have HQ := HQ'
          clear HQ'
          have BT' := Lib.hid (BT.out.below hb)
          clear BT
          have BT := BT'
          clear BT'
          have BS' := Lib.hid (BS.out.below hb)
          clear BS
          have BS := BS'
          clear BS'
          have HB4 := Lib.hid (below_then HB3.out hb)
          clear hb HB3
          obtain ⟨x0, x1, x2, x3, x4⟩ := BT.out.cells
          obtain ⟨y0, y1, y2, y3, y4⟩ := BS.out.cells
          have HD := Lib.hid (law_holds hf g hdd)
          clear hf g hdd
          obtain ⟨wl, hwl⟩ : ∃ q, q = w4 := ⟨_, rfl⟩
          subst hwl
          have BB0 := Lib.hid (Below.refl wl.heap.size wl)
          have ANY0 := Lib.hid (show (ts.take 0).any (fun s => leqB s t) = false from rfl)
          clear x0 x1 x2 x3 x4 y0 y1 y2 y3 y4
          go_wp2_with fail
          go_loopw [10, 11] (fun v i wr => ∃ (k : Nat) (b : Bool), k ≤ n ∧ i = .int .i64 k ∧ v = .bool b ∧ Hid ((ts.take k).any (fun s => leqB s t) = b) ∧ Hid (Below wl.heap.size wl wr)) (fun _ i _ => n - (intOf i).toNat)
          case atStart => exact ⟨0, false, Nat.zero_le _, rfl, rfl, ANY0, BB0⟩
          case round =>
            clear BB0 ANY0
            obtain ⟨k, b, hk, rfl, rfl, HA, HB⟩ := hrel
            by_cases hlt : k < n
            · exact absurd hlt (by omega)
            · have hkn : k = n := by omega
              subst hkn
              have hd : decide ((k : Int) < k) = false := decide_eq_false (by omega)
              have hd' : decide (k < k) = false := decide_eq_false (by omega)
              have HH := Lib.hid (show holdsF q1 t = !b from by rw [HD.out]; have := HA.out; rw [List.take_of_length_le (by rw [LX.out]; omega)] at this; rw [this])
              have CH := Lib.hid (fun W h => holds_any Q m1 qc q1 t W h (by omega))
              rw [HH.out] at CH
              have hb := HB.out
              clear HA HD HH HB
              obtain ⟨w5, hwr⟩ : ∃ q, q = wr := ⟨_, rfl⟩
              subst hwr
              have HX' := Lib.hid (HX.out.below At.stays hb)
              clear HX
              have HX := HX'
              clear HX'
              have HQ' := Lib.hid (HQ.out.below At.stays hb)
              clear HQ
              have HQ := HQ'
              clear HQ'
              have BT' := Lib.hid (BT.out.below hb)
              clear BT
              have BT := BT'
              clear BT'
              have BS' := Lib.hid (BS.out.below hb)
              clear BS
              have BS := BS'
              clear BS'
              have HB5 := Lib.hid (below_then HB4.out hb)
              clear hb HB4
              obtain ⟨x0, x1, x2, x3, x4⟩ := BT.out.cells
              obtain ⟨y0, y1, y2, y3, y4⟩ := BS.out.cells
              go_wp2_with fail
              refine (CH.out _ HQ.out).mono ?_
              clear x0 x1 x2 x3 x4 y0 y1 y2 y3 y4
              rintro e w6 ⟨rfl, hb⟩
              have HX' := Lib.hid (HX.out.below At.stays hb)
              clear HX
              have HX := HX'
              clear HX'
              have HQ' := Lib.hid (HQ.out.below At.stays hb)
              clear HQ
              have HQ := HQ'
              clear HQ'
              have BT' := Lib.hid (BT.out.below hb)
              clear BT
              have BT := BT'
              clear BT'
              have BS' := Lib.hid (BS.out.below hb)
              clear BS
              have BS := BS'
              clear BS'
              have HB6 := Lib.hid (below_then HB5.out hb)
              clear hb HB5
              obtain ⟨x0, x1, x2, x3, x4⟩ := BT.out.cells
              obtain ⟨y0, y1, y2, y3, y4⟩ := BS.out.cells
              go_wp2_with fail
              refine (works_any _).mono ?_
              clear x0 x1 x2 x3 x4 y0 y1 y2 y3 y4
              rintro e w7 ⟨rfl, hb⟩
              have HX' := Lib.hid (HX.out.below At.stays hb)
              clear HX
              have HX := HX'
              clear HX'
              have HQ' := Lib.hid (HQ.out.below At.stays hb)
              clear HQ
              have HQ := HQ'
              clear HQ'
              have BT' := Lib.hid (BT.out.below hb)
              clear BT
              have BT := BT'
              clear BT'
              have BS' := Lib.hid (BS.out.below hb)
              clear BS
              have BS := BS'
              clear BS'
              have HB7 := Lib.hid (below_then HB6.out hb)
              clear hb HB6
              obtain ⟨x0, x1, x2, x3, x4⟩ := BT.out.cells
              obtain ⟨y0, y1, y2, y3, y4⟩ := BS.out.cells
              go_wp2_with fail
              go_ret
              exact .bool rfl HB7.out
        have e0 : decide ((0 : Int) < n) = true := decide_eq_true (by omega)
        have e0' : decide (0 < n) = true := decide_eq_true (by omega)
        have hn0' : (0 : Int) < n := by omega
        obtain ⟨bq, oq, rfl, hcq⟩ := HX.out.at_ (by omega)
        obtain ⟨s0, h0⟩ : ∃ s0, ts[0]? = some s0 := ⟨_, List.getElem?_eq_getElem (by rw [LX.out]; omega)⟩
        have h00 := (hcq 0 s0 h0).c0
        rw [Nat.zero_mul, Nat.add_zero] at h00
        have hsd : (ts.headD T0) = s0 := by cases ts with | nil => simp at h0 | cons a l => simpa using h0
        have b0 := fun p : After w3 => cell_after h00 p
        clear hcq h0 h00
        by_cases gd : s0.d = t.d
        · have hdd : ts = [] ∨ (ts.headD T0).d = t.d := .inr (by rw [hsd]; exact gd)
          rw [gd] at b0
          clear gd hsd
          go_wp2_with fail
          refine quiet_after (by kernel_rfl) (by kernel_rfl) ?_
          repeat (first | go_big_quiet_step ((go_at_call 19; with_reducible exact calls_after (CR.out _))) | quiet_step ((go_at_call 19; with_reducible exact calls_after (CR.out _))))
          refine wpQuiet_nil ?_
          intro wz hw'
          obtain ⟨p, rfl⟩ := hw'
          obtain ⟨w4, hb⟩ := p
          dsimp only
          clear a0 a1 a2 a3 a4 b0 CR
          have HX' := Lib.hid (HX.out.below At.stays hb)
          clear HX
          have HX := HX'
          clear HX'
          have HQ' := Lib.hid (HQ.out.below At.stays hb)
          clear HQ
          have HQ := HQ'
          clear HQ'
          have BT' := Lib.hid (BT.out.below hb)
          clear BT
          have BT := BT'
          clear BT'
          have BS' := Lib.hid (BS.out.below hb)
          clear BS
          have BS := BS'
          clear BS'
          have HB4 := Lib.hid (below_then HB3.out hb)
          clear hb HB3
          obtain ⟨x0, x1, x2, x3, x4⟩ := BT.out.cells
          obtain ⟨y0, y1, y2, y3, y4⟩ := BS.out.cells
          have HD := Lib.hid (law_holds hf g hdd)
          clear hf g hdd
          obtain ⟨wl, hwl⟩ : ∃ q, q = w4 := ⟨_, rfl⟩
          subst hwl
          have BB0 := Lib.hid (Below.refl wl.heap.size wl)
          have ANY0 := Lib.hid (show (ts.take 0).any (fun s => leqB s t) = false from rfl)
          clear x0 x1 x2 x3 x4 y0 y1 y2 y3 y4
          go_wp2_with fail
          go_loopw [10, 11] (fun v i wr => ∃ (k : Nat) (b : Bool), k ≤ n ∧ i = .int .i64 k ∧ v = .bool b ∧ Hid ((ts.take k).any (fun s => leqB s t) = b) ∧ Hid (Below wl.heap.size wl wr)) (fun _ i _ => n - (intOf i).toNat)
          case atStart => exact ⟨0, false, Nat.zero_le _, rfl, rfl, ANY0, BB0⟩
          case round =>
            clear BB0 ANY0
            obtain ⟨k, b, hk, rfl, rfl, HA, HB⟩ := hrel
            by_cases hlt : k < n
            · have hd : decide ((k : Int) < n) = true := decide_eq_true (by omega)
              have hd' : decide (k < n) = true := decide_eq_true (by omega)
              have hkn : (k : Int) < n := by omega
              obtain ⟨bb, off, y, eA, hy, hc⟩ := (HX.out.below At.stays HB.out).elem hlt
              cases eA
              have HT := Lib.hid (any_take (t := t) hy)
              have m0 := fun p : After wr => cell_after hc.c0 p
              have m1 := fun p : After wr => cell_after hc.c1 p
              have m2 := fun p : After wr => cell_after hc.c2 p
              have m3 := fun p : After wr => cell_after hc.c3 p
              have m4 := fun p : After wr => cell_after hc.c4 p
              have hbx := BT.out.below HB.out
              have a0 := fun p : After wr => (hbx.below p.below).cells.1
              have a1 := fun p : After wr => (hbx.below p.below).cells.2.1
              have a2 := fun p : After wr => (hbx.below p.below).cells.2.2.1
              have a3 := fun p : After wr => (hbx.below p.below).cells.2.2.2.1
              have a4 := fun p : After wr => (hbx.below p.below).cells.2.2.2.2
              have CL := Lib.hid (fun W => leq_any y t W)
              clear hy hc
              cases b with
              | true =>
                have HN := Lib.hid (show (ts.take (k + 1)).any (fun s => leqB s t) = true from by rw [HT.out, HA.out, Bool.true_or])
                go_wp2_with fail
                refine quiet_after (by kernel_rfl) (by kernel_rfl) ?_
                repeat (first | go_big_quiet_step (fail) | quiet_step (fail))
                refine wpQuiet_nil ?_
                intro wz hw'
                obtain ⟨p, rfl⟩ := hw'
                obtain ⟨wv, hbv⟩ := p
                dsimp only
                have HBN := Lib.hid (below_then HB.out hbv)
                clear hbv HA HB HT CL hbx m0 m1 m2 m3 m4 a0 a1 a2 a3 a4
                go_wp2_with fail
                go_roundw
                case rel => exact ⟨k + 1, true, by omega, by go_num, rfl, HN, HBN⟩
                case measure => simp [intOf]; omega
              | false =>
                obtain ⟨ly, Ely⟩ : ∃ b, leqB y t = b := ⟨_, rfl⟩
                rw [Ely] at HT CL
                clear Ely
                have HN := Lib.hid (show (ts.take (k + 1)).any (fun s => leqB s t) = ly from by rw [HT.out, HA.out, Bool.false_or])
                go_wp2_with fail
                refine quiet_after (by kernel_rfl) (by kernel_rfl) ?_
                repeat (first | go_big_quiet_step ((go_at_call 18; with_reducible exact calls_after (CL.out _))) | quiet_step ((go_at_call 18; with_reducible exact calls_after (CL.out _))))
                refine wpQuiet_nil ?_
                intro wz hw'
                obtain ⟨p, rfl⟩ := hw'
                obtain ⟨wv, hbv⟩ := p
                dsimp only
                have HBN := Lib.hid (below_then HB.out hbv)
                clear hbv HA HB HT CL hbx m0 m1 m2 m3 m4 a0 a1 a2 a3 a4
                go_wp2_with fail
                go_roundw
                case rel => exact ⟨k + 1, ly, by omega, by go_num, rfl, HN, HBN⟩
                case measure => simp [intOf]; omega
            · have hkn : k = n := by omega
              subst hkn
              have hd : decide ((k : Int) < k) = false := decide_eq_false (by omega)
              have hd' : decide (k < k) = false := decide_eq_false (by omega)
              have HH := Lib.hid (show holdsF q1 t = !b from by rw [HD.out]; have := HA.out; rw [List.take_of_length_le (by rw [LX.out]; omega)] at this; rw [this])
              have CH := Lib.hid (fun W h => holds_any Q m1 qc q1 t W h (by omega))
              rw [HH.out] at CH
              have hb := HB.out
              clear HA HD HH HB
              obtain ⟨w5, hwr⟩ : ∃ q, q = wr := ⟨_, rfl⟩
              subst hwr
              have HX' := Lib.hid (HX.out.below At.stays hb)
              clear HX
              have HX := HX'
              clear HX'
              have HQ' := Lib.hid (HQ.out.below At.stays hb)
              clear HQ
              have HQ := HQ'
              clear HQ'
              have BT' := Lib.hid (BT.out.below hb)
              clear BT
              have BT := BT'
              clear BT'
              have BS' := Lib.hid (BS.out.below hb)
              clear BS
              have BS := BS'
              clear BS'
              have HB5 := Lib.hid (below_then HB4.out hb)
              clear hb HB4
              obtain ⟨x0, x1, x2, x3, x4⟩ := BT.out.cells
              obtain ⟨y0, y1, y2, y3, y4⟩ := BS.out.cells
              go_wp2_with fail
              refine (CH.out _ HQ.out).mono ?_
              clear x0 x1 x2 x3 x4 y0 y1 y2 y3 y4
              rintro e w6 ⟨rfl, hb⟩
              have HX' := Lib.hid (HX.out.below At.stays hb)
              clear HX
              have HX := HX'
              clear HX'
              have HQ' := Lib.hid (HQ.out.below At.stays hb)
              clear HQ
              have HQ := HQ'
              clear HQ'
              have BT' := Lib.hid (BT.out.below hb)
              clear BT
              have BT := BT'
              clear BT'
              have BS' := Lib.hid (BS.out.below hb)
              clear BS
              have BS := BS'
              clear BS'
              have HB6 := Lib.hid (below_then HB5.out hb)
              clear hb HB5
              obtain ⟨x0, x1, x2, x3, x4⟩ := BT.out.cells
              obtain ⟨y0, y1, y2, y3, y4⟩ := BS.out.cells
              go_wp2_with fail
              refine (works_any _).mono ?_
              clear x0 x1 x2 x3 x4 y0 y1 y2 y3 y4
              rintro e w7 ⟨rfl, hb⟩
              have HX' := Lib.hid (HX.out.below At.stays hb)
              clear HX
              have HX := HX'
              clear HX'
              have HQ' := Lib.hid (HQ.out.below At.stays hb)
              clear HQ
              have HQ := HQ'
              clear HQ'
              have BT' := Lib.hid (BT.out.below hb)
              clear BT
              have BT := BT'
              clear BT'
              have BS' := Lib.hid (BS.out.below hb)
              clear BS
              have BS := BS'
              clear BS'
              have HB7 := Lib.hid (below_then HB6.out hb)
              clear hb HB6
              obtain ⟨x0, x1, x2, x3, x4⟩ := BT.out.cells
              obtain ⟨y0, y1, y2, y3, y4⟩ := BS.out.cells
              go_wp2_with fail
              go_ret
              exact .bool rfl HB7.out
        · have gd' : (s0.d != t.d) = true := by simpa using gd
          clear gd hsd hf g
          go_wp2_with fail
          refine quiet_after (by kernel_rfl) (by kernel_rfl) ?_
          repeat (first | go_big_quiet_step ((go_at_call 19; with_reducible exact calls_after (CR.out _))) | quiet_step ((go_at_call 19; with_reducible exact calls_after (CR.out _))))
          refine wpQuiet_nil ?_
          intro wz hw'
          obtain ⟨p, rfl⟩ := hw'
          obtain ⟨w4, hb⟩ := p
          dsimp only
          clear a0 a1 a2 a3 a4 b0 CR
          have HX' := Lib.hid (HX.out.below At.stays hb)
          clear HX
          have HX := HX'
          clear HX'
          have HQ' := Lib.hid (HQ.out.below At.stays hb)
          clear HQ
          have HQ := HQ'
          clear HQ'
          have BT' := Lib.hid (BT.out.below hb)
          clear BT
          have BT := BT'
          clear BT'
          have BS' := Lib.hid (BS.out.below hb)
          clear BS
          have BS := BS'
          clear BS'
          have HB4 := Lib.hid (below_then HB3.out hb)
          clear hb HB3
          obtain ⟨x0, x1, x2, x3, x4⟩ := BT.out.cells
          obtain ⟨y0, y1, y2, y3, y4⟩ := BS.out.cells
          go_wp2_with fail
          refine (works_any _).mono ?_
          clear x0 x1 x2 x3 x4 y0 y1 y2 y3 y4
          rintro e w5 ⟨rfl, hb⟩
          have HX' := Lib.hid (HX.out.below At.stays hb)
          clear HX
          have HX := HX'
          clear HX'
          have HQ' := Lib.hid (HQ.out.below At.stays hb)
          clear HQ
          have HQ := HQ'
          clear HQ'
          have BT' := Lib.hid (BT.out.below hb)
          clear BT
          have BT := BT'
          clear BT'
          have BS' := Lib.hid (BS.out.below hb)
          clear BS
          have BS := BS'
          clear BS'
          have HB5 := Lib.hid (below_then HB4.out hb)
          clear hb HB4
          obtain ⟨x0, x1, x2, x3, x4⟩ := BT.out.cells
          obtain ⟨y0, y1, y2, y3, y4⟩ := BS.out.cells
          go_wp2_with fail
          go_ret
          exact .bool rfl HB5.out
end Go.Proofs.Ytamniepfgddecaa
