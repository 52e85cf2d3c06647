/- Contract of the reference's Of. -/
import Derived.Test.YtebpepjlhanopaaRows
import Derived.Test.YtebpepjlhanopaaWords
import Derived.Test.YtebpepjlhanopaaByts
import Derived.Test.YtebpepjlhanopaaFrame
import Derived.Test.YtebpepjlhanopaaElems
import Derived.Test.YtebpepjlhanopaaS1
import Derived.Test.YtebpepjlhanopaaS2
import Derived.Test.YtebpepjlhanopaaS4
import Derived.Test.YtebpepjlhanopaaS7
import Derived.Test.YtebpepjlhanopaaS8
import Derived.Test.YtebpepjlhanopaaEqs
import Derived.Test.YtebpepjlhanopaaU1
import Derived.Test.YtebpepjlhanopaaU4
import Derived.Test.YtebpepjlhanopaaA1
import Derived.Test.YtebpepjlhanopaaA2
import Derived.Test.YtebpepjlhanopaaA3
import Derived.Test.YtebpepjlhanopaaA4
import Derived.Test.YtebpepjlhanopaaA5
import Derived.Test.YtebpepjlhanopaaF1
import Derived.Test.YtebpepjlhanopaaP1
import Derived.Test.YtebpepjlhanopaaB1
import Derived.Test.YtebpepjlhanopaaP2
namespace Go.Proofs.Ytebpepjlhanopaa
open Go Go.RowKit Go.Proofs.Tail Go.Sort
set_option linter.unusedSimpArgs false
set_option linter.unusedVariables false
attribute [local go_sem high] eq_stamp
theorem Tms.take {w : World} {A : Option Addr} {n c : Nat} {ts : List T} (h : Tms w A n c ts) {m : Nat} (hm : m ≤ n) : Tms w A m c (ts.take m) :=
  ⟨by rw [List.length_take, h.len]; omega, Nat.le_trans hm h.cap, Nat.le_trans hm h.big, fun hp => by
    obtain ⟨b, off, rfl, hc⟩ := h.at_ (by omega)
    refine ⟨b, off, rfl, fun j x hj => hc j x ?_⟩
    rw [List.getElem?_take] at hj
    split at hj
    · exact hj
    · cases hj⟩
theorem Tms.drop {w : World} {b o n c : Nat} {xs : List T} (h : Tms w (some ⟨b, o, none⟩) n c xs) {m : Nat} (hm : m ≤ n) {c' : Nat} (hc : n - m ≤ c') : Tms w (some ⟨b, o + m * 5, none⟩) (n - m) c' (xs.drop m) :=
  ⟨by rw [List.length_drop, h.len], hc, by have := h.big; omega, fun hp => by
    obtain ⟨b', off, e, hc⟩ := h.at_ (by omega)
    injection e with e
    injection e with e1 e2
    subst e1 e2
    refine ⟨b, o + m * 5, rfl, fun j x hj => ?_⟩
    rw [List.getElem?_drop] at hj
    have := hc (m + j) x hj
    rw [Nat.add_mul, ← Nat.add_assoc] at this
    exact this⟩
theorem slice_to {w : World} {A : Option Addr} {n c k : Nat} {xs : List T} (h : Tms w A n c xs) (hk : k ≤ n) :
    ∀ W, (Instr.slice 33 (.slice A n c) none (some (.int .i64 k)) none).run Try.prog W = .ok (.slice A k c) W := by
  have hc := h.cap
  intro W
  have h1 : (0 : Int) ≤ k := by omega
  have h2 : (k : Int) ≤ c := by omega
  have u := Try.underlying33
  have z := Try.sizeOf28
  go_simp
theorem slice_from {w : World} {A : Option Addr} {n c k : Nat} {xs : List T} (h : Tms w A n c xs) (hk : k ≤ n) :
    ∃ Ad, (∀ W, (Instr.slice 33 (.slice A n c) (some (.int .i64 k)) none none).run Try.prog W = .ok (.slice Ad (n - k) (c - k)) W) ∧ Tms w Ad (n - k) (c - k) (xs.drop k) := by
  have hc := h.cap
  refine ⟨if c = k then A else A.map (·.add (k * 5)), fun W => ?_, ?_⟩
  · have h1 : (0 : Int) ≤ k := by omega
    have h2 : (k : Int) ≤ n := by omega
    have u := Try.underlying33
    have z := Try.sizeOf28
    go_simp
  · refine ⟨by rw [List.length_drop, h.len], by omega, by have := h.big; omega, fun hn => ?_⟩
    obtain ⟨b, off, rfl, _⟩ := h.at_ (by omega)
    rw [if_neg (by omega)]
    have := (h.drop hk (c' := n) (by omega)).at_ hn
    rw [show (some (⟨b, off, none⟩ : Addr)).map (·.add (k * 5)) = some ⟨b, off + k * 5, none⟩ by
      simp only [Option.map_some, Addr.add]; split <;> simp_all]
    exact this
/-- The j-th one, y, does not keep the k-th one, z, out. -/
def OkL (k : Nat) (z : T) (j : Nat) (y : T) : Prop := (y ≠ z → leqB y z = false) ∧ ¬ (j < k ∧ y = z)
def Lst (ts : List T) (k q : Nat) (z : T) (r : Bool) : Prop := r = true ↔ ∀ j y, j < q → ts[j]? = some y → OkL k z j y
theorem Lst.zero (ts : List T) (k : Nat) (z : T) : Lst ts k 0 z true := ⟨fun _ j y h => absurd h (Nat.not_lt_zero _), fun _ => rfl⟩
theorem Lst.ok {ts : List T} {k q : Nat} {z y : T} {r : Bool} (h : Lst ts k q z r) (hy : ts[q]? = some y) (ho : OkL k z q y) : Lst ts k (q + 1) z r := by
  unfold Lst at *
  rw [h]
  constructor
  · intro h1 j x hj hx
    rcases Nat.eq_or_lt_of_le (Nat.le_of_lt_succ hj) with e | e
    · subst e; rw [hy] at hx; injection hx with hx; subst hx; exact ho
    · exact h1 j x e hx
  · intro h1 j x hj hx; exact h1 j x (by omega) hx
theorem Lst.bad {ts : List T} {k q : Nat} {z y : T} (hy : ts[q]? = some y) (ho : ¬ OkL k z q y) : Lst ts k (q + 1) z false :=
  ⟨fun h => (by cases h), fun h => absurd (h q y (by omega) hy) ho⟩
theorem Lst.all {ts : List T} {k n : Nat} {z : T} {r : Bool} (h : Lst ts k n z r) (hn : ts.length = n) (hz : ts[k]? = some z) : r = true ↔ Least ts k z := by
  unfold Lst at h
  rw [h]
  constructor
  · intro h1
    refine ⟨⟨List.mem_of_getElem? hz, fun s hs hl => ?_⟩, fun hm => ?_⟩
    · obtain ⟨j, hj, e⟩ := List.getElem_of_mem hs
      have := (h1 j s (by omega) (by rw [← e, List.getElem?_eq_getElem hj])).1
      by_cases e2 : s = z
      · exact e2
      · rw [this e2] at hl; cases hl
    · obtain ⟨j, hj, e⟩ := take_mem hm
      have hjl := (List.getElem?_eq_some_iff.1 e).1
      exact (h1 j z (by omega) e).2 ⟨hj, rfl⟩
  · rintro ⟨h1, h2⟩ j y hj hy
    refine ⟨fun hne => ?_, ?_⟩
    · cases e : leqB y z with
      | false => rfl
      | true => exact absurd (h1.2 y (List.mem_of_getElem? hy) e) hne
    · rintro ⟨h3, rfl⟩
      exact h2 (by rw [List.mem_take_iff_getElem]; obtain ⟨k1, e1⟩ := List.getElem?_eq_some_iff.1 hy; exact ⟨j, by omega, e1⟩)
set_option maxRecDepth 100000 in
set_option maxHeartbeats 64000000 in
theorem refof_any (A : Option Addr) (n c : Nat) (ts : List T) (w : World) (hX : Tms w A n c ts) (hlim : n ≤ 1000000) :
    Calls Try.prog 37 #[.slice A n c] w (GivesOf (ofT ts) w) := by
  have HX := Lib.hid hX
  have LX := Lib.hid hX.len
  have B0 := Lib.hid (Below.refl w.heap.size w)
  have P0 := Lib.hid (OutR.zero ts)
  have O0 := Lib.hid (show w.ownsRow w.heap.size 28 5 (.slice none 0 0) ([] : List T).length (recT []) from World.ownsRow_nil w w.heap.size 28 5)
  clear hX
  go_enter Try.func37, Try.ntmps37
  go_wp2_with fail
  go_loopw [4, 5] (fun v i wr => ∃ (k : Nat) (l : List T), k ≤ n ∧ i = .int .i64 k ∧ Hid (OutR ts k l) ∧ Hid (wr.ownsRow w.heap.size 28 5 v l.length (recT l)) ∧ Hid (Below w.heap.size w wr)) (fun _ i _ => n - (intOf i).toNat)
  case atStart => exact ⟨0, [], Nat.zero_le _, rfl, P0, O0, B0⟩
  case round =>
    clear P0 B0 O0
    obtain ⟨k, l, hk, rfl, HP, HO, HB⟩ := hrel
    by_cases hlt : k < n
    · have hd : decide ((k : Int) < n) = true := decide_eq_true (by omega)
      have hd' : decide (k < n) = true := decide_eq_true (by omega)
      have hX0 := HX.out.below At.stays HB.out
      obtain ⟨b, off, z, rfl, hz, hc⟩ := hX0.elem hlt
      have c0 := hc.c0
      have c1 := hc.c1
      have c2 := hc.c2
      have c3' := hc.c3
      have c4 := hc.c4
      have HZ := Lib.hid hz
      obtain ⟨t0, h0⟩ : ∃ t0, ts[0]? = some t0 := ⟨_, List.getElem?_eq_getElem (by rw [LX.out]; omega)⟩
      have hh : ts.headD T0 = t0 := by
        cases ts with
        | nil => simp at h0
        | cons a l => simpa using h0
      have HH := Lib.hid hh
      have HW := below_new wr (.cells #[.int .i64 z.d, .int .i64 z.e, .int .i64 z.a, .int .i64 z.b, .int .i64 z.c] 28)
      have HBX := Lib.hid (Bx.new wr z _ rfl)
      have hc0 := (cells_of (hX0.below At.stays HW) h0).c0
      rw [Nat.zero_mul, Nat.add_zero] at hc0
      obtain ⟨wb, hwb⟩ : ∃ wb, wb = wr.alloc (.cells #[.int .i64 z.d, .int .i64 z.e, .int .i64 z.a, .int .i64 z.b, .int .i64 z.c] 28) := ⟨_, rfl⟩
      have HB1 := Lib.hid (show Below w.heap.size w wb by rw [hwb]; exact below_then HB.out HW)
      have HO1 := Lib.hid (show wb.ownsRow w.heap.size 28 5 u4 l.length (recT l) by rw [hwb]; exact own_below HO.out HW)
      rw [← hwb] at HBX hc0
      have HWB := Lib.hid hwb
      have hsz : wr.heap.size = wr.heap.size := rfl
      have CR := Lib.hid (fun W => refright_any z W)
      have hn0 : (0 : Int) < n := by omega
      have hkn : (k : Int) < n := by omega
      clear hz hc h0 hh HW hX0 HB HO hwb
      have HB := HB1
      clear HB1
      have z0 := fun p : After wb => (HBX.out.below p.below).cells.1
      have z1 := fun p : After wb => (HBX.out.below p.below).cells.2.1
      have z2 := fun p : After wb => (HBX.out.below p.below).cells.2.2.1
      have z3 := fun p : After wb => (HBX.out.below p.below).cells.2.2.2.1
      have z4 := fun p : After wb => (HBX.out.below p.below).cells.2.2.2.2
      have d0 := fun p : After wb => cell_after hc0 p
      have cz : ∀ p q : Nat, True := fun _ _ => trivial
      cases g : z.rightB with
      | false =>
        rw [g] at CR
        have HQ := Lib.hid (show ofT ts = none from of_bad_at HZ.out (.inl g))
        clear g hc0
        go_wp2_with fail
        rw [← HWB.out]
        refine quiet_after (by kernel_rfl) (by kernel_rfl) ?_
        repeat (first | go_big_quiet_step ((first | (go_at_call 34; with_reducible exact calls_after (CR.out _)) | (go_at_call 55; with_reducible exact calls_after (CC.out _)) | (go_at_call 56; with_reducible exact calls_after (CL.out _)))) | quiet_step ((first | (go_at_call 34; with_reducible exact calls_after (CR.out _)) | (go_at_call 55; with_reducible exact calls_after (CC.out _)) | (go_at_call 56; with_reducible exact calls_after (CL.out _)))))
        refine wpQuiet_nil ?_
        intro wz hw'
        obtain ⟨p, rfl⟩ := hw'
        obtain ⟨w5, hbq⟩ := p
        dsimp only
        have HBQ := Lib.hid hbq
        have HB5 := Lib.hid (below_then HB.out hbq)
        clear hbq z0 z1 z2 z3 z4 d0 CR
        go_wp2_with fail
        go_ret2
        exact ⟨_, by rw [HQ.out]; rfl, by rw [HQ.out]; exact World.ownsRow_nil _ _ _ _, HB5.out⟩
      | true =>
        rw [g] at CR
        by_cases gd : z.d = t0.d
        · have HG := Lib.hid (show z.rightB = true ∧ z.d = (ts.headD T0).d from ⟨g, by rw [HH.out]; exact gd⟩)
          rw [← gd] at hc0
          clear d0
          have d0 := fun p : After wb => cell_after hc0 p
          clear g gd hc0
          go_wp2_with fail
          rw [← HWB.out]
          refine quiet_after (by kernel_rfl) (by kernel_rfl) ?_
          repeat (first | go_big_quiet_step ((first | (go_at_call 34; with_reducible exact calls_after (CR.out _)) | (go_at_call 55; with_reducible exact calls_after (CC.out _)) | (go_at_call 56; with_reducible exact calls_after (CL.out _)))) | quiet_step ((first | (go_at_call 34; with_reducible exact calls_after (CR.out _)) | (go_at_call 55; with_reducible exact calls_after (CC.out _)) | (go_at_call 56; with_reducible exact calls_after (CL.out _)))))
          refine wpQuiet_nil ?_
          intro wz hw'
          obtain ⟨p, rfl⟩ := hw'
          obtain ⟨w5, hbq⟩ := p
          dsimp only
          have HBQ := Lib.hid hbq
          have HB5 := Lib.hid (below_then HB.out hbq)
          clear hbq z0 z1 z2 z3 z4 d0 CR
          go_wp2_with fail
          obtain ⟨wo, hwo⟩ : ∃ wo, wo = w5 := ⟨_, rfl⟩
          subst hwo
          have HXo := Lib.hid (HX.out.below At.stays HB5.out)
          have HBXo := Lib.hid (HBX.out.below HBQ.out)
          have L0 := Lib.hid (Lst.zero ts k z)
          have BB0 := Lib.hid (Below.refl wo.heap.size wo)
          clear HB
          go_loopw [7, 8] (fun v j wq => ∃ (q : Nat) (r : Bool), q ≤ n ∧ j = .int .i64 q ∧ v = .bool r ∧ Hid (Lst ts k q z r) ∧ Hid (Below wo.heap.size wo wq)) (fun _ j _ => n - (intOf j).toNat)
          case atStart => exact ⟨0, true, Nat.zero_le _, rfl, rfl, L0, BB0⟩
          case round =>
            clear L0 BB0
            obtain ⟨q, r, hq, rfl, rfl, HL, HB⟩ := hrel
            by_cases hlq : q < n
            · have dq : decide ((q : Int) < n) = true := decide_eq_true (by omega)
              have dq' : decide (q < n) = true := decide_eq_true (by omega)
              have hX9 := HXo.out.below At.stays HB.out
              obtain ⟨y, hy⟩ : ∃ y, ts[q]? = some y := ⟨_, List.getElem?_eq_getElem (by rw [LX.out]; omega)⟩
              have hcy := cells_of hX9 hy
              have HY := Lib.hid hy
              have hbx := HBXo.out.below HB.out
              have hqn : (q : Int) < n := by omega
              have CL := Lib.hid (fun W => refleq_any y z W)
              have y0 := fun p : After wr => cell_after hcy.c0 p
              have y1 := fun p : After wr => cell_after hcy.c1 p
              have y2 := fun p : After wr => cell_after hcy.c2 p
              have y3 := fun p : After wr => cell_after hcy.c3 p
              have y4 := fun p : After wr => cell_after hcy.c4 p
              have x0 := fun p : After wr => (hbx.below p.below).cells.1
              have x1 := fun p : After wr => (hbx.below p.below).cells.2.1
              have x2 := fun p : After wr => (hbx.below p.below).cells.2.2.1
              have x3 := fun p : After wr => (hbx.below p.below).cells.2.2.2.1
              have x4 := fun p : After wr => (hbx.below p.below).cells.2.2.2.2
              clear hX9 hcy hy
              by_cases e : y = z
              · have he := eqT_of e
                by_cases hqk : q < k
                · have ek : decide ((q : Int) < k) = true := decide_eq_true (by omega)
                  have ek' : decide (q < k) = true := decide_eq_true (by omega)
                  have HN := Lib.hid (Lst.bad (k := k) (z := z) HY.out (fun h => h.2 ⟨hqk, e⟩))
                  clear e
                  go_wp2_with fail
                  refine quiet_after (by kernel_rfl) (by kernel_rfl) ?_
                  repeat (first | go_big_quiet_step ((first | (go_at_call 34; with_reducible exact calls_after (CR.out _)) | (go_at_call 55; with_reducible exact calls_after (CC.out _)) | (go_at_call 56; with_reducible exact calls_after (CL.out _)))) | quiet_step ((first | (go_at_call 34; with_reducible exact calls_after (CR.out _)) | (go_at_call 55; with_reducible exact calls_after (CC.out _)) | (go_at_call 56; with_reducible exact calls_after (CL.out _)))))
                  refine wpQuiet_nil ?_
                  intro wz hw'
                  obtain ⟨p, rfl⟩ := hw'
                  obtain ⟨w5, hbq⟩ := p
                  dsimp only
                  skip
                  have HB5' := Lib.hid (below_then HB.out hbq)
                  clear hbq y0 y1 y2 y3 y4 x0 x1 x2 x3 x4 CL he hbx HL
                  go_wp2_with fail
                  go_roundw
                  case rel => exact ⟨q + 1, false, by omega, by go_num, rfl, HN, HB5'⟩
                  case measure => simp [intOf]; omega
                · have ek : decide ((q : Int) < k) = false := decide_eq_false (by omega)
                  have ek' : decide (q < k) = false := decide_eq_false (by omega)
                  have HN := Lib.hid (HL.out.ok HY.out ⟨fun h => absurd e h, fun h => hqk h.1⟩)
                  clear e
                  go_wp2_with fail
                  refine quiet_after (by kernel_rfl) (by kernel_rfl) ?_
                  repeat (first | go_big_quiet_step ((first | (go_at_call 34; with_reducible exact calls_after (CR.out _)) | (go_at_call 55; with_reducible exact calls_after (CC.out _)) | (go_at_call 56; with_reducible exact calls_after (CL.out _)))) | quiet_step ((first | (go_at_call 34; with_reducible exact calls_after (CR.out _)) | (go_at_call 55; with_reducible exact calls_after (CC.out _)) | (go_at_call 56; with_reducible exact calls_after (CL.out _)))))
                  refine wpQuiet_nil ?_
                  intro wz hw'
                  obtain ⟨p, rfl⟩ := hw'
                  obtain ⟨w5, hbq⟩ := p
                  dsimp only
                  skip
                  have HB5' := Lib.hid (below_then HB.out hbq)
                  clear hbq y0 y1 y2 y3 y4 x0 x1 x2 x3 x4 CL he hbx HL
                  go_wp2_with fail
                  go_roundw
                  case rel => exact ⟨q + 1, r, by omega, by go_num, rfl, HN, HB5'⟩
                  case measure => simp [intOf]; omega
              · have he := eqT_no e
                cases gl : leqB y z with
                | true =>
                  have HN := Lib.hid (Lst.bad (k := k) (z := z) HY.out (fun h => by have := h.1 e; rw [gl] at this; cases this))
                  rw [gl] at CL
                  clear e gl
                  go_wp2_with fail
                  refine quiet_after (by kernel_rfl) (by kernel_rfl) ?_
                  repeat (first | go_big_quiet_step ((first | (go_at_call 34; with_reducible exact calls_after (CR.out _)) | (go_at_call 55; with_reducible exact calls_after (CC.out _)) | (go_at_call 56; with_reducible exact calls_after (CL.out _)))) | quiet_step ((first | (go_at_call 34; with_reducible exact calls_after (CR.out _)) | (go_at_call 55; with_reducible exact calls_after (CC.out _)) | (go_at_call 56; with_reducible exact calls_after (CL.out _)))))
                  refine wpQuiet_nil ?_
                  intro wz hw'
                  obtain ⟨p, rfl⟩ := hw'
                  obtain ⟨w5, hbq⟩ := p
                  dsimp only
                  skip
                  have HB5' := Lib.hid (below_then HB.out hbq)
                  clear hbq y0 y1 y2 y3 y4 x0 x1 x2 x3 x4 CL he hbx HL
                  go_wp2_with fail
                  go_roundw
                  case rel => exact ⟨q + 1, false, by omega, by go_num, rfl, HN, HB5'⟩
                  case measure => simp [intOf]; omega
                | false =>
                  have HN := Lib.hid (HL.out.ok HY.out ⟨fun _ => gl, fun h => e h.2⟩)
                  rw [gl] at CL
                  clear e gl
                  by_cases hqk : q < k
                  · have ek : decide ((q : Int) < k) = true := decide_eq_true (by omega)
                    have ek' : decide (q < k) = true := decide_eq_true (by omega)
                    go_wp2_with fail
                    refine quiet_after (by kernel_rfl) (by kernel_rfl) ?_
                    repeat (first | go_big_quiet_step ((first | (go_at_call 34; with_reducible exact calls_after (CR.out _)) | (go_at_call 55; with_reducible exact calls_after (CC.out _)) | (go_at_call 56; with_reducible exact calls_after (CL.out _)))) | quiet_step ((first | (go_at_call 34; with_reducible exact calls_after (CR.out _)) | (go_at_call 55; with_reducible exact calls_after (CC.out _)) | (go_at_call 56; with_reducible exact calls_after (CL.out _)))))
                    refine wpQuiet_nil ?_
                    intro wz hw'
                    obtain ⟨p, rfl⟩ := hw'
                    obtain ⟨w5, hbq⟩ := p
                    dsimp only
                    skip
                    have HB5' := Lib.hid (below_then HB.out hbq)
                    clear hbq y0 y1 y2 y3 y4 x0 x1 x2 x3 x4 CL he hbx HL
                    go_wp2_with fail
                    go_roundw
                    case rel => exact ⟨q + 1, r, by omega, by go_num, rfl, HN, HB5'⟩
                    case measure => simp [intOf]; omega
                  · have ek : decide ((q : Int) < k) = false := decide_eq_false (by omega)
                    have ek' : decide (q < k) = false := decide_eq_false (by omega)
                    go_wp2_with fail
                    refine quiet_after (by kernel_rfl) (by kernel_rfl) ?_
                    repeat (first | go_big_quiet_step ((first | (go_at_call 34; with_reducible exact calls_after (CR.out _)) | (go_at_call 55; with_reducible exact calls_after (CC.out _)) | (go_at_call 56; with_reducible exact calls_after (CL.out _)))) | quiet_step ((first | (go_at_call 34; with_reducible exact calls_after (CR.out _)) | (go_at_call 55; with_reducible exact calls_after (CC.out _)) | (go_at_call 56; with_reducible exact calls_after (CL.out _)))))
                    refine wpQuiet_nil ?_
                    intro wz hw'
                    obtain ⟨p, rfl⟩ := hw'
                    obtain ⟨w5, hbq⟩ := p
                    dsimp only
                    skip
                    have HB5' := Lib.hid (below_then HB.out hbq)
                    clear hbq y0 y1 y2 y3 y4 x0 x1 x2 x3 x4 CL he hbx HL
                    go_wp2_with fail
                    go_roundw
                    case rel => exact ⟨q + 1, r, by omega, by go_num, rfl, HN, HB5'⟩
                    case measure => simp [intOf]; omega
            · have hqn : n = q := by omega
              subst hqn
              have dq : decide ((n : Int) < n) = false := decide_eq_false (by omega)
              have dq' : decide (n < n) = false := decide_eq_false (by omega)
              have HLS := Lib.hid (HL.out.all LX.out HZ.out)
              have HB9 := Lib.hid (below_then HB5.out HB.out)
              have HBX9 := Lib.hid (HBXo.out.below HB.out)
              have HO9 := Lib.hid (own_below HO1.out (below_then HBQ.out HB.out))
              clear HL HB HBQ
              cases r with
              | false =>
                have HP9 := Lib.hid (HP.out.skip HZ.out HG.out (fun h => by have := HLS.out.2 h; cases this))
                clear HP HLS HBX9 HO1
                go_wp2_with fail
                go_roundw
                case rel => exact ⟨k + 1, l, by omega, by go_num, HP9, HO9, HB9⟩
                case measure => simp [intOf]; omega
              | true =>
                have HLE := Lib.hid (HLS.out.1 rfl)
                clear HLS
                have hml := HP.out.len
                rw [LX.out] at hml
                generalize hm : l.length = m at *
                have HML := Lib.hid hm
                obtain ⟨A4, c5, ev, hr4⟩ := own_tms (n := m) HO9.out (by omega)
                subst ev
                have HR4 := Lib.hid hr4
                clear hr4 hm HO1
                obtain ⟨w9, hw9⟩ : ∃ w9, w9 = wr := ⟨_, rfl⟩
                subst hw9
                have G0 := Lib.hid (show ∀ t ∈ l.take 0, cfT t z < 0 by simp)
                have BB0 := Lib.hid (Below.refl w9.heap.size w9)
                go_wp2_with fail
                go_loopw [9] (fun i wp => ∃ p : Nat, p ≤ m ∧ i = .int .i64 p ∧ Hid (∀ t ∈ l.take p, cfT t z < 0) ∧ Hid (Below w9.heap.size w9 wp)) (fun i _ => m - (intOf i).toNat)
                case atStart => exact ⟨0, Nat.zero_le _, rfl, G0, BB0⟩
                case round =>
                  clear G0 BB0
                  obtain ⟨p, hp, rfl, HG2, HB⟩ := hrel
                  by_cases hlp : p < m
                  · have dp : decide ((p : Int) < m) = true := decide_eq_true (by omega)
                    have dp' : decide (p < m) = true := decide_eq_true (by omega)
                    obtain ⟨b', off', y, rfl, hy, hcy⟩ := (HR4.out.below At.stays HB.out).elem hlp
                    have hbx := HBX9.out.below HB.out
                    have HY := Lib.hid hy
                    have hpm : (p : Int) < m := by omega
                    have CC := Lib.hid (fun W => refcompare_any y z W)
                    have y0 := fun p : After wr => cell_after hcy.c0 p
                    have y1 := fun p : After wr => cell_after hcy.c1 p
                    have y2 := fun p : After wr => cell_after hcy.c2 p
                    have y3 := fun p : After wr => cell_after hcy.c3 p
                    have y4 := fun p : After wr => cell_after hcy.c4 p
                    have x0 := fun p : After wr => (hbx.below p.below).cells.1
                    have x1 := fun p : After wr => (hbx.below p.below).cells.2.1
                    have x2 := fun p : After wr => (hbx.below p.below).cells.2.2.1
                    have x3 := fun p : After wr => (hbx.below p.below).cells.2.2.2.1
                    have x4 := fun p : After wr => (hbx.below p.below).cells.2.2.2.2
                    clear hy hcy
                    by_cases gc : cfT y z < 0
                    · have ec : decide (cmpP y z 3 < 0) = true := decide_eq_true gc
                      have HN := Lib.hid (show ∀ t ∈ l.take (p + 1), cfT t z < 0 from fun t ht => by
                        rw [List.take_add_one, HY.out] at ht
                        rcases List.mem_append.1 ht with ht | ht
                        · exact HG2.out t ht
                        · obtain rfl : t = y := by simpa using ht
                          exact gc)
                      clear gc
                      generalize cmpP y z 3 = cv at *
                      go_wp2_with fail
                      refine quiet_after (by kernel_rfl) (by kernel_rfl) ?_
                      repeat (first | go_big_quiet_step ((first | (go_at_call 34; with_reducible exact calls_after (CR.out _)) | (go_at_call 55; with_reducible exact calls_after (CC.out _)) | (go_at_call 56; with_reducible exact calls_after (CL.out _)))) | quiet_step ((first | (go_at_call 34; with_reducible exact calls_after (CR.out _)) | (go_at_call 55; with_reducible exact calls_after (CC.out _)) | (go_at_call 56; with_reducible exact calls_after (CL.out _)))))
                      refine wpQuiet_nil ?_
                      intro wz hw'
                      obtain ⟨p, rfl⟩ := hw'
                      obtain ⟨w5, hbq⟩ := p
                      dsimp only
                      skip
                      have HB5' := Lib.hid (below_then HB.out hbq)
                      clear hbq y0 y1 y2 y3 y4 x0 x1 x2 x3 x4 CC hbx ec
                      go_wp2_with fail
                      go_roundw
                      case rel => exact ⟨p + 1, by omega, by go_num, HN, HB5'⟩
                      case measure => simp [intOf]; omega
                    · have ec : decide (cmpP y z 3 < 0) = false := decide_eq_false gc
                      have HHI := Lib.hid (show ∀ t, l[p]? = some t → ¬ cfT t z < 0 from fun t ht => by
                        rw [HY.out] at ht; injection ht with ht; subst ht; exact gc)
                      clear gc
                      generalize cmpP y z 3 = cv at *
                      go_wp2_with fail
                      refine quiet_after (by kernel_rfl) (by kernel_rfl) ?_
                      repeat (first | go_big_quiet_step ((first | (go_at_call 34; with_reducible exact calls_after (CR.out _)) | (go_at_call 55; with_reducible exact calls_after (CC.out _)) | (go_at_call 56; with_reducible exact calls_after (CL.out _)))) | quiet_step ((first | (go_at_call 34; with_reducible exact calls_after (CR.out _)) | (go_at_call 55; with_reducible exact calls_after (CC.out _)) | (go_at_call 56; with_reducible exact calls_after (CL.out _)))))
                      refine wpQuiet_nil ?_
                      intro wz hw'
                      obtain ⟨pp, rfl⟩ := hw'
                      obtain ⟨wt, hbq⟩ := pp
                      dsimp only
                      have HBT := Lib.hid (below_then HB.out hbq)
                      have HBW := Lib.hid (below_then HB9.out HBT.out)
                      have HX4 := HR4.out.below At.stays HBT.out
                      have HT1 := Lib.hid (Tms.take HX4 hp)
                      have hsl1 := slice_to HX4 hp
                      obtain ⟨Ad, hsl2, hd4⟩ := slice_from HX4 hp
                      have HT3 := Lib.hid hd4
                      have HBXt := Lib.hid (HBX9.out.below HBT.out)
                      have N0 := Lib.hid (World.ownsRow_nil wt wt.heap.size 28 5)
                      have HPN := Lib.hid (HP.out.put HZ.out HG.out HLE.out HG2.out (fun t ht => by have := HHI.out t ht; omega))
                      have HMm : m ≤ 1000000 := by omega
                      clear HX4 hd4 hbq y0 y1 y2 y3 y4 x0 x1 x2 x3 x4 CC hbx ec HY HB HR4 HBX9 HO9 HP HLE HG2 HHI HBXo HXo HB5
                      go_wp2_with (at_builtin; first
                        | (refine own_append_tms rfl (.tmp 83) (.tmp 86) 33 28 rfl Try.underlying33 infoT wt.heap.size (.slice none 0 0) [] _ p c5 (l.take p) rfl rfl N0.out HT1.out (by simp; omega) (Nat.le_refl _) ?_
                           intro v1 w6 hown hgr hat
                           have HB6 := Lib.hid ((Below.refl wt.heap.size wt).grown hgr (Nat.le_refl _) (fun k hk => own_lt N0.out k hk))
                           obtain ⟨x0, x1, x2, x3, x4⟩ := (HBXt.out.by_row hgr (fun h => by cases h)).cells
                           have HW := Lib.hid (below_new w6 (.cells #[.int .i64 z.d, .int .i64 z.e, .int .i64 z.a, .int .i64 z.b, .int .i64 z.c] 28))
                           have HO7 := Lib.hid (own_below hown HW.out)
                           have HB7 := Lib.hid (below_then HB6.out HW.out)
                           have HT2 := Lib.hid (tms_new w6 z _ rfl)
                           have HML1 := Lib.hid (show (([] : List T) ++ l.take p).length = p by rw [List.nil_append, List.length_take, HML.out]; omega)
                           clear hown hgr hat N0 HT1 HW HB6 HBXt)
                        | (refine own_append_tms rfl (.tmp 88) (.tmp 90) 33 28 rfl Try.underlying33 infoT wt.heap.size v1 ([] ++ l.take p) (some ⟨w6.heap.size, 0, none⟩) 1 1 [z] rfl rfl HO7.out HT2.out (by rw [HML1.out]; omega) HB7.out.size ?_
                           intro v2 w7 hown hgr hat
                           have HB8 := Lib.hid (HB7.out.grown hgr HB7.out.size (fun k hk => own_lt HO7.out k hk))
                           have HO8 := Lib.hid hown
                           have HT4 := Lib.hid (HT3.out.below At.stays HB8.out)
                           have HML2 := Lib.hid (show (([] : List T) ++ l.take p ++ [z]).length = p + 1 by rw [List.length_append, HML1.out]; rfl)
                           clear hown hgr hat HO7 HB7 HT2 HT3 x0 x1 x2 x3 x4)
                        | (refine own_append_tms rfl (.tmp 92) (.tmp 95) 33 28 rfl Try.underlying33 infoT wt.heap.size v2 ([] ++ l.take p ++ [z]) Ad (m - p) (c5 - p) (l.drop p) rfl rfl HO8.out HT4.out (by rw [HML2.out]; omega) HB8.out.size ?_
                           intro v3 w8 hown hgr hat))
                      have HB10 := Lib.hid (HB8.out.grown hgr HB8.out.size (fun k hk => own_lt HO8.out k hk))
                      have HO10 := Lib.hid (own_base (base' := w.heap.size) hown HBW.out.size)
                      have HB11 := Lib.hid (below_then HBW.out HB10.out)
                      rw [List.nil_append] at HO10
                      clear hown hgr hat HO8 HB8 HB10 HT4 hsl1 hsl2
                      go_roundw
                      case rel => exact ⟨k + 1, l.take p ++ [z] ++ l.drop p, by omega, by go_num, HPN, HO10, HB11⟩
                      case measure => simp [intOf]; omega
                  · have hpm : p = m := by omega
                    subst hpm
                    have dp : decide ((p : Int) < p) = false := decide_eq_false (by omega)
                    have dp' : decide (p < p) = false := decide_eq_false (by omega)
                    have HHI := Lib.hid (show ∀ t, l[p]? = some t → ¬ cfT t z < 0 from fun t ht => by
                      have := (List.getElem?_eq_some_iff.1 ht).1; have := HML.out; omega)
                    go_wp2_with fail
                    refine quiet_after (by kernel_rfl) (by kernel_rfl) ?_
                    repeat (first | go_big_quiet_step ((first | (go_at_call 34; with_reducible exact calls_after (CR.out _)) | (go_at_call 55; with_reducible exact calls_after (CC.out _)) | (go_at_call 56; with_reducible exact calls_after (CL.out _)))) | quiet_step ((first | (go_at_call 34; with_reducible exact calls_after (CR.out _)) | (go_at_call 55; with_reducible exact calls_after (CC.out _)) | (go_at_call 56; with_reducible exact calls_after (CL.out _)))))
                    refine wpQuiet_nil ?_
                    intro wz hw'
                    obtain ⟨pp, rfl⟩ := hw'
                    obtain ⟨wt, hbq⟩ := pp
                    dsimp only
                    have HBT := Lib.hid (below_then HB.out hbq)
                    have HBW := Lib.hid (below_then HB9.out HBT.out)
                    have HX4 := HR4.out.below At.stays HBT.out
                    have HT1 := Lib.hid (Tms.take HX4 hp)
                    have hsl1 := slice_to HX4 hp
                    obtain ⟨Ad, hsl2, hd4⟩ := slice_from HX4 hp
                    rw [Nat.sub_self] at hsl2 hd4
                    have HT3 := Lib.hid hd4
                    have HBXt := Lib.hid (HBX9.out.below HBT.out)
                    have N0 := Lib.hid (World.ownsRow_nil wt wt.heap.size 28 5)
                    have HPN := Lib.hid (HP.out.put HZ.out HG.out HLE.out HG2.out (fun t ht => by have := HHI.out t ht; omega))
                    have HMm : p ≤ 1000000 := by omega
                    clear HX4 hd4 hbq  HB HR4 HBX9 HO9 HP HLE HG2 HHI HBXo HXo HB5
                    go_wp2_with (at_builtin; first
                      | (refine own_append_tms rfl (.tmp 83) (.tmp 86) 33 28 rfl Try.underlying33 infoT wt.heap.size (.slice none 0 0) [] _ p c5 (l.take p) rfl rfl N0.out HT1.out (by simp; omega) (Nat.le_refl _) ?_
                         intro v1 w6 hown hgr hat
                         have HB6 := Lib.hid ((Below.refl wt.heap.size wt).grown hgr (Nat.le_refl _) (fun k hk => own_lt N0.out k hk))
                         obtain ⟨x0, x1, x2, x3, x4⟩ := (HBXt.out.by_row hgr (fun h => by cases h)).cells
                         have HW := Lib.hid (below_new w6 (.cells #[.int .i64 z.d, .int .i64 z.e, .int .i64 z.a, .int .i64 z.b, .int .i64 z.c] 28))
                         have HO7 := Lib.hid (own_below hown HW.out)
                         have HB7 := Lib.hid (below_then HB6.out HW.out)
                         have HT2 := Lib.hid (tms_new w6 z _ rfl)
                         have HML1 := Lib.hid (show (([] : List T) ++ l.take p).length = p by rw [List.nil_append, List.length_take, HML.out]; omega)
                         clear hown hgr hat N0 HT1 HW HB6 HBXt)
                      | (refine own_append_tms rfl (.tmp 88) (.tmp 90) 33 28 rfl Try.underlying33 infoT wt.heap.size v1 ([] ++ l.take p) (some ⟨w6.heap.size, 0, none⟩) 1 1 [z] rfl rfl HO7.out HT2.out (by rw [HML1.out]; omega) HB7.out.size ?_
                         intro v2 w7 hown hgr hat
                         have HB8 := Lib.hid (HB7.out.grown hgr HB7.out.size (fun k hk => own_lt HO7.out k hk))
                         have HO8 := Lib.hid hown
                         have HT4 := Lib.hid (HT3.out.below At.stays HB8.out)
                         have HML2 := Lib.hid (show (([] : List T) ++ l.take p ++ [z]).length = p + 1 by rw [List.length_append, HML1.out]; rfl)
                         clear hown hgr hat HO7 HB7 HT2 HT3 x0 x1 x2 x3 x4)
                      | (refine own_append_tms rfl (.tmp 92) (.tmp 95) 33 28 rfl Try.underlying33 infoT wt.heap.size v2 ([] ++ l.take p ++ [z]) Ad 0 (c5 - p) (l.drop p) rfl rfl HO8.out HT4.out (by rw [HML2.out]; omega) HB8.out.size ?_
                         intro v3 w8 hown hgr hat))
                    have HB10 := Lib.hid (HB8.out.grown hgr HB8.out.size (fun k hk => own_lt HO8.out k hk))
                    have HO10 := Lib.hid (own_base (base' := w.heap.size) hown HBW.out.size)
                    have HB11 := Lib.hid (below_then HBW.out HB10.out)
                    rw [List.nil_append] at HO10
                    clear hown hgr hat HO8 HB8 HB10 HT4 hsl1 hsl2
                    go_roundw
                    case rel => exact ⟨k + 1, l.take p ++ [z] ++ l.drop p, by omega, by go_num, HPN, HO10, HB11⟩
                    case measure => simp [intOf]; omega
        · have HQ := Lib.hid (show ofT ts = none from of_bad_at HZ.out (.inr (by rw [HH.out]; exact gd)))
          have gd' : (z.d != t0.d) = true := by simpa using gd
          clear g hc0
          go_wp2_with fail
          rw [← HWB.out]
          refine quiet_after (by kernel_rfl) (by kernel_rfl) ?_
          repeat (first | go_big_quiet_step ((first | (go_at_call 34; with_reducible exact calls_after (CR.out _)) | (go_at_call 55; with_reducible exact calls_after (CC.out _)) | (go_at_call 56; with_reducible exact calls_after (CL.out _)))) | quiet_step ((first | (go_at_call 34; with_reducible exact calls_after (CR.out _)) | (go_at_call 55; with_reducible exact calls_after (CC.out _)) | (go_at_call 56; with_reducible exact calls_after (CL.out _)))))
          refine wpQuiet_nil ?_
          intro wz hw'
          obtain ⟨p, rfl⟩ := hw'
          obtain ⟨w5, hbq⟩ := p
          dsimp only
          have HBQ := Lib.hid hbq
          have HB5 := Lib.hid (below_then HB.out hbq)
          clear hbq z0 z1 z2 z3 z4 d0 CR
          go_wp2_with fail
          go_ret2
          exact ⟨_, by rw [HQ.out]; rfl, by rw [HQ.out]; exact World.ownsRow_nil _ _ _ _, HB5.out⟩
    · have hkn : k = n := by omega
      subst hkn
      have hd : decide ((k : Int) < k) = false := decide_eq_false (by omega)
      have hd' : decide (k < k) = false := decide_eq_false (by omega)
      have HR := Lib.hid (show ofT ts = some l from HP.out.all (by rw [LX.out]; omega))
      clear HP
      go_wp2_with fail
      go_ret2
      exact ⟨_, by rw [HR.out]; rfl, by rw [HR.out]; exact HO.out, HB.out⟩
end Go.Proofs.Ytebpepjlhanopaa
