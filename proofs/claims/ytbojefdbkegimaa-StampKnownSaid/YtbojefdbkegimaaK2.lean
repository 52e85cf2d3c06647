/- The walk of StampKnown. -/
import Derived.Test.YtbojefdbkegimaaRows
import Derived.Test.YtbojefdbkegimaaWords
import Derived.Test.YtbojefdbkegimaaByts
import Derived.Test.YtbojefdbkegimaaElems
import Derived.Test.YtbojefdbkegimaaFrame
import Derived.Test.YtbojefdbkegimaaS1
import Derived.Test.YtbojefdbkegimaaS2
import Derived.Test.YtbojefdbkegimaaS11
import Derived.Test.YtbojefdbkegimaaEqs
import Derived.Test.YtbojefdbkegimaaBs
import Derived.Test.YtbojefdbkegimaaF1
import Derived.Test.YtbojefdbkegimaaF2
import Derived.Test.YtbojefdbkegimaaF3
import Derived.Test.YtbojefdbkegimaaG1
import Derived.Test.YtbojefdbkegimaaG2
import Derived.Test.YtbojefdbkegimaaL3
import Derived.Test.YtbojefdbkegimaaL4
import Derived.Test.YtbojefdbkegimaaL5
import Derived.Test.YtbojefdbkegimaaL6
import Derived.Test.YtbojefdbkegimaaL8
import Derived.Test.YtbojefdbkegimaaL9
import Derived.Test.YtbojefdbkegimaaS12
import Derived.Test.YtbojefdbkegimaaK1
namespace Go.Proofs.Ytbojefdbkegimaa
open Go.RowKit Go.Proofs.Tail
set_option linter.unusedSimpArgs false
set_option linter.unusedVariables false

theorem byts_take {w : World} {A : Option Addr} {n c : Nat} {xs : List Int} (h : Byts w A n c xs) {m : Nat} (hm : m ≤ n) : Byts w A m c (xs.take m) :=
  ⟨by rw [List.length_take, h.len]; omega, Nat.le_trans hm h.cap, Nat.le_trans hm h.big, fun hp => by
    obtain ⟨b, off, rfl, hc⟩ := h.at_ (by omega)
    refine ⟨b, off, rfl, fun j x hj => hc j x ?_⟩
    rw [List.getElem?_take] at hj
    split at hj
    · exact hj
    · cases hj⟩
theorem el {w : World} {b n c : Nat} {ts : List T} (h : Rd 5 RTok w (some ⟨b, 0, none⟩) n c ts) {j : Nat} (hj : j < n) : ∃ t, At w b (j * 5) t ∧ Tok t := by
  obtain ⟨b', o', t, e', ht, hat⟩ := h.elem hj
  injection e' with e'
  injection e' with e1 e2
  subst e1 e2
  rw [Nat.zero_add] at hat
  exact ⟨t, hat.1, hat.2⟩
def lits (W : World) (xs : List Int) : World := W.alloc (.cells (byV xs).toArray 5)
theorem get_lit (W : World) (xs : List Int) (h0 : 0 < xs.length) (hm : xs.length ≤ 100) (hb : InB xs) : Calls Try.prog 9 #[.agg #[.int .i64 0, .int .i64 0, .int .i64 0, .int .i64 0, .int .i64 0], .slice (some ⟨W.heap.size, 0, none⟩) xs.length xs.length] (lits W xs) (Gives (.bool true) (lits W xs)) :=
  law_get T0 _ _ _ xs _ (byts_fresh W xs h0 (by unfold maxLen; omega)) hb
theorem get_lit1 (W : World) : Calls Try.prog 9 #[.agg #[.int .i64 0, .int .i64 0, .int .i64 0, .int .i64 0, .int .i64 0], .slice (some ⟨W.heap.size, 0, none⟩) 4 4] (W.alloc (.cells #[.int .u8 1, .int .u8 255, .int .u8 255, .int .u8 0] 5)) (Gives (.bool true) (W.alloc (.cells #[.int .u8 1, .int .u8 255, .int .u8 255, .int .u8 0] 5))) :=
  get_lit W [1, 255, 255, 0] (by decide) (by decide) (by unfold InB; decide)
theorem get_lit2 (W : World) : Calls Try.prog 9 #[.agg #[.int .i64 0, .int .i64 0, .int .i64 0, .int .i64 0, .int .i64 0], .slice (some ⟨W.heap.size, 0, none⟩) 7 7] (W.alloc (.cells #[.int .u8 4, .int .u8 0, .int .u8 0, .int .u8 0, .int .u8 0, .int .u8 0, .int .u8 0] 5)) (Gives (.bool true) (W.alloc (.cells #[.int .u8 4, .int .u8 0, .int .u8 0, .int .u8 0, .int .u8 0, .int .u8 0, .int .u8 0] 5))) :=
  get_lit W [4, 0, 0, 0, 0, 0, 0] (by decide) (by decide) (by unfold InB; decide)
theorem get_lit3 (W : World) : Calls Try.prog 9 #[.agg #[.int .i64 0, .int .i64 0, .int .i64 0, .int .i64 0, .int .i64 0], .slice (some ⟨W.heap.size, 0, none⟩) 5 5] (W.alloc (.cells #[.int .u8 2, .int .u8 0, .int .u8 0, .int .u8 16, .int .u8 0] 5)) (Gives (.bool true) (W.alloc (.cells #[.int .u8 2, .int .u8 0, .int .u8 0, .int .u8 16, .int .u8 0] 5))) :=
  get_lit W [2, 0, 0, 16, 0] (by decide) (by decide) (by unfold InB; decide)
theorem six_cells {wr : World} {B k : Nat} (D : Blk wr B [.int .i64 (-1), .int .i64 0, .int .i64 1, .int .i64 2, .int .i64 3, .int .i64 4] 3) (hk : k < 6) : ∃ d : Int, -1 ≤ d ∧ d ≤ 4 ∧ wr.cell? ⟨B, k, none⟩ = some (.int .i64 d) := by
  rw [D.cell]
  have : k = 0 ∨ k = 1 ∨ k = 2 ∨ k = 3 ∨ k = 4 ∨ k = 5 := by omega
  rcases this with rfl | rfl | rfl | rfl | rfl | rfl
  all_goals exact ⟨_, by decide, by decide, rfl⟩
theorem six_cells2 {wr : World} {B k : Nat} (D : Blk wr B [.int .i64 (-1), .int .i64 0, .int .i64 1, .int .i64 14, .int .i64 15, .int .i64 16] 3) (hk : k < 6) : ∃ d : Int, -1 ≤ d ∧ d ≤ 16 ∧ wr.cell? ⟨B, k, none⟩ = some (.int .i64 d) := by
  rw [D.cell]
  have : k = 0 ∨ k = 1 ∨ k = 2 ∨ k = 3 ∨ k = 4 ∨ k = 5 := by omega
  rcases this with rfl | rfl | rfl | rfl | rfl | rfl
  all_goals exact ⟨_, by decide, by decide, rfl⟩
theorem World.ownsRow.same {w : World} {base e size n : Nat} {v : Value} {xs ys : List Value} (h : w.ownsRow base e size v n xs) (k : w.ownsRow base e size v n ys) : xs = ys := by
  rcases h.2 with ⟨h1, h2⟩ | ⟨g, cap, cur, rfl, _, hh, _, _, _, ht⟩
  · subst h2
    exact (List.eq_nil_of_length_eq_zero (l := xs) (by simpa using h.1)).trans (List.eq_nil_of_length_eq_zero (l := ys) (by simpa using k.1)).symm
  · rcases k.2 with ⟨h1, h2⟩ | ⟨g', cap', cur', e', _, hh', _, _, _, ht'⟩
    · cases h1
    · injection e' with e'
      injection e' with e'
      injection e' with e'
      subst e'
      rw [hh] at hh'
      cases hh'
      rw [← ht, ← ht']
set_option maxRecDepth 100000 in
set_option maxHeartbeats 32000000 in
theorem law_known (w : World) : Calls Try.prog 10 #[] w (Gives (.bool true) w) := by
  go_enter Try.func10, Try.ntmps10
  go_wp2_with fail
  have D0 := Lib.hid (Blk.new w [.int .i64 (-1), .int .i64 0, .int .i64 1, .int .i64 2, .int .i64 3, .int .i64 4] 3 _ rfl)
  have HB := Lib.hid (below_new w (.cells ([.int .i64 (-1), .int .i64 0, .int .i64 1, .int .i64 2, .int .i64 3, .int .i64 4] : List Value).toArray 3))
  have K0 := Lib.hid (Kn.nil (w.alloc (.cells ([.int .i64 (-1), .int .i64 0, .int .i64 1, .int .i64 2, .int .i64 3, .int .i64 4] : List Value).toArray 3)) (w.heap.size + 1) w.heap.size (by simp))
  go_loopw [1, 12] (fun v i wr => ∃ k : Nat, k ≤ 6 ∧ i = .int .i64 k ∧ Hid (Kn wr (w.heap.size + 1) w.heap.size v (21 * k)) ∧ Hid (Blk wr w.heap.size [.int .i64 (-1), .int .i64 0, .int .i64 1, .int .i64 2, .int .i64 3, .int .i64 4] 3) ∧ Hid (Below w.heap.size w wr)) (fun _ i _ => 6 - (intOf i).toNat)
  case atStart => exact ⟨0, by omega, rfl, K0, D0, HB⟩
  case round =>
    clear K0 D0 HB
    obtain ⟨k, hk, rfl, KX, D1, HB⟩ := hrel
    by_cases h6 : k = 6
    · subst h6
      obtain ⟨ts, hts, hln, own⟩ := KX.out.ex
      have hts := Lib.hid hts
      have hln := Lib.hid hln
      have hlt := KX.out.lt
      have hcl := D1.out.lt
      go_wp2_with (at_builtin; refine own_append_lit (W := wr) rfl (.tmp 50) (.tmp 55) 41 24 (.agg #[.int .i64 0, .int .i64 0, .int .i64 0, .int .i64 0, .int .i64 0]) 5 40 rfl Try.underlying41 infoT rfl (by omega) (by omega) (w.heap.size + 1) u1 (21 * 6) (tcs ts) 3 3 [.int .i64 4611686018427387904, .int .i64 4611686018427387904, .int .i64 0, .int .i64 0, .int .i64 0, .int .i64 (-9223372036854775808), .int .i64 (-9223372036854775808), .int .i64 (-9223372036854775808), .int .i64 9223372036854775807, .int .i64 0, .int .i64 9223372036854775807, .int .i64 0, .int .i64 0, .int .i64 0, .int .i64 0] rfl rfl own (by simp) (by simp [Value.oneCell']) (by omega) hlt ?_; intro v1 w1 hown hgr hat)
      have K2 : Hid (Kn w1 (w.heap.size + 1) (w.heap.size) v1 (21 * 6 + 3)) := Lib.hid (by
        have := Kn.snoc KX.out ⟨4611686018427387904, 4611686018427387904, 0, 0, 0⟩ ⟨-9223372036854775808, -9223372036854775808, -9223372036854775808, 9223372036854775807, 0⟩ ⟨9223372036854775807, 0, 0, 0, 0⟩ (by unfold Tok; dsimp only; omega) (by unfold Tok; dsimp only; omega) (by unfold Tok; dsimp only; omega) hcl (fun xs hx => by obtain rfl : tcs ts = xs := World.ownsRow.same own hx; exact hown) hgr hat
        exact this)
      have HB' := Lib.hid (below_grown HB.out hgr (fun k hk => by have := own.lt _ hk; omega))
      obtain ⟨b, c, us, rfl, hR, hb⟩ := (show Kn w1 (w.heap.size + 1) w.heap.size v1 129 from K2.out).read (by omega) (by omega)
      have R0 := Lib.hid hR
      clear KX own hlt hcl hown hgr hat D1 HB K2 hR hts hln
      go_wp2_with fail
      go_loopw [6] (fun i wr => ∃ k : Nat, k ≤ 129 ∧ i = .int .i64 k ∧ Hid (Rd 5 RTok wr (some ⟨b, 0, none⟩) 129 c us) ∧ Hid (Below w.heap.size w wr)) (fun i _ => 129 - (intOf i).toNat)
      case atStart => exact ⟨0, by omega, rfl, R0, HB'⟩
      case round =>
        clear R0 HB'
        obtain ⟨k, hk, rfl, R0, HB⟩ := hrel
        by_cases h9 : k = 129
        · subst h9
          clear R0
          go_wp2_with fail
          refine (get_lit1 _).mono ?_
          rintro e1 w1 ⟨rfl, hb1⟩
          have HB1 := Lib.hid (below_then HB.out (below_then (below_new wr _) hb1))
          clear hb1 HB
          go_wp2_with fail
          refine (get_lit2 _).mono ?_
          rintro e2 w2 ⟨rfl, hb1⟩
          have HB2 := Lib.hid (below_then HB1.out (below_then (below_new w1 _) hb1))
          clear hb1 HB1
          go_wp2_with fail
          refine (get_lit3 _).mono ?_
          rintro e3 w3 ⟨rfl, hb1⟩
          have HB3 := Lib.hid (below_then HB2.out (below_then (below_new w2 _) hb1))
          clear hb1 HB2
          go_wp2_with fail
          refine (works_any _).mono ?_
          rintro e4 w4 ⟨rfl, hb1⟩
          have HE := Lib.hid (below_then HB3.out hb1)
          clear hb1 HB3
          go_wp2
          go_ret
          exact .bool rfl HE.out
        · obtain ⟨b', o', t, e', ht, hat⟩ := R0.out.elem (j := k) (by omega)
          injection e' with e'
          injection e' with e1 e2
          subst e1 e2
          rw [Nat.zero_add] at hat
          have HT := Lib.hid hat.2
          have HA := Lib.hid hat.1
          clear hat ht
          obtain ⟨c0, c1, c2, c3, c4⟩ := HA.out
          have hk9 : decide ((k : Int) < 129) = true := decide_eq_true (by omega)
          have hk9' : decide (k < 129) = true := decide_eq_true (by omega)
          go_wp2_with fail
          refine (refput_any t _).mono ?_
          rintro e1 w1 ⟨v, rfl, ho, hb1⟩
          clear c0 c1 c2 c3 c4
          have hx := putL_len t
          have hin : InB (putL t) := by
            cases hr : t.rightB with
            | true => exact putL_in hr
            | false => unfold putL; rw [hr]; intro x hx; simp at hx
          generalize putL t = xs at *
          obtain ⟨A2, c2, rfl, hr2⟩ := own_bytes ho (by omega)
          have R1 := Lib.hid (R0.out.below RTok.stays hb1)
          have HB1 := Lib.hid (below_then HB.out hb1)
          have HA1 := Lib.hid (HA.out.below hb1)
          have HX := Lib.hid hr2
          have HI := Lib.hid hin
          generalize hn : xs.length = n at *
          have HN := Lib.hid hn
          clear ho hb1 R0 HB HA hr2 hin hn
          go_wp2_with fail
          have q0 := fun p : After w1 => (HA1.out.below p.below).c0
          have q1 := fun p : After w1 => (HA1.out.below p.below).c1
          have q2 := fun p : After w1 => (HA1.out.below p.below).c2
          have q3 := fun p : After w1 => (HA1.out.below p.below).c3
          have q4 := fun p : After w1 => (HA1.out.below p.below).c4
          have HS := Lib.hid (fun p : After w1 => law_right t p.val HT.out)
          have HG := Lib.hid (fun p : After w1 => law_get t A2 n c2 xs p.val (HX.out.below RByte.stays p.below) HI.out)
          by_cases h0 : n = 0
          · have h1 : decide (0 < (n : Int)) = false := decide_eq_false (by omega)
            have h1' : decide (0 < n) = false := decide_eq_false (by omega)
            clear h0
            refine quiet_after (by kernel_rfl) (by kernel_rfl) ?_
            repeat (first | go_big_quiet_step ((first | (go_at_call 3; with_reducible exact calls_after (HS.out _)) | (go_at_call 9; with_reducible exact calls_after (HG.out _)))) | quiet_step ((first | (go_at_call 3; with_reducible exact calls_after (HS.out _)) | (go_at_call 9; with_reducible exact calls_after (HG.out _)))))
            refine wpQuiet_nil ?_
            intro wz hw'
            obtain ⟨p, rfl⟩ := hw'
            obtain ⟨w2, hbq⟩ := p
            dsimp only
            have R3 := Lib.hid (R1.out.below RTok.stays hbq)
            have HB3 := Lib.hid (below_then HB1.out hbq)
            clear q0 q1 q2 q3 q4 HS HG R1 HB1 HA1 HX hbq h1 h1'
            go_wp2_with fail
            go_loopw [9] (fun i wr => ∃ j : Nat, j ≤ 129 ∧ i = .int .i64 j ∧ Hid (Rd 5 RTok wr (some ⟨b, 0, none⟩) 129 c us) ∧ Hid (Below w.heap.size w wr)) (fun i _ => 129 - (intOf i).toNat)
            case atStart => exact ⟨0, by omega, rfl, R3, HB3⟩
            case round =>
              clear R3 HB3
              obtain ⟨j, hj, rfl, R0, HB⟩ := hrel
              by_cases h9' : j = 129
              · subst h9'
                go_wp2_with fail
                go_roundw
                case rel => exact ⟨k + 1, by omega, by go_num, R0, HB⟩
                case measure => simp [intOf]; omega
              · obtain ⟨m, hm, hm9⟩ : ∃ m : Nat, m = (k * 7 + j * 3) % 129 ∧ m < 129 := ⟨_, rfl, by omega⟩
                have z1 : IntKind.i64.wrap ((k : Int) * 7) = (k : Int) * 7 := IntWalk.i64_in _ ⟨by omega, by omega⟩
                have z2 : IntKind.i64.wrap ((j : Int) * 3) = (j : Int) * 3 := IntWalk.i64_in _ ⟨by omega, by omega⟩
                have z3 : IntKind.i64.wrap ((k : Int) * 7 + (j : Int) * 3) = (k : Int) * 7 + (j : Int) * 3 := IntWalk.i64_in _ ⟨by omega, by omega⟩
                have z4 : ((k : Int) * 7 + (j : Int) * 3).tmod 129 = (m : Int) := by
                  rw [Int.tmod_eq_emod_of_nonneg (by omega), hm]; omega
                have z4' : ((k : Int) * 7 + (j : Int) * 3) % 129 = (m : Int) := by rw [hm]; omega
                have z5 : IntKind.i64.wrap (m : Int) = (m : Int) := IntWalk.i64_in _ ⟨by omega, by omega⟩
                clear hm
                obtain ⟨t1, a1, a2⟩ := el R0.out (j := k) (by omega)
                obtain ⟨t2, b1, b2⟩ := el R0.out (j := j) (by omega)
                obtain ⟨t3, g1, g2⟩ := el R0.out (j := m) (by omega)
                have H1 := Lib.hid (fun p : After wr => law_two t1 t2 p.val)
                have H2 := Lib.hid (fun p : After wr => law_loops t1 t2 p.val a2 b2)
                have H3 := Lib.hid (fun p : After wr => law_order t1 t2 t3 p.val)
                have HL := Lib.hid (And.intro a2 (And.intro b2 g2))
                clear a2 b2 g2
                have p0 := fun p : After wr => (a1.below p.below).c0
                have p1 := fun p : After wr => (a1.below p.below).c1
                have p2 := fun p : After wr => (a1.below p.below).c2
                have p3 := fun p : After wr => (a1.below p.below).c3
                have p4 := fun p : After wr => (a1.below p.below).c4
                have q0 := fun p : After wr => (b1.below p.below).c0
                have q1 := fun p : After wr => (b1.below p.below).c1
                have q2 := fun p : After wr => (b1.below p.below).c2
                have q3 := fun p : After wr => (b1.below p.below).c3
                have q4 := fun p : After wr => (b1.below p.below).c4
                have r0 := fun p : After wr => (g1.below p.below).c0
                have r1 := fun p : After wr => (g1.below p.below).c1
                have r2 := fun p : After wr => (g1.below p.below).c2
                have r3 := fun p : After wr => (g1.below p.below).c3
                have r4 := fun p : After wr => (g1.below p.below).c4
                clear a1 b1 g1
                go_wp2_with fail
                refine quiet_after (by kernel_rfl) (by kernel_rfl) ?_
                repeat (first | go_big_quiet_step ((first | (go_at_call 4; with_reducible exact calls_after (H1.out _)) | (go_at_call 6; with_reducible exact calls_after (H2.out _)) | (go_at_call 5; with_reducible exact calls_after (H3.out _)))) | quiet_step ((first | (go_at_call 4; with_reducible exact calls_after (H1.out _)) | (go_at_call 6; with_reducible exact calls_after (H2.out _)) | (go_at_call 5; with_reducible exact calls_after (H3.out _)))))
                refine wpQuiet_nil ?_
                intro wz hw'
                obtain ⟨p, rfl⟩ := hw'
                obtain ⟨w4, hbq⟩ := p
                dsimp only
                have R5 := Lib.hid (R0.out.below RTok.stays hbq)
                have HB5 := Lib.hid (below_then HB.out hbq)
                clear p0 p1 p2 p3 p4 q0 q1 q2 q3 q4 r0 r1 r2 r3 r4 H1 H2 H3 HL hbq R0 HB z1 z2 z3 z4 z4' z5
                go_wp2_with fail
                go_roundw
                case rel => exact ⟨j + 1, by omega, by go_num, R5, HB5⟩
                case measure => simp [intOf]; omega
          · have h1 : decide (0 < (n : Int)) = true := decide_eq_true (by omega)
            have h1' : decide (0 < n) = true := decide_eq_true (by omega)
            have h2 : IntKind.i64.wrap ((n : Int) - 1) = (n : Int) - 1 := IntWalk.i64_in _ ⟨by omega, by omega⟩
            have h3 : ((n : Int) - 1).toNat = n - 1 := by omega
            have h4 : (0 : Int) ≤ (n : Int) - 1 := by omega
            have hnc := HX.out.cap
            have h5 : (n : Int) - 1 ≤ (c2 : Int) := by omega
            have HG2 := Lib.hid (fun p : After w1 => law_get t A2 (n - 1) c2 (xs.take (n - 1)) p.val (byts_take (HX.out.below RByte.stays p.below) (Nat.sub_le _ _)) (fun y hy => HI.out y (List.mem_of_mem_take hy)))
            clear h0 hnc
            refine quiet_after (by kernel_rfl) (by kernel_rfl) ?_
            repeat (first | go_big_quiet_step ((first | (go_at_call 3; with_reducible exact calls_after (HS.out _)) | (go_at_call 9; first | with_reducible exact calls_after (HG.out _) | with_reducible exact calls_after (HG2.out _)))) | quiet_step ((first | (go_at_call 3; with_reducible exact calls_after (HS.out _)) | (go_at_call 9; first | with_reducible exact calls_after (HG.out _) | with_reducible exact calls_after (HG2.out _)))))
            refine wpQuiet_nil ?_
            intro wz hw'
            obtain ⟨p, rfl⟩ := hw'
            obtain ⟨w2, hbq⟩ := p
            dsimp only
            have R3 := Lib.hid (R1.out.below RTok.stays hbq)
            have HB3 := Lib.hid (below_then HB1.out hbq)
            clear q0 q1 q2 q3 q4 HS HG HG2 R1 HB1 HA1 HX hbq h1 h1' h2 h3 h4 h5
            go_wp2_with fail
            go_loopw [9] (fun i wr => ∃ j : Nat, j ≤ 129 ∧ i = .int .i64 j ∧ Hid (Rd 5 RTok wr (some ⟨b, 0, none⟩) 129 c us) ∧ Hid (Below w.heap.size w wr)) (fun i _ => 129 - (intOf i).toNat)
            case atStart => exact ⟨0, by omega, rfl, R3, HB3⟩
            case round =>
              clear R3 HB3
              obtain ⟨j, hj, rfl, R0, HB⟩ := hrel
              by_cases h9' : j = 129
              · subst h9'
                go_wp2_with fail
                go_roundw
                case rel => exact ⟨k + 1, by omega, by go_num, R0, HB⟩
                case measure => simp [intOf]; omega
              · obtain ⟨m, hm, hm9⟩ : ∃ m : Nat, m = (k * 7 + j * 3) % 129 ∧ m < 129 := ⟨_, rfl, by omega⟩
                have z1 : IntKind.i64.wrap ((k : Int) * 7) = (k : Int) * 7 := IntWalk.i64_in _ ⟨by omega, by omega⟩
                have z2 : IntKind.i64.wrap ((j : Int) * 3) = (j : Int) * 3 := IntWalk.i64_in _ ⟨by omega, by omega⟩
                have z3 : IntKind.i64.wrap ((k : Int) * 7 + (j : Int) * 3) = (k : Int) * 7 + (j : Int) * 3 := IntWalk.i64_in _ ⟨by omega, by omega⟩
                have z4 : ((k : Int) * 7 + (j : Int) * 3).tmod 129 = (m : Int) := by
                  rw [Int.tmod_eq_emod_of_nonneg (by omega), hm]; omega
                have z4' : ((k : Int) * 7 + (j : Int) * 3) % 129 = (m : Int) := by rw [hm]; omega
                have z5 : IntKind.i64.wrap (m : Int) = (m : Int) := IntWalk.i64_in _ ⟨by omega, by omega⟩
                clear hm
                obtain ⟨t1, a1, a2⟩ := el R0.out (j := k) (by omega)
                obtain ⟨t2, b1, b2⟩ := el R0.out (j := j) (by omega)
                obtain ⟨t3, g1, g2⟩ := el R0.out (j := m) (by omega)
                have H1 := Lib.hid (fun p : After wr => law_two t1 t2 p.val)
                have H2 := Lib.hid (fun p : After wr => law_loops t1 t2 p.val a2 b2)
                have H3 := Lib.hid (fun p : After wr => law_order t1 t2 t3 p.val)
                have HL := Lib.hid (And.intro a2 (And.intro b2 g2))
                clear a2 b2 g2
                have p0 := fun p : After wr => (a1.below p.below).c0
                have p1 := fun p : After wr => (a1.below p.below).c1
                have p2 := fun p : After wr => (a1.below p.below).c2
                have p3 := fun p : After wr => (a1.below p.below).c3
                have p4 := fun p : After wr => (a1.below p.below).c4
                have q0 := fun p : After wr => (b1.below p.below).c0
                have q1 := fun p : After wr => (b1.below p.below).c1
                have q2 := fun p : After wr => (b1.below p.below).c2
                have q3 := fun p : After wr => (b1.below p.below).c3
                have q4 := fun p : After wr => (b1.below p.below).c4
                have r0 := fun p : After wr => (g1.below p.below).c0
                have r1 := fun p : After wr => (g1.below p.below).c1
                have r2 := fun p : After wr => (g1.below p.below).c2
                have r3 := fun p : After wr => (g1.below p.below).c3
                have r4 := fun p : After wr => (g1.below p.below).c4
                clear a1 b1 g1
                go_wp2_with fail
                refine quiet_after (by kernel_rfl) (by kernel_rfl) ?_
                repeat (first | go_big_quiet_step ((first | (go_at_call 4; with_reducible exact calls_after (H1.out _)) | (go_at_call 6; with_reducible exact calls_after (H2.out _)) | (go_at_call 5; with_reducible exact calls_after (H3.out _)))) | quiet_step ((first | (go_at_call 4; with_reducible exact calls_after (H1.out _)) | (go_at_call 6; with_reducible exact calls_after (H2.out _)) | (go_at_call 5; with_reducible exact calls_after (H3.out _)))))
                refine wpQuiet_nil ?_
                intro wz hw'
                obtain ⟨p, rfl⟩ := hw'
                obtain ⟨w4, hbq⟩ := p
                dsimp only
                have R5 := Lib.hid (R0.out.below RTok.stays hbq)
                have HB5 := Lib.hid (below_then HB.out hbq)
                clear p0 p1 p2 p3 p4 q0 q1 q2 q3 q4 r0 r1 r2 r3 r4 H1 H2 H3 HL hbq R0 HB z1 z2 z3 z4 z4' z5
                go_wp2_with fail
                go_roundw
                case rel => exact ⟨j + 1, by omega, by go_num, R5, HB5⟩
                case measure => simp [intOf]; omega
    · obtain ⟨d, d1, d2, hc⟩ := six_cells (k := k) D1.out (by omega)
      have hk6 : decide ((k : Int) < 6) = true := decide_eq_true (by omega)
      go_wp2_with fail
      have K0 := Lib.hid (KX.out.mind (.cells ([.int .i64 (-1), .int .i64 0, .int .i64 1, .int .i64 14, .int .i64 15, .int .i64 16] : List Value).toArray 3) wr.heap.size (.inl rfl))
      have D0 := Lib.hid (Blk.new wr [.int .i64 (-1), .int .i64 0, .int .i64 1, .int .i64 14, .int .i64 15, .int .i64 16] 3 _ rfl)
      have D2 := Lib.hid (D1.out.then (below_new wr (.cells ([.int .i64 (-1), .int .i64 0, .int .i64 1, .int .i64 14, .int .i64 15, .int .i64 16] : List Value).toArray 3)))
      have HB0 := Lib.hid (below_then HB.out (below_new wr (.cells ([.int .i64 (-1), .int .i64 0, .int .i64 1, .int .i64 14, .int .i64 15, .int .i64 16] : List Value).toArray 3)))
      have HL := Lib.hid KX.out.lt
      clear KX D1 HB hc
      obtain ⟨wq, hq⟩ : ∃ q, q = wr := ⟨_, rfl⟩
      subst hq
      go_loopw [1, 18] (fun v i wx => ∃ j : Nat, j ≤ 6 ∧ i = .int .i64 j ∧ Hid (Kn wx (w.heap.size + 1) wq.heap.size v (21 * k + 3 * j)) ∧ Hid (Blk wx w.heap.size [.int .i64 (-1), .int .i64 0, .int .i64 1, .int .i64 2, .int .i64 3, .int .i64 4] 3) ∧ Hid (Blk wx wq.heap.size [.int .i64 (-1), .int .i64 0, .int .i64 1, .int .i64 14, .int .i64 15, .int .i64 16] 3) ∧ Hid (Below w.heap.size w wx)) (fun _ i _ => 6 - (intOf i).toNat)
      case atStart => exact ⟨0, by omega, rfl, K0, D2, D0, HB0⟩
      case round =>
        clear K0 D0 D2 HB0
        obtain ⟨j, hj, rfl, KX, D1, D2, HB⟩ := hrel
        obtain ⟨ts, hts, hln, own⟩ := KX.out.ex
        have hts := Lib.hid hts
        have hln := Lib.hid hln
        have hlt := KX.out.lt
        have hcl := D2.out.lt
        by_cases h6' : j = 6
        · subst h6'
          go_wp2_with (at_builtin; refine own_append_lit (W := wr) rfl (.tmp 39) (.tmp 47) 41 24 (.agg #[.int .i64 0, .int .i64 0, .int .i64 0, .int .i64 0, .int .i64 0]) 5 40 rfl Try.underlying41 infoT rfl (by omega) (by omega) (w.heap.size + 1) u1 (21 * k + 3 * 6) (tcs ts) 3 3 [.int .i64 d, .int .i64 999, .int .i64 0, .int .i64 0, .int .i64 0, .int .i64 d, .int .i64 1000, .int .i64 0, .int .i64 0, .int .i64 0, .int .i64 d, .int .i64 256, .int .i64 1, .int .i64 2, .int .i64 3] rfl rfl own (by simp) (by simp [Value.oneCell']) (by omega) hlt ?_; intro v1 w1 hown hgr hat)
          have K2 : Hid (Kn w1 (w.heap.size + 1) (wq.heap.size) v1 (21 * k + 3 * 6 + 3)) := Lib.hid (by
            have := Kn.snoc KX.out ⟨d, 999, 0, 0, 0⟩ ⟨d, 1000, 0, 0, 0⟩ ⟨d, 256, 1, 2, 3⟩ (by unfold Tok; dsimp only; omega) (by unfold Tok; dsimp only; omega) (by unfold Tok; dsimp only; omega) hcl (fun xs hx => by obtain rfl : tcs ts = xs := World.ownsRow.same own hx; exact hown) hgr hat
            exact this)
          have hrow : u1.ownBlock ≠ some w.heap.size := fun e => by have := own.lt _ e; omega
          have D1' := Lib.hid (D1.out.grown hgr hrow)
          have HB' := Lib.hid (below_grown HB.out hgr (fun k hk => by have := own.lt _ hk; omega))
          have K3 := Lib.hid (K2.out.back w.heap.size (by omega))
          clear KX own hlt hcl hown hgr hat hrow D1 D2 HB K2
          go_wp2_with fail
          go_roundw
          case rel => exact ⟨k + 1, by omega, by go_num, by rw [show 21 * (k + 1) = 21 * k + 3 * 6 + 3 by omega]; exact K3, D1', HB'⟩
          case measure => simp [intOf]; omega
        · obtain ⟨x, x1, x2, hc⟩ := six_cells2 (k := j) D2.out (by omega)
          go_wp2_with (at_builtin; refine own_append_lit (W := wr) rfl (.tmp 22) (.tmp 36) 41 24 (.agg #[.int .i64 0, .int .i64 0, .int .i64 0, .int .i64 0, .int .i64 0]) 5 40 rfl Try.underlying41 infoT rfl (by omega) (by omega) (w.heap.size + 1) u1 (21 * k + 3 * j) (tcs ts) 3 3 [.int .i64 d, .int .i64 5, .int .i64 x, .int .i64 0, .int .i64 0, .int .i64 d, .int .i64 5, .int .i64 0, .int .i64 x, .int .i64 0, .int .i64 d, .int .i64 x, .int .i64 0, .int .i64 0, .int .i64 x] rfl rfl own (by simp) (by simp [Value.oneCell']) (by omega) hlt ?_; intro v1 w1 hown hgr hat)
          have K2 : Hid (Kn w1 (w.heap.size + 1) (wq.heap.size) v1 (21 * k + 3 * j + 3)) := Lib.hid (by
            have := Kn.snoc KX.out ⟨d, 5, x, 0, 0⟩ ⟨d, 5, 0, x, 0⟩ ⟨d, x, 0, 0, x⟩ (by unfold Tok; dsimp only; omega) (by unfold Tok; dsimp only; omega) (by unfold Tok; dsimp only; omega) hcl (fun xs hx => by obtain rfl : tcs ts = xs := World.ownsRow.same own hx; exact hown) hgr hat
            exact this)
          have hrow : u1.ownBlock ≠ some w.heap.size := fun e => by have := own.lt _ e; omega
          have D1' := Lib.hid (D1.out.grown hgr hrow)
          have D2' := Lib.hid (D2.out.grown hgr KX.out.ne)
          have HB' := Lib.hid (below_grown HB.out hgr (fun k hk => by have := own.lt _ hk; omega))
          have HLT := Lib.hid HL.out
          clear KX own hlt hcl hc hown hgr hat hrow D1 D2 HB
          go_wp2_with fail
          go_roundw
          case rel => exact ⟨j + 1, by omega, by go_num, by rw [show 21 * k + 3 * (j + 1) = 21 * k + 3 * j + 3 by omega]; exact K2, D1', D2', HB'⟩
          case measure => simp [intOf]; omega
end Go.Proofs.Ytbojefdbkegimaa
