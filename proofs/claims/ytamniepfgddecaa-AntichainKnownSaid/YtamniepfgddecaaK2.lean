/- The walk of AntichainKnown. -/
import Derived.Test.YtamniepfgddecaaRows
import Derived.IntWalk
import Derived.Deep.RegionHeld3
import Derived.Test.YtamniepfgddecaaWords
import Derived.Test.YtamniepfgddecaaByts
import Derived.Test.YtamniepfgddecaaFrame
import Derived.Test.YtamniepfgddecaaElems
import Derived.Test.YtamniepfgddecaaS1
import Derived.Test.YtamniepfgddecaaS2
import Derived.Test.YtamniepfgddecaaS4
import Derived.Test.YtamniepfgddecaaU1
import Derived.Test.YtamniepfgddecaaU4
import Derived.Test.YtamniepfgddecaaA1
import Derived.Test.YtamniepfgddecaaA2
import Derived.Test.YtamniepfgddecaaA3
import Derived.Test.YtamniepfgddecaaA4
import Derived.Test.YtamniepfgddecaaA5
import Derived.Test.YtamniepfgddecaaB1
import Derived.Test.YtamniepfgddecaaB5
import Derived.Test.YtamniepfgddecaaB6
import Derived.Test.YtamniepfgddecaaP1
import Derived.Test.YtamniepfgddecaaP3
import Derived.Test.YtamniepfgddecaaW1
import Derived.Test.YtamniepfgddecaaL0
import Derived.Test.YtamniepfgddecaaL1
import Derived.Test.YtamniepfgddecaaL2
import Derived.Test.YtamniepfgddecaaL3
import Derived.Test.YtamniepfgddecaaL4
import Derived.Test.YtamniepfgddecaaL5
namespace Go.Proofs.Ytamniepfgddecaa
open Go Go.RowKit Go.Proofs.Tail Go.Sort
set_option linter.unusedSimpArgs false
set_option linter.unusedVariables false
/-- Their blocks are two. -/
def Apart (v v' : Value) : Prop := ∀ j, v.ownBlock = some j → v'.ownBlock ≠ some j
def bads4 : List T := [⟨4, 0, 0, 0, 0⟩, ⟨0, -1, 0, 0, 0⟩, ⟨1, 1, 0, 0, 0⟩, ⟨0, 0, 0, 0, 0⟩]
theorem slice_mid {w : World} {b o n c k : Nat} {xs : List T} (h : Tms w (some ⟨b, o, none⟩) n c xs) (hk : k < n) :
    (∀ W, (Instr.slice 22 (.slice (some ⟨b, o, none⟩) n c) (some (.int .i64 k)) (some (.int .i64 ((k : Int) + 1))) none).run Try.prog W = .ok (.slice (some ⟨b, o + k * 5, none⟩) 1 (c - k)) W) ∧ Tms w (some ⟨b, o + k * 5, none⟩) 1 (c - k) ((xs.drop k).take 1) := by
  have hc := h.cap
  refine ⟨fun W => ?_, ?_⟩
  · have h1 : (0 : Int) ≤ k := by omega
    have h2 : (k : Int) ≤ (k : Int) + 1 := by omega
    have h3 : (k : Int) + 1 ≤ c := by omega
    have h4 : ¬ c = k := by omega
    have h5 : c ≠ k := by omega
    have u := Try.underlying22
    have z := Try.sizeOf32
    have ha : (⟨b, o, none⟩ : Addr).add (k * 5) = ⟨b, o + k * 5, none⟩ := by unfold Addr.add; split <;> simp_all
    go_simp
  · exact tms_cap (Tms.take (h.drop (m := k) (by omega) (c' := c - k) (by omega)) (m := 1) (by omega)) (by omega)
theorem snoc_le {l : List T} {x : T} {k : Nat} (h : l.length ≤ k) : (l ++ [x]).length ≤ k + 1 := by rw [List.length_append]; exact Nat.succ_le_succ h
theorem apart_ne {v v' : Value} (h : Apart v v') : v'.ownBlock = none ∨ v'.ownBlock ≠ v.ownBlock := by
  cases e : v'.ownBlock with
  | none => exact .inl rfl
  | some j => exact .inr fun e2 => h j e2.symm e
theorem apart_ne' {v v' : Value} (h : Apart v v') : v.ownBlock = none ∨ v.ownBlock ≠ v'.ownBlock := by
  cases e : v.ownBlock with
  | none => exact .inl rfl
  | some j => exact .inr fun e2 => h j e e2.symm
theorem apart_new1 {v v' v1 : Value} {W : World} (h : Apart v v') (hat : v1.ownBlock = v.ownBlock ∨ v1.ownBlock = some W.heap.size) (hlt : ∀ j, v'.ownBlock = some j → j < W.heap.size) : Apart v1 v' := fun j hj e => by
  rcases hat with h1 | h1
  · exact h j (h1.symm.trans hj) e
  · rw [hj] at h1; injection h1 with h1; have := hlt j e; omega
theorem apart_new2 {v v' v1 : Value} {W : World} (h : Apart v v') (hat : v1.ownBlock = v'.ownBlock ∨ v1.ownBlock = some W.heap.size) (hlt : ∀ j, v.ownBlock = some j → j < W.heap.size) : Apart v v1 := fun j hj e => by
  rcases hat with h1 | h1
  · exact h j hj (h1.symm.trans e)
  · rw [e] at h1; injection h1 with h1; have := hlt j hj; omega
theorem el6 {w : World} {b o n c : Nat} {ts : List T} (h : Tms w (some ⟨b, o, none⟩) n c ts) {j : Nat} (hj : j < n) : ∃ t, At w b (o + j * 5) t := by
  obtain ⟨t, ht⟩ : ∃ t, ts[j]? = some t := ⟨_, List.getElem?_eq_getElem (by rw [h.len]; exact hj)⟩
  exact ⟨t, cells_of h ht⟩
set_option maxRecDepth 100000 in
set_option maxHeartbeats 32000000 in
theorem law_known (w : World) : Calls Try.prog 9 #[] w (Gives (.bool true) w) := by
  have B0 := Lib.hid (Below.refl w.heap.size w)
  have O0 := Lib.hid (show w.ownsRow w.heap.size 32 5 (.slice none 0 0) 0 (recT []) from World.ownsRow_nil w w.heap.size 32 5)
  go_enter Try.func9, Try.ntmps9
  go_wp2_with fail
  go_loopw [1, 2] (fun v i wr => ∃ (k : Nat) (L : List T), k ≤ 9 ∧ i = .int .i64 k ∧ Hid (L.length = k) ∧ Hid (wr.ownsRow w.heap.size 32 5 v k (recT L)) ∧ Hid (Below w.heap.size w wr)) (fun _ i _ => 9 - (intOf i).toNat)
  case atStart => exact ⟨0, [], Nat.zero_le _, rfl, Lib.hid rfl, O0, B0⟩
  case round =>
    clear B0 O0
    obtain ⟨k, L, hk, rfl, HL, HO, HB⟩ := hrel
    by_cases hlt : k < 9
    · have hd : decide ((k : Int) < 9) = true := decide_eq_true (by omega)
      have hd' : decide (k < 9) = true := decide_eq_true (by omega)
      obtain ⟨q, hq⟩ : ∃ q : Nat, q = k / 3 := ⟨_, rfl⟩
      obtain ⟨r, hr⟩ : ∃ r : Nat, r = k % 3 := ⟨_, rfl⟩
      have z1 : (k : Int).tdiv 3 = (q : Int) := by rw [Int.tdiv_eq_ediv_of_nonneg (by omega), hq]; omega
      have z2 : (k : Int).tmod 3 = (r : Int) := by rw [Int.tmod_eq_emod_of_nonneg (by omega), hr]; omega
      have z1' : (k : Int) / 3 = (q : Int) := by rw [hq]; omega
      have z2' : (k : Int) % 3 = (r : Int) := by rw [hr]; omega
      have z3 : IntKind.i64.wrap (q : Int) = (q : Int) := IntWalk.i64_in _ ⟨by omega, by omega⟩
      have z4 : IntKind.i64.wrap (r : Int) = (r : Int) := IntWalk.i64_in _ ⟨by omega, by omega⟩
      clear hq hr
      go_wp2_with (at_builtin; refine own_append_tms rfl (.tmp 17) (.tmp 24) 22 32 rfl Try.underlying22 infoT w.heap.size _ L (some ⟨wr.heap.size, 0, none⟩) 1 1 [⟨1, q, r, 0, 0⟩] rfl rfl (own_below (by rw [HL.out]; exact HO.out) (below_new wr _)) (tms_new wr ⟨1, q, r, 0, 0⟩ _ rfl) (by rw [HL.out]; omega) (below_then HB.out (below_new wr _)).size ?_; intro v1 w1 hown hgr hat)
      have HB1 := Lib.hid ((below_then HB.out (below_new wr _)).grown hgr (below_then HB.out (below_new wr _)).size (fun k hk => own_lt HO.out k hk))
      have HN := Lib.hid (show w1.ownsRow w.heap.size 32 5 v1 (k + 1) (recT (L ++ [⟨1, q, r, 0, 0⟩])) by rw [show k + 1 = (L ++ [(⟨1, q, r, 0, 0⟩ : T)]).length by rw [List.length_append, HL.out]; rfl]; exact hown)
      have HLN := Lib.hid (show (L ++ [(⟨1, q, r, 0, 0⟩ : T)]).length = k + 1 by rw [List.length_append, HL.out]; rfl)
      clear hown hgr hat HO HB HL
      go_roundw
      case rel => exact ⟨k + 1, _, by omega, by go_num, HLN, HN, HB1⟩
      case measure => simp [intOf]; omega
    · obtain rfl : k = 9 := by omega
      rw [show ((9 : Nat) : Int) = 9 from rfl]
      obtain ⟨Al, cl, ev, hr⟩ := own_tms HO.out (by omega)
      subst ev
      obtain ⟨bl, ol, rfl, _⟩ := hr.at_ (by omega)
      obtain ⟨w0, hw0⟩ : ∃ q, q = wr := ⟨_, rfl⟩
      subst hw0
      have HR := Lib.hid hr
      have HLW := HB
      have hcl := hr.cap
      have BB0 := Lib.hid (Below.refl w0.heap.size w0)
      clear HO hr HB
      go_wp2_with fail
      go_loopw [3] (fun i wr => ∃ m : Nat, m ≤ 514 ∧ i = .int .i64 m ∧ Hid (Below w0.heap.size w0 wr)) (fun i _ => 520 - (intOf i).toNat)
      case atStart => exact ⟨0, by omega, rfl, BB0⟩
      case round =>
        clear BB0
        obtain ⟨m, hm, rfl, HB⟩ := hrel
        by_cases hlt : m < 512
        · have hd : decide ((m : Int) < 512) = true := decide_eq_true (by omega)
          have hd' : decide (m < 512) = true := decide_eq_true (by omega)
          obtain ⟨wm, hwm⟩ : ∃ q, q = wr := ⟨_, rfl⟩
          subst hwm
          have N4 := Lib.hid (show wm.ownsRow wm.heap.size 32 5 (.slice none 0 0) ([] : List T).length (recT []) from World.ownsRow_nil _ _ _ _)
          have BM0 := Lib.hid (Below.refl wm.heap.size wm)
          have AP0 := Lib.hid (show Apart (.slice none 0 0) (.slice none 0 0) from fun j h => by cases h)
          have LL0 := Lib.hid (show ([] : List T).length ≤ 0 ∧ ([] : List T).length ≤ 0 from ⟨Nat.le_refl _, Nat.le_refl _⟩)
          go_wp2_with fail
          go_loopw [4, 5, 6] (fun v v' i wr => ∃ (k : Nat) (ls lo : List T), k ≤ 9 ∧ i = .int .i64 k ∧ Hid (ls.length ≤ k ∧ lo.length ≤ k) ∧ Hid (wr.ownsRow wm.heap.size 32 5 v ls.length (recT ls)) ∧ Hid (wr.ownsRow wm.heap.size 32 5 v' lo.length (recT lo)) ∧ Hid (Apart v v') ∧ Hid (Below wm.heap.size wm wr)) (fun _ _ i _ => 9 - (intOf i).toNat)
          case atStart => exact ⟨0, [], [], Nat.zero_le _, rfl, LL0, N4, N4, AP0, BM0⟩
          case round =>
            clear LL0 N4 AP0 BM0
            obtain ⟨k, ls, lo, hk, rfl, HLL, HS, HT, HAP, HBM⟩ := hrel
            by_cases hlt9 : k < 9
            · have hk9 : decide ((k : Int) < 9) = true := decide_eq_true (by omega)
              have hk9' : decide (k < 9) = true := decide_eq_true (by omega)
              obtain ⟨x, ax⟩ := el6 (HR.out.below At.stays (below_then HB.out HBM.out)) (j := 8 - k) (by omega)
              obtain ⟨y, ay⟩ := el6 (HR.out.below At.stays (below_then HB.out HBM.out)) (j := k) (by omega)
              have x0 := ax.c0
              have x1 := ax.c1
              have x2 := ax.c2
              have x3 := ax.c3
              have x4 := ax.c4
              have y0 := ay.c0
              have y1 := ay.c1
              have y2 := ay.c2
              have y3 := ay.c3
              have y4 := ay.c4
              clear ax ay
              have hl1 := HLL.out.1
              have hl2 := HLL.out.2
              go_wp2_with (at_builtin; first
                | (refine own_append_tms rfl (.tmp 39) (.tmp 45) 22 32 rfl Try.underlying22 infoT wm.heap.size _ ls (some ⟨wr.heap.size, 0, none⟩) 1 1 [x] rfl rfl (own_below HS.out (below_new wr _)) (tms_new wr x _ rfl) (by omega) (below_then HBM.out (below_new wr _)).size ?_
                   intro v1 w1 hown hgr hat
                   have BM1 := Lib.hid ((below_then HBM.out (below_new wr (.cells #[.int .i64 x.d, .int .i64 x.e, .int .i64 x.a, .int .i64 x.b, .int .i64 x.c] 32))).grown hgr (below_then HBM.out (below_new wr (.cells #[.int .i64 x.d, .int .i64 x.e, .int .i64 x.a, .int .i64 x.b, .int .i64 x.c] 32))).size (fun k hk => own_lt HS.out k hk))
                   have HS1 := Lib.hid hown
                   have HT1 := Lib.hid ((own_below HT.out (below_new wr (.cells #[.int .i64 x.d, .int .i64 x.e, .int .i64 x.a, .int .i64 x.b, .int .i64 x.c] 32))).kept hgr (apart_ne HAP.out))
                   have AP1 := Lib.hid (apart_new1 HAP.out hat (own_block_lt (own_below HT.out (below_new wr (.cells #[.int .i64 x.d, .int .i64 x.e, .int .i64 x.a, .int .i64 x.b, .int .i64 x.c] 32)))))
                   obtain ⟨y', ay'⟩ := el6 (HR.out.below At.stays (below_then HB.out BM1.out)) (j := k) (by omega)
                   have y5 := ay'.c0
                   have y6 := ay'.c1
                   have y7 := ay'.c2
                   have y8 := ay'.c3
                   have y9 := ay'.c4
                   clear hown hgr hat ay' y0 y1 y2 y3 y4 x0 x1 x2 x3 x4 HS HT HAP HBM)
                | (refine own_append_tms rfl (.tmp 54) (.tmp 59) 22 32 rfl Try.underlying22 infoT wm.heap.size _ lo (some ⟨w1.heap.size, 0, none⟩) 1 1 [y'] rfl rfl (own_below HT1.out (below_new w1 _)) (tms_new w1 y' _ rfl) (by omega) (below_then BM1.out (below_new w1 _)).size ?_
                   intro v2 w2 hown hgr hat
                   have BM2 := Lib.hid ((below_then BM1.out (below_new w1 (.cells #[.int .i64 y'.d, .int .i64 y'.e, .int .i64 y'.a, .int .i64 y'.b, .int .i64 y'.c] 32))).grown hgr (below_then BM1.out (below_new w1 (.cells #[.int .i64 y'.d, .int .i64 y'.e, .int .i64 y'.a, .int .i64 y'.b, .int .i64 y'.c] 32))).size (fun k hk => own_lt HT1.out k hk))
                   have HT2 := Lib.hid hown
                   have HS2 := Lib.hid ((own_below HS1.out (below_new w1 (.cells #[.int .i64 y'.d, .int .i64 y'.e, .int .i64 y'.a, .int .i64 y'.b, .int .i64 y'.c] 32))).kept hgr (apart_ne' AP1.out))
                   have AP2 := Lib.hid (apart_new2 AP1.out hat (own_block_lt (own_below HS1.out (below_new w1 (.cells #[.int .i64 y'.d, .int .i64 y'.e, .int .i64 y'.a, .int .i64 y'.b, .int .i64 y'.c] 32)))))
                   clear hown hgr hat y5 y6 y7 y8 y9 HS1 HT1 AP1 BM1)
                | (refine own_append_tms rfl (.tmp 54) (.tmp 59) 22 32 rfl Try.underlying22 infoT wm.heap.size _ lo (some ⟨wr.heap.size, 0, none⟩) 1 1 [y] rfl rfl (own_below HT.out (below_new wr _)) (tms_new wr y _ rfl) (by omega) (below_then HBM.out (below_new wr _)).size ?_
                   intro v2 w2 hown hgr hat
                   have BM3 := Lib.hid ((below_then HBM.out (below_new wr (.cells #[.int .i64 y.d, .int .i64 y.e, .int .i64 y.a, .int .i64 y.b, .int .i64 y.c] 32))).grown hgr (below_then HBM.out (below_new wr (.cells #[.int .i64 y.d, .int .i64 y.e, .int .i64 y.a, .int .i64 y.b, .int .i64 y.c] 32))).size (fun k hk => own_lt HT.out k hk))
                   have HT3 := Lib.hid hown
                   have HS3 := Lib.hid ((own_below HS.out (below_new wr (.cells #[.int .i64 y.d, .int .i64 y.e, .int .i64 y.a, .int .i64 y.b, .int .i64 y.c] 32))).kept hgr (apart_ne' HAP.out))
                   have AP3 := Lib.hid (apart_new2 HAP.out hat (own_block_lt (own_below HS.out (below_new wr (.cells #[.int .i64 y.d, .int .i64 y.e, .int .i64 y.a, .int .i64 y.b, .int .i64 y.c] 32)))))
                   clear hown hgr hat y0 y1 y2 y3 y4 x0 x1 x2 x3 x4 HS HT HAP HBM))
              · go_roundw
                case rel => exact ⟨k + 1, ls ++ [x], lo ++ [y'], by omega, by go_num, Lib.hid ⟨snoc_le hl1, snoc_le hl2⟩, HS2, HT2, AP2, BM2⟩
                case measure => simp [intOf]; omega
              · go_roundw
                case rel => exact ⟨k + 1, ls ++ [x], lo, by omega, by go_num, Lib.hid ⟨snoc_le hl1, Nat.le_succ_of_le hl2⟩, HS1, HT1, AP1, BM1⟩
                case measure => simp [intOf]; omega
              · go_roundw
                case rel => exact ⟨k + 1, ls, lo ++ [y], by omega, by go_num, Lib.hid ⟨Nat.le_succ_of_le hl1, snoc_le hl2⟩, HS3, HT3, AP3, BM3⟩
                case measure => simp [intOf]; omega
              · go_roundw
                case rel => exact ⟨k + 1, ls, lo, by omega, by go_num, Lib.hid ⟨Nat.le_succ_of_le hl1, Nat.le_succ_of_le hl2⟩, HS, HT, HAP, HBM⟩
                case measure => simp [intOf]; omega
            · obtain rfl : k = 9 := by omega
              rw [show ((9 : Nat) : Int) = 9 from rfl]
              have hl1 := HLL.out.1
              have hl2 := HLL.out.2
              obtain ⟨As, cs, ev, hrs⟩ := own_tms HS.out (by omega)
              subst ev
              obtain ⟨Ao, co, ev, hro⟩ := own_tms HT.out (by omega)
              subst ev
              have HRS := Lib.hid hrs
              have HRO := Lib.hid hro
              have HRL := Lib.hid (HR.out.below At.stays (below_then HB.out HBM.out))
              have HBW := Lib.hid (below_then HB.out HBM.out)
              clear hrs hro HS HT HAP HBM HB HLL
              generalize hsn : ls.length = sn at *
              generalize hon : lo.length = on_ at *
              clear hsn hon
              obtain ⟨a, ha9, ha⟩ : ∃ a : Nat, a < 9 ∧ a = m % 9 := ⟨_, Nat.mod_lt _ (by decide), rfl⟩
              obtain ⟨b, hb9, hb⟩ : ∃ b : Nat, b < 9 ∧ b = m / 9 % 9 := ⟨_, Nat.mod_lt _ (by decide), rfl⟩
              obtain ⟨d, hd9, hd5⟩ : ∃ d : Nat, d < 9 ∧ d = m / 5 % 9 := ⟨_, Nat.mod_lt _ (by decide), rfl⟩
              have r1 : (m : Int).tmod 9 = (a : Int) := by rw [Int.tmod_eq_emod_of_nonneg (by omega), ha]; omega
              have r1' : (m : Int) % 9 = (a : Int) := by rw [ha]; omega
              obtain ⟨m9, hm9⟩ : ∃ q : Nat, q = m / 9 := ⟨_, rfl⟩
              obtain ⟨m5, hm5⟩ : ∃ q : Nat, q = m / 5 := ⟨_, rfl⟩
              have r2 : (m : Int).tdiv 9 = (m9 : Int) := by rw [Int.tdiv_eq_ediv_of_nonneg (by omega), hm9]; omega
              have r2' : (m : Int) / 9 = (m9 : Int) := by rw [hm9]; omega
              have r3 : (m : Int).tdiv 5 = (m5 : Int) := by rw [Int.tdiv_eq_ediv_of_nonneg (by omega), hm5]; omega
              have r3' : (m : Int) / 5 = (m5 : Int) := by rw [hm5]; omega
              have r4 : (m9 : Int).tmod 9 = (b : Int) := by rw [Int.tmod_eq_emod_of_nonneg (by omega), hb, hm9]; omega
              have r4' : (m9 : Int) % 9 = (b : Int) := by rw [hb, hm9]; omega
              have r5 : (m5 : Int).tmod 9 = (d : Int) := by rw [Int.tmod_eq_emod_of_nonneg (by omega), hd5, hm5]; omega
              have r5' : (m5 : Int) % 9 = (d : Int) := by rw [hd5, hm5]; omega
              have w1 : IntKind.i64.wrap (a : Int) = (a : Int) := IntWalk.i64_in _ ⟨by omega, by omega⟩
              have w2 : IntKind.i64.wrap (b : Int) = (b : Int) := IntWalk.i64_in _ ⟨by omega, by omega⟩
              have w3 : IntKind.i64.wrap (d : Int) = (d : Int) := IntWalk.i64_in _ ⟨by omega, by omega⟩
              have w4 : IntKind.i64.wrap (m9 : Int) = (m9 : Int) := IntWalk.i64_in _ ⟨by omega, by omega⟩
              have w5 : IntKind.i64.wrap (m5 : Int) = (m5 : Int) := IntWalk.i64_in _ ⟨by omega, by omega⟩
              have g1 : (a : Int) < 9 := by omega
              have g2 : (b : Int) < 9 := by omega
              have g3 : (d : Int) < 9 := by omega
              have g4 : (0 : Int) ≤ a := by omega
              obtain ⟨x, ax⟩ := el6 HRL.out (j := a) ha9
              obtain ⟨y, ay⟩ := el6 HRL.out (j := b) hb9
              obtain ⟨z, az⟩ := el6 HRL.out (j := d) hd9
              obtain ⟨Ad, hsl, hdr⟩ := slice_from HRL.out (k := a) (by omega)
              have HDR := Lib.hid hdr
              clear hdr ha hb hd5 hm9 hm5
              have HX := Lib.hid ax
              have HY := Lib.hid ay
              have HZ := Lib.hid az
              clear ax ay az
              have x0 := fun p : After wr => cell_after HX.out.c0 p
              have x1 := fun p : After wr => cell_after HX.out.c1 p
              have x2 := fun p : After wr => cell_after HX.out.c2 p
              have x3 := fun p : After wr => cell_after HX.out.c3 p
              have x4 := fun p : After wr => cell_after HX.out.c4 p
              have y0 := fun p : After wr => cell_after HY.out.c0 p
              have y1 := fun p : After wr => cell_after HY.out.c1 p
              have y2 := fun p : After wr => cell_after HY.out.c2 p
              have y3 := fun p : After wr => cell_after HY.out.c3 p
              have y4 := fun p : After wr => cell_after HY.out.c4 p
              have z0 := fun p : After wr => cell_after HZ.out.c0 p
              have z1 := fun p : After wr => cell_after HZ.out.c1 p
              have z2 := fun p : After wr => cell_after HZ.out.c2 p
              have z3 := fun p : After wr => cell_after HZ.out.c3 p
              have z4 := fun p : After wr => cell_after HZ.out.c4 p
              have C1 := Lib.hid (fun p : After wr => law_of As sn cs ls p.val (HRS.out.below At.stays p.below))
              have C2 := Lib.hid (fun p : After wr => law_holds_any As sn cs ls x y p.val (HRS.out.below At.stays p.below))
              have C3 := Lib.hid (fun p : After wr => law_two As Ao sn cs on_ co ls lo p.val (HRS.out.below At.stays p.below) (HRO.out.below At.stays p.below))
              have C4 := Lib.hid (fun p : After wr => law_order_any As Ao Ad sn cs on_ co (9 - a) (cl - a) ls lo (L.drop a) z p.val (HRS.out.below At.stays p.below) (HRO.out.below At.stays p.below) (HDR.out.below At.stays p.below))
              go_wp2_with fail
              refine quiet_after (by kernel_rfl) (by kernel_rfl) ?_
              repeat (first | go_big_quiet_step ((first | (go_at_call 3; with_reducible exact calls_after (C1.out _)) | (go_at_call 4; with_reducible exact calls_after (C2.out _)) | (go_at_call 5; with_reducible exact calls_after (C3.out _)) | (go_at_call 6; with_reducible exact calls_after (C4.out _)))) | quiet_step ((first | (go_at_call 3; with_reducible exact calls_after (C1.out _)) | (go_at_call 4; with_reducible exact calls_after (C2.out _)) | (go_at_call 5; with_reducible exact calls_after (C3.out _)) | (go_at_call 6; with_reducible exact calls_after (C4.out _)))))
              refine wpQuiet_nil ?_
              intro wz hw'
              obtain ⟨p, rfl⟩ := hw'
              obtain ⟨wq, hbq⟩ := p
              dsimp only
              have HRS2 := Lib.hid (HRS.out.below At.stays hbq)
              have HRO2 := Lib.hid (HRO.out.below At.stays hbq)
              have HB2 := Lib.hid (below_then HBW.out hbq)
              clear hbq C1 C2 C3 C4 x0 x1 x2 x3 x4 y0 y1 y2 y3 y4 z0 z1 z2 z3 z4 HX HY HZ HDR hsl HRS HRO HRL HBW r2 r2' r3 r3' r4 r4' r5 r5' w2 w3 w4 w5 g2 g3
              have lsn := HRS2.out.len
              have lon := HRO2.out.len
              obtain ⟨qf, mf, ef, isf⟩ := Is.of (ofT ls) (Nat.le_trans of_len (by omega))
              obtain ⟨qg, mg, eg, isg⟩ := Is.of (ofT lo) (Nat.le_trans of_len (by omega))
              have IF := Lib.hid isf
              have IG := Lib.hid isg
              have D1 := Lib.hid ((refof_any As sn cs ls wq HRS2.out (by omega)).mono fun _ _ => IF.out.gives)
              have D2 := Lib.hid (fun W h => (refof_any Ao on_ co lo W (HRO2.out.below At.stays h) (by omega)).mono fun _ _ => IG.out.gives)
              clear lsn lon isf isg
              go_wp2_with fail
              refine D1.out.mono ?_
              rintro e w6 ⟨Af, cf, rfl, _, hrf, hb⟩
              have HRF := Lib.hid hrf
              have HB3 := Lib.hid hb
              clear hrf hb D1
              go_wp2_with fail
              refine (D2.out _ HB3.out).mono ?_
              rintro e w7 ⟨Ag, cg, rfl, _, hrg, hb⟩
              have HRG := Lib.hid hrg
              have HRF2 := Lib.hid (HRF.out.below At.stays hb)
              have HB4 := Lib.hid (below_then HB2.out (below_then HB3.out hb))
              obtain ⟨x, ax⟩ := el6 (HR.out.below At.stays HB4.out) (j := a) ha9
              obtain ⟨y, ay⟩ := el6 (HR.out.below At.stays HB4.out) (j := 0) (by omega)
              rw [Nat.zero_mul, Nat.add_zero] at ay
              have HX := Lib.hid ax
              have HY := Lib.hid ay
              clear hrg hb D2 HB3 HB2 HRF HRS2 HRO2 ax ay
              have x0 := fun p : After w7 => cell_after HX.out.c0 p
              have x1 := fun p : After w7 => cell_after HX.out.c1 p
              have x2 := fun p : After w7 => cell_after HX.out.c2 p
              have x3 := fun p : After w7 => cell_after HX.out.c3 p
              have x4 := fun p : After w7 => cell_after HX.out.c4 p
              have y0 := fun p : After w7 => cell_after HY.out.c0 p
              have y1 := fun p : After w7 => cell_after HY.out.c1 p
              have y2 := fun p : After w7 => cell_after HY.out.c2 p
              have y3 := fun p : After w7 => cell_after HY.out.c3 p
              have y4 := fun p : After w7 => cell_after HY.out.c4 p
              have C1 := Lib.hid (fun p : After w7 => law_two Af Ag mf cf mg cg qf qg p.val (HRF2.out.below At.stays p.below) (HRG.out.below At.stays p.below))
              have C2 := Lib.hid (fun p : After w7 => law_two Af none mf cf 0 0 qf [] p.val (HRF2.out.below At.stays p.below) (Rd.nil _ _ _))
              have C3 := Lib.hid (fun p : After w7 => law_two none Ag 0 0 mg cg [] qg p.val (Rd.nil _ _ _) (HRG.out.below At.stays p.below))
              have C4 := Lib.hid (fun p : After w7 => law_holds_any Af mf cf qf x y p.val (HRF2.out.below At.stays p.below))
              go_wp2_with fail
              refine quiet_after (by kernel_rfl) (by kernel_rfl) ?_
              repeat (first | go_big_quiet_step ((first | (go_at_call 5; first | with_reducible exact calls_after (C1.out _) | with_reducible exact calls_after (C2.out _) | with_reducible exact calls_after (C3.out _)) | (go_at_call 4; with_reducible exact calls_after (C4.out _)))) | quiet_step ((first | (go_at_call 5; first | with_reducible exact calls_after (C1.out _) | with_reducible exact calls_after (C2.out _) | with_reducible exact calls_after (C3.out _)) | (go_at_call 4; with_reducible exact calls_after (C4.out _)))))
              refine wpQuiet_nil ?_
              intro wz hw'
              obtain ⟨p, rfl⟩ := hw'
              obtain ⟨wq2, hbq⟩ := p
              dsimp only
              have HBN := Lib.hid (below_then HB4.out hbq)
              clear hbq C1 C2 C3 C4 x0 x1 x2 x3 x4 y0 y1 y2 y3 y4 HX HY HRF2 HRG HB4 r1 r1' w1 g1 g4
              go_wp2_with fail
              go_roundw
              case rel => exact ⟨m + 3, by omega, by go_num, HBN⟩
              case measure => simp [intOf]; omega
        · have hd : decide ((m : Int) < 512) = false := decide_eq_false (by omega)
          have hd' : decide (m < 512) = false := decide_eq_false (by omega)
          obtain ⟨wb, hwb⟩ : ∃ q, q = wr := ⟨_, rfl⟩
          subst hwb
          have HBAD := Lib.hid (tms_lit wb bads4 #[.int .i64 4, .int .i64 0, .int .i64 0, .int .i64 0, .int .i64 0, .int .i64 0, .int .i64 (-1), .int .i64 0, .int .i64 0, .int .i64 0, .int .i64 1, .int .i64 1, .int .i64 0, .int .i64 0, .int .i64 0, .int .i64 0, .int .i64 0, .int .i64 0, .int .i64 0, .int .i64 0] rfl 4 rfl (by omega))
          have HBB := Lib.hid (below_then HB.out (below_new wb (.cells #[.int .i64 4, .int .i64 0, .int .i64 0, .int .i64 0, .int .i64 0, .int .i64 0, .int .i64 (-1), .int .i64 0, .int .i64 0, .int .i64 0, .int .i64 1, .int .i64 1, .int .i64 0, .int .i64 0, .int .i64 0, .int .i64 0, .int .i64 0, .int .i64 0, .int .i64 0, .int .i64 0] 32)))
          go_wp2_with fail
          obtain ⟨wc, hwc⟩ : ∃ q, q = (wb.alloc (.cells #[.int .i64 4, .int .i64 0, .int .i64 0, .int .i64 0, .int .i64 0, .int .i64 0, .int .i64 (-1), .int .i64 0, .int .i64 0, .int .i64 0, .int .i64 1, .int .i64 1, .int .i64 0, .int .i64 0, .int .i64 0, .int .i64 0, .int .i64 0, .int .i64 0, .int .i64 0, .int .i64 0] 32)) := ⟨_, rfl⟩
          rw [← hwc] at HBAD HBB ⊢
          clear hwc HB hd hd'
          have BC0 := Lib.hid (Below.refl wc.heap.size wc)
          go_loopw [12] (fun i wr => ∃ k : Nat, k ≤ 4 ∧ i = .int .i64 k ∧ Hid (Below wc.heap.size wc wr)) (fun i _ => 4 - (intOf i).toNat)
          case atStart => exact ⟨0, by omega, rfl, BC0⟩
          case round =>
            clear BC0
            obtain ⟨k, hk, rfl, HB⟩ := hrel
            by_cases hlt4 : k < 4
            · have hk4 : decide ((k : Int) < 4) = true := decide_eq_true (by omega)
              have hk4' : decide (k < 4) = true := decide_eq_true (by omega)
              have hki : (k : Int) < 4 := by omega
              have hki0 : (0 : Int) ≤ k := by omega
              have HR2 := Lib.hid (HR.out.below At.stays (below_then HBB.out HB.out))
              have HD2 := Lib.hid (HBAD.out.below At.stays HB.out)
              obtain ⟨x, ax⟩ := el6 HR2.out (j := 0) (by omega)
              rw [Nat.zero_mul, Nat.add_zero] at ax
              obtain ⟨y, ay⟩ := el6 HD2.out (j := k) (by omega)
              rw [Nat.zero_add] at ay
              have x0 := ax.c0
              have x1 := ax.c1
              have x2 := ax.c2
              have x3 := ax.c3
              have x4 := ax.c4
              have y0 := ay.c0
              have y1 := ay.c1
              have y2 := ay.c2
              have y3 := ay.c3
              have y4 := ay.c4
              obtain ⟨Ad, hs1, hd1⟩ := slice_from HD2.out (k := k) (by omega)
              have hs2 : ∀ W, (Instr.slice 22 (.slice (some ⟨bl, ol, none⟩) 9 cl) (some (.int .i64 4)) (some (.int .i64 5)) none).run Try.prog W = .ok (.slice (some ⟨bl, ol + 20, none⟩) 1 (cl - 4)) W := (slice_mid HR2.out (k := 4) (by omega)).1
              obtain ⟨hs3, hd3⟩ := slice_mid HD2.out (k := k) (by omega)
              rw [Nat.zero_add] at hs3 hd3
              have HD1 := Lib.hid hd1
              have HD3 := Lib.hid hd3
              have HD4 := Lib.hid (show Tms wr (some ⟨bl, ol + 20, none⟩) 1 (cl - 4) ((L.drop 4).take 1) from (slice_mid HR2.out (k := 4) (by omega)).2)
              have zi : IntKind.i64.wrap ((k : Int) + 1) = (k : Int) + 1 := IntWalk.i64_in _ ⟨by omega, by omega⟩
              have C1 := Lib.hid (fun (W : World) (h : Below wr.heap.size wr W) => law_of Ad (4 - k) (4 - k) (bads4.drop k) W (HD1.out.below At.stays h))
              have C2 := Lib.hid (fun (V : World) (h : Below wr.heap.size wr V) => law_of (some ⟨V.heap.size, 0, none⟩) 2 2 [x, y] (V.alloc (.cells #[.int .i64 x.d, .int .i64 x.e, .int .i64 x.a, .int .i64 x.b, .int .i64 x.c, .int .i64 y.d, .int .i64 y.e, .int .i64 y.a, .int .i64 y.b, .int .i64 y.c] 32)) (tms_lit V [x, y] #[.int .i64 x.d, .int .i64 x.e, .int .i64 x.a, .int .i64 x.b, .int .i64 x.c, .int .i64 y.d, .int .i64 y.e, .int .i64 y.a, .int .i64 y.b, .int .i64 y.c] rfl 2 rfl (by omega)))
              have C3 := Lib.hid (fun (W : World) (h : Below wr.heap.size wr W) => law_holds_any (some ⟨bl, ol + 20, none⟩) 1 (cl - 4) ((L.drop 4).take 1) y x W (HD4.out.below At.stays h))
              have C4 := Lib.hid (fun (W : World) (h : Below wr.heap.size wr W) => law_two (some ⟨bl, ol + 20, none⟩) (some ⟨wb.heap.size, k * 5, none⟩) 1 (cl - 4) 1 (4 - k) ((L.drop 4).take 1) ((bads4.drop k).take 1) W (HD4.out.below At.stays h) (HD3.out.below At.stays h))
              have C5 := Lib.hid (fun (W : World) (h : Below wr.heap.size wr W) => law_holds_any none 0 0 [] y x W (Rd.nil _ _ _))
              have C6 := Lib.hid (fun (W : World) (h : Below wr.heap.size wr W) => law_two (some ⟨wb.heap.size, k * 5, none⟩) none 1 (4 - k) 0 0 ((bads4.drop k).take 1) [] W (HD3.out.below At.stays h) (Rd.nil _ _ _))
              clear ax ay hd1 hd3
              go_wp2_with fail
              go_region_held3 (fun w' => w'.cell? ⟨bl, ol, none⟩ = some (.int .i64 x.d) ∧ w'.cell? ⟨bl, ol + 1, none⟩ = some (.int .i64 x.e) ∧ w'.cell? ⟨bl, ol + 2, none⟩ = some (.int .i64 x.a) ∧ w'.cell? ⟨bl, ol + 3, none⟩ = some (.int .i64 x.b) ∧ w'.cell? ⟨bl, ol + 4, none⟩ = some (.int .i64 x.c) ∧ w'.cell? ⟨wb.heap.size, k * 5, none⟩ = some (.int .i64 y.d) ∧ w'.cell? ⟨wb.heap.size, k * 5 + 1, none⟩ = some (.int .i64 y.e) ∧ w'.cell? ⟨wb.heap.size, k * 5 + 2, none⟩ = some (.int .i64 y.a) ∧ w'.cell? ⟨wb.heap.size, k * 5 + 3, none⟩ = some (.int .i64 y.b) ∧ w'.cell? ⟨wb.heap.size, k * 5 + 4, none⟩ = some (.int .i64 y.c))
                (first | ((with_reducible refine keep10 ?_ x0 x1 x2 x3 x4 y0 y1 y2 y3 y4); repeat (first | (with_reducible exact Below.refl _ _) | (with_reducible exact HB.out) | (with_reducible refine below_alloc ?_ _) | (with_reducible refine below_drew ?_) | (with_reducible refine below_then ?_ hb1) | (with_reducible refine below_then ?_ hb2) | (with_reducible refine below_then ?_ hb3) | (with_reducible refine below_then ?_ hb4) | (with_reducible refine below_then ?_ hb5) | (with_reducible refine below_then ?_ hb6))) | go_keep)
                (first
                  | (go_at_call 3
                     first
                     | (with_reducible refine (C1.out _ ?_).mono ?_
                        · exact (by repeat (first | (with_reducible exact Below.refl _ _) | (with_reducible exact HB.out) | (with_reducible refine below_alloc ?_ _) | (with_reducible refine below_drew ?_) | (with_reducible refine below_then ?_ hb1) | (with_reducible refine below_then ?_ hb2) | (with_reducible refine below_then ?_ hb3) | (with_reducible refine below_then ?_ hb4) | (with_reducible refine below_then ?_ hb5) | (with_reducible refine below_then ?_ hb6)))
                        rintro e wv1 ⟨rfl, hb1⟩)
                     | (with_reducible refine (C2.out _ ?_).mono ?_
                        · exact (by repeat (first | (with_reducible exact Below.refl _ _) | (with_reducible exact HB.out) | (with_reducible refine below_alloc ?_ _) | (with_reducible refine below_drew ?_) | (with_reducible refine below_then ?_ hb1) | (with_reducible refine below_then ?_ hb2) | (with_reducible refine below_then ?_ hb3) | (with_reducible refine below_then ?_ hb4) | (with_reducible refine below_then ?_ hb5) | (with_reducible refine below_then ?_ hb6)))
                        rintro e wv2 ⟨rfl, hb2⟩))
                  | (go_at_call 4
                     first
                     | (with_reducible refine (C3.out _ ?_).mono ?_
                        · exact (by repeat (first | (with_reducible exact Below.refl _ _) | (with_reducible exact HB.out) | (with_reducible refine below_alloc ?_ _) | (with_reducible refine below_drew ?_) | (with_reducible refine below_then ?_ hb1) | (with_reducible refine below_then ?_ hb2) | (with_reducible refine below_then ?_ hb3) | (with_reducible refine below_then ?_ hb4) | (with_reducible refine below_then ?_ hb5) | (with_reducible refine below_then ?_ hb6)))
                        rintro e wv3 ⟨rfl, hb3⟩)
                     | (with_reducible refine (C5.out _ ?_).mono ?_
                        · exact (by repeat (first | (with_reducible exact Below.refl _ _) | (with_reducible exact HB.out) | (with_reducible refine below_alloc ?_ _) | (with_reducible refine below_drew ?_) | (with_reducible refine below_then ?_ hb1) | (with_reducible refine below_then ?_ hb2) | (with_reducible refine below_then ?_ hb3) | (with_reducible refine below_then ?_ hb4) | (with_reducible refine below_then ?_ hb5) | (with_reducible refine below_then ?_ hb6)))
                        rintro e wv5 ⟨rfl, hb5⟩))
                  | (go_at_call 5
                     first
                     | (with_reducible refine (C4.out _ ?_).mono ?_
                        · exact (by repeat (first | (with_reducible exact Below.refl _ _) | (with_reducible exact HB.out) | (with_reducible refine below_alloc ?_ _) | (with_reducible refine below_drew ?_) | (with_reducible refine below_then ?_ hb1) | (with_reducible refine below_then ?_ hb2) | (with_reducible refine below_then ?_ hb3) | (with_reducible refine below_then ?_ hb4) | (with_reducible refine below_then ?_ hb5) | (with_reducible refine below_then ?_ hb6)))
                        rintro e wv4 ⟨rfl, hb4⟩)
                     | (with_reducible refine (C6.out _ ?_).mono ?_
                        · exact (by repeat (first | (with_reducible exact Below.refl _ _) | (with_reducible exact HB.out) | (with_reducible refine below_alloc ?_ _) | (with_reducible refine below_drew ?_) | (with_reducible refine below_then ?_ hb1) | (with_reducible refine below_then ?_ hb2) | (with_reducible refine below_then ?_ hb3) | (with_reducible refine below_then ?_ hb4) | (with_reducible refine below_then ?_ hb5) | (with_reducible refine below_then ?_ hb6)))
                        rintro e wv6 ⟨rfl, hb6⟩)))
              have HN := Lib.hid (show Below wc.heap.size wc wv6 from by repeat (first | (with_reducible exact HB.out) | (with_reducible refine below_alloc ?_ _) | (with_reducible refine below_drew ?_) | (with_reducible refine below_then ?_ hb1) | (with_reducible refine below_then ?_ hb2) | (with_reducible refine below_then ?_ hb3) | (with_reducible refine below_then ?_ hb4) | (with_reducible refine below_then ?_ hb5) | (with_reducible refine below_then ?_ hb6)))
              clear x0 x1 x2 x3 x4 y0 y1 y2 y3 y4 hs1 hs2 hs3 HD1 HD2 HD3 HD4 HR2 C1 C2 C3 C4 C5 C6 hb1 hb2 hb3 hb4 hb5 hb6 zi
              go_wp2_with fail
              go_roundw
              case rel => exact ⟨k + 1, by omega, by go_num, HN⟩
              case measure => simp [intOf]; omega
            · obtain rfl : k = 4 := by omega
              have C1 := Lib.hid (law_of none 0 0 [] wr (Rd.nil _ _ _))
              have HW := Lib.hid (below_then HLW.out (below_then HBB.out HB.out))
              clear HB HBB HLW HBAD
              go_wp2_with fail
              refine C1.out.mono ?_
              rintro e w8 ⟨rfl, hb⟩
              have HW2 := Lib.hid (below_then HW.out hb)
              clear hb
              go_wp2_with fail
              refine (works_any _).mono ?_
              rintro e w9 ⟨rfl, hb⟩
              have HW3 := Lib.hid (below_then HW2.out hb)
              clear hb
              go_wp2_with fail
              go_ret
              exact .bool rfl HW3.out
end Go.Proofs.Ytamniepfgddecaa
