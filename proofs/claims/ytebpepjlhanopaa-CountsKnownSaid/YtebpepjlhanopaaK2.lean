/- The walk of CountsKnown. -/
import Derived.Test.YtebpepjlhanopaaRows
import Derived.IntWalk
import Derived.Laws.Pointers
import Derived.Deep.RegionHeld3
import Derived.Test.YtebpepjlhanopaaWords
import Derived.Test.YtebpepjlhanopaaByts
import Derived.Test.YtebpepjlhanopaaFrame
import Derived.Test.YtebpepjlhanopaaElems
import Derived.Test.YtebpepjlhanopaaMapOwn
import Derived.Test.YtebpepjlhanopaaS1
import Derived.Test.YtebpepjlhanopaaS2
import Derived.Test.YtebpepjlhanopaaEqs
import Derived.Test.YtebpepjlhanopaaU1
import Derived.Test.YtebpepjlhanopaaU3
import Derived.Test.YtebpepjlhanopaaA1
import Derived.Test.YtebpepjlhanopaaA2
import Derived.Test.YtebpepjlhanopaaB1
import Derived.Test.YtebpepjlhanopaaB5
import Derived.Test.YtebpepjlhanopaaM1
import Derived.Test.YtebpepjlhanopaaM2
import Derived.Test.YtebpepjlhanopaaM3
import Derived.Test.YtebpepjlhanopaaM6
import Derived.Test.YtebpepjlhanopaaM7
import Derived.Test.YtebpepjlhanopaaM8
import Derived.Test.YtebpepjlhanopaaR0
import Derived.Test.YtebpepjlhanopaaR1
import Derived.Test.YtebpepjlhanopaaR2
import Derived.Test.YtebpepjlhanopaaP4
import Derived.Test.YtebpepjlhanopaaL0b
import Derived.Test.YtebpepjlhanopaaW1
import Derived.Test.YtebpepjlhanopaaL1
import Derived.Test.YtebpepjlhanopaaL3
import Derived.Test.YtebpepjlhanopaaL5
namespace Go.Proofs.Ytebpepjlhanopaa
open Go Go.RowKit Go.Proofs.Tail Go.Sort
set_option linter.unusedSimpArgs false
set_option linter.unusedVariables false
theorem times_nil2 (w : World) : Calls Try.prog 12 #[.pointer none] w (Gives (.slice none 0 0) w) := by
  go_enter Try.func12, Try.ntmps12
  go_wp2
  go_ret
  exact ⟨rfl, Below.refl _ _⟩
theorem delete_nil (f : FuncId) (cp : Value) (w : World) (eg : ∀ args W, (callFunc f args).run Try.prog W = .ok (.enter f args) W) :
    Calls Try.prog 30 #[.slice none 0 0, .func (.func f) #[] #[cp]] w (Gives (.slice none 0 0) w) := by
  have HI := Lib.hid (index_fst none 0 0 f cp (fun _ => false) [] w (Rd.nil _ _ _) eg (fun x hx => by cases hx))
  go_enter Try.func30, Try.ntmps30
  go_wp2_with fail
  refine HI.out.mono ?_
  rintro e w1 ⟨hb, ⟨k, x, hx, _⟩ | ⟨_, rfl⟩⟩
  · cases hx
  · have HB := Lib.hid hb
    clear hb HI
    go_wp2_with fail
    go_ret
    exact ⟨rfl, HB.out⟩
set_option maxHeartbeats 2000000 in
theorem front_nil (w : World) : Calls Try.prog 15 #[.pointer none] w (fun e w' => ∃ A c, e = .returned (.slice A 0 c) ∧ Below w.heap.size w w') := by
  have HB := Lib.hid (below_new w (.cells #[.pointer none] 23))
  have HX := Lib.hid (Blk.new w [.pointer none] 23 _ rfl)
  have HT := Lib.hid (times_nil2 (w.alloc (.cells #[.pointer none] 23)))
  have hmf : ∀ (fn : Fn) (first cap : Array Value) (w : World), (Instr.makeFunc fn first cap).run Try.prog w = .ok (.func fn first cap) w := fun _ _ _ _ => rfl
  go_enter Try.func15, Try.ntmps15
  go_wp2_with fail
  refine HT.out.mono ?_
  rintro e w1 ⟨rfl, hb1⟩
  have HB1 := Lib.hid (below_then HB.out hb1)
  clear hb1 HT
  go_wp2_with fail
  refine (delete_nil 31 (.pointer (some ⟨w.heap.size, 0, none⟩)) _ enters_pos).mono ?_
  rintro e w2 ⟨rfl, hb2⟩
  have HB2 := Lib.hid (below_then HB1.out hb2)
  have HOF := Lib.hid (of_any none 0 0 [] w2 (Rd.nil _ _ _) (by omega))
  clear hb2
  go_wp2_with fail
  refine HOF.out.mono ?_
  rintro e w3 ⟨v3, rfl, hrow3, hb3⟩
  rw [ofT_nil] at hrow3
  obtain ⟨A, c, rfl, _⟩ := own_tms hrow3 (by simp)
  have HB3 := Lib.hid (below_then HB2.out hb3)
  clear hrow3 hb3 HOF
  go_wp2_with fail
  go_ret
  exact ⟨A, c, rfl, HB3.out⟩
/-- A row of steps that a literal has laid. -/
theorem cos_new (W : World) (L : List (T × Int)) (t : TypeId) (n : Nat) (hn : L.length = n) (hb : n ≤ 9223372036854775807) : Cos (W.alloc (.cells (recC L).toArray t)) (some ⟨W.heap.size, 0, none⟩) n n L :=
  ⟨hn, Nat.le_refl _, hb, fun hp => ⟨W.heap.size, 0, rfl, fun j x hj => by
    have hjl := (List.getElem?_eq_some_iff.1 hj).1
    have hx := (List.getElem?_eq_some_iff.1 hj).2
    have hB := Blk.new W (recC L) t _ rfl
    have key : ∀ m, m < 6 → (W.alloc (.cells (recC L).toArray t)).cell? ⟨W.heap.size, 0 + j * 6 + m, none⟩ = some ((encC x)[m]!) := fun m hm => by
      rw [hB.cell, show 0 + j * 6 + m = j * 6 + m by omega]
      have h1 := flatMap_get (enc := encC) (k := 6) (fun _ => rfl) L (j * 6 + m) (by omega)
      have e1 : (j * 6 + m) / 6 = j := by omega
      have e2 : (j * 6 + m) % 6 = m := by omega
      rw [e1, e2, getElem!_pos L j hjl, hx] at h1
      exact h1
    exact ⟨⟨key 0 (by omega), key 1 (by omega), key 2 (by omega), key 3 (by omega), key 4 (by omega)⟩, key 5 (by omega)⟩⟩⟩
/-- A row of times that a literal has laid. -/
theorem tms_new4 (W : World) (L : List T) (t : TypeId) (n : Nat) (hn : L.length = n) (hb : n ≤ 9223372036854775807) : Tms (W.alloc (.cells (recT L).toArray t)) (some ⟨W.heap.size, 0, none⟩) n n L :=
  ⟨hn, Nat.le_refl _, hb, fun hp => ⟨W.heap.size, 0, rfl, fun j x hj => by
    have hB := Blk.new W (recT L) t _ rfl
    obtain ⟨g0, g1, g2, g3, g4⟩ := recT_get L j x hj
    rw [Nat.zero_add]
    exact ⟨(hB.cell _).trans g0, (hB.cell _).trans g1, (hB.cell _).trans g2, (hB.cell _).trans g3, (hB.cell _).trans g4⟩⟩⟩
theorem tms_cap {w : World} {b o n c c' : Nat} {xs : List T} (h : Tms w (some ⟨b, o, none⟩) n c xs) (hc : n ≤ c') : Tms w (some ⟨b, o, none⟩) n c' xs := ⟨h.len, hc, h.big, h.at_⟩
theorem slice_mid {w : World} {b o n c k : Nat} {xs : List T} (h : Tms w (some ⟨b, o, none⟩) n c xs) (hk : k < n) :
    (∀ W, (Instr.slice 33 (.slice (some ⟨b, o, none⟩) n c) (some (.int .i64 k)) (some (.int .i64 ((k : Int) + 1))) none).run Try.prog W = .ok (.slice (some ⟨b, o + k * 5, none⟩) 1 (c - k)) W) ∧ Tms w (some ⟨b, o + k * 5, none⟩) 1 (c - k) ((xs.drop k).take 1) := by
  have hc := h.cap
  refine ⟨fun W => ?_, ?_⟩
  · have h1 : (0 : Int) ≤ k := by omega
    have h2 : (k : Int) ≤ (k : Int) + 1 := by omega
    have h3 : (k : Int) + 1 ≤ c := by omega
    have h4 : ¬ c = k := by omega
    have h5 : c ≠ k := by omega
    have u := Try.underlying33
    have z := Try.sizeOf28
    have ha : (⟨b, o, none⟩ : Addr).add (k * 5) = ⟨b, o + k * 5, none⟩ := by unfold Addr.add; split <;> simp_all
    go_simp
  · exact tms_cap (Tms.take (h.drop (m := k) (by omega) (c' := c - k) (by omega)) (m := 1) (by omega)) (by omega)
def k4 : List T := [⟨1, 0, 0, 0, 0⟩, ⟨1, 1, 0, 0, 0⟩, ⟨1, 0, 1, 0, 0⟩, ⟨1, 1, 1, 0, 0⟩]
def k8 : List Int := [1099511627776, 1099511627777, -1099511627776, -1099511627777, 9223372036854775807, -9223372036854775808, 1, 0]
theorem k4_len : k4.length = 4 := rfl
theorem el4 {w : World} {b j : Nat} (h : Tms w (some ⟨b, 0, none⟩) 4 4 k4) (hj : j < 4) : ∃ t, At w b (j * 5) t := by
  obtain ⟨t, ht⟩ : ∃ t, k4[j]? = some t := ⟨_, List.getElem?_eq_getElem (by rw [k4_len]; exact hj)⟩
  have := cells_of h ht
  rw [Nat.zero_add] at this
  exact ⟨t, this⟩
theorem at4 {w : World} {b j o : Nat} {t : T} (h : Tms w (some ⟨b, 0, none⟩) 4 4 k4) (ht : k4[j]? = some t) (ho : o = j * 5) : At w b o t := by
  have := cells_of h ht
  rw [Nat.zero_add] at this
  rw [ho]; exact this
set_option maxRecDepth 100000 in
set_option maxHeartbeats 16000000 in
theorem law_known (w : World) : Calls Try.prog 7 #[] w (Gives (.bool true) w) := by
  have HB := Lib.hid (below_new w (.cells (recT k4).toArray 28))
  have HT := Lib.hid (tms_new4 w k4 28 4 rfl (by omega))
  have N1 := Lib.hid (show ∀ W, Calls Try.prog 11 #[.pointer none, .agg #[.int .i64 1, .int .i64 0, .int .i64 0, .int .i64 0, .int .i64 0], .int .i64 1] W (Gives (.int .i64 1) W) from fun W => add_nil ⟨1, 0, 0, 0, 0⟩ 1 W)
  have N2 := Lib.hid (show ∀ W, Calls Try.prog 13 #[.pointer none, .agg #[.int .i64 1, .int .i64 0, .int .i64 0, .int .i64 0, .int .i64 0]] W (Gives (.int .i64 0) W) from fun W => count_nil ⟨1, 0, 0, 0, 0⟩ W)
  have HW : (w.alloc (.cells (recT k4).toArray 28)) = w.alloc (.cells #[.int .i64 1, .int .i64 0, .int .i64 0, .int .i64 0, .int .i64 0, .int .i64 1, .int .i64 1, .int .i64 0, .int .i64 0, .int .i64 0, .int .i64 1, .int .i64 0, .int .i64 1, .int .i64 0, .int .i64 0, .int .i64 1, .int .i64 1, .int .i64 1, .int .i64 0, .int .i64 0] 28) := rfl
  rw [HW] at HB HT
  clear HW
  go_enter Try.func7, Try.ntmps7
  go_wp2_with fail
  generalize w.alloc (.cells #[.int .i64 1, .int .i64 0, .int .i64 0, .int .i64 0, .int .i64 0, .int .i64 1, .int .i64 1, .int .i64 0, .int .i64 0, .int .i64 0, .int .i64 1, .int .i64 0, .int .i64 1, .int .i64 0, .int .i64 0, .int .i64 1, .int .i64 1, .int .i64 1, .int .i64 0, .int .i64 0] 28) = w1 at *
  refine (N1.out _).mono ?_
  rintro e w2 ⟨rfl, hb⟩
  replace HB := Lib.hid (below_then HB.out hb)
  replace HT := Lib.hid (HT.out.below At.stays hb)
  clear hb
  have a0_ := at4 (j := 0) (o := 0) (t := ⟨1, 0, 0, 0, 0⟩) HT.out rfl rfl
  have x0 : w2.cell? ⟨w.heap.size, 0, none⟩ = some (.int .i64 1) := a0_.c0
  have x1 : w2.cell? ⟨w.heap.size, 1, none⟩ = some (.int .i64 0) := a0_.c1
  have x2 : w2.cell? ⟨w.heap.size, 2, none⟩ = some (.int .i64 0) := a0_.c2
  have x3 : w2.cell? ⟨w.heap.size, 3, none⟩ = some (.int .i64 0) := a0_.c3
  have x4 : w2.cell? ⟨w.heap.size, 4, none⟩ = some (.int .i64 0) := a0_.c4
  clear a0_
  go_wp2_with fail
  refine (N2.out _).mono ?_
  rintro e w3 ⟨rfl, hb⟩
  replace HB := Lib.hid (below_then HB.out hb)
  replace HT := Lib.hid (HT.out.below At.stays hb)
  clear hb
  clear x0 x1 x2 x3 x4
  go_wp2_with fail
  refine (times_nil2 _).mono ?_
  rintro e w4 ⟨rfl, hb⟩
  replace HB := Lib.hid (below_then HB.out hb)
  replace HT := Lib.hid (HT.out.below At.stays hb)
  clear hb
  go_wp2_with fail
  refine (front_nil _).mono ?_
  rintro e w5 ⟨A5, c5, rfl, hb⟩
  replace HB := Lib.hid (below_then HB.out hb)
  replace HT := Lib.hid (HT.out.below At.stays hb)
  clear hb
  go_wp2_with fail
  refine (copy_nil _).mono ?_
  rintro e w6 ⟨rfl, hb⟩
  replace HB := Lib.hid (below_then HB.out hb)
  replace HT := Lib.hid (HT.out.below At.stays hb)
  clear hb
  clear N1 N2
  go_wp2_with fail
  go_loopw [3] (fun i wr => ∃ m : Nat, m ≤ 729 ∧ i = .int .i64 m ∧ Hid (Below w.heap.size w wr) ∧ Hid (Tms wr (some ⟨w.heap.size, 0, none⟩) 4 4 k4)) (fun i _ => 729 - (intOf i).toNat)
  case atStart => exact ⟨0, by omega, rfl, HB, HT⟩
  case round =>
    clear HB HT
    obtain ⟨m, hm, rfl, HB, HT⟩ := hrel
    by_cases hlt : m < 729
    · have hd : decide ((m : Int) < 729) = true := decide_eq_true (by omega)
      have hd' : decide (m < 729) = true := decide_eq_true (by omega)
      obtain ⟨i0, hi0⟩ : ∃ q : Nat, q = m % 3 := ⟨_, rfl⟩
      obtain ⟨q3, hq3⟩ : ∃ q : Nat, q = m / 3 := ⟨_, rfl⟩
      obtain ⟨r3, hr3⟩ : ∃ q : Nat, q = q3 % 3 := ⟨_, rfl⟩
      obtain ⟨q9, hq9⟩ : ∃ q : Nat, q = m / 9 := ⟨_, rfl⟩
      obtain ⟨r9, hr9⟩ : ∃ q : Nat, q = q9 % 3 := ⟨_, rfl⟩
      obtain ⟨q27, hq27⟩ : ∃ q : Nat, q = m / 27 := ⟨_, rfl⟩
      obtain ⟨r27, hr27⟩ : ∃ q : Nat, q = q27 % 3 := ⟨_, rfl⟩
      obtain ⟨q81, hq81⟩ : ∃ q : Nat, q = m / 81 := ⟨_, rfl⟩
      obtain ⟨r81, hr81⟩ : ∃ q : Nat, q = q81 % 3 := ⟨_, rfl⟩
      obtain ⟨q243, hq243⟩ : ∃ q : Nat, q = m / 243 := ⟨_, rfl⟩
      obtain ⟨i4, hi4⟩ : ∃ q : Nat, q = m % 4 := ⟨_, rfl⟩
      obtain ⟨i5, hi5⟩ : ∃ q : Nat, q = r27 + 1 := ⟨_, rfl⟩
      obtain ⟨tn, htn⟩ : ∃ q : Nat, q = m % 256 := ⟨_, rfl⟩
      have f1 : (m : Int).tmod 3 = (i0 : Int) := by rw [Int.tmod_eq_emod_of_nonneg (by omega), hi0]; omega
      have f1' : (m : Int) % 3 = (i0 : Int) := by rw [hi0]; omega
      have f2 : (m : Int).tdiv 3 = (q3 : Int) := by rw [Int.tdiv_eq_ediv_of_nonneg (by omega), hq3]; omega
      have f2' : (m : Int) / 3 = (q3 : Int) := by rw [hq3]; omega
      have f3 : (q3 : Int).tmod 3 = (r3 : Int) := by rw [Int.tmod_eq_emod_of_nonneg (by omega), hr3]; omega
      have f3' : (q3 : Int) % 3 = (r3 : Int) := by rw [hr3]; omega
      have f4 : (m : Int).tdiv 9 = (q9 : Int) := by rw [Int.tdiv_eq_ediv_of_nonneg (by omega), hq9]; omega
      have f4' : (m : Int) / 9 = (q9 : Int) := by rw [hq9]; omega
      have f5 : (q9 : Int).tmod 3 = (r9 : Int) := by rw [Int.tmod_eq_emod_of_nonneg (by omega), hr9]; omega
      have f5' : (q9 : Int) % 3 = (r9 : Int) := by rw [hr9]; omega
      have f6 : (m : Int).tdiv 27 = (q27 : Int) := by rw [Int.tdiv_eq_ediv_of_nonneg (by omega), hq27]; omega
      have f6' : (m : Int) / 27 = (q27 : Int) := by rw [hq27]; omega
      have f7 : (q27 : Int).tmod 3 = (r27 : Int) := by rw [Int.tmod_eq_emod_of_nonneg (by omega), hr27]; omega
      have f7' : (q27 : Int) % 3 = (r27 : Int) := by rw [hr27]; omega
      have f8 : (m : Int).tdiv 81 = (q81 : Int) := by rw [Int.tdiv_eq_ediv_of_nonneg (by omega), hq81]; omega
      have f8' : (m : Int) / 81 = (q81 : Int) := by rw [hq81]; omega
      have f9 : (q81 : Int).tmod 3 = (r81 : Int) := by rw [Int.tmod_eq_emod_of_nonneg (by omega), hr81]; omega
      have f9' : (q81 : Int) % 3 = (r81 : Int) := by rw [hr81]; omega
      have f10 : (m : Int).tdiv 243 = (q243 : Int) := by rw [Int.tdiv_eq_ediv_of_nonneg (by omega), hq243]; omega
      have f10' : (m : Int) / 243 = (q243 : Int) := by rw [hq243]; omega
      have f11 : (m : Int).tmod 4 = (i4 : Int) := by rw [Int.tmod_eq_emod_of_nonneg (by omega), hi4]; omega
      have f11' : (m : Int) % 4 = (i4 : Int) := by rw [hi4]; omega
      have g0 : IntKind.i64.wrap (i0 : Int) = (i0 : Int) := IntWalk.i64_in _ ⟨by omega, by omega⟩
      have g1 : IntKind.i64.wrap (q3 : Int) = (q3 : Int) := IntWalk.i64_in _ ⟨by omega, by omega⟩
      have g2 : IntKind.i64.wrap (r3 : Int) = (r3 : Int) := IntWalk.i64_in _ ⟨by omega, by omega⟩
      have g3 : IntKind.i64.wrap (q9 : Int) = (q9 : Int) := IntWalk.i64_in _ ⟨by omega, by omega⟩
      have g4 : IntKind.i64.wrap (r9 : Int) = (r9 : Int) := IntWalk.i64_in _ ⟨by omega, by omega⟩
      have g5 : IntKind.i64.wrap (q27 : Int) = (q27 : Int) := IntWalk.i64_in _ ⟨by omega, by omega⟩
      have g6 : IntKind.i64.wrap (r27 : Int) = (r27 : Int) := IntWalk.i64_in _ ⟨by omega, by omega⟩
      have g7 : IntKind.i64.wrap (q81 : Int) = (q81 : Int) := IntWalk.i64_in _ ⟨by omega, by omega⟩
      have g8 : IntKind.i64.wrap (r81 : Int) = (r81 : Int) := IntWalk.i64_in _ ⟨by omega, by omega⟩
      have g9 : IntKind.i64.wrap (q243 : Int) = (q243 : Int) := IntWalk.i64_in _ ⟨by omega, by omega⟩
      have g10 : IntKind.i64.wrap (i4 : Int) = (i4 : Int) := IntWalk.i64_in _ ⟨by omega, by omega⟩
      have u0 : IntKind.i64.wrap ((i0 : Int) - 1) = (i0 : Int) - 1 := IntWalk.i64_in _ ⟨by omega, by omega⟩
      have u1 : IntKind.i64.wrap ((r3 : Int) - 1) = (r3 : Int) - 1 := IntWalk.i64_in _ ⟨by omega, by omega⟩
      have u2 : IntKind.i64.wrap ((r9 : Int) - 1) = (r9 : Int) - 1 := IntWalk.i64_in _ ⟨by omega, by omega⟩
      have u3 : IntKind.i64.wrap ((r81 : Int) - 1) = (r81 : Int) - 1 := IntWalk.i64_in _ ⟨by omega, by omega⟩
      have u4 : IntKind.i64.wrap ((r27 : Int) + 1) = (i5 : Int) := by rw [IntWalk.i64_in _ ⟨by omega, by omega⟩, hi5]; omega
      have u5 : IntKind.i64.wrap ((i0 : Int) + 1) = (i0 : Int) + 1 := IntWalk.i64_in _ ⟨by omega, by omega⟩
      have u6 : IntKind.u8.wrap (m : Int) = (tn : Int) := by rw [htn]; unfold IntKind.wrap; simp [IntKind.signed, IntKind.bits]
      have htn255 : tn ≤ 255 := by omega
      have lti0 : i0 < 4 := by omega
      have lii0 : (i0 : Int) < 4 := by omega
      have l0i0 : (0 : Int) ≤ i0 := by omega
      have lti5 : i5 < 4 := by omega
      have lii5 : (i5 : Int) < 4 := by omega
      have l0i5 : (0 : Int) ≤ i5 := by omega
      have ltq243 : q243 < 4 := by omega
      have liq243 : (q243 : Int) < 4 := by omega
      have l0q243 : (0 : Int) ≤ q243 := by omega
      have lti4 : i4 < 4 := by omega
      have lii4 : (i4 : Int) < 4 := by omega
      have l0i4 : (0 : Int) ≤ i4 := by omega
      obtain ⟨x, px⟩ := el4 HT.out (j := i0) lti0
      obtain ⟨y1, py1⟩ := el4 HT.out (j := 1) (by omega)
      obtain ⟨y2, py2⟩ := el4 HT.out (j := 2) (by omega)
      obtain ⟨y3, py3⟩ := el4 HT.out (j := 3) (by omega)
      obtain ⟨z, pz⟩ := el4 HT.out (j := i5) lti5
      obtain ⟨v, pv⟩ := el4 HT.out (j := q243) ltq243
      obtain ⟨s, ps⟩ := el4 HT.out (j := i4) lti4
      have HSK := Lib.hid (show ∀ W, Below wr.heap.size wr W → (W.cell? ⟨w.heap.size, i0 * 5, none⟩ = some (.int .i64 x.d) ∧ W.cell? ⟨w.heap.size, i0 * 5 + 1, none⟩ = some (.int .i64 x.e) ∧ W.cell? ⟨w.heap.size, i0 * 5 + 2, none⟩ = some (.int .i64 x.a) ∧ W.cell? ⟨w.heap.size, i0 * 5 + 3, none⟩ = some (.int .i64 x.b) ∧ W.cell? ⟨w.heap.size, i0 * 5 + 4, none⟩ = some (.int .i64 x.c) ∧ W.cell? ⟨w.heap.size, 5, none⟩ = some (.int .i64 y1.d) ∧ W.cell? ⟨w.heap.size, 6, none⟩ = some (.int .i64 y1.e) ∧ W.cell? ⟨w.heap.size, 7, none⟩ = some (.int .i64 y1.a) ∧ W.cell? ⟨w.heap.size, 8, none⟩ = some (.int .i64 y1.b) ∧ W.cell? ⟨w.heap.size, 9, none⟩ = some (.int .i64 y1.c) ∧ W.cell? ⟨w.heap.size, 10, none⟩ = some (.int .i64 y2.d) ∧ W.cell? ⟨w.heap.size, 11, none⟩ = some (.int .i64 y2.e) ∧ W.cell? ⟨w.heap.size, 12, none⟩ = some (.int .i64 y2.a) ∧ W.cell? ⟨w.heap.size, 13, none⟩ = some (.int .i64 y2.b) ∧ W.cell? ⟨w.heap.size, 14, none⟩ = some (.int .i64 y2.c) ∧ W.cell? ⟨w.heap.size, 15, none⟩ = some (.int .i64 y3.d) ∧ W.cell? ⟨w.heap.size, 16, none⟩ = some (.int .i64 y3.e) ∧ W.cell? ⟨w.heap.size, 17, none⟩ = some (.int .i64 y3.a) ∧ W.cell? ⟨w.heap.size, 18, none⟩ = some (.int .i64 y3.b) ∧ W.cell? ⟨w.heap.size, 19, none⟩ = some (.int .i64 y3.c) ∧ W.cell? ⟨w.heap.size, i5 * 5, none⟩ = some (.int .i64 z.d) ∧ W.cell? ⟨w.heap.size, i5 * 5 + 1, none⟩ = some (.int .i64 z.e) ∧ W.cell? ⟨w.heap.size, i5 * 5 + 2, none⟩ = some (.int .i64 z.a) ∧ W.cell? ⟨w.heap.size, i5 * 5 + 3, none⟩ = some (.int .i64 z.b) ∧ W.cell? ⟨w.heap.size, i5 * 5 + 4, none⟩ = some (.int .i64 z.c) ∧ W.cell? ⟨w.heap.size, q243 * 5, none⟩ = some (.int .i64 v.d) ∧ W.cell? ⟨w.heap.size, q243 * 5 + 1, none⟩ = some (.int .i64 v.e) ∧ W.cell? ⟨w.heap.size, q243 * 5 + 2, none⟩ = some (.int .i64 v.a) ∧ W.cell? ⟨w.heap.size, q243 * 5 + 3, none⟩ = some (.int .i64 v.b) ∧ W.cell? ⟨w.heap.size, q243 * 5 + 4, none⟩ = some (.int .i64 v.c) ∧ W.cell? ⟨w.heap.size, i4 * 5, none⟩ = some (.int .i64 s.d) ∧ W.cell? ⟨w.heap.size, i4 * 5 + 1, none⟩ = some (.int .i64 s.e) ∧ W.cell? ⟨w.heap.size, i4 * 5 + 2, none⟩ = some (.int .i64 s.a) ∧ W.cell? ⟨w.heap.size, i4 * 5 + 3, none⟩ = some (.int .i64 s.b) ∧ W.cell? ⟨w.heap.size, i4 * 5 + 4, none⟩ = some (.int .i64 s.c)) from fun W h => ⟨below_cell h (show wr.cell? ⟨w.heap.size, i0 * 5, none⟩ = some (.int .i64 x.d) from px.c0), below_cell h (show wr.cell? ⟨w.heap.size, i0 * 5 + 1, none⟩ = some (.int .i64 x.e) from px.c1), below_cell h (show wr.cell? ⟨w.heap.size, i0 * 5 + 2, none⟩ = some (.int .i64 x.a) from px.c2), below_cell h (show wr.cell? ⟨w.heap.size, i0 * 5 + 3, none⟩ = some (.int .i64 x.b) from px.c3), below_cell h (show wr.cell? ⟨w.heap.size, i0 * 5 + 4, none⟩ = some (.int .i64 x.c) from px.c4), below_cell h (show wr.cell? ⟨w.heap.size, 5, none⟩ = some (.int .i64 y1.d) from py1.c0), below_cell h (show wr.cell? ⟨w.heap.size, 6, none⟩ = some (.int .i64 y1.e) from py1.c1), below_cell h (show wr.cell? ⟨w.heap.size, 7, none⟩ = some (.int .i64 y1.a) from py1.c2), below_cell h (show wr.cell? ⟨w.heap.size, 8, none⟩ = some (.int .i64 y1.b) from py1.c3), below_cell h (show wr.cell? ⟨w.heap.size, 9, none⟩ = some (.int .i64 y1.c) from py1.c4), below_cell h (show wr.cell? ⟨w.heap.size, 10, none⟩ = some (.int .i64 y2.d) from py2.c0), below_cell h (show wr.cell? ⟨w.heap.size, 11, none⟩ = some (.int .i64 y2.e) from py2.c1), below_cell h (show wr.cell? ⟨w.heap.size, 12, none⟩ = some (.int .i64 y2.a) from py2.c2), below_cell h (show wr.cell? ⟨w.heap.size, 13, none⟩ = some (.int .i64 y2.b) from py2.c3), below_cell h (show wr.cell? ⟨w.heap.size, 14, none⟩ = some (.int .i64 y2.c) from py2.c4), below_cell h (show wr.cell? ⟨w.heap.size, 15, none⟩ = some (.int .i64 y3.d) from py3.c0), below_cell h (show wr.cell? ⟨w.heap.size, 16, none⟩ = some (.int .i64 y3.e) from py3.c1), below_cell h (show wr.cell? ⟨w.heap.size, 17, none⟩ = some (.int .i64 y3.a) from py3.c2), below_cell h (show wr.cell? ⟨w.heap.size, 18, none⟩ = some (.int .i64 y3.b) from py3.c3), below_cell h (show wr.cell? ⟨w.heap.size, 19, none⟩ = some (.int .i64 y3.c) from py3.c4), below_cell h (show wr.cell? ⟨w.heap.size, i5 * 5, none⟩ = some (.int .i64 z.d) from pz.c0), below_cell h (show wr.cell? ⟨w.heap.size, i5 * 5 + 1, none⟩ = some (.int .i64 z.e) from pz.c1), below_cell h (show wr.cell? ⟨w.heap.size, i5 * 5 + 2, none⟩ = some (.int .i64 z.a) from pz.c2), below_cell h (show wr.cell? ⟨w.heap.size, i5 * 5 + 3, none⟩ = some (.int .i64 z.b) from pz.c3), below_cell h (show wr.cell? ⟨w.heap.size, i5 * 5 + 4, none⟩ = some (.int .i64 z.c) from pz.c4), below_cell h (show wr.cell? ⟨w.heap.size, q243 * 5, none⟩ = some (.int .i64 v.d) from pv.c0), below_cell h (show wr.cell? ⟨w.heap.size, q243 * 5 + 1, none⟩ = some (.int .i64 v.e) from pv.c1), below_cell h (show wr.cell? ⟨w.heap.size, q243 * 5 + 2, none⟩ = some (.int .i64 v.a) from pv.c2), below_cell h (show wr.cell? ⟨w.heap.size, q243 * 5 + 3, none⟩ = some (.int .i64 v.b) from pv.c3), below_cell h (show wr.cell? ⟨w.heap.size, q243 * 5 + 4, none⟩ = some (.int .i64 v.c) from pv.c4), below_cell h (show wr.cell? ⟨w.heap.size, i4 * 5, none⟩ = some (.int .i64 s.d) from ps.c0), below_cell h (show wr.cell? ⟨w.heap.size, i4 * 5 + 1, none⟩ = some (.int .i64 s.e) from ps.c1), below_cell h (show wr.cell? ⟨w.heap.size, i4 * 5 + 2, none⟩ = some (.int .i64 s.a) from ps.c2), below_cell h (show wr.cell? ⟨w.heap.size, i4 * 5 + 3, none⟩ = some (.int .i64 s.b) from ps.c3), below_cell h (show wr.cell? ⟨w.heap.size, i4 * 5 + 4, none⟩ = some (.int .i64 s.c) from ps.c4)⟩)
      have xc0 : wr.cell? ⟨w.heap.size, i0 * 5, none⟩ = some (.int .i64 x.d) := px.c0
      have xc1 : wr.cell? ⟨w.heap.size, i0 * 5 + 1, none⟩ = some (.int .i64 x.e) := px.c1
      have xc2 : wr.cell? ⟨w.heap.size, i0 * 5 + 2, none⟩ = some (.int .i64 x.a) := px.c2
      have xc3 : wr.cell? ⟨w.heap.size, i0 * 5 + 3, none⟩ = some (.int .i64 x.b) := px.c3
      have xc4 : wr.cell? ⟨w.heap.size, i0 * 5 + 4, none⟩ = some (.int .i64 x.c) := px.c4
      have y1c0 : wr.cell? ⟨w.heap.size, 5, none⟩ = some (.int .i64 y1.d) := py1.c0
      have y1c1 : wr.cell? ⟨w.heap.size, 6, none⟩ = some (.int .i64 y1.e) := py1.c1
      have y1c2 : wr.cell? ⟨w.heap.size, 7, none⟩ = some (.int .i64 y1.a) := py1.c2
      have y1c3 : wr.cell? ⟨w.heap.size, 8, none⟩ = some (.int .i64 y1.b) := py1.c3
      have y1c4 : wr.cell? ⟨w.heap.size, 9, none⟩ = some (.int .i64 y1.c) := py1.c4
      have y2c0 : wr.cell? ⟨w.heap.size, 10, none⟩ = some (.int .i64 y2.d) := py2.c0
      have y2c1 : wr.cell? ⟨w.heap.size, 11, none⟩ = some (.int .i64 y2.e) := py2.c1
      have y2c2 : wr.cell? ⟨w.heap.size, 12, none⟩ = some (.int .i64 y2.a) := py2.c2
      have y2c3 : wr.cell? ⟨w.heap.size, 13, none⟩ = some (.int .i64 y2.b) := py2.c3
      have y2c4 : wr.cell? ⟨w.heap.size, 14, none⟩ = some (.int .i64 y2.c) := py2.c4
      have y3c0 : wr.cell? ⟨w.heap.size, 15, none⟩ = some (.int .i64 y3.d) := py3.c0
      have y3c1 : wr.cell? ⟨w.heap.size, 16, none⟩ = some (.int .i64 y3.e) := py3.c1
      have y3c2 : wr.cell? ⟨w.heap.size, 17, none⟩ = some (.int .i64 y3.a) := py3.c2
      have y3c3 : wr.cell? ⟨w.heap.size, 18, none⟩ = some (.int .i64 y3.b) := py3.c3
      have y3c4 : wr.cell? ⟨w.heap.size, 19, none⟩ = some (.int .i64 y3.c) := py3.c4
      have zc0 : wr.cell? ⟨w.heap.size, i5 * 5, none⟩ = some (.int .i64 z.d) := pz.c0
      have zc1 : wr.cell? ⟨w.heap.size, i5 * 5 + 1, none⟩ = some (.int .i64 z.e) := pz.c1
      have zc2 : wr.cell? ⟨w.heap.size, i5 * 5 + 2, none⟩ = some (.int .i64 z.a) := pz.c2
      have zc3 : wr.cell? ⟨w.heap.size, i5 * 5 + 3, none⟩ = some (.int .i64 z.b) := pz.c3
      have zc4 : wr.cell? ⟨w.heap.size, i5 * 5 + 4, none⟩ = some (.int .i64 z.c) := pz.c4
      have vc0 : wr.cell? ⟨w.heap.size, q243 * 5, none⟩ = some (.int .i64 v.d) := pv.c0
      have vc1 : wr.cell? ⟨w.heap.size, q243 * 5 + 1, none⟩ = some (.int .i64 v.e) := pv.c1
      have vc2 : wr.cell? ⟨w.heap.size, q243 * 5 + 2, none⟩ = some (.int .i64 v.a) := pv.c2
      have vc3 : wr.cell? ⟨w.heap.size, q243 * 5 + 3, none⟩ = some (.int .i64 v.b) := pv.c3
      have vc4 : wr.cell? ⟨w.heap.size, q243 * 5 + 4, none⟩ = some (.int .i64 v.c) := pv.c4
      have sc0 : wr.cell? ⟨w.heap.size, i4 * 5, none⟩ = some (.int .i64 s.d) := ps.c0
      have sc1 : wr.cell? ⟨w.heap.size, i4 * 5 + 1, none⟩ = some (.int .i64 s.e) := ps.c1
      have sc2 : wr.cell? ⟨w.heap.size, i4 * 5 + 2, none⟩ = some (.int .i64 s.a) := ps.c2
      have sc3 : wr.cell? ⟨w.heap.size, i4 * 5 + 3, none⟩ = some (.int .i64 s.b) := ps.c3
      have sc4 : wr.cell? ⟨w.heap.size, i4 * 5 + 4, none⟩ = some (.int .i64 s.c) := ps.c4
      clear hi0 hq3 hr3 hq9 hr9 hq27 hr27 hq81 hr81 hq243 hi4 hi5 htn px py1 py2 py3 pz pv ps
      go_wp2_with fail
      go_region_held3 (fun w' => w'.cell? ⟨w.heap.size, i0 * 5, none⟩ = some (.int .i64 x.d) ∧ w'.cell? ⟨w.heap.size, i0 * 5 + 1, none⟩ = some (.int .i64 x.e) ∧ w'.cell? ⟨w.heap.size, i0 * 5 + 2, none⟩ = some (.int .i64 x.a) ∧ w'.cell? ⟨w.heap.size, i0 * 5 + 3, none⟩ = some (.int .i64 x.b) ∧ w'.cell? ⟨w.heap.size, i0 * 5 + 4, none⟩ = some (.int .i64 x.c) ∧ w'.cell? ⟨w.heap.size, 5, none⟩ = some (.int .i64 y1.d) ∧ w'.cell? ⟨w.heap.size, 6, none⟩ = some (.int .i64 y1.e) ∧ w'.cell? ⟨w.heap.size, 7, none⟩ = some (.int .i64 y1.a) ∧ w'.cell? ⟨w.heap.size, 8, none⟩ = some (.int .i64 y1.b) ∧ w'.cell? ⟨w.heap.size, 9, none⟩ = some (.int .i64 y1.c) ∧ w'.cell? ⟨w.heap.size, 10, none⟩ = some (.int .i64 y2.d) ∧ w'.cell? ⟨w.heap.size, 11, none⟩ = some (.int .i64 y2.e) ∧ w'.cell? ⟨w.heap.size, 12, none⟩ = some (.int .i64 y2.a) ∧ w'.cell? ⟨w.heap.size, 13, none⟩ = some (.int .i64 y2.b) ∧ w'.cell? ⟨w.heap.size, 14, none⟩ = some (.int .i64 y2.c) ∧ w'.cell? ⟨w.heap.size, 15, none⟩ = some (.int .i64 y3.d) ∧ w'.cell? ⟨w.heap.size, 16, none⟩ = some (.int .i64 y3.e) ∧ w'.cell? ⟨w.heap.size, 17, none⟩ = some (.int .i64 y3.a) ∧ w'.cell? ⟨w.heap.size, 18, none⟩ = some (.int .i64 y3.b) ∧ w'.cell? ⟨w.heap.size, 19, none⟩ = some (.int .i64 y3.c) ∧ w'.cell? ⟨w.heap.size, i5 * 5, none⟩ = some (.int .i64 z.d) ∧ w'.cell? ⟨w.heap.size, i5 * 5 + 1, none⟩ = some (.int .i64 z.e) ∧ w'.cell? ⟨w.heap.size, i5 * 5 + 2, none⟩ = some (.int .i64 z.a) ∧ w'.cell? ⟨w.heap.size, i5 * 5 + 3, none⟩ = some (.int .i64 z.b) ∧ w'.cell? ⟨w.heap.size, i5 * 5 + 4, none⟩ = some (.int .i64 z.c) ∧ w'.cell? ⟨w.heap.size, q243 * 5, none⟩ = some (.int .i64 v.d) ∧ w'.cell? ⟨w.heap.size, q243 * 5 + 1, none⟩ = some (.int .i64 v.e) ∧ w'.cell? ⟨w.heap.size, q243 * 5 + 2, none⟩ = some (.int .i64 v.a) ∧ w'.cell? ⟨w.heap.size, q243 * 5 + 3, none⟩ = some (.int .i64 v.b) ∧ w'.cell? ⟨w.heap.size, q243 * 5 + 4, none⟩ = some (.int .i64 v.c) ∧ w'.cell? ⟨w.heap.size, i4 * 5, none⟩ = some (.int .i64 s.d) ∧ w'.cell? ⟨w.heap.size, i4 * 5 + 1, none⟩ = some (.int .i64 s.e) ∧ w'.cell? ⟨w.heap.size, i4 * 5 + 2, none⟩ = some (.int .i64 s.a) ∧ w'.cell? ⟨w.heap.size, i4 * 5 + 3, none⟩ = some (.int .i64 s.b) ∧ w'.cell? ⟨w.heap.size, i4 * 5 + 4, none⟩ = some (.int .i64 s.c))
        (first | exact HSK.out _ (below_drew (Below.refl _ _)) | exact HSK.out _ (below_drew (below_new _ _)))
        (fail)
      have HC := Lib.hid ((show Cos (wr.alloc (.cells #[.int .i64 x.d, .int .i64 x.e, .int .i64 x.a, .int .i64 x.b, .int .i64 x.c, .int .i64 1, .int .i64 y1.d, .int .i64 y1.e, .int .i64 y1.a, .int .i64 y1.b, .int .i64 y1.c, .int .i64 ((i0 : Int) - 1), .int .i64 y2.d, .int .i64 y2.e, .int .i64 y2.a, .int .i64 y2.b, .int .i64 y2.c, .int .i64 ((r3 : Int) - 1), .int .i64 y3.d, .int .i64 y3.e, .int .i64 y3.a, .int .i64 y3.b, .int .i64 y3.c, .int .i64 ((r9 : Int) - 1), .int .i64 z.d, .int .i64 z.e, .int .i64 z.a, .int .i64 z.b, .int .i64 z.c, .int .i64 ((r81 : Int) - 1), .int .i64 v.d, .int .i64 v.e, .int .i64 v.a, .int .i64 v.b, .int .i64 v.c, .int .i64 1, .int .i64 s.d, .int .i64 s.e, .int .i64 s.a, .int .i64 s.b, .int .i64 s.c, .int .i64 (-1)] 30)) (some ⟨wr.heap.size, 0, none⟩) 7 7 [(x, 1), (y1, (i0 : Int) - 1), (y2, (r3 : Int) - 1), (y3, (r9 : Int) - 1), (z, (r81 : Int) - 1), (v, 1), (s, -1)] from cos_new wr [(x, 1), (y1, (i0 : Int) - 1), (y2, (r3 : Int) - 1), (y3, (r9 : Int) - 1), (z, (r81 : Int) - 1), (v, 1), (s, -1)] 30 7 rfl (by omega)).below RCo.stays (below_drew (Below.refl _ _)))
      replace HB := Lib.hid (below_then HB.out (below_drew (below_new wr (.cells #[.int .i64 x.d, .int .i64 x.e, .int .i64 x.a, .int .i64 x.b, .int .i64 x.c, .int .i64 1, .int .i64 y1.d, .int .i64 y1.e, .int .i64 y1.a, .int .i64 y1.b, .int .i64 y1.c, .int .i64 ((i0 : Int) - 1), .int .i64 y2.d, .int .i64 y2.e, .int .i64 y2.a, .int .i64 y2.b, .int .i64 y2.c, .int .i64 ((r3 : Int) - 1), .int .i64 y3.d, .int .i64 y3.e, .int .i64 y3.a, .int .i64 y3.b, .int .i64 y3.c, .int .i64 ((r9 : Int) - 1), .int .i64 z.d, .int .i64 z.e, .int .i64 z.a, .int .i64 z.b, .int .i64 z.c, .int .i64 ((r81 : Int) - 1), .int .i64 v.d, .int .i64 v.e, .int .i64 v.a, .int .i64 v.b, .int .i64 v.c, .int .i64 1, .int .i64 s.d, .int .i64 s.e, .int .i64 s.a, .int .i64 s.b, .int .i64 s.c, .int .i64 (-1)] 30))))
      replace HT := Lib.hid (HT.out.below At.stays (below_drew (below_new wr (.cells #[.int .i64 x.d, .int .i64 x.e, .int .i64 x.a, .int .i64 x.b, .int .i64 x.c, .int .i64 1, .int .i64 y1.d, .int .i64 y1.e, .int .i64 y1.a, .int .i64 y1.b, .int .i64 y1.c, .int .i64 ((i0 : Int) - 1), .int .i64 y2.d, .int .i64 y2.e, .int .i64 y2.a, .int .i64 y2.b, .int .i64 y2.c, .int .i64 ((r3 : Int) - 1), .int .i64 y3.d, .int .i64 y3.e, .int .i64 y3.a, .int .i64 y3.b, .int .i64 y3.c, .int .i64 ((r9 : Int) - 1), .int .i64 z.d, .int .i64 z.e, .int .i64 z.a, .int .i64 z.b, .int .i64 z.c, .int .i64 ((r81 : Int) - 1), .int .i64 v.d, .int .i64 v.e, .int .i64 v.a, .int .i64 v.b, .int .i64 v.c, .int .i64 1, .int .i64 s.d, .int .i64 s.e, .int .i64 s.a, .int .i64 s.b, .int .i64 s.c, .int .i64 (-1)] 30))))
      generalize hw2 : (wr.alloc (.cells #[.int .i64 x.d, .int .i64 x.e, .int .i64 x.a, .int .i64 x.b, .int .i64 x.c, .int .i64 1, .int .i64 y1.d, .int .i64 y1.e, .int .i64 y1.a, .int .i64 y1.b, .int .i64 y1.c, .int .i64 ((i0 : Int) - 1), .int .i64 y2.d, .int .i64 y2.e, .int .i64 y2.a, .int .i64 y2.b, .int .i64 y2.c, .int .i64 ((r3 : Int) - 1), .int .i64 y3.d, .int .i64 y3.e, .int .i64 y3.a, .int .i64 y3.b, .int .i64 y3.c, .int .i64 ((r9 : Int) - 1), .int .i64 z.d, .int .i64 z.e, .int .i64 z.a, .int .i64 z.b, .int .i64 z.c, .int .i64 ((r81 : Int) - 1), .int .i64 v.d, .int .i64 v.e, .int .i64 v.a, .int .i64 v.b, .int .i64 v.c, .int .i64 1, .int .i64 s.d, .int .i64 s.e, .int .i64 s.a, .int .i64 s.b, .int .i64 s.c, .int .i64 (-1)] 30)).drew = w2 at *
      clear hw2 HSK xc0 xc1 xc2 xc3 xc4 y1c0 y1c1 y1c2 y1c3 y1c4 y2c0 y2c1 y2c2 y2c3 y2c4 y3c0 y3c1 y3c2 y3c3 y3c4 zc0 zc1 zc2 zc3 zc4 vc0 vc1 vc2 vc3 vc4 sc0 sc1 sc2 sc3 sc4
      obtain ⟨bs, hbs⟩ : ∃ q, q = wr.heap.size := ⟨_, rfl⟩
      rw [← hbs] at HC ⊢
      clear hbs
      have C1 := Lib.hid (law_plays 1 (some ⟨bs, 0, none⟩) 7 7 _ s w2 HC.out)
      go_wp2_with fail
      with_reducible refine C1.out.mono ?_
      rintro e w3 ⟨rfl, hb⟩
      replace HB := Lib.hid (below_then HB.out hb)
      replace HT := Lib.hid (HT.out.below At.stays hb)
      replace HC := Lib.hid (HC.out.below RCo.stays hb)
      clear hb C1
      have C2 := Lib.hid (law_order 1 (some ⟨bs, 0, none⟩) 7 7 tn _ w3 HC.out htn255)
      go_wp2_with fail
      with_reducible refine C2.out.mono ?_
      rintro e w4 ⟨rfl, hb⟩
      replace HB := Lib.hid (below_then HB.out hb)
      replace HT := Lib.hid (HT.out.below At.stays hb)
      replace HC := Lib.hid (HC.out.below RCo.stays hb)
      clear hb C2
      obtain ⟨hs1, hs2⟩ := slice_mid HT.out (k := i0) lti0
      rw [Nat.zero_add] at hs1 hs2
      have C3 := Lib.hid (law_rises 1 (some ⟨w.heap.size, i0 * 5, none⟩) 1 (4 - i0) (some ⟨bs, 0, none⟩) 7 7 _ _ w4 hs2 HC.out)
      clear hs2
      go_wp2_with fail
      with_reducible refine C3.out.mono ?_
      rintro e w5 ⟨rfl, hb⟩
      replace HB := Lib.hid (below_then HB.out hb)
      replace HT := Lib.hid (HT.out.below At.stays hb)
      clear hb C3 HC hs1
      have u7 : IntKind.i64.wrap ((m : Int) + 1) = (m : Int) + 1 := IntWalk.i64_in _ ⟨by omega, by omega⟩
      clear f1 f1' f2 f2' f3 f3' f4 f4' f5 f5' f6 f6' f7 f7' f8 f8' f9 f9' f10 f10' f11 f11' g0 g1 g2 g3 g4 g5 g6 g7 g8 g9 g10 u0 u1 u2 u3 u4 u5 u6
      go_wp2_with fail
      go_roundw
      case rel => exact ⟨m + 1, by omega, by go_num, HB, HT⟩
      case measure => simp [intOf]; omega
    · obtain rfl : m = 729 := by omega
      rw [show ((729 : Nat) : Int) = 729 from rfl]
      obtain ⟨wb, hwb⟩ : ∃ q, q = wr := ⟨_, rfl⟩
      subst hwb
      go_wp2_with fail
      have HK := Lib.hid (show Blk (wb.alloc (.cells #[.int .i64 1099511627776, .int .i64 1099511627777, .int .i64 (-1099511627776), .int .i64 (-1099511627777), .int .i64 9223372036854775807, .int .i64 (-9223372036854775808), .int .i64 1, .int .i64 0] 2)) wb.heap.size (k8.map (Value.int .i64)) 2 from Blk.new wb (k8.map (Value.int .i64)) 2 _ rfl)
      replace HB := Lib.hid (below_then HB.out (below_new wb (.cells #[.int .i64 1099511627776, .int .i64 1099511627777, .int .i64 (-1099511627776), .int .i64 (-1099511627777), .int .i64 9223372036854775807, .int .i64 (-9223372036854775808), .int .i64 1, .int .i64 0] 2)))
      replace HT := Lib.hid (HT.out.below At.stays (below_new wb (.cells #[.int .i64 1099511627776, .int .i64 1099511627777, .int .i64 (-1099511627776), .int .i64 (-1099511627777), .int .i64 9223372036854775807, .int .i64 (-9223372036854775808), .int .i64 1, .int .i64 0] 2)))
      generalize wb.alloc (.cells #[.int .i64 1099511627776, .int .i64 1099511627777, .int .i64 (-1099511627776), .int .i64 (-1099511627777), .int .i64 9223372036854775807, .int .i64 (-9223372036854775808), .int .i64 1, .int .i64 0] 2) = wc at *
      obtain ⟨bk, hbk⟩ : ∃ q, q = wb.heap.size := ⟨_, rfl⟩
      rw [← hbk] at HK ⊢
      clear hbk
      clear hlt hm
      go_loopw [132] (fun i wr => ∃ k : Nat, k ≤ 8 ∧ i = .int .i64 k ∧ Hid (Blk wr bk (k8.map (Value.int .i64)) 2) ∧ Hid (Below w.heap.size w wr) ∧ Hid (Tms wr (some ⟨w.heap.size, 0, none⟩) 4 4 k4)) (fun i _ => 8 - (intOf i).toNat)
      case atStart => exact ⟨0, by omega, rfl, HK, HB, HT⟩
      case round =>
        clear HB HT HK
        obtain ⟨k, hk, rfl, HK, HB, HT⟩ := hrel
        by_cases hlt : k < 8
        · have hd : decide ((k : Int) < 8) = true := decide_eq_true (by omega)
          have hd' : decide (k < 8) = true := decide_eq_true (by omega)
          have hk0 : (0 : Int) ≤ k := by omega
          have hk8 : (k : Int) < 8 := by omega
          obtain ⟨y, hy⟩ : ∃ y, k8[k]? = some y := ⟨_, List.getElem?_eq_getElem (by exact hlt)⟩
          have hcy : wr.cell? ⟨bk, k, none⟩ = some (.int .i64 y) := (HK.out.cell k).trans (by simp [hy])
          clear hy
          obtain ⟨x, px⟩ := el4 HT.out (j := 0) (by omega)
          have c0 : wr.cell? ⟨w.heap.size, 0, none⟩ = some (.int .i64 x.d) := px.c0
          have c1 : wr.cell? ⟨w.heap.size, 1, none⟩ = some (.int .i64 x.e) := px.c1
          have c2 : wr.cell? ⟨w.heap.size, 2, none⟩ = some (.int .i64 x.a) := px.c2
          have c3 : wr.cell? ⟨w.heap.size, 3, none⟩ = some (.int .i64 x.b) := px.c3
          have c4 : wr.cell? ⟨w.heap.size, 4, none⟩ = some (.int .i64 x.c) := px.c4
          clear px
          have HSK := Lib.hid (show ∀ W, Below wr.heap.size wr W → (W.cell? ⟨w.heap.size, 0, none⟩ = some (.int .i64 x.d) ∧ W.cell? ⟨w.heap.size, 1, none⟩ = some (.int .i64 x.e) ∧ W.cell? ⟨w.heap.size, 2, none⟩ = some (.int .i64 x.a) ∧ W.cell? ⟨w.heap.size, 3, none⟩ = some (.int .i64 x.b) ∧ W.cell? ⟨w.heap.size, 4, none⟩ = some (.int .i64 x.c)) from fun W h => ⟨below_cell h c0, below_cell h c1, below_cell h c2, below_cell h c3, below_cell h c4⟩)
          have C1 := Lib.hid (law_plays 1 (some ⟨wr.heap.size, 0, none⟩) 7 7 [(x, y), (x, 1), (x, -1), (x, y), (x, -1099511627776), (T0, y), (⟨1, 1000, 0, 0, 0⟩, y)] x ((wr.alloc (.cells #[.int .i64 x.d, .int .i64 x.e, .int .i64 x.a, .int .i64 x.b, .int .i64 x.c, .int .i64 y, .int .i64 x.d, .int .i64 x.e, .int .i64 x.a, .int .i64 x.b, .int .i64 x.c, .int .i64 1, .int .i64 x.d, .int .i64 x.e, .int .i64 x.a, .int .i64 x.b, .int .i64 x.c, .int .i64 (-1), .int .i64 x.d, .int .i64 x.e, .int .i64 x.a, .int .i64 x.b, .int .i64 x.c, .int .i64 y, .int .i64 x.d, .int .i64 x.e, .int .i64 x.a, .int .i64 x.b, .int .i64 x.c, .int .i64 (-1099511627776), .int .i64 0, .int .i64 0, .int .i64 0, .int .i64 0, .int .i64 0, .int .i64 y, .int .i64 1, .int .i64 1000, .int .i64 0, .int .i64 0, .int .i64 0, .int .i64 y] 30)).drew) ((show Cos (wr.alloc (.cells #[.int .i64 x.d, .int .i64 x.e, .int .i64 x.a, .int .i64 x.b, .int .i64 x.c, .int .i64 y, .int .i64 x.d, .int .i64 x.e, .int .i64 x.a, .int .i64 x.b, .int .i64 x.c, .int .i64 1, .int .i64 x.d, .int .i64 x.e, .int .i64 x.a, .int .i64 x.b, .int .i64 x.c, .int .i64 (-1), .int .i64 x.d, .int .i64 x.e, .int .i64 x.a, .int .i64 x.b, .int .i64 x.c, .int .i64 y, .int .i64 x.d, .int .i64 x.e, .int .i64 x.a, .int .i64 x.b, .int .i64 x.c, .int .i64 (-1099511627776), .int .i64 0, .int .i64 0, .int .i64 0, .int .i64 0, .int .i64 0, .int .i64 y, .int .i64 1, .int .i64 1000, .int .i64 0, .int .i64 0, .int .i64 0, .int .i64 y] 30)) (some ⟨wr.heap.size, 0, none⟩) 7 7 [(x, y), (x, 1), (x, -1), (x, y), (x, -1099511627776), (T0, y), (⟨1, 1000, 0, 0, 0⟩, y)] from cos_new wr [(x, y), (x, 1), (x, -1), (x, y), (x, -1099511627776), (T0, y), (⟨1, 1000, 0, 0, 0⟩, y)] 30 7 rfl (by omega)).below RCo.stays (below_drew (Below.refl _ _))))
          go_wp2_with fail
          go_region_held3 (fun w' => w'.cell? ⟨w.heap.size, 0, none⟩ = some (.int .i64 x.d) ∧ w'.cell? ⟨w.heap.size, 1, none⟩ = some (.int .i64 x.e) ∧ w'.cell? ⟨w.heap.size, 2, none⟩ = some (.int .i64 x.a) ∧ w'.cell? ⟨w.heap.size, 3, none⟩ = some (.int .i64 x.b) ∧ w'.cell? ⟨w.heap.size, 4, none⟩ = some (.int .i64 x.c))
            (first | exact HSK.out _ (below_drew (Below.refl _ _)) | exact HSK.out _ (below_drew (below_new _ _)) | exact HSK.out _ HB4.out)
            (first | (go_at_call 5; (with_reducible refine C1.out.mono ?_); rintro e w4 ⟨rfl, hb4⟩; have HB4 := Lib.hid (below_then (below_drew (below_new _ _)) hb4)))
          replace HB := Lib.hid (below_then HB.out HB4.out)
          replace HT := Lib.hid (HT.out.below At.stays HB4.out)
          replace HK := Lib.hid (HK.out.then HB4.out)
          clear hb4 HB4 HSK C1 c0 c1 c2 c3 c4 hcy
          have u7 : IntKind.i64.wrap ((k : Int) + 1) = (k : Int) + 1 := IntWalk.i64_in _ ⟨by omega, by omega⟩
          go_wp2_with fail
          go_roundw
          case rel => exact ⟨k + 1, by omega, by go_num, HK, HB, HT⟩
          case measure => simp [intOf]; omega
        · obtain rfl : k = 8 := by omega
          rw [show ((8 : Nat) : Int) = 8 from rfl]
          obtain ⟨x, px⟩ := el4 HT.out (j := 0) (by omega)
          have c0 : wr.cell? ⟨w.heap.size, 0, none⟩ = some (.int .i64 x.d) := px.c0
          have c1 : wr.cell? ⟨w.heap.size, 1, none⟩ = some (.int .i64 x.e) := px.c1
          have c2 : wr.cell? ⟨w.heap.size, 2, none⟩ = some (.int .i64 x.a) := px.c2
          have c3 : wr.cell? ⟨w.heap.size, 3, none⟩ = some (.int .i64 x.b) := px.c3
          have c4 : wr.cell? ⟨w.heap.size, 4, none⟩ = some (.int .i64 x.c) := px.c4
          clear px
          have C1 := Lib.hid (fun W (h : Below wr.heap.size wr W) => law_plays (-1) none 0 0 [] x W (Rd.nil _ _ _))
          have C2 := Lib.hid (fun W (h : Below wr.heap.size wr W) => law_plays 4 none 0 0 [] x W (Rd.nil _ _ _))
          go_wp2_with fail
          refine (law_plays (-1) none 0 0 [] x wr (Rd.nil _ _ _)).mono ?_
          rintro e w4 ⟨rfl, hb⟩
          have d0 := below_cell hb c0
          have d1 := below_cell hb c1
          have d2 := below_cell hb c2
          have d3 := below_cell hb c3
          have d4 := below_cell hb c4
          replace HB := Lib.hid (below_then HB.out hb)
          clear hb c0 c1 c2 c3 c4
          go_wp2_with fail
          refine (law_plays 4 none 0 0 [] x w4 (Rd.nil _ _ _)).mono ?_
          rintro e w5 ⟨rfl, hb⟩
          have c0 := below_cell hb d0
          have c1 := below_cell hb d1
          have c2 := below_cell hb d2
          have c3 := below_cell hb d3
          have c4 := below_cell hb d4
          replace HB := Lib.hid (below_then HB.out hb)
          clear hb d0 d1 d2 d3 d4
          have HSK := Lib.hid (show ∀ W, Below w5.heap.size w5 W → (W.cell? ⟨w.heap.size, 0, none⟩ = some (.int .i64 x.d) ∧ W.cell? ⟨w.heap.size, 1, none⟩ = some (.int .i64 x.e) ∧ W.cell? ⟨w.heap.size, 2, none⟩ = some (.int .i64 x.a) ∧ W.cell? ⟨w.heap.size, 3, none⟩ = some (.int .i64 x.b) ∧ W.cell? ⟨w.heap.size, 4, none⟩ = some (.int .i64 x.c)) from fun W h => ⟨below_cell h c0, below_cell h c1, below_cell h c2, below_cell h c3, below_cell h c4⟩)
          obtain ⟨d0, d1, d2, d3, d4⟩ := HSK.out _ (below_new w5 (.cells #[.int .i64 0, .int .i64 0, .int .i64 0, .int .i64 0, .int .i64 0, .int .i64 1] 30))
          have C3 := Lib.hid (law_plays 0 (some ⟨w5.heap.size, 0, none⟩) 1 1 [(T0, 1)] x (w5.alloc (.cells #[.int .i64 0, .int .i64 0, .int .i64 0, .int .i64 0, .int .i64 0, .int .i64 1] 30)) (show Cos (w5.alloc (.cells #[.int .i64 0, .int .i64 0, .int .i64 0, .int .i64 0, .int .i64 0, .int .i64 1] 30)) (some ⟨w5.heap.size, 0, none⟩) 1 1 [(T0, 1)] from cos_new w5 [(T0, 1)] 30 1 rfl (by omega)))
          go_wp2_with fail
          refine C3.out.mono ?_
          rintro e w6 ⟨rfl, hb⟩
          replace HB := Lib.hid (below_then HB.out (below_then (below_new _ _) hb))
          clear hb d0 d1 d2 d3 d4 c0 c1 c2 c3 c4 HSK C3
          go_wp2_with fail
          refine (works_any _).mono ?_
          rintro e w7 ⟨rfl, hb⟩
          replace HB := Lib.hid (below_then HB.out hb)
          clear hb
          go_wp2_with fail
          go_ret
          exact .bool rfl HB.out
end Go.Proofs.Ytebpepjlhanopaa
