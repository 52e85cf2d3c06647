/- The reference's New, Send, Take. -/
import Derived.Test.YtfgjmckdjkfgdaaRows
import Derived.IntWalk
import Derived.Test.YtfgjmckdjkfgdaaWords
import Derived.Test.YtfgjmckdjkfgdaaByts
import Derived.Test.YtfgjmckdjkfgdaaStrs
import Derived.Test.YtfgjmckdjkfgdaaFrame
import Derived.Test.YtfgjmckdjkfgdaaElems
import Derived.Test.YtfgjmckdjkfgdaaHeads
import Derived.Test.YtfgjmckdjkfgdaaN9
import Derived.Test.YtfgjmckdjkfgdaaN11
import Derived.Test.YtfgjmckdjkfgdaaR1
import Derived.Test.YtfgjmckdjkfgdaaR2
namespace Go.Proofs.Ytfgjmckdjkfgdaa
open Go Go.RowKit Go.Proofs.Tail
set_option linter.unusedSimpArgs false
set_option linter.unusedVariables false
variable {w w' w2 : World} {D : Nat → Prop} {M : Nat} {R : RefS} {v v1 : Value}
theorem RefH.put (h : RefH w D M R v) (hbl : ∀ b, D b → v.ownBlock ≠ some b → w2.heap[b]? = w.heap[b]?) (hsz : w.heap.size ≤ w2.heap.size) {L : List Mail} (hown : w2.ownsRow 0 70 3 v1 L.length (recM L))
    (hv1 : ∀ b, v1.ownBlock = some b → v.ownBlock = some b ∨ w.heap.size ≤ b) (hl : L.length ≤ 1000000) : RefH (w2.setCell ⟨M, 1, none⟩ v1) (grewD D w w2) M { R with L := L } v1 := by
  have hMv : v.ownBlock ≠ some M := fun e => (h.dv M e).2 rfl
  have hM := hbl M h.dM hMv
  have hblk : Blk w2 M [.int .i64 R.E, v, .int .i64 R.s, .int .i64 R.t] 59 := ⟨hM.trans h.blk.h⟩
  have hne : ∀ b, v1.ownBlock = some b → b ≠ M := fun b hb => by
    rcases hv1 b hb with h1 | h1
    · exact (h.dv b h1).2
    · have := h.lt M h.dM; omega
  refine ⟨hblk.set 1 v1, owns_block hown fun k hk => Below.heap_setCell _ _ _ _ (hne k hk), .inl h.dM, fun b hb => ⟨?_, hne b hb⟩, fun k hk => ?_, hl⟩
  · rcases hv1 b hb with h1 | h1
    · exact .inl (h.dv b h1).1
    · exact .inr ⟨h1, (hown.lt b hb).2⟩
  · show k < (w2.heap.modify _ _).size
    rw [Array.size_modify]
    rcases hk with hk | hk
    · exact Nat.lt_of_lt_of_le (h.lt k hk) hsz
    · exact hk.2
theorem RefH.sent (h : RefH w D M R v) (x : Int) : RefH (w.setCell ⟨M, 2, none⟩ (.int .i64 x)) D M { R with s := x } v :=
  ⟨h.blk.set 2 _, owns_block h.own fun k hk => Below.heap_setCell _ _ _ _ (h.dv k hk).2, h.dM, h.dv, fun k hk => by show k < (w.heap.modify _ _).size; rw [Array.size_modify]; exact h.lt k hk, h.lim⟩
theorem RefH.taken (h : RefH w D M R v) (x : Int) : RefH (w.setCell ⟨M, 3, none⟩ (.int .i64 x)) D M { R with t := x } v :=
  ⟨h.blk.set 3 _, owns_block h.own fun k hk => Below.heap_setCell _ _ _ _ (h.dv k hk).2, h.dM, h.dv, fun k hk => by show k < (w.heap.modify _ _).size; rw [Array.size_modify]; exact h.lt k hk, h.lim⟩
/-- A net that is new. -/
theorem refnew_any (E : Int) (w : World) : Calls Try.prog 9 #[.int .i64 E] w fun e w' => e = .returned (.pointer (some ⟨w.heap.size, 0, none⟩)) ∧ Ref w' (fun b => b = w.heap.size) w.heap.size ⟨endsN E, [], 0, 0⟩ ∧ Below w.heap.size w w' := by
  have fin : ∀ E' : Nat, Ref (w.alloc (.cells [.int .i64 E', .slice none 0 0, .int .i64 0, .int .i64 0].toArray 59)) (fun b => b = w.heap.size) w.heap.size ⟨E', [], 0, 0⟩ ∧ Below w.heap.size w (w.alloc (.cells [.int .i64 E', .slice none 0 0, .int .i64 0, .int .i64 0].toArray 59)) := fun E' =>
    ⟨⟨_, Blk.new w _ _ _ rfl, World.ownsRow_nil _ _ _ _, rfl, (fun b hb => by cases hb), (fun k hk => by subst hk; simp), by simp⟩, below_new w _⟩
  by_cases h1 : E < 1
  · have e1 : endsN E = 1 := by unfold endsN; omega
    have h2 : E < 64 := by omega
    have F := Lib.hid (fin 1)
    rw [e1]
    clear fin e1
    go_enter Try.func9, Try.ntmps9
    go_wp2_with fail
    go_ret
    exact ⟨rfl, F.out.1, F.out.2⟩
  by_cases h2 : E = 1
  · have e1 : endsN E = 1 := by unfold endsN; omega
    have F := Lib.hid (fin 1)
    rw [e1]
    subst h2
    clear fin e1
    go_enter Try.func9, Try.ntmps9
    go_wp2_with fail
    go_ret
    exact ⟨rfl, F.out.1, F.out.2⟩
  by_cases h3 : 64 < E
  · have e1 : endsN E = 64 := by unfold endsN; omega
    have F := Lib.hid (fin 64)
    have h4 : ¬ E < 64 := by omega
    have h5 : 1 < E := by omega
    rw [e1]
    clear fin e1 h1 h2
    go_enter Try.func9, Try.ntmps9
    go_wp2_with fail
    go_ret
    exact ⟨rfl, F.out.1, F.out.2⟩
  by_cases h4 : E = 64
  · have e1 : endsN E = 64 := by unfold endsN; omega
    have F := Lib.hid (fin 64)
    rw [e1]
    subst h4
    clear fin e1 h1 h2 h3
    go_enter Try.func9, Try.ntmps9
    go_wp2_with fail
    go_ret
    exact ⟨rfl, F.out.1, F.out.2⟩
  · have e1 : ((endsN E : Nat) : Int) = E := by unfold endsN; omega
    have F := Lib.hid (fin (endsN E))
    rw [e1] at F
    have h5 : 1 < E := by omega
    have h6 : E < 64 := by omega
    clear fin e1 h1 h2 h3 h4
    go_enter Try.func9, Try.ntmps9
    go_wp2_with fail
    go_ret
    exact ⟨rfl, F.out.1, F.out.2⟩
theorem str_size (xs : List Int) : (strOfNums xs).size = xs.length := by
  have := strOfNums_data xs
  have h2 : (strOfNums xs).data.size = xs.length := by rw [← Array.length_toList, this, List.length_map]
  exact h2
def sendER (R : RefS) (a b : Int) (n : Nat) : Int := if ¬ (isR R a = true ∧ isR R b = true) then 2 else if 1048576 < n then 3 else if 4096 ≤ lenR R a b then 31 else 0
def sendR (R : RefS) (a b : Int) (xs : List Int) : RefS := if sendER R a b xs.length = 0 then { R with L := R.L ++ [⟨a, b, xs⟩], s := wrap64 (R.s + 1) } else R
def GivesSr (D : Nat → Prop) (M : Nat) (R : RefS) (a b : Int) (xs : List Int) (w : World) (e : Ending) (w' : World) : Prop :=
  e = .returned (.int .i64 (sendER R a b xs.length)) ∧ Ref w' (grewD D w w') M (sendR R a b xs) ∧ Fr D w w'
theorem refsend_bad (hR : Ref w D M R) {a b : Int} {xs : List Int} {z : Int} (hz : z ≠ 0) (h0 : sendER R a b xs.length = z) : GivesSr D M R a b xs w (.returned (.int .i64 z)) w := by
  unfold GivesSr sendR
  rw [h0, if_neg hz, grewD_self]
  exact ⟨rfl, hR, Fr.refl _ _⟩
set_option maxHeartbeats 4000000 in
theorem refsend_any (hR : Ref w D M R) (a b : Int) (xs : List Int) (hlim : R.L.length < 1000000) : Calls Try.prog 23 #[.pointer (some ⟨M, 0, none⟩), .int .i64 a, .int .i64 b, .string (strOfNums xs)] w (GivesSr D M R a b xs w) := by
  have H1 := Lib.hid (refis_any hR a)
  have H2 := Lib.hid (refis_any hR b)
  have H3 := Lib.hid (reflen_any hR a b)
  have HS := Lib.hid (fun z hz h => refsend_bad hR (a := a) (b := b) (xs := xs) (z := z) hz h)
  have hsz := str_size xs
  have HQ := Lib.hid (show sendER R a b xs.length = if ¬ (isR R a = true ∧ isR R b = true) then 2 else if 1048576 < xs.length then 3 else if 4096 ≤ lenR R a b then 31 else 0 from rfl)
  have HR := Lib.hid hR
  cases ha : isR R a with
  | false =>
    rw [ha] at H1 HQ
    have F := Lib.hid (HS.out 2 (by omega) (by rw [HQ.out]; simp))
    clear hR hlim ha H2 H3 HS hsz HQ HR
    go_enter Try.func23, Try.ntmps23
    go_wp2_with fail
    with_reducible refine H1.out.mono ?_
    rintro e w1 ⟨rfl, rfl⟩
    go_wp2_with fail
    go_ret
    exact F.out
  | true =>
    cases hb : isR R b with
    | false =>
      rw [ha] at H1 HQ
      rw [hb] at H2 HQ
      have F := Lib.hid (HS.out 2 (by omega) (by rw [HQ.out]; simp))
      clear hR hlim ha hb H3 HS hsz HQ HR
      go_enter Try.func23, Try.ntmps23
      go_wp2_with fail
      with_reducible refine H1.out.mono ?_
      rintro e w1 ⟨rfl, rfl⟩
      go_wp2_with fail
      with_reducible refine H2.out.mono ?_
      rintro e w1 ⟨rfl, rfl⟩
      go_wp2_with fail
      go_ret
      exact F.out
    | true =>
      rw [ha] at H1 HQ
      rw [hb] at H2 HQ
      have HQ := Lib.hid (show sendER R a b xs.length = if 1048576 < xs.length then 3 else if 4096 ≤ lenR R a b then 31 else 0 by rw [HQ.out]; simp)
      by_cases hn : 1048576 < xs.length
      · have F := Lib.hid (HS.out 3 (by omega) (by rw [HQ.out, if_pos hn]))
        have d1 : decide (1048576 < (xs.length : Int)) = true := decide_eq_true (by omega)
        have d2 : decide (1048576 < xs.length) = true := decide_eq_true hn
        clear hR hlim ha hb H3 HS HQ HR hn
        generalize xs.length = n at *
        go_enter Try.func23, Try.ntmps23
        go_wp2_with fail
        with_reducible refine H1.out.mono ?_
        rintro e w1 ⟨rfl, rfl⟩
        go_wp2_with fail
        with_reducible refine H2.out.mono ?_
        rintro e w1 ⟨rfl, rfl⟩
        go_wp2_with fail
        go_ret
        exact F.out
      · have d1 : decide (1048576 < (xs.length : Int)) = false := decide_eq_false (by omega)
        have d2 : decide (1048576 < xs.length) = false := decide_eq_false hn
        by_cases hk : 4096 ≤ lenR R a b
        · have F := Lib.hid (HS.out 31 (by omega) (by rw [HQ.out, if_neg hn, if_pos hk]))
          have d3 : decide (4096 ≤ (lenR R a b : Int)) = true := decide_eq_true (by omega)
          have d4 : decide (4096 ≤ lenR R a b) = true := decide_eq_true hk
          clear hR hlim ha hb HS HQ HR hn hk
          generalize xs.length = n at *
          generalize lenR R a b = m at *
          go_enter Try.func23, Try.ntmps23
          go_wp2_with fail
          with_reducible refine H1.out.mono ?_
          rintro e w1 ⟨rfl, rfl⟩
          go_wp2_with fail
          with_reducible refine H2.out.mono ?_
          rintro e w1 ⟨rfl, rfl⟩
          go_wp2_with fail
          with_reducible refine H3.out.mono ?_
          rintro e w1 ⟨rfl, rfl⟩
          go_wp2_with fail
          go_ret
          exact F.out
        · have d3 : decide (4096 ≤ (lenR R a b : Int)) = false := decide_eq_false (by omega)
          have d4 : decide (4096 ≤ lenR R a b) = false := decide_eq_false hk
          have HZ := Lib.hid (show sendER R a b xs.length = 0 by rw [HQ.out, if_neg hn, if_neg hk])
          obtain ⟨v, h⟩ := hR
          obtain ⟨A, c, rfl, hm, c0, c1, c2, c3, fz⟩ := h.reads
          have HH := Lib.hid h
          have HM := Lib.hid (show (R.L.length + 1) * 32 ≤ 140737488355328 by omega)
          have HLI := Lib.hid hlim
          have z1 := fz 1
          have z2 := fz 2
          clear h hm c0 c3 fz hlim ha hb HS hn hk
          generalize lenR R a b = m at *
          go_enter Try.func23, Try.ntmps23
          go_wp2_with fail
          with_reducible refine H1.out.mono ?_
          rintro e w1 ⟨rfl, rfl⟩
          go_wp2_with fail
          with_reducible refine H2.out.mono ?_
          rintro e w1 ⟨rfl, rfl⟩
          go_wp2_with fail
          with_reducible refine H3.out.mono ?_
          rintro e w1 ⟨rfl, rfl⟩
          go_wp2_with (at_builtin; (refine own_append_one (W := w) rfl (.tmp 34) (.tmp 39) 57 70 (.agg #[.int .i64 0, .int .i64 0, .string { data := #[] }]) 3 32 rfl Try.underlying57 infoM rfl (by omega) (by omega) 0 (.slice A R.L.length c) R.L.length (recM R.L) 1 [.int .i64 a, .int .i64 b, .string (strOfNums xs)] rfl rfl HH.out.own rfl (by simp [Value.oneCell']) HM.out (Nat.zero_le _) ?_)
                       intro v1 w1 hown hgr hat
                       have HO := Lib.hid hown
                       have HG := Lib.hid hgr
                       have HA := Lib.hid hat
                       have hMv : some M ≠ (Value.slice A R.L.length c).ownBlock := fun e => (HH.out.dv M e.symm).2 rfl
                       have zz1 : w1.frozen? ⟨M, 1, none⟩ = false := (World.frozen?_of_block (hgr.block M (HH.out.lt M HH.out.dM) hMv)).trans z1
                       have zz2 : w1.frozen? ⟨M, 2, none⟩ = false := (World.frozen?_of_block (hgr.block M (HH.out.lt M HH.out.dM) hMv)).trans z2
                       have cc1 := hgr.cell c1 hMv
                       have cc2 := hgr.cell c2 hMv
                       obtain ⟨A3, c3, rfl⟩ := (OwnAt.of hown).form
                       clear hown hgr hat c1 c2 z1 z2 hMv)
          go_ret
          have hput := HH.out.put (w2 := w1) (v1 := .slice A3 (R.L.length + 1) c3) (L := R.L ++ [⟨a, b, xs⟩]) (fun k hk hn => HG.out.block k (HH.out.lt k hk) (fun e => hn e.symm)) HG.out.size (by rw [recM_append, List.length_append]; exact HO.out) (fun k hk => by
            rcases HA.out with h1 | ⟨b', h1, h2⟩
            · exact .inl (by rw [← h1, hk])
            · rw [hk] at h1; injection h1 with h1; subst h1; exact .inr h2) (by rw [List.length_append, List.length_singleton]; have := HLI.out; omega)
          have hfin := hput.sent (wrap64 (R.s + 1))
          unfold GivesSr sendR
          rw [HZ.out, if_pos rfl]
          refine ⟨rfl, ⟨.slice A3 (R.L.length + 1) c3, ?_⟩, ?_⟩
          · have hD : grewD D w ((w1.setCell ⟨M, 1, none⟩ (.slice A3 (R.L.length + 1) c3)).setCell ⟨M, 2, none⟩ (.int .i64 (wrap64 (R.s + 1)))) = grewD D w w1 := by
              unfold grewD
              simp [World.setCell]
            rw [← hD] at hfin
            exact hfin
          · exact (((Fr.refl D w).grown HG.out (fun k hk _ => (HH.out.dv k hk).1)).set (fun _ => HH.out.dM) _).set (fun _ => HH.out.dM) _
theorem mslice_to {A : Option Addr} {n c k : Nat} {xs : List Mail} (h : Mls w A n c xs) (hk : k ≤ n) :
    ∀ W, (Instr.slice 57 (.slice A n c) none (some (.int .i64 k)) none).run Try.prog W = .ok (.slice A k c) W := by
  have hc := h.cap
  intro W
  have h1 : (0 : Int) ≤ k := by omega
  have h2 : (k : Int) ≤ c := by omega
  have u := Try.underlying57
  have z := Try.sizeOf70
  go_simp
theorem Mls.take {A : Option Addr} {n c : Nat} {ts : List Mail} (h : Mls w A n c ts) {m : Nat} (hm : m ≤ n) : Mls w A m c (ts.take m) :=
  ⟨by rw [List.length_take, h.len]; omega, Nat.le_trans hm h.cap, Nat.le_trans hm h.big, fun hp => by
    obtain ⟨b, off, rfl, hc⟩ := h.at_ (by omega)
    refine ⟨b, off, rfl, fun j x hj => hc j x ?_⟩
    rw [List.getElem?_take] at hj
    split at hj
    · exact hj
    · cases hj⟩
theorem mslice_from {A : Option Addr} {n c k : Nat} {xs : List Mail} (h : Mls w A n c xs) (hk : k ≤ n) :
    ∃ Ad, (∀ W, (Instr.slice 57 (.slice A n c) (some (.int .i64 k)) none none).run Try.prog W = .ok (.slice Ad (n - k) (c - k)) W) ∧ Mls w Ad (n - k) (c - k) (xs.drop k) := by
  have hc := h.cap
  refine ⟨if c = k then A else A.map (·.add (k * 3)), fun W => ?_, ?_⟩
  · have h1 : (0 : Int) ≤ k := by omega
    have h2 : (k : Int) ≤ n := by omega
    have u := Try.underlying57
    have z := Try.sizeOf70
    go_simp
  · refine ⟨by rw [List.length_drop, h.len], by omega, by have := h.big; omega, fun hn => ?_⟩
    obtain ⟨b, off, rfl, hc⟩ := h.at_ (by omega)
    rw [if_neg (by omega)]
    refine ⟨b, off + k * 3, by simp only [Option.map_some, Addr.add]; split <;> simp_all, fun j x hj => ?_⟩
    rw [List.getElem?_drop] at hj
    have := hc (k + j) x hj
    rw [Nat.add_mul, ← Nat.add_assoc] at this
    exact this
def takeR (R : RefS) (a b : Int) : RefS := if atI R a b < R.L.length then { R with L := R.L.take (atI R a b) ++ R.L.drop (atI R a b + 1), t := wrap64 (R.t + 1) } else R
def GivesTr (D : Nat → Prop) (M : Nat) (R : RefS) (a b : Int) (w : World) (e : Ending) (w' : World) : Prop :=
  e = .returned (pairR (headR R a b)) ∧ Ref w' (grewD D w w') M (takeR R a b) ∧ Fr D w w'
set_option maxHeartbeats 8000000 in
theorem reftake_any (hR : Ref w D M R) (a b : Int) : Calls Try.prog 21 #[.pointer (some ⟨M, 0, none⟩), .int .i64 a, .int .i64 b] w (GivesTr D M R a b w) := by
  have HA := Lib.hid (refat_any hR a b)
  have HR := Lib.hid hR
  obtain ⟨v, h⟩ := hR
  obtain ⟨A, c, rfl, hm, c0, c1, c2, c3, fz⟩ := h.reads
  by_cases hi : atI R a b < R.L.length
  · obtain ⟨g, off, x, rfl, hx, hc⟩ := hm.elem hi
    obtain ⟨x0, x1, x2⟩ := hc
    have HO := Lib.hid (show headR R a b = some x.b by unfold headR; rw [find_at, show R.L.findIdx (ofR a b) = atI R a b from rfl, hx]; rfl)
    have HT := Lib.hid (show takeR R a b = { R with L := R.L.take (atI R a b) ++ R.L.drop (atI R a b + 1), t := wrap64 (R.t + 1) } by unfold takeR; rw [if_pos hi])
    have e : atR R a b = ((atI R a b : Nat) : Int) := by unfold atR; rw [if_pos hi]
    rw [e] at HA
    have d1 : decide (((atI R a b : Nat) : Int) < 0) = false := decide_eq_false (by omega)
    have a0 : (0 : Int) ≤ (atI R a b : Nat) := by omega
    have a1 : ((atI R a b : Nat) : Int) < R.L.length := by omega
    have HH := Lib.hid h
    have z1 := fz 1
    have z3 := fz 3
    have hlim := h.lim
    have hk : atI R a b + 1 ≤ R.L.length := hi
    generalize atI R a b = k at *
    have hsl1 := mslice_to hm (Nat.le_of_lt hi)
    obtain ⟨Ad, hsl2, hd4⟩ := mslice_from hm hk
    have HT1 := Lib.hid (hm.take (Nat.le_of_lt hi))
    have HT3 := Lib.hid hd4
    have HL1 := Lib.hid (show (recM (R.L.take k)).length = k * 3 by rw [recM_length, List.length_take]; omega)
    have HL3 := Lib.hid (show (recM (R.L.drop (k + 1))).length = (R.L.length - (k + 1)) * 3 by rw [recM_length, List.length_drop])
    have HM1 := Lib.hid (show (0 + k) * 32 ≤ 140737488355328 by omega)
    have HM3 := Lib.hid (show ((0 + k) + (R.L.length - (k + 1))) * 32 ≤ 140737488355328 by omega)
    have hk1 : IntKind.i64.wrap ((k : Int) + 1) = (k : Int) + 1 := IntWalk.i64_in _ ⟨by omega, by omega⟩
    have hsl3 : ∀ W, (Instr.slice 57 (.slice (some ⟨g, off, none⟩) R.L.length c) (some (.int .i64 ((k : Int) + 1))) none none).run Try.prog W = .ok (.slice Ad (R.L.length - (k + 1)) (c - (k + 1))) W := fun W => by have h9 := hsl2 W; rwa [show (((k + 1 : Nat) : Int)) = (k : Int) + 1 by omega] at h9
    have HKL := Lib.hid (And.intro hi hlim)
    clear h hm c0 c2 fz e hx x0 x1 hsl2 hd4 hlim hk hi
    go_enter Try.func21, Try.ntmps21
    go_wp2_with fail
    with_reducible refine HA.out.mono ?_
    rintro e w1 ⟨rfl, rfl⟩
    go_wp2_with (at_builtin; first
      | (refine own_append (W := w) rfl (.tmp 25) (.tmp 31) 57 70 (.agg #[.int .i64 0, .int .i64 0, .string { data := #[] }]) 3 32 rfl Try.underlying57 infoM rfl (by omega) (by omega) w.heap.size (.slice none 0 0) 0 [] (some ⟨g, off, none⟩) k c (recM (R.L.take k)) rfl rfl (World.ownsRow_nil _ _ _ _) HL1.out (mls_src HT1.out) (recM_one _) HM1.out (Nat.le_refl _) ?_
         intro v1 w1 hown hgr hat
         have HB1 := Lib.hid (below_grown (Below.refl _ w) hgr (fun k hk => by cases hk))
         have HO1 := Lib.hid hown
         have cc1 := below_cell HB1.out c1
         have cc3 := below_cell HB1.out c3
         clear hown hgr hat c1 c3)
      | (refine own_append (W := w1) rfl (.tmp 34) (.tmp 41) 57 70 (.agg #[.int .i64 0, .int .i64 0, .string { data := #[] }]) 3 32 rfl Try.underlying57 infoM rfl (by omega) (by omega) w.heap.size v1 (0 + k) ([] ++ recM (R.L.take k)) Ad (R.L.length - (k + 1)) (c - (k + 1)) (recM (R.L.drop (k + 1))) rfl rfl HO1.out HL3.out (mls_src (HT3.out.below RMail.stays HB1.out)) (recM_one _) HM3.out HB1.out.size ?_
         intro v2 w2 hown hgr hat
         have HB2 := Lib.hid (below_grown HB1.out hgr (fun k hk => own_lt HO1.out k hk))
         have HO2 := Lib.hid hown
         have dd3 := below_cell HB2.out (show w.cell? ⟨M, 3, none⟩ = some (.int .i64 R.t) from HH.out.blk.cell 3)
         have zz1 : w2.frozen? ⟨M, 1, none⟩ = false := (World.frozen?_of_block (HB2.out.block M (HH.out.lt M HH.out.dM))).trans z1
         have zz3 : w2.frozen? ⟨M, 3, none⟩ = false := (World.frozen?_of_block (HB2.out.block M (HH.out.lt M HH.out.dM))).trans z3
         have dd1 := below_cell HB2.out (show w.cell? ⟨M, 1, none⟩ = some (.slice (some ⟨g, off, none⟩) R.L.length c) from HH.out.blk.cell 1)
         obtain ⟨A3, c3, rfl⟩ := (OwnAt.of hown).form
         clear hown hgr hat cc1 cc3 z1 z3))
    go_ret2
    rw [Nat.zero_add] at HO2
    have hn : k + (R.L.length - (k + 1)) = (R.L.take k ++ R.L.drop (k + 1)).length := by
      rw [List.length_append, List.length_take, List.length_drop]; have := HKL.out; omega
    have hput := HH.out.put (w2 := w2) (v1 := .slice A3 (k + (R.L.length - (k + 1))) c3) (L := R.L.take k ++ R.L.drop (k + 1)) (fun j hj _ => HB2.out.block j (HH.out.lt j hj)) HB2.out.size (by rw [recM_append, ← hn]; exact own_base HO2.out (Nat.zero_le _)) (fun j hj => .inr (own_lt HO2.out j hj)) (by rw [← hn]; have := HKL.out; omega)
    have hfin := hput.taken (wrap64 (R.t + 1))
    unfold GivesTr
    rw [HT.out, HO.out]
    refine ⟨rfl, ⟨.slice A3 (k + (R.L.length - (k + 1))) c3, ?_⟩, ?_⟩
    · have hD : grewD D w ((w2.setCell ⟨M, 1, none⟩ (.slice A3 (k + (R.L.length - (k + 1))) c3)).setCell ⟨M, 3, none⟩ (.int .i64 (wrap64 (R.t + 1)))) = grewD D w w2 := by
        unfold grewD
        simp [World.setCell]
      rw [← hD] at hfin
      exact hfin
    · exact ((Fr.of_below (S := D) HB2.out).set (fun _ => HH.out.dM) _).set (fun _ => HH.out.dM) _
  · have HO := Lib.hid (show headR R a b = none by unfold headR; rw [find_at, show R.L.findIdx (ofR a b) = atI R a b from rfl, List.getElem?_eq_none (by omega)]; rfl)
    have HT := Lib.hid (show takeR R a b = R by unfold takeR; rw [if_neg hi])
    have e : atR R a b = -1 := by unfold atR; rw [if_neg hi]
    rw [e] at HA
    clear h hm c0 c1 c2 c3 fz e
    go_enter Try.func21, Try.ntmps21
    go_wp2_with fail
    with_reducible refine HA.out.mono ?_
    rintro e w1 ⟨rfl, rfl⟩
    go_wp2_with fail
    go_ret2
    unfold GivesTr
    rw [HT.out, HO.out, grewD_self]
    exact ⟨rfl, HR.out, Fr.refl _ _⟩
end Go.Proofs.Ytfgjmckdjkfgdaa
