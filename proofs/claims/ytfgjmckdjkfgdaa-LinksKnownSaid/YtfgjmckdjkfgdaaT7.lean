/- The walk of LinksOrder. -/
import Derived.Test.YtfgjmckdjkfgdaaRows
import Derived.IntWalk
import Derived.Deep.RegionHeld3
import Derived.Test.YtfgjmckdjkfgdaaWords
import Derived.Test.YtfgjmckdjkfgdaaByts
import Derived.Test.YtfgjmckdjkfgdaaStrs
import Derived.Test.YtfgjmckdjkfgdaaFrame
import Derived.Test.YtfgjmckdjkfgdaaElems
import Derived.Test.YtfgjmckdjkfgdaaOwnAt
import Derived.Test.YtfgjmckdjkfgdaaHeads
import Derived.Test.YtfgjmckdjkfgdaaN10
import Derived.Test.YtfgjmckdjkfgdaaN11
import Derived.Test.YtfgjmckdjkfgdaaN12
import Derived.Test.YtfgjmckdjkfgdaaN13
import Derived.Test.YtfgjmckdjkfgdaaN14
import Derived.Test.YtfgjmckdjkfgdaaT1
import Derived.Test.YtfgjmckdjkfgdaaT2
import Derived.Test.YtfgjmckdjkfgdaaT4
import Derived.Test.YtfgjmckdjkfgdaaT5
import Derived.Test.YtfgjmckdjkfgdaaO1
import Derived.Test.YtfgjmckdjkfgdaaO2
namespace Go.Proofs.Ytfgjmckdjkfgdaa
open Go Go.RowKit Go.Proofs.Tail
set_option linter.unusedSimpArgs false
set_option linter.unusedVariables false
theorem infoSt : (Try.prog.info? 9).map (fun i => (i.zero, i.size, i.bytes)) = some (some (.string { data := #[] }), 1, 16) := by kernel_rfl
theorem infoSs : (Try.prog.info? 37).map (fun i => (i.zero, i.size, i.bytes)) = some (some (.slice none 0 0), 1, 24) := by kernel_rfl
/-- make([][]string, 16). -/
theorem own_makeS {P : Program} {w : World} {ops : Array Oper} {rest : List Oper} {o : Oper} {a : Act} {Q : Exit → Act → World → Prop}
    (hg : o.guard = none) (l c : Operand) (t e : TypeId) (hop : o.op = Op.makeSlice t l c) (ht : P.underlying t = some (.slice e)) (hinfo : (P.info? e).map (fun i => (i.zero, i.size, i.bytes)) = some (some (.slice none 0 0), 1, 24))
    (base n : Nat) (kl kc : IntKind) (hl : a.eval l = .int kl (n : Int)) (hc : a.eval c = .int kc (n : Int)) (hn : 24 * n ≤ 281474976710656) (hb : base ≤ w.heap.size)
    (h : ∀ w', w'.ownsRow base e 1 (.slice (some ⟨w.heap.size, 0, Option.none⟩) n n) n (List.replicate n (.slice none 0 0)) → w.grownBy w' none → wpList P ops Q rest (a.put o.dst (.slice (some ⟨w.heap.size, 0, Option.none⟩) n n)) w') :
    wpList P ops Q (o :: rest) a w := by
  obtain ⟨i, hi, hzz⟩ := Option.map_eq_some_iff.1 hinfo
  simp only [Prod.mk.injEq] at hzz
  obtain ⟨hz0, hz1, hz2⟩ := hzz
  refine wpList_make_full w hg l c t hop base e i (.slice none 0 0) 1 ht hi hz0 hz1 kl kc n n n hl hc rfl rfl (by rw [hz2]; exact hn) (by unfold maxLen; omega) hb fun w' h1 h2 => h w' ?_ h2
  have : (madeCells (Value.slice none 0 0).cells (n * 1)).toList = List.replicate n (.slice none 0 0) := by
    apply List.ext_getElem
    · simp [madeCells]
    · intro i h1 h2
      simp [madeCells, Nat.mod_one, Value.cells]
  rwa [this] at h1
/-- The state ahead of a round. -/
def Or (w0 : World) (P RB S T Z k : Nat) (w : World) : Prop := ∃ N q D1 D2 H, OrH w0 P RB N q D1 D2 H w ∧ (∀ j, j < 16 → q j = qr N j) ∧ N.s = (S : Int) ∧ N.t = (T : Int) ∧ S = T + Z + sumL q 16 ∧ S ≤ k
theorem Or.new {w0 w1 w2 : World} {P : Nat} (hn : NS w0 (fun b => b = P) P ⟨endsN 4, fun _ => [], 0, 0⟩ w1) (ho : w2.ownsRow w1.heap.size 37 1 (.slice (some ⟨w1.heap.size, 0, none⟩) 16 16) 16 (List.replicate 16 (.slice none 0 0))) (hg : w1.grownBy w2 none) : Or w0 P w1.heap.size 0 0 0 0 w2 := by
  have hb : Below w1.heap.size w1 w2 := below_grown (Below.refl _ _) hg (fun k hk => by cases hk)
  have hn2 := hn.then hb
  refine ⟨_, fun _ => [], (fun b => b = P), (fun b => b = w1.heap.size), fun _ => .slice none 0 0, ⟨hn2, ⟨fun k hk => ?_, fun k hk => OwnAt.nil _ _ _ _, (fun k b _ h => by cases h), (fun k j b _ _ _ h => by cases h)⟩, rfl, fun k hk => ?_, fun k hk => ?_, fun k h1 h2 => ?_, fun i => ?_, rfl⟩, fun _ _ => rfl, rfl, rfl, rfl, Nat.le_refl _⟩
  · have := ho.cells (g := w1.heap.size) rfl k (.slice none 0 0) (by rw [List.getElem?_replicate, if_pos hk])
    rw [add_plain] at this
    rwa [Nat.zero_add]
  · subst hk
    exact (ho.lt w1.heap.size rfl).2
  · subst hk
    exact hn.b.size
  · subst h1
    have := hn.net.lt k rfl
    omega
  · rcases ho.2 with ⟨h', _⟩ | ⟨g', cap', cur, h', _, hh, _⟩
    · cases h'
    · have : w1.heap.size = g' := by injection h' with h'; injection h' with h'; injection h' with h'
      subst this
      simp [World.frozen?, hh]
/-- While the rows are taken off the net. -/
def Fin (w0 : World) (P RB : Nat) (q : Nat → List (List Int)) (D1 D2 : Nat → Prop) (H : Nat → Value) (S T k i : Nat) (w : World) : Prop :=
  ∃ N, OrH w0 P RB N q D1 D2 H w ∧ N.s = (S : Int) ∧ N.t = ((T + sumL q k + i : Nat) : Int) ∧ ∀ j, j < 16 → qr N j = if j < k then [] else if j = k then (q j).drop i else q j
theorem Fin.next {w0 w : World} {P RB : Nat} {q : Nat → List (List Int)} {D1 D2 : Nat → Prop} {H : Nat → Value} {S T k i : Nat} (h : Fin w0 P RB q D1 D2 H S T k i w) (hi : i = (q k).length) : Fin w0 P RB q D1 D2 H S T (k + 1) 0 w := by
  obtain ⟨N, h1, h2, h3, h4⟩ := h
  refine ⟨N, h1, h2, by rw [h3, sumL, ← hi]; omega, fun j hj => ?_⟩
  rw [h4 j hj]
  by_cases hjk : j < k
  · rw [if_pos hjk, if_pos (by omega)]
  · rw [if_neg hjk]
    by_cases hje : j = k
    · subst hje
      rw [if_pos rfl, if_pos (by omega), hi, List.drop_length]
    · rw [if_neg hje, if_neg (by omega)]
      split
      · rw [List.drop_zero]
      · rfl
set_option maxRecDepth 100000 in
set_option maxHeartbeats 32000000 in
theorem law_order (A : Option Addr) (n c : Nat) (l : List CallS) (w : World) (hX : Cls w A n c l) : Calls Try.prog 4 #[.slice A n c] w (Gives (.bool true) w) := by
  have HL := Lib.hid (large_any A n c l w hX)
  have HX := Lib.hid hX
  have HW := Lib.hid (fun W => works_any W)
  have HNN := Lib.hid (ns_new 4 (Below.refl w.heap.size w))
  clear hX
  go_enter Try.func4, Try.ntmps4
  go_wp2_with fail
  refine HL.out.mono ?_
  rintro e w1 ⟨b, rfl, hb, rfl⟩
  cases b with
  | true =>
    clear HL HX hb HNN
    go_wp2_with fail
    refine (HW.out _).mono ?_
    rintro e w1 ⟨rfl, hb⟩
    have HB := Lib.hid hb
    clear hb HW
    go_wp2_with fail
    go_ret
    exact .bool rfl HB.out
  | false =>
    have hs := hb rfl
    have HS := Lib.hid hs
    have hn : n ≤ 200 := by rw [← HX.out.len]; exact hs.1
    clear hb hs HL
    go_wp2_with fail
    refine HNN.out.mono ?_
    rintro e w1 ⟨rfl, hn1, _⟩
    have HN1 := Lib.hid hn1
    clear hn1 HNN
    go_wp2_with (at_make; (refine own_makeS rfl _ _ 34 37 rfl Try.underlying34 infoSs w1.heap.size 16 .i64 .i64 rfl rfl (by omega) (Nat.le_refl _) ?_); intro w2 hown hg; have HO := Lib.hid (Or.new HN1.out hown hg); clear hown hg)
    obtain ⟨RB, hRB⟩ : ∃ RB, RB = w1.heap.size := ⟨_, rfl⟩
    rw [← hRB] at HO ⊢
    clear HN1 hRB
    go_loopw [5, 6, 7, 8] (fun s5 s6 s7 i wr => ∃ S T Z k : Nat, k ≤ n ∧ i = .int .i64 k ∧ s5 = .int .i64 S ∧ s6 = .int .i64 Z ∧ s7 = .int .i64 T ∧ Hid (Or w w.heap.size RB S T Z k wr)) (fun _ _ _ i _ => n - (intOf i).toNat)
    case atStart => exact ⟨0, 0, 0, 0, Nat.zero_le _, rfl, rfl, rfl, rfl, HO⟩
    case round =>
      clear HO
      obtain ⟨S, T, Z, k, hk, rfl, rfl, rfl, rfl, HO⟩ := hrel
      by_cases hlt : k < n
      · have hd : decide ((k : Int) < n) = true := decide_eq_true (by omega)
        have hd' : decide (k < n) = true := decide_eq_true (by omega)
        have hk0 : (0 : Int) ≤ k := by omega
        have hkn : (k : Int) < n := by omega
        obtain ⟨g, off, x, rfl, hx, hc⟩ := HX.out.elem hlt
        obtain ⟨hkr, x0, x1, x2, A1, c1, x3, hby⟩ := hc
        obtain ⟨a, ha, hand⟩ := and3 x.f
        obtain ⟨b, hb, hband⟩ := and3 x.t
        obtain ⟨kk, hkk⟩ : ∃ kk, kk = a * 4 + b := ⟨_, rfl⟩
        have hk16 : kk < 16 := by omega
        have hw1 : IntKind.i64.wrap ((a : Int) * 4) = (a : Int) * 4 := IntWalk.i64_in _ ⟨by omega, by omega⟩
        have hw2 : IntKind.i64.wrap ((a : Int) * 4 + (b : Int)) = (kk : Int) := by rw [IntWalk.i64_in _ ⟨by omega, by omega⟩]; omega
        have kk0 : (0 : Int) ≤ kk := by omega
        have kk1 : (kk : Int) < 16 := by omega
        have HA := Lib.hid (And.intro ha (And.intro hb (And.intro hkk hk16)))
        clear hkr ha hb hkk hk16
        obtain ⟨N, q, D1, D2, H, ho, hq, hS, hT, hsum, hSk⟩ := HO.out
        have hbe := ho.net.b
        have y0 := below_cell hbe x0
        have y1 := below_cell hbe x1
        have y2 := below_cell hbe x2
        have y3 := below_cell hbe x3
        obtain ⟨wa, hwa⟩ : ∃ wa, wa = wr.alloc (.cells (bxC x A1 c1).toArray 32) := ⟨_, rfl⟩
        have hxx : (wr.alloc (.cells #[.int .u8 x.k, .int .i64 x.f, .int .i64 x.t, .slice A1 x.b.length c1] 32)) = wa := hwa.symm
        have hab : Below wr.heap.size wr wa := by rw [hwa]; exact below_new wr _
        have hbx : Blk wa wr.heap.size (bxC x A1 c1) 32 := by rw [hwa]; exact Blk.new wr _ _ _ rfl
        have z1 : ∀ p : After wa, p.val.cell? ⟨wr.heap.size, 1, none⟩ = some (.int .i64 x.f) := fun p => (hbx.then p.below).cell 1
        have z2 : ∀ p : After wa, p.val.cell? ⟨wr.heap.size, 2, none⟩ = some (.int .i64 x.t) := fun p => (hbx.then p.below).cell 2
        have HDL := Lib.hid (show ∀ j, D1 j → j < wr.heap.size from ho.net.net.lt)
        have HBX := Lib.hid hbx
        have HOR := Lib.hid (ho.below hab)
        have HQ := Lib.hid hq
        have HNU := Lib.hid (And.intro hS (And.intro hT (And.intro hsum hSk)))
        have HBY := Lib.hid hby
        have HLE := Lib.hid (HS.out.2 k x hx)
        clear hx x0 x1 x2 x3 hby ho hq hS hT hsum hSk hbe hwa hab hbx HO
        go_wp2_with fail
        refine quiet_after (by kernel_rfl) (by kernel_rfl) ?_
        repeat (first | go_big_quiet_step (fail) | quiet_step (fail))
        refine wpQuiet_nil ?_
        intro wz hw'
        obtain ⟨p, rfl⟩ := hw'
        obtain ⟨w5, hbq⟩ := p
        dsimp only
        have HBX5 := Lib.hid (HBX.out.then hbq)
        have HO5 := Lib.hid (HOR.out.below hbq)
        have t0 : w5.cell? ⟨wr.heap.size, 0, none⟩ = some (.int .u8 x.k) := HBX5.out.cell 0
        clear z1 z2 hbq HBX HOR y0 y1 y2 y3 hxx hand hband
        have HBO := Lib.hid (show ¬ D1 wr.heap.size from fun h => by have := HDL.out _ h; omega)
        generalize hg : wr.heap.size = bx at *
        clear hg
        by_cases hz : (x.k.tmod 8 == 4) = true ∨ ((x.k.tmod 8 == 4) = false ∧ (x.k.tmod 8 == 5) = true) ∨ ((x.k.tmod 8 == 4) = false ∧ (x.k.tmod 8 == 5) = false ∧ (x.k.tmod 8 == 6) = true)
        · have HT := Lib.hid (ns_take HO5.out.net a b)
          cases hqk : q kk with
          | nil =>
            obtain ⟨e1, e2⟩ := head_none HO5.out.E HQ.out HA.out.1 HA.out.2.1 (by rw [← HA.out.2.2.1]; exact hqk)
            rw [e1, e2] at HT
            rcases hz with h4 | ⟨h4, h5⟩ | ⟨h4, h5, h6⟩
            all_goals
              go_wp2_with fail
              refine HT.out.mono ?_
              rintro e w6 ⟨v, rfl, hv, hn6, hf6⟩
              have ho6 := HO5.out.turn hn6 hf6 (fun k h => .inl h) HO5.out.E
              obtain ⟨A3, c3, _, r1, _⟩ := ho6.row HA.out.2.2.2
              rw [hqk] at r1
              have rc : ∀ p : After w6, p.val.cell? ⟨RB, kk, none⟩ = some (.slice A3 0 c3) := fun p => cell_after r1 p
              have HO6 := Lib.hid ho6
              clear hv hn6 hf6 ho6 r1 HT t0
              go_wp2_with fail
              refine quiet_after (by kernel_rfl) (by kernel_rfl) ?_
              repeat (first | go_big_quiet_step (fail) | quiet_step (fail))
              refine wpQuiet_nil ?_
              intro wz hw'
              obtain ⟨p, rfl⟩ := hw'
              obtain ⟨w7, hbq⟩ := p
              dsimp only
              have HN := Lib.hid (show Or w w.heap.size RB S T Z (k + 1) w7 from ⟨N, q, D1, D2, H, HO6.out.below hbq, HQ.out, HNU.out.1, HNU.out.2.1, HNU.out.2.2.1, Nat.le_succ_of_le HNU.out.2.2.2⟩)
              clear rc hbq
              go_wp2_with fail
              go_roundw
              case rel => exact ⟨S, T, Z, k + 1, by omega, by go_num, rfl, rfl, rfl, HN⟩
              case measure => simp [intOf]; omega
          | cons xs r =>
            obtain ⟨e1, e2, e3, e4, e5⟩ := head_some HO5.out.E HQ.out HA.out.1 HA.out.2.1 (by rw [← HA.out.2.2.1]; exact hqk)
            rw [← HA.out.2.2.1] at e5
            rw [e1] at HT
            have HEE := Lib.hid (And.intro e2 (And.intro e3 (And.intro e4 e5)))
            obtain ⟨m, hm⟩ : ∃ m, m = (q kk).length := ⟨_, rfl⟩
            have hm1 : m = r.length + 1 := by rw [hm, hqk]; rfl
            have hm0 : (0 : Int) < m := by omega
            have hmd : decide ((0 : Int) < m) = true := decide_eq_true hm0
            have hmd' : decide (0 < m) = true := decide_eq_true (by omega)
            have HM := Lib.hid (And.intro hm hm1)
            have HQK := Lib.hid hqk
            have hT2 : T ≤ 200 := by have := HNU.out.2.2; omega
            have hwT : IntKind.i64.wrap ((T : Int) + 1) = (T : Int) + 1 := IntWalk.i64_in _ ⟨by omega, by omega⟩
            clear e1 e2 e3 e4 e5 hqk hm hm1
            generalize takeN N a b = N' at *
            rcases hz with h4 | ⟨h4, h5⟩ | ⟨h4, h5, h6⟩
            all_goals
              go_wp2_with fail
              refine HT.out.mono ?_
              rintro e w6 ⟨v, rfl, hv, hn6, hf6⟩
              have ho6 := HO5.out.turn hn6 hf6 (fun k h => .inl h) HEE.out.1
              obtain ⟨g2, o2, c3, hH, r1, hmc, hown, hstr⟩ := ho6.some HA.out.2.2.2 (by rw [← HM.out.1]; omega)
              rw [← HM.out.1] at hH r1 hmc hown
              obtain ⟨A2, c2, rfl, hb2⟩ := own_bytes hv (owns_small hv)
              have rc : ∀ p : After w6, p.val.cell? ⟨RB, kk, none⟩ = some (.slice (some ⟨g2, o2, none⟩) m c3) := fun p => cell_after r1 p
              have rs : ∀ p : After w6, p.val.cell? ⟨g2, o2, none⟩ = some (.string (strOfNums xs)) := fun p => cell_after (hstr 0 xs (by rw [HQK.out]; rfl)) p
              have rv : ∀ p : After w6, (convert 30 9 (.slice A2 xs.length c2)).run Try.prog p.val = .ok (.string (strOfNums xs)) p.val := fun p => run_convert_byts p.val 30 5 Try.underlying30 Try.underlying5 (hb2.below RByte.stays p.below) 9 Try.underlying9
              have HO6 := Lib.hid ho6
              have HH6 := Lib.hid (And.intro hH (And.intro hmc hown))
              have HS1 := slice_oneS (g := g2) (o := o2) (show 0 < m by omega) hmc
              clear hv hn6 hf6 ho6 r1 HT t0 hH hown hstr hb2 hmc
              have hgx : ((some xs).getD []).length = xs.length := rfl
              go_wp2_with fail
              refine quiet_after (by kernel_rfl) (by kernel_rfl) ?_
              repeat (first | go_big_quiet_step (fail) | quiet_step (fail))
              refine wpQuiet_nil ?_
              intro wz hw'
              obtain ⟨p, rfl⟩ := hw'
              obtain ⟨w7, hbq⟩ := p
              dsimp only
              have HO7 := Lib.hid (HO6.out.below hbq)
              have HB7 := Lib.hid hbq
              have f7 := HO7.out.fz kk
              have rc7 := rc ⟨w7, hbq⟩
              dsimp only at rc7
              clear rc rs rv hbq
              go_wp2_with fail
              have HN : Hid (Or w w.heap.size RB S (T + 1) Z (k + 1) (w7.setCell ⟨RB, kk, none⟩ (.slice (some (cutA g2 o2 c3)) (m - 1) (c3 - 1)))) := Lib.hid (by
                have hl : m - 1 = r.length := by have := HM.out.2; omega
                have hdr : (strV (q kk)).drop 1 = strV r := by rw [HQK.out]; rfl
                have hcut := cut_own HH6.out.2.2 (by omega)
                rw [hdr, hl] at hcut
                have hob : (Value.slice (some (cutA g2 o2 c3)) (m - 1) (c3 - 1)).ownBlock = some g2 := by unfold cutA; split <;> rfl
                have hp := HO7.out.put HA.out.2.2.2 (w2 := w7) (Fr.refl _ _) (fun _ _ _ => rfl) (v := .slice (some (cutA g2 o2 c3)) (m - 1) (c3 - 1)) (l := r) (by rw [hl]; exact hcut.then HB7.out) (fun b hb => .inl (by rw [HH6.out.1, ← hb, hob]; rfl))
                rw [grewD_self] at hp
                refine ⟨N', upd q kk r, D1, D2, _, hp, HEE.out.2.2.2, by rw [HEE.out.2.1]; exact HNU.out.1, by rw [HEE.out.2.2.1, HNU.out.2.1]; exact wrap_small (x := T + 1) (by omega), ?_, Nat.le_succ_of_le HNU.out.2.2.2⟩
                have hsm := sumL_upd (q := q) (k := kk) (l := r) (n := 16) HA.out.2.2.2
                have := HNU.out.2.2.1
                have := HM.out.1
                have := HM.out.2
                omega)
              go_roundw
              case rel => exact ⟨S, T + 1, Z, k + 1, by omega, by go_num, rfl, rfl, by go_num, HN⟩
              case measure => simp [intOf]; omega
        · have h4 : (x.k.tmod 8 == 4) = false := by
            cases h : (x.k.tmod 8 == 4)
            · rfl
            · exact absurd (.inl h) hz
          have h5 : (x.k.tmod 8 == 5) = false := by
            cases h : (x.k.tmod 8 == 5)
            · rfl
            · exact absurd (.inr (.inl ⟨h4, h⟩)) hz
          have h6 : (x.k.tmod 8 == 6) = false := by
            cases h : (x.k.tmod 8 == 6)
            · rfl
            · exact absurd (.inr (.inr ⟨h4, h5, h⟩)) hz
          clear hz
          cases h7 : (x.k.tmod 8 == 7) with
          | true =>
            have HT := Lib.hid (ns_clear HO5.out.net a)
            obtain ⟨e1, e2, e3, e4⟩ := clear_good HO5.out.E HQ.out HA.out.1
            have HEE := Lib.hid (And.intro e1 (And.intro e2 (And.intro e3 e4)))
            clear e1 e2 e3 e4
            generalize clearN N a = N' at *
            go_wp2_with fail
            refine HT.out.mono ?_
            rintro e w6 ⟨rfl, hn6, hf6⟩
            have H0 : Hid (∃ D2 H, OrH w w.heap.size RB N' (clr4 q a 0) D1 D2 H w6) := Lib.hid ⟨D2, H, by rw [clr4_zero]; exact HO5.out.turn hn6 hf6 (fun k h => .inl h) HEE.out.1⟩
            have HS0 : Hid (Z + sumL (clr4 q a 0) 16 = Z + sumL q 16) := Lib.hid (by rw [clr4_zero])
            clear hn6 hf6 HT t0 h4 h5 h6 h7 hw2
            go_wp2_with fail
            go_loopw [6, 15] (fun s6 i wx => ∃ Y c4 : Nat, c4 ≤ 4 ∧ i = .int .i64 c4 ∧ s6 = .int .i64 Y ∧ Hid (∃ D2 H, OrH w w.heap.size RB N' (clr4 q a c4) D1 D2 H wx) ∧ Hid (Y + sumL (clr4 q a c4) 16 = Z + sumL q 16)) (fun _ i _ => 4 - (intOf i).toNat)
            case atStart => exact ⟨Z, 0, by omega, rfl, rfl, H0, HS0⟩
            case round =>
              clear H0 HS0
              obtain ⟨Y, c4, hc4, rfl, rfl, H0, HSM⟩ := hrel
              by_cases hl4 : c4 < 4
              · have hd4 : decide ((c4 : Int) < 4) = true := decide_eq_true (by omega)
                have hd4' : decide (c4 < 4) = true := decide_eq_true hl4
                obtain ⟨ka, hka⟩ : ∃ ka, ka = a * 4 + c4 := ⟨_, rfl⟩
                obtain ⟨kc, hkc⟩ : ∃ kc, kc = c4 * 4 + a := ⟨_, rfl⟩
                have hA4 := HA.out.1
                have hw3 : IntKind.i64.wrap ((a : Int) * 4 + (c4 : Int)) = (ka : Int) := by rw [IntWalk.i64_in _ ⟨by omega, by omega⟩]; omega
                have hw4 : IntKind.i64.wrap ((c4 : Int) * 4) = (c4 : Int) * 4 := IntWalk.i64_in _ ⟨by omega, by omega⟩
                have hw5 : IntKind.i64.wrap ((c4 : Int) * 4 + (a : Int)) = (kc : Int) := by rw [IntWalk.i64_in _ ⟨by omega, by omega⟩]; omega
                have ka0 : (0 : Int) ≤ ka := by omega
                have ka1 : (ka : Int) < 16 := by omega
                have kc0 : (0 : Int) ≤ kc := by omega
                have kc1 : (kc : Int) < 16 := by omega
                obtain ⟨D2', H', ho⟩ := H0.out
                obtain ⟨Aa, ca, ea, ra, _⟩ := ho.row (k := ka) (by omega)
                have hp := ho.put (k := ka) (w2 := wr) (by omega) (Fr.refl _ _) (fun _ _ _ => rfl) (v := .slice none 0 0) (l := []) (OwnAt.nil _ _ _ _) (fun b hb => by cases hb)
                rw [grewD_self] at hp
                obtain ⟨Ac, cc, ec, rc, _⟩ := hp.row (k := kc) (by omega)
                have fa := ho.fz ka
                have fc := hp.fz kc
                have hp2 := hp.put (k := kc) (w2 := wr.setCell ⟨RB, ka, none⟩ (.slice none 0 0)) (by omega) (Fr.refl _ _) (fun _ _ _ => rfl) (v := .slice none 0 0) (l := []) (OwnAt.nil _ _ _ _) (fun b hb => by cases hb)
                rw [grewD_self] at hp2
                have hsum := clr4_sum q hA4 hl4
                rw [← hka, ← hkc] at hsum
                have hst := clr4_step q hA4 hl4
                rw [← hka, ← hkc] at hst
                rw [← hst] at hp2
                have hl1 : (clr4 q a c4 ka).length + (upd (clr4 q a c4) ka [] kc).length + Y ≤ 200 := by have := HSM.out; have := HNU.out.2.2; omega
                obtain ⟨la, hla⟩ : ∃ la, la = (clr4 q a c4 ka).length := ⟨_, rfl⟩
                obtain ⟨lc, hlc⟩ : ∃ lc, lc = (upd (clr4 q a c4) ka [] kc).length := ⟨_, rfl⟩
                rw [← hla] at ra hsum hl1
                rw [← hlc] at rc hsum hl1
                obtain ⟨Y1, hY1⟩ : ∃ Y1, Y1 = Y + la := ⟨_, rfl⟩
                obtain ⟨Y2, hY2⟩ : ∃ Y2, Y2 = Y1 + lc := ⟨_, rfl⟩
                have hw6 : IntKind.i64.wrap ((Y : Int) + (la : Int)) = (Y1 : Int) := by rw [IntWalk.i64_in _ ⟨by omega, by omega⟩]; omega
                have hw7 : IntKind.i64.wrap ((Y1 : Int) + (lc : Int)) = (Y2 : Int) := by rw [IntWalk.i64_in _ ⟨by omega, by omega⟩]; omega
                have HN1 : Hid (∃ D2 H, OrH w w.heap.size RB N' (clr4 q a (c4 + 1)) D1 D2 H ((wr.setCell ⟨RB, ka, none⟩ (.slice none 0 0)).setCell ⟨RB, kc, none⟩ (.slice none 0 0))) := Lib.hid ⟨_, _, hp2⟩
                have HN2 : Hid (Y2 + sumL (clr4 q a (c4 + 1)) 16 = Z + sumL q 16) := Lib.hid (by have := HSM.out; omega)
                have HC4 := Lib.hid hl4
                have hw8 : IntKind.i64.wrap ((c4 : Int) + 1) = (c4 : Int) + 1 := IntWalk.i64_in _ ⟨by omega, by omega⟩
                clear hka hkc hA4 hl1 hla hlc hY1 hY2 hsum hst hp hp2 ho ea ec H0 HSM hl4 hc4
                go_wp2_with fail
                go_roundw
                case rel => exact ⟨Y2, c4 + 1, by have := HC4.out; omega, by go_num, rfl, HN1, HN2⟩
                case measure => simp [intOf]; have := HC4.out; omega
              · have hd4 : decide ((c4 : Int) < 4) = false := decide_eq_false (by omega)
                have hd4' : decide (c4 < 4) = false := decide_eq_false hl4
                have hc5 : c4 = 4 := by omega
                have HN := Lib.hid (show Or w w.heap.size RB S T Y (k + 1) wr from by
                  obtain ⟨D2', H', ho⟩ := H0.out
                  refine ⟨N', clr4 q a c4, D1, D2', H', ho, by rw [hc5]; exact HEE.out.2.2.2, by rw [HEE.out.2.1]; exact HNU.out.1, by rw [HEE.out.2.2.1]; exact HNU.out.2.1, ?_, Nat.le_succ_of_le HNU.out.2.2.2⟩
                  have := HSM.out
                  have := HNU.out.2.2.1
                  omega)
                clear hc5
                go_wp2_with fail
                go_roundw
                case rel => exact ⟨S, T, Y, k + 1, by omega, by go_num, rfl, rfl, rfl, HN⟩
                case measure => simp [intOf]; omega
          | false =>
            have hql : (q kk).length ≤ 200 := by have := sumL_le (q := q) (k := kk) (n := 16) HA.out.2.2.2; have := HNU.out.2.2; omega
            obtain ⟨e0, e1, e2, e3, e4⟩ := send_good (xs := x.b) HO5.out.E HQ.out HA.out.1 HA.out.2.1 HLE.out (by rw [← HA.out.2.2.1]; exact hql)
            rw [← HA.out.2.2.1] at e4
            have HT := Lib.hid (ns_send HO5.out.net a b (HBY.out.below RByte.stays HO5.out.net.b))
            rw [e0] at HT
            have HEE := Lib.hid (And.intro e1 (And.intro e2 (And.intro e3 e4)))
            have t3 : w5.cell? ⟨bx, 3, none⟩ = some (.slice A1 x.b.length c1) := HBX5.out.cell 3
            have hSk2 : S ≤ 200 := by have := HNU.out.2.2.2; omega
            have hwS : IntKind.i64.wrap ((S : Int) + 1) = (S : Int) + 1 := IntWalk.i64_in _ ⟨by omega, by omega⟩
            have HQL := Lib.hid hql
            clear e0 e1 e2 e3 e4 hql
            generalize sendN N a b x.b = N' at *
            go_wp2_with fail
            refine HT.out.mono ?_
            rintro e w6 ⟨rfl, hn6, hf6⟩
            have ho6 := HO5.out.turn hn6 hf6 (fun k h => h.imp id (·.1)) HEE.out.1
            obtain ⟨A3, c3, hH, r1, hown⟩ := ho6.row HA.out.2.2.2
            have b3 := hf6.cell t3 HBO.out
            have hcv := run_convert_byts w6.drew 30 5 Try.underlying30 Try.underlying5 ((HBY.out.below RByte.stays ho6.net.b).below RByte.stays ((Below.refl _ w6).drew)) 9 Try.underlying9
            have HO6 := Lib.hid ho6
            have HH6 := Lib.hid (And.intro hH hown)
            obtain ⟨m, hm⟩ : ∃ m, m = (q kk).length := ⟨_, rfl⟩
            rw [← hm] at r1 HH6 HQL
            have HM := Lib.hid hm
            have f6 := ho6.fz kk
            have HLT := Lib.hid (ho6.lt RB ho6.dR)
            have HM24 := Lib.hid (show (m + 1) * 16 ≤ 140737488355328 by have := HQL.out; omega)
            have HNE := Lib.hid (show (Value.slice A3 m c3).ownBlock ≠ some RB by rw [← HH6.out.1]; exact fun e => (ho6.hd.dB kk RB HA.out.2.2.2 e).2 rfl)
            have rca := below_cell (below_new w6 (.cells #[.string (strOfNums x.b)] 9)) r1
            have b3a := below_cell (below_new w6 (.cells #[.string (strOfNums x.b)] 9)) b3
            clear hn6 hf6 ho6 HT t0 t3 hH hown hm h4 h5 h6 h7
            go_wp2_with fail
            go_region_law
              (first
                | (refine step_own_append_off rfl (.tmp 63) (.tmp 67) 37 9 (.string { data := #[] }) 1 16 rfl Try.underlying37 infoSt rfl (by omega) (by omega) 0 (.slice A3 m c3) m (strV (q kk)) _ 1 1 [.string (strOfNums x.b)] rfl rfl (HH6.out.2.then (below_drew (below_new w6 _))) rfl (fun _ => ⟨⟨w6.heap.size, 0, none⟩, rfl, fun j u hj => by rw [add_plain]; exact box_cell w6 [.string (strOfNums x.b)] _ j u hj⟩) (by simp [Value.oneCell']) HM24.out (Nat.zero_le _) ?_
                   intro v2 w8 hown hgr hat
                   obtain ⟨A4, c4, rfl⟩ := hown.form
                   have hz2 : w8.frozen? ⟨RB, kk, none⟩ = false := (World.frozen?_of_block (hgr.block RB (Nat.lt_of_lt_of_le HLT.out (below_drew (below_new w6 (.cells #[.string (strOfNums x.b)] 9))).size) (fun e => HNE.out e.symm))).trans ((World.frozen?_of_block ((below_drew (below_new w6 (.cells #[.string (strOfNums x.b)] 9))).block RB HLT.out)).trans f6)
                   have hr2 : w8.cell? ⟨RB, kk, none⟩ = some (.slice A3 m c3) := hgr.cell rca (fun e => HNE.out e.symm)
                   have HOW := Lib.hid hown
                   have HGR := Lib.hid hgr
                   have HAT := Lib.hid hat
                   clear hown hgr hat))
            all_goals
              have HN : Hid (Or w w.heap.size RB (S + 1) T Z (k + 1) (w8.setCell ⟨RB, kk, none⟩ (.slice A4 (m + 1) c4))) := Lib.hid (by
                have hba := below_drew (below_new w6 (.cells #[.string (strOfNums x.b)] 9))
                have hll : m + 1 = (q kk ++ [x.b]).length := by rw [List.length_append, ← HM.out]; rfl
                have hp := HO6.out.put HA.out.2.2.2 (w2 := w8) (v := .slice A4 (m + 1) c4) (l := q kk ++ [x.b]) ((Fr.of_below (S := D2) hba).grown HGR.out (fun j hj _ => (HO6.out.hd.dB kk j HA.out.2.2.2 (by rw [HH6.out.1]; exact hj)).1)) (fun j hj hn => (HGR.out.block j (Nat.lt_of_lt_of_le (HO6.out.lt j hj) hba.size) (fun e => hn (by rw [HH6.out.1]; exact e.symm))).trans (hba.block j (HO6.out.lt j hj))) (by rw [← hll, strV_append]; exact HOW.out) (fun j hj => by
                  rcases HAT.out with h1 | h1
                  · exact .inl (by rw [HH6.out.1, ← h1, hj])
                  · rw [hj] at h1; injection h1 with h1; exact .inr (by rw [h1]; exact hba.size))
                refine ⟨N', upd q kk (q kk ++ [x.b]), _, _, _, hp, HEE.out.2.2.2, by rw [HEE.out.2.1, HNU.out.1]; exact wrap_small (x := S + 1) (by omega), by rw [HEE.out.2.2.1]; exact HNU.out.2.1, ?_, Nat.succ_le_succ HNU.out.2.2.2⟩
                have hsm := sumL_upd (q := q) (k := kk) (l := q kk ++ [x.b]) (n := 16) HA.out.2.2.2
                rw [List.length_append, List.length_singleton] at hsm
                have := HNU.out.2.2.1
                omega)
              clear r1 b3 hcv rca b3a f6
              go_wp2_with fail
              go_roundw
              case rel => exact ⟨S + 1, T, Z, k + 1, by omega, by go_num, by go_num, rfl, rfl, HN⟩
              case measure => simp [intOf]; omega
      · have hd : decide ((k : Int) < n) = false := decide_eq_false (by omega)
        have hd' : decide (k < n) = false := decide_eq_false (by omega)
        obtain ⟨N, q, D1, D2, H, ho, hq, hS, hT, hsum, hSk⟩ := HO.out
        have H0 : Hid (Fin w w.heap.size RB q D1 D2 H S T 0 0 wr) := Lib.hid ⟨N, ho, hS, by rw [hT]; rfl, fun j hj => by
          rw [← hq j hj, if_neg (Nat.not_lt_zero _)]
          split
          · rw [List.drop_zero]
          · rfl⟩
        have HSUM := Lib.hid hsum
        have hS2 : S ≤ 200 := by omega
        have HS2 := Lib.hid hS2
        clear ho hq hS hT hsum hSk HO hS2 hk
        go_wp2_with fail
        clear hd hd' hlt
        go_loopw [16, 17] (fun s16 i wx => ∃ k4 : Nat, k4 ≤ 16 ∧ i = .int .i64 k4 ∧ s16 = .int .i64 (sumL q k4) ∧ Hid (Fin w w.heap.size RB q D1 D2 H S T k4 0 wx)) (fun _ i _ => 16 - (intOf i).toNat)
        case atStart => exact ⟨0, by omega, rfl, rfl, H0⟩
        case round =>
          clear H0
          obtain ⟨k4, hk4, rfl, rfl, H0⟩ := hrel
          by_cases h16 : k4 < 16
          · have hd4 : decide ((k4 : Int) < 16) = true := decide_eq_true (by omega)
            have hd4' : decide (k4 < 16) = true := decide_eq_true h16
            have k40 : (0 : Int) ≤ k4 := by omega
            have k41 : (k4 : Int) < 16 := by omega
            obtain ⟨a, ha⟩ : ∃ a, a = k4 / 4 := ⟨_, rfl⟩
            obtain ⟨b, hb⟩ : ∃ b, b = k4 % 4 := ⟨_, rfl⟩
            have qa : (k4 : Int).tdiv 4 = (a : Int) := by rw [Int.tdiv_eq_ediv_of_nonneg k40]; omega
            have qb : (k4 : Int).tmod 4 = (b : Int) := by rw [Int.tmod_eq_emod_of_nonneg k40]; omega
            have qa' : (k4 : Int) / 4 = (a : Int) := by omega
            have qb' : (k4 : Int) % 4 = (b : Int) := by omega
            have HAB := Lib.hid (show a < 4 ∧ b < 4 ∧ k4 = a * 4 + b ∧ k4 < 16 by omega)
            obtain ⟨NN, ho, _⟩ := H0.out
            obtain ⟨A3, c3, _, r1, _⟩ := ho.row (k := k4) h16
            obtain ⟨m, hm⟩ : ∃ m, m = (q k4).length := ⟨_, rfl⟩
            rw [← hm] at r1
            have HM := Lib.hid hm
            obtain ⟨Y, hY⟩ : ∃ Y, Y = sumL q k4 := ⟨_, rfl⟩
            obtain ⟨Y1, hY1⟩ : ∃ Y1, Y1 = Y + m := ⟨_, rfl⟩
            have hsl : sumL q k4 + m ≤ 200 := by
              have h9 : ∀ j, j ≤ 16 → sumL q j ≤ sumL q 16 := by
                intro j hj
                have : ∀ d, sumL q j ≤ sumL q (j + d) := fun d => by
                  induction d with
                  | zero => exact Nat.le_refl _
                  | succ d ih => exact Nat.le_trans ih (by show _ ≤ sumL q (j + d) + _; omega)
                have := this (16 - j)
                rwa [show j + (16 - j) = 16 by omega] at this
              have := h9 (k4 + 1) h16
              rw [sumL, ← hm] at this
              have := HSUM.out
              have := HS2.out
              omega
            have hwY : IntKind.i64.wrap ((Y : Int) + (m : Int)) = (Y1 : Int) := by rw [IntWalk.i64_in _ ⟨by omega, by omega⟩]; omega
            have HY1 := Lib.hid (show sumL q (k4 + 1) = Y1 by rw [sumL, ← hm, ← hY]; omega)
            have hm2 : m ≤ 200 := by omega
            rw [← hY]
            have HSL := Lib.hid hsl
            clear ha hb hm hsl hY hY1 ho h16 hk4
            have hw8 : IntKind.i64.wrap ((k4 : Int) + 1) = (k4 : Int) + 1 := IntWalk.i64_in _ ⟨by omega, by omega⟩
            go_wp2_with fail
            clear r1
            go_loopw [18] (fun i wx => ∃ i4 : Nat, i4 ≤ m ∧ i = .int .i64 i4 ∧ Hid (Fin w w.heap.size RB q D1 D2 H S T k4 i4 wx)) (fun i _ => m - (intOf i).toNat)
            case atStart => exact ⟨0, by omega, rfl, H0⟩
            case round =>
              clear H0
              obtain ⟨i4, hi4, rfl, H0⟩ := hrel
              obtain ⟨N4, ho, hs4, ht4, hq4⟩ := H0.out
              obtain ⟨A3, c3, hHx, r1, _⟩ := ho.row (k := k4) HAB.out.2.2.2
              rw [← HM.out] at r1 hHx
              by_cases him : i4 < m
              · have hdi : decide ((i4 : Int) < m) = true := decide_eq_true (by omega)
                have hdi' : decide (i4 < m) = true := decide_eq_true him
                have i40 : (0 : Int) ≤ i4 := by omega
                have i41 : (i4 : Int) < m := by omega
                have hlt4 : i4 < (q k4).length := by rw [← HM.out]; exact him
                obtain ⟨xs, hxs⟩ : ∃ xs, xs = (q k4)[i4] := ⟨_, rfl⟩
                have hdr : qr N4 (a * 4 + b) = xs :: (q k4).drop (i4 + 1) := by
                  rw [← HAB.out.2.2.1, hq4 k4 HAB.out.2.2.2, if_neg (Nat.lt_irrefl _), if_pos rfl, hxs, List.getElem_cons_drop]
                obtain ⟨e1, e2, e3, e4, e5⟩ := head_some (q := qr N4) ho.E (fun _ _ => rfl) HAB.out.1 HAB.out.2.1 hdr
                have HT := Lib.hid (ns_take ho.net a b)
                rw [e1] at HT
                have HO4 := Lib.hid ho
                obtain ⟨g2, o2, c5, hH2, hu1, hu2, hu3, hstr⟩ := ho.some HAB.out.2.2.2 (by omega)
                have hsx := hstr i4 xs (by rw [List.getElem?_eq_getElem hlt4, hxs])
                have hA3 : A3 = some ⟨g2, o2, none⟩ := by rw [hHx] at hH2; injection hH2
                clear hu1 hu2 hu3
                subst hA3
                rw [← HAB.out.2.2.1] at e5
                have HEE := Lib.hid (And.intro e2 (And.intro e3 (And.intro e4 e5)))
                have HQ4 := Lib.hid (And.intro hs4 (And.intro ht4 hq4))
                have HR1 := Lib.hid (And.intro r1 hsx)
                have HG2 := Lib.hid (show D2 g2 from (ho.hd.dB k4 g2 HAB.out.2.2.2 (by rw [hHx]; rfl)).1)
                have hT4 : T + sumL q k4 + i4 + 1 ≤ 1000000 := by
                  have := HSL.out
                  have := HSUM.out
                  have := HS2.out
                  omega
                have hw9 : IntKind.i64.wrap ((i4 : Int) + 1) = (i4 : Int) + 1 := IntWalk.i64_in _ ⟨by omega, by omega⟩
                clear e1 e2 e3 e4 e5 hdr hstr hH2 hHx hsx ho hs4 ht4 hq4 hxs hlt4
                generalize takeN N4 a b = N5 at *
                go_wp2_with fail
                refine HT.out.mono ?_
                rintro e w6 ⟨v, rfl, hv, hn6, hf6⟩
                have ho6 := HO4.out.turn hn6 hf6 (fun k h => .inl h) HEE.out.1
                obtain ⟨A2, c2, rfl, hb2⟩ := own_bytes hv (owns_small hv)
                have hRB6 : ¬ D1 RB := fun h => HO4.out.dis RB h HO4.out.dR
                have hG6 : ¬ D1 g2 := fun h => HO4.out.dis g2 h (HG2.out)
                have rc : ∀ p : After w6, p.val.cell? ⟨RB, k4, none⟩ = some (.slice (some ⟨g2, o2, none⟩) m c3) := fun p => cell_after (hf6.cell HR1.out.1 hRB6) p
                have rs : ∀ p : After w6, p.val.cell? ⟨g2, o2 + i4, none⟩ = some (.string (strOfNums xs)) := fun p => cell_after (hf6.cell HR1.out.2 hG6) p
                have rv : ∀ p : After w6, (convert 30 9 (.slice A2 xs.length c2)).run Try.prog p.val = .ok (.string (strOfNums xs)) p.val := fun p => run_convert_byts p.val 30 5 Try.underlying30 Try.underlying5 (hb2.below RByte.stays p.below) 9 Try.underlying9
                have HN6 : Hid (Fin w w.heap.size RB q D1 D2 H S T k4 (i4 + 1) w6) := Lib.hid ⟨N5, ho6, by rw [HEE.out.2.1]; exact HQ4.out.1, by rw [HEE.out.2.2.1, HQ4.out.2.1]; exact wrap_small (x := T + sumL q k4 + i4 + 1) hT4, fun j hj => by
                  rw [← HEE.out.2.2.2 j hj]
                  by_cases hjk : j = k4
                  · subst hjk
                    rw [upd_same, if_neg (Nat.lt_irrefl _), if_pos rfl]
                  · rw [upd_other _ _ hjk, HQ4.out.2.2 j hj, if_neg hjk, if_neg hjk]⟩
                clear hv hn6 hf6 ho6 hb2 HT r1 hRB6 hG6 hT4
                go_wp2_with fail
                refine quiet_after (by kernel_rfl) (by kernel_rfl) ?_
                repeat (first | go_big_quiet_step (fail) | quiet_step (fail))
                refine wpQuiet_nil ?_
                intro wz hw'
                obtain ⟨p, rfl⟩ := hw'
                obtain ⟨w7, hbq⟩ := p
                dsimp only
                have HN7 : Hid (Fin w w.heap.size RB q D1 D2 H S T k4 (i4 + 1) w7) := Lib.hid (by
                  obtain ⟨N9, g1, g3⟩ := HN6.out
                  exact ⟨N9, g1.below hbq, g3⟩)
                clear rc rs rv hbq
                go_wp2_with fail
                go_roundw
                case rel => exact ⟨i4 + 1, by omega, by go_num, HN7⟩
                case measure => simp [intOf]; omega
              · have hdi : decide ((i4 : Int) < m) = false := decide_eq_false (by omega)
                have hdi' : decide (i4 < m) = false := decide_eq_false him
                have him2 : i4 = m := by omega
                have HN7 : Hid (Fin w w.heap.size RB q D1 D2 H S T (k4 + 1) 0 wr) := Lib.hid (H0.out.next (by rw [him2, HM.out]))
                have HK16 := Lib.hid HAB.out.2.2.2
                clear ho hs4 ht4 hq4 H0 hHx him2 hi4 him
                go_wp2_with fail
                go_roundw
                case rel => exact ⟨k4 + 1, by have := HK16.out; omega, by go_num, by rw [HY1.out], HN7⟩
                case measure => simp [intOf]; have := HK16.out; omega
          · have hd4 : decide ((k4 : Int) < 16) = false := decide_eq_false (by omega)
            have hd4' : decide (k4 < 16) = false := decide_eq_false h16
            have hk5 : k4 = 16 := by omega
            subst hk5
            obtain ⟨N9, g1, g2, g3, g4⟩ := H0.out
            have HLN := Lib.hid (ns_links g1.net)
            rw [links_none g1.E (fun j hj => by rw [g4 j hj, if_pos hj])] at HLN
            have HG1 := Lib.hid g1.net
            have HG2 := Lib.hid (And.intro g2 g3)
            obtain ⟨Y, hY⟩ : ∃ Y, Y = sumL q 16 := ⟨_, rfl⟩
            obtain ⟨V, hV⟩ : ∃ V, V = T + Y := ⟨_, rfl⟩
            have hsm := HSUM.out
            have hs2 := HS2.out
            rw [← hY] at hsm
            have hwV : IntKind.i64.wrap ((T : Int) + (Y : Int)) = (V : Int) := by rw [IntWalk.i64_in _ ⟨by omega, by omega⟩]; omega
            have hwS : IntKind.i64.wrap ((V : Int) + (Z : Int)) = (S : Int) := by rw [IntWalk.i64_in _ ⟨by omega, by omega⟩]; omega
            have HTV := Lib.hid (show N9.t = (V : Int) by rw [g3, ← hY]; omega)
            rw [← hY]
            clear g1 g2 g3 g4 H0 HSUM HS2 hsm hs2 hY hV hk4 h16
            go_wp2_with fail
            refine HLN.out.mono ?_
            rintro e w8 ⟨v, rfl, hv8, h8⟩
            obtain ⟨A8, c8, rfl⟩ := (OwnAt.of hv8).form
            have K3 := Lib.hid (HG1.out.then h8)
            have HB8 := Lib.hid (K3.out.b)
            have M1 := Lib.hid (ns_sent K3.out)
            have M2 := Lib.hid (ns_taken K3.out)
            rw [HG2.out.1] at M1
            rw [HTV.out] at M2
            clear hv8 h8 K3 HLN
            go_wp2_with (first
              | (go_at_call 16; (with_reducible refine M1.out.mono ?_); rintro e wz ⟨rfl, rfl⟩)
              | (go_at_call 17; (with_reducible refine M2.out.mono ?_); rintro e wz ⟨rfl, rfl⟩)
              | (go_at_call 7; (with_reducible refine (HW.out _).mono ?_); rintro e w9 ⟨rfl, hb9⟩; have HB9 := Lib.hid (HB8.out.trans (hb9.mono HB8.out.size)); clear hb9))
            go_ret
            exact .bool rfl HB9.out
end Go.Proofs.Ytfgjmckdjkfgdaa
