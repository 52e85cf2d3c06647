/- tells: a net tells of itself what the reference does. -/
import Derived.Test.YtfgjmckdjkfgdaaRows
import Derived.IntWalk
import Derived.Test.YtfgjmckdjkfgdaaWords
import Derived.Test.YtfgjmckdjkfgdaaByts
import Derived.Test.YtfgjmckdjkfgdaaStrs
import Derived.Test.YtfgjmckdjkfgdaaFrame
import Derived.Test.YtfgjmckdjkfgdaaElems
import Derived.Test.YtfgjmckdjkfgdaaHeads
import Derived.Test.YtfgjmckdjkfgdaaN10
import Derived.Test.YtfgjmckdjkfgdaaN11
import Derived.Test.YtfgjmckdjkfgdaaN12
import Derived.Test.YtfgjmckdjkfgdaaN13
import Derived.Test.YtfgjmckdjkfgdaaN14
import Derived.Test.YtfgjmckdjkfgdaaR1
import Derived.Test.YtfgjmckdjkfgdaaR2
import Derived.Test.YtfgjmckdjkfgdaaR3
import Derived.Test.YtfgjmckdjkfgdaaP1
import Derived.Test.YtfgjmckdjkfgdaaT1
import Derived.Test.YtfgjmckdjkfgdaaT2
import Derived.Test.YtfgjmckdjkfgdaaT3
namespace Go.Proofs.Ytfgjmckdjkfgdaa
open Go Go.RowKit Go.Proofs.Tail
set_option linter.unusedSimpArgs false
set_option linter.unusedVariables false
variable {w w' w2 : World} {B : Nat} {D D1 D2 : Nat → Prop} {P M : Nat} {N : NetS} {R : RefS}
def RP (w : World) (b o : Nat) (p : Nat × Nat) : Prop := w.cell? ⟨b, o, none⟩ = some (.int .i64 p.1) ∧ w.cell? ⟨b, o + 1, none⟩ = some (.int .i64 p.2)
theorem RP.stays : Stays RP := fun _ _ _ _ _ hb h => ⟨below_cell hb h.1, below_cell hb h.2⟩
def VP (x : Nat × Nat) (vs : List Value) : Prop := vs = encP x
theorem recP_cells (xs : List (Nat × Nat)) : Cells 2 VP (recP xs) xs := by
  induction xs with
  | nil => exact Cells.nil _ _
  | cons x xs ih => exact (Cells.one (V := VP) (k := 2) (vs := encP x) rfl rfl).append ih
theorem recP_length (xs : List (Nat × Nat)) : (recP xs).length = xs.length * 2 := (recP_cells xs).1
theorem own_pairs {w : World} {base n : Nat} {e : TypeId} {v : Value} {xs : List (Nat × Nat)} (h : w.ownsRow base e 2 v n (recP xs)) : ∃ A c, v = .slice A n c ∧ Rd 2 RP w A n c xs := by
  have hl : xs.length = n := by have := h.1; rw [recP_length] at this; omega
  exact own_rd h hl (owns_small h) (recP_cells xs) fun b o x vs hv hc => by
    subst hv
    exact ⟨hc 0 _ rfl, hc 1 _ rfl⟩
theorem partL_pre (N : NetS) (a : Nat) {i j : Nat} (h : i ≤ j) : partL N a i <+: partL N a j := by
  induction j with
  | zero => rw [Nat.le_zero.1 h]; exact List.prefix_refl _
  | succ j ih =>
    rcases Nat.eq_or_lt_of_le h with e | e
    · rw [e]; exact List.prefix_refl _
    · refine (ih (by omega)).trans ?_
      by_cases hp : 0 < lenN N a j
      · rw [partL_yes hp]; exact List.prefix_append _ _
      · rw [partL_no hp]; exact List.prefix_refl _
theorem rowsL_pre (N : NetS) {i j : Nat} (h : i ≤ j) : rowsL N i <+: rowsL N j := by
  induction j with
  | zero => rw [Nat.le_zero.1 h]; exact List.prefix_refl _
  | succ j ih =>
    rcases Nat.eq_or_lt_of_le h with e | e
    · rw [e]; exact List.prefix_refl _
    · exact (ih (by omega)).trans (by rw [rowsL_succ]; exact List.prefix_append _ _)
theorem links_at {N : NetS} {a b : Nat} (ha : a < N.E) (hb : b < N.E) (hp : 0 < lenN N a b) : (linksN N)[(rowsL N a ++ partL N a b).length]? = some (a, b) := by
  have h1 : rowsL N a ++ partL N a b ++ [(a, b)] <+: linksN N := by
    rw [List.append_assoc, ← partL_yes hp]
    refine List.IsPrefix.trans ?_ (rowsL_pre N (show a + 1 ≤ N.E from ha))
    rw [rowsL_succ]
    exact (List.prefix_append_right_inj _).2 (partL_pre N a hb)
  obtain ⟨t, ht⟩ := h1
  unfold linksN at *
  rw [← ht, List.append_assoc, List.getElem?_append_right (Nat.le_refl _), Nat.sub_self]
  rfl
/-- A row of bytes of one's own may be written. -/
theorem own_wr8 {w : World} {base n : Nat} {e : TypeId} {v : Value} {xs : List Int} (h : w.ownsRow base e 1 v n (byV xs)) : ∃ A c, v = .slice A n c ∧ Byts w A n c xs ∧ (0 < n → ∃ g, A = some ⟨g, 0, none⟩ ∧ base ≤ g ∧ Wr8 w g n) := by
  obtain ⟨A, c, rfl, hb⟩ := own_bytes h (owns_small h)
  refine ⟨A, c, rfl, hb, fun hn => ?_⟩
  obtain ⟨g, cap, hv, hg, _, _⟩ := own_form h hn
  injection hv with hv _ _
  subst hv
  refine ⟨g, rfl, hg, fun j hj => ⟨?_, ?_⟩⟩
  · obtain ⟨b, off, e1, e2⟩ := hb.byte hj
    injection e1 with e1
    injection e1 with e1 e3
    subst e1 e3
    rw [Nat.zero_add] at e2
    exact ⟨_, e2⟩
  · rcases h.2 with ⟨h', _⟩ | ⟨g', cap', cur, h', _, hh, _⟩
    · cases h'
    · have : g = g' := by injection h' with h'; injection h' with h'; injection h' with h'
      subst this
      simp [World.frozen?, hh]
/-- What tells gives. -/
def GivesTe (B P M : Nat) (D1 D2 : Nat → Prop) (N : NetS) (R : RefS) (w : World) (e : Ending) (w' : World) : Prop := e = .returned (.bool true) ∧ Below w.heap.size w w'
set_option maxRecDepth 100000 in
set_option maxHeartbeats 16000000 in
theorem tells_any (hS : St w B D1 D2 P M N R) (x : CallS) (A : Option Addr) (c : Nat) :
    Calls Try.prog 11 #[.pointer (some ⟨P, 0, none⟩), .pointer (some ⟨M, 0, none⟩), .agg #[.int .u8 x.k, .int .i64 x.f, .int .i64 x.t, .slice A x.b.length c]] w (Gives (.bool true) w) := by
  obtain ⟨wb, hwb⟩ : ∃ wb, wb = w.alloc (.cells (bxC x A c).toArray 32) := ⟨_, rfl⟩
  have hbel : Below w.heap.size w wb := by rw [hwb]; exact below_new w _
  have hbx : Blk wb w.heap.size (bxC x A c) 32 := by rw [hwb]; exact Blk.new w _ _ _ rfl
  have hSb := hS.below hbel
  have HL := Lib.hid (links_any hSb.net)
  have hxx : (w.alloc (.cells #[.int .u8 x.k, .int .i64 x.f, .int .i64 x.t, .slice A x.b.length c] 32)) = wb := hwb.symm
  have HBE := Lib.hid hbel
  have HBX := Lib.hid hbx
  have HSB := Lib.hid hSb
  clear hS hwb hbel hbx hSb
  go_enter Try.func11, Try.ntmps11
  go_wp2_with fail
  refine HL.out.mono ?_
  rintro e w1 ⟨v, rfl, hv, hb1⟩
  have HB1 := Lib.hid (below_then HBE.out hb1)
  have HBX1 := Lib.hid (HBX.out.then hb1)
  have HS := Lib.hid (HSB.out.below hb1)
  obtain ⟨A1, c1, rfl, hP⟩ := own_pairs hv
  have HP := Lib.hid hP
  clear hv hb1 hP HSB HBX HBE HL hxx
  obtain ⟨v2, hr⟩ := HS.out.ref
  obtain ⟨A2, c2, rfl, _, m0, _, m2, m3, _⟩ := hr.reads
  rw [HS.out.sim.E] at m0
  rw [HS.out.sim.s] at m2
  rw [HS.out.sim.t] at m3
  clear hr
  have E64 := HS.out.sim.e64
  have HR := Lib.hid (fun (a b : Int) => by have := reflen_any HS.out.ref a b; rw [← HS.out.sim.len] at this; exact this)
  have HN := Lib.hid (fun (a b : Int) => nlen_any HS.out.net a b)
  obtain ⟨K, hK⟩ : ∃ K, K = (linksN N).length := ⟨_, rfl⟩
  rw [← hK] at HP ⊢
  have HK := Lib.hid hK
  have hK4 : K ≤ 4096 := by rw [hK]; exact linksN_len N E64
  clear hK
  have HM2 := Lib.hid m2
  have HM3 := Lib.hid m3
  clear m2 m3
  go_wp2_with fail
  go_loopw [8, 9] (fun s i wr => ∃ a : Nat, a ≤ N.E ∧ i = .int .i64 a ∧ s = .int .i64 ((rowsL N a).length : Nat) ∧ wr = w1) (fun _ i _ => N.E - (intOf i).toNat)
  case atStart => exact ⟨0, Nat.zero_le _, rfl, rfl, rfl⟩
  case round =>
    obtain ⟨a, ha, rfl, rfl, rfl⟩ := hrel
    by_cases hlt : a < N.E
    · have hd : decide ((a : Int) < N.E) = true := decide_eq_true (by omega)
      have hd' : decide (a < N.E) = true := decide_eq_true (by omega)
      go_wp2_with fail
      have hq0 : (rowsL N a).length = (rowsL N a ++ partL N a 0).length := by rw [partL_zero, List.append_nil]
      go_loopw [8, 10] (fun s i wx => ∃ b : Nat, b ≤ N.E ∧ i = .int .i64 b ∧ s = .int .i64 ((rowsL N a ++ partL N a b).length : Nat) ∧ wx = wr) (fun _ i _ => N.E - (intOf i).toNat)
      case atStart => exact ⟨0, Nat.zero_le _, rfl, by rw [← hq0], rfl⟩
      case round =>
        obtain ⟨b, hb, rfl, rfl, rfl⟩ := hrel
        by_cases hlb : b < N.E
        · have hdb : decide ((b : Int) < N.E) = true := decide_eq_true (by omega)
          have hdb' : decide (b < N.E) = true := decide_eq_true (by omega)
          have R1 := Lib.hid (HR.out a b)
          by_cases hp : 0 < lenN N a b
          · have q1 : (((lenN N a b : Nat) : Int) == 0) = false := by simp; omega
            have hat := links_at hlt hlb hp
            have hlen : (rowsL N a ++ partL N a b).length < K := by rw [HK.out]; exact (List.getElem?_eq_some_iff.1 hat).1
            have hnx : (rowsL N a ++ partL N a (b + 1)).length = (rowsL N a ++ partL N a b).length + 1 := by rw [partL_yes hp, ← List.append_assoc, List.length_append, List.length_singleton]
            have HNX := Lib.hid hnx
            have N1 := Lib.hid (HN.out a b)
            obtain ⟨g, off, y, rfl, hy, hc⟩ := HP.out.elem hlen
            rw [hat] at hy
            cases hy
            obtain ⟨y0, y1⟩ := hc
            clear hat hnx hq0 hp
            dsimp only at y0 y1
            generalize (rowsL N a ++ partL N a b).length = z at *
            generalize lenN N a b = m at *
            have z0 : (0 : Int) ≤ z := by omega
            have z1 : (z : Int) < K := by omega
            have z2 : decide ((K : Int) ≤ z) = false := decide_eq_false (by omega)
            have z3 : decide (K ≤ z) = false := decide_eq_false (by omega)
            go_wp2_with (first
              | (go_at_call 24; (with_reducible refine R1.out.mono ?_); rintro e wz ⟨rfl, rfl⟩)
              | (go_at_call 20; (with_reducible refine N1.out.mono ?_); rintro e wz ⟨rfl, rfl⟩))
            go_roundw
            case rel => exact ⟨b + 1, by omega, by go_num, by rw [HNX.out]; go_num, (by first | trivial | rfl)⟩
            case measure => simp [intOf]; omega
          · have hm0 : lenN N a b = 0 := by omega
            have HNX := Lib.hid (show (rowsL N a ++ partL N a (b + 1)).length = (rowsL N a ++ partL N a b).length by rw [partL_no hp])
            rw [hm0] at R1
            clear hp hq0 hm0
            generalize (rowsL N a ++ partL N a b).length = z at *
            go_wp2_with (go_at_call 24; (with_reducible refine R1.out.mono ?_); rintro e wz ⟨rfl, rfl⟩)
            go_roundw
            case rel => exact ⟨b + 1, by omega, by go_num, by rw [HNX.out], (by first | trivial | rfl)⟩
            case measure => simp [intOf]; omega
        · have hdb : decide ((b : Int) < N.E) = false := decide_eq_false (by omega)
          have hdb' : decide (b < N.E) = false := decide_eq_false (by omega)
          have hbe : b = N.E := by omega
          have HNX := Lib.hid (show (rowsL N (a + 1)).length = (rowsL N a ++ partL N a b).length by rw [rowsL_succ, hbe])
          clear hq0
          generalize (rowsL N a ++ partL N a b).length = z at *
          go_wp2_with fail
          go_roundw
          case rel => exact ⟨a + 1, by omega, by go_num, by rw [HNX.out], (by first | trivial | rfl)⟩
          case measure => simp [intOf]; omega
    · have hd : decide ((a : Int) < N.E) = false := decide_eq_false (by omega)
      have hd' : decide (a < N.E) = false := decide_eq_false (by omega)
      have hae : a = N.E := by omega
      have hak : (rowsL N a).length = K := by rw [HK.out, hae]; rfl
      rw [hak]
      clear hae hak HR HN HP hlt
      obtain ⟨wq, rfl⟩ : ∃ q, q = wr := ⟨_, rfl⟩
      have x1 : wq.cell? ⟨w.heap.size, 1, none⟩ = some (.int .i64 x.f) := HBX1.out.cell 1
      have x2 : wq.cell? ⟨w.heap.size, 2, none⟩ = some (.int .i64 x.t) := HBX1.out.cell 2
      have HF := Lib.hid (nfirst_any HS.out.net x.f x.t)
      have HG := Lib.hid (fun W (hb : Below wq.heap.size wq W) => by have := reffirst_any (HS.out.below hb).ref x.f x.t; rw [← HS.out.sim.head] at this; exact this)
      go_wp2_with fail
      refine HF.out.mono ?_
      rintro e wf ⟨v, rfl, hv, hbf⟩
      have HBF := Lib.hid hbf
      obtain ⟨Af, cf, rfl, hby, hwr⟩ := own_wr8 hv
      have y1 := below_cell hbf x1
      have y2 := below_cell hbf x2
      have y0 := below_cell hbf m0
      have HG2 := Lib.hid (HG.out wf hbf)
      have hcv := run_convert_byts wf 30 5 Try.underlying30 Try.underlying5 hby 9 Try.underlying9
      have HWR := Lib.hid hwr
      have hsm := owns_small hv
      clear hv hbf hby hwr HF HG x1 x2 hd hd'
      unfold pairR at HG2
      generalize headN N x.f x.t = o at *
      generalize o.getD [] = ys at *
      generalize o.isSome = bo at *
      go_wp2_with fail
      refine HG2.out.mono ?_
      rintro e wz ⟨rfl, rfl⟩
      go_wp2_with fail
      clear hcv y1 y2 y0 HG2
      generalize hn : ys.length = n at *
      go_loopw [16] (fun i wx => ∃ k : Nat, k ≤ n ∧ i = .int .i64 k ∧ Hid (Below wq.heap.size wq wx) ∧ Hid (0 < n → ∃ g, Af = some ⟨g, 0, none⟩ ∧ wq.heap.size ≤ g ∧ Wr8 wx g n)) (fun i _ => n - (intOf i).toNat)
      case atStart => exact ⟨0, Nat.zero_le _, rfl, HBF, HWR⟩
      case round =>
        clear HBF HWR
        obtain ⟨k, hk, rfl, HBF, HWR⟩ := hrel
        by_cases hlt : k < n
        · have hd : decide ((k : Int) < n) = true := decide_eq_true (by omega)
          have hd' : decide (k < n) = true := decide_eq_true (by omega)
          have hk0 : (0 : Int) ≤ k := by omega
          have hkn : (k : Int) < n := by omega
          obtain ⟨g, rfl, hg, h8⟩ := HWR.out (by omega)
          obtain ⟨⟨y, hy⟩, hf⟩ := h8 k hlt
          have HW8 := Lib.hid h8
          have HGG := Lib.hid hg
          clear h8 hg
          go_wp2_with fail
          go_roundw
          case rel => exact ⟨k + 1, by omega, by go_num, Lib.hid (HBF.out.setCell HGG.out _), Lib.hid (fun _ => ⟨g, rfl, HGG.out, HW8.out.set _ _⟩)⟩
          case measure => simp [intOf]; omega
        · have hd : decide ((k : Int) < n) = false := decide_eq_false (by omega)
          have hd' : decide (k < n) = false := decide_eq_false (by omega)
          have HSt := Lib.hid (HS.out.below HBF.out)
          have HBT := Lib.hid (below_then HB1.out HBF.out)
          have y1 : ∀ p : After wr, p.val.cell? ⟨w.heap.size, 1, none⟩ = some (.int .i64 x.f) := fun p => ((HBX1.out.then HBF.out).then p.below).cell 1
          have y2 : ∀ p : After wr, p.val.cell? ⟨w.heap.size, 2, none⟩ = some (.int .i64 x.t) := fun p => ((HBX1.out.then HBF.out).then p.below).cell 2
          have z0 := fun p : After wr => cell_after (below_cell HBF.out m0) p
          have z2 := fun p : After wr => cell_after (below_cell HBF.out HM2.out) p
          have z3 := fun p : After wr => cell_after (below_cell HBF.out HM3.out) p
          have H1 := Lib.hid (fun p : After wr => nends_any (HSt.out.below p.below).net)
          have H2 := Lib.hid (fun p : After wr => nsent_any (HSt.out.below p.below).net)
          have H3 := Lib.hid (fun p : After wr => ntaken_any (HSt.out.below p.below).net)
          have H4 := Lib.hid (fun p : After wr => nlen_any (HSt.out.below p.below).net x.f x.t)
          have H5 := Lib.hid (fun p : After wr => by have := reflen_any (HSt.out.below p.below).ref x.f x.t; rw [← HSt.out.sim.len] at this; exact this)
          clear m0 HS HBF HWR HB1 HBX1 HM2 HM3 hn hsm
          generalize lenN N x.f x.t = z at *
          go_wp2_with fail
          refine quiet_after (by kernel_rfl) (by kernel_rfl) ?_
          repeat (first
            | go_big_quiet_step ((first
              | (go_at_call 19; with_reducible exact calls_after' (H1.out _))
              | (go_at_call 16; with_reducible exact calls_after' (H2.out _))
              | (go_at_call 17; with_reducible exact calls_after' (H3.out _))
              | (go_at_call 20; with_reducible exact calls_after' (H4.out _))
              | (go_at_call 24; with_reducible exact calls_after' (H5.out _))))
            | quiet_step ((first
              | (go_at_call 19; with_reducible exact calls_after' (H1.out _))
              | (go_at_call 16; with_reducible exact calls_after' (H2.out _))
              | (go_at_call 17; with_reducible exact calls_after' (H3.out _))
              | (go_at_call 20; with_reducible exact calls_after' (H4.out _))
              | (go_at_call 24; with_reducible exact calls_after' (H5.out _)))))
          refine wpQuiet_nil ?_
          intro wz hw'
          obtain ⟨p, rfl⟩ := hw'
          obtain ⟨w5, hbq⟩ := p
          dsimp only
          have HBQ := Lib.hid (below_then HBT.out hbq)
          clear y1 y2 z0 z2 z3 hbq H1 H2 H3 H4 H5
          go_wp2_with fail
          go_ret
          exact ⟨rfl, HBQ.out⟩
end Go.Proofs.Ytfgjmckdjkfgdaa
