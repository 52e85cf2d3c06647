/- The walk of ValueKnown. -/
import Derived.Test.YtainoghjelfnkaaRows
import Derived.IntWalk
import Derived.Deep.RegionHeld3
import Derived.Laws.OwnMore
import Derived.Test.YtainoghjelfnkaaWords
import Derived.Test.YtainoghjelfnkaaByts
import Derived.Test.YtainoghjelfnkaaFrame
import Derived.Test.YtainoghjelfnkaaElems
import Derived.Test.YtainoghjelfnkaaS10
import Derived.Test.YtainoghjelfnkaaV1
import Derived.Test.YtainoghjelfnkaaV2
import Derived.Test.YtainoghjelfnkaaV3
import Derived.Test.YtainoghjelfnkaaV4
import Derived.Test.YtainoghjelfnkaaV6
import Derived.Test.YtainoghjelfnkaaV10
import Derived.Test.YtainoghjelfnkaaV11
import Derived.Test.YtainoghjelfnkaaV14
import Derived.Test.YtainoghjelfnkaaV15
import Derived.Test.YtainoghjelfnkaaN1
import Derived.Test.YtainoghjelfnkaaN2
import Derived.Test.YtainoghjelfnkaaN4
import Derived.Test.YtainoghjelfnkaaV16
namespace Go.Proofs.Ytainoghjelfnkaa
open Go Go.RowKit Go.Proofs.Tail Go.Sort
set_option linter.unusedSimpArgs false
set_option linter.unusedVariables false
theorem recs_litK (W : World) (ts : List Rc) (cs : Array Value) (h : cs.toList = recV ts) (n : Nat) (hn : ts.length = n) (hb : n ≤ 1000) : Recs (W.alloc (.cells cs 32)) (some ⟨W.heap.size, 0, none⟩) n n ts := by
  have h1 := World.ownsRow_lit (e := 32) (size := 2) (base := 0) W cs n (Nat.zero_le _) (by unfold maxLen; omega) (by rw [← Array.length_toList, h, recV_length, hn])
  rw [h] at h1
  obtain ⟨A, c, e, hr⟩ := own_recs h1 (by omega)
  cases e
  exact hr
def rs4 : List Rc := [(1, 5), (-9223372036854775808, 9223372036854775807), (1, -1), (256, 1099511627776)]
theorem rs4_in : ∀ x ∈ rs4, In64 x.1 ∧ In64 x.2 := by
  intro x hx
  simp only [rs4, List.mem_cons, List.not_mem_nil, or_false] at hx
  rcases hx with rfl | rfl | rfl | rfl <;> (unfold In64; dsimp only; omega)
theorem slice_to12 {w : World} {A : Option Addr} {n c k : Nat} {xs : List Rc} (h : Recs w A n c xs) (hk : k ≤ n) :
    ∀ W, (Instr.slice 22 (.slice A n c) none (some (.int .i64 k)) none).run Try.prog W = .ok (.slice A k c) W := by
  have hc := h.cap
  intro W
  have h1 : (0 : Int) ≤ k := by omega
  have h2 : (k : Int) ≤ c := by omega
  have u := Try.underlying22
  have z := Try.sizeOf32
  go_simp
theorem own_make_b {P : Program} {w : World} {ops : Array Oper} {rest : List Oper} {o : Oper} {a : Act} {Q : Exit → Act → World → Prop}
    (hg : o.guard = none) (l c : Operand) (t e : TypeId) (hop : o.op = Op.makeSlice t l c) (ht : P.underlying t = some (.slice e)) (hinfo : (P.info? e).map (fun i => (i.zero, i.size, i.bytes)) = some (some (.int .u8 0), 1, 1))
    (base n : Nat) (kl kc : IntKind) (hl : a.eval l = .int kl (n : Int)) (hc : a.eval c = .int kc (n : Int)) (hn : n ≤ 1000) (hb : base ≤ w.heap.size)
    (h : ∀ w', w'.ownsRow base e 1 (.slice (some ⟨w.heap.size, 0, Option.none⟩) n n) n (byV (List.replicate n 0)) → w.grownBy w' none → wpList P ops Q rest (a.put o.dst (.slice (some ⟨w.heap.size, 0, Option.none⟩) n n)) w') :
    wpList P ops Q (o :: rest) a w := by
  obtain ⟨i, hi, hz0, hz1, hz2⟩ := info_parts hinfo
  refine wpList_make_full w hg l c t hop base e i (.int .u8 0) 1 ht hi hz0 hz1 kl kc n n n hl hc rfl rfl (by rw [hz2]; omega) (by unfold maxLen; omega) hb fun w' h1 h2 => h w' ?_ h2
  have : (madeCells (Value.int .u8 0).cells (n * 1)).toList = byV (List.replicate n 0) := by
    apply List.ext_getElem
    · simp [byV, madeCells]
    · intro i h1 h2
      simp [byV, madeCells, Nat.mod_one, Value.cells]
  rwa [this] at h1
theorem el12 {w : World} {b o n c : Nat} {ts : List Rc} (h : Recs w (some ⟨b, o, none⟩) n c ts) {j : Nat} (hj : j < n) : ∃ t, t ∈ ts ∧ w.cell? ⟨b, o + j * 2, none⟩ = some (.int .i64 t.1) ∧ w.cell? ⟨b, o + j * 2 + 1, none⟩ = some (.int .i64 t.2) := by
  obtain ⟨b', off, t, e, ht, hc⟩ := h.elem hj
  cases e
  exact ⟨t, List.mem_of_getElem? ht, hc.c0, hc.c1⟩
set_option maxRecDepth 100000 in
set_option maxHeartbeats 32000000 in
theorem law_known (w : World) : Calls Try.prog 8 #[] w (Gives (.bool true) w) := by
  have HRL := Lib.hid (recs_litK w rs4 #[.int .i64 1, .int .i64 5, .int .i64 (-9223372036854775808), .int .i64 9223372036854775807, .int .i64 1, .int .i64 (-1), .int .i64 256, .int .i64 1099511627776] rfl 4 rfl (by omega))
  have HB0 := Lib.hid (below_new w (.cells #[.int .i64 1, .int .i64 5, .int .i64 (-9223372036854775808), .int .i64 9223372036854775807, .int .i64 1, .int .i64 (-1), .int .i64 256, .int .i64 1099511627776] 32))
  go_enter Try.func8, Try.ntmps8
  go_wp2_with fail
  obtain ⟨w0, hw0⟩ : ∃ q, q = (w.alloc (.cells #[.int .i64 1, .int .i64 5, .int .i64 (-9223372036854775808), .int .i64 9223372036854775807, .int .i64 1, .int .i64 (-1), .int .i64 256, .int .i64 1099511627776] 32)) := ⟨_, rfl⟩
  rw [← hw0] at HRL HB0 ⊢
  clear hw0
  have BB0 := Lib.hid (Below.refl w0.heap.size w0)
  go_loopw [2] (fun i wr => ∃ m : Nat, m ≤ 4100 ∧ i = .int .i64 m ∧ Hid (Below w0.heap.size w0 wr)) (fun i _ => 4200 - (intOf i).toNat)
  case atStart => exact ⟨0, by omega, rfl, BB0⟩
  case round =>
    clear BB0
    obtain ⟨m, hm, rfl, HB⟩ := hrel
    by_cases hlt : m < 4096
    · have hd : decide ((m : Int) < 4096) = true := decide_eq_true (by omega)
      have hd' : decide (m < 4096) = true := decide_eq_true (by omega)
      obtain ⟨ia, ha4, ha⟩ : ∃ q : Nat, q < 4 ∧ q = m % 4 := ⟨_, Nat.mod_lt _ (by decide), rfl⟩
      have ra : (m : Int).tmod 4 = (ia : Int) := by rw [Int.tmod_eq_emod_of_nonneg (by omega), ha]; omega
      have ra' : (m : Int) % 4 = (ia : Int) := by rw [ha]; omega
      have raw : IntKind.i64.wrap (ia : Int) = (ia : Int) := IntWalk.i64_in _ ⟨by omega, by omega⟩
      have ga : (ia : Int) < 4 := by omega
      have ga0 : (0 : Int) ≤ ia := by omega
      obtain ⟨xa, hxa, ca0, ca1⟩ := el12 (HRL.out.below RRc.stays HB.out) (j := ia) ha4
      rw [Nat.zero_add] at ca0 ca1
      have Ia := Lib.hid (rs4_in _ hxa)
      clear hxa
      obtain ⟨qb, hqb⟩ : ∃ q : Nat, q = m / 4 := ⟨_, rfl⟩
      obtain ⟨ib, hb4, hb⟩ : ∃ q : Nat, q < 4 ∧ q = qb % 4 := ⟨_, Nat.mod_lt _ (by decide), rfl⟩
      have tb : (m : Int).tdiv 4 = (qb : Int) := by rw [Int.tdiv_eq_ediv_of_nonneg (by omega), hqb]; omega
      have tb' : (m : Int) / 4 = (qb : Int) := by rw [hqb]; omega
      have tbw : IntKind.i64.wrap (qb : Int) = (qb : Int) := IntWalk.i64_in _ ⟨by omega, by omega⟩
      have rb : (qb : Int).tmod 4 = (ib : Int) := by rw [Int.tmod_eq_emod_of_nonneg (by omega), hb]; omega
      have rb' : (qb : Int) % 4 = (ib : Int) := by rw [hb]; omega
      have rbw : IntKind.i64.wrap (ib : Int) = (ib : Int) := IntWalk.i64_in _ ⟨by omega, by omega⟩
      have gb : (ib : Int) < 4 := by omega
      have gb0 : (0 : Int) ≤ ib := by omega
      obtain ⟨xb, hxb, cb0, cb1⟩ := el12 (HRL.out.below RRc.stays HB.out) (j := ib) hb4
      rw [Nat.zero_add] at cb0 cb1
      have Ib := Lib.hid (rs4_in _ hxb)
      clear hxb
      obtain ⟨qc, hqc⟩ : ∃ q : Nat, q = m / 16 := ⟨_, rfl⟩
      obtain ⟨ic, hc4, hc⟩ : ∃ q : Nat, q < 4 ∧ q = qc % 4 := ⟨_, Nat.mod_lt _ (by decide), rfl⟩
      have tc : (m : Int).tdiv 16 = (qc : Int) := by rw [Int.tdiv_eq_ediv_of_nonneg (by omega), hqc]; omega
      have tc' : (m : Int) / 16 = (qc : Int) := by rw [hqc]; omega
      have tcw : IntKind.i64.wrap (qc : Int) = (qc : Int) := IntWalk.i64_in _ ⟨by omega, by omega⟩
      have rc : (qc : Int).tmod 4 = (ic : Int) := by rw [Int.tmod_eq_emod_of_nonneg (by omega), hc]; omega
      have rc' : (qc : Int) % 4 = (ic : Int) := by rw [hc]; omega
      have rcw : IntKind.i64.wrap (ic : Int) = (ic : Int) := IntWalk.i64_in _ ⟨by omega, by omega⟩
      have gc : (ic : Int) < 4 := by omega
      have gc0 : (0 : Int) ≤ ic := by omega
      obtain ⟨xc, hxc, cc0, cc1⟩ := el12 (HRL.out.below RRc.stays HB.out) (j := ic) hc4
      rw [Nat.zero_add] at cc0 cc1
      have Ic := Lib.hid (rs4_in _ hxc)
      clear hxc
      obtain ⟨qd, hqd⟩ : ∃ q : Nat, q = m / 64 := ⟨_, rfl⟩
      obtain ⟨id, hd4, hd⟩ : ∃ q : Nat, q < 4 ∧ q = qd % 4 := ⟨_, Nat.mod_lt _ (by decide), rfl⟩
      have td : (m : Int).tdiv 64 = (qd : Int) := by rw [Int.tdiv_eq_ediv_of_nonneg (by omega), hqd]; omega
      have td' : (m : Int) / 64 = (qd : Int) := by rw [hqd]; omega
      have tdw : IntKind.i64.wrap (qd : Int) = (qd : Int) := IntWalk.i64_in _ ⟨by omega, by omega⟩
      have rd : (qd : Int).tmod 4 = (id : Int) := by rw [Int.tmod_eq_emod_of_nonneg (by omega), hd]; omega
      have rd' : (qd : Int) % 4 = (id : Int) := by rw [hd]; omega
      have rdw : IntKind.i64.wrap (id : Int) = (id : Int) := IntWalk.i64_in _ ⟨by omega, by omega⟩
      have gd : (id : Int) < 4 := by omega
      have gd0 : (0 : Int) ≤ id := by omega
      obtain ⟨qe, hqe⟩ : ∃ q : Nat, q = m / 256 := ⟨_, rfl⟩
      obtain ⟨ie, he4, he⟩ : ∃ q : Nat, q < 4 ∧ q = qe % 4 := ⟨_, Nat.mod_lt _ (by decide), rfl⟩
      have te : (m : Int).tdiv 256 = (qe : Int) := by rw [Int.tdiv_eq_ediv_of_nonneg (by omega), hqe]; omega
      have te' : (m : Int) / 256 = (qe : Int) := by rw [hqe]; omega
      have tew : IntKind.i64.wrap (qe : Int) = (qe : Int) := IntWalk.i64_in _ ⟨by omega, by omega⟩
      have re : (qe : Int).tmod 4 = (ie : Int) := by rw [Int.tmod_eq_emod_of_nonneg (by omega), he]; omega
      have re' : (qe : Int) % 4 = (ie : Int) := by rw [he]; omega
      have rew : IntKind.i64.wrap (ie : Int) = (ie : Int) := IntWalk.i64_in _ ⟨by omega, by omega⟩
      have ge : (ie : Int) < 4 := by omega
      have ge0 : (0 : Int) ≤ ie := by omega
      obtain ⟨jf, hf4, hqf⟩ : ∃ q : Nat, q < 4 ∧ q = m / 1024 := ⟨_, by omega, rfl⟩
      have tf : (m : Int).tdiv 1024 = (jf : Int) := by rw [Int.tdiv_eq_ediv_of_nonneg (by omega), hqf]; omega
      have tf' : (m : Int) / 1024 = (jf : Int) := by rw [hqf]; omega
      have hf : True := trivial
      have rfw : IntKind.i64.wrap (jf : Int) = (jf : Int) := IntWalk.i64_in _ ⟨by omega, by omega⟩
      have gf : (jf : Int) < 4 := by omega
      have gf0 : (0 : Int) ≤ jf := by omega
      clear ha hb hc hd he hf hqb hqc hqd hqe hqf
      go_wp2_with fail
      go_region_held3 (fun w' => w'.cell? ⟨w.heap.size, ia * 2, none⟩ = some (.int .i64 xa.1) ∧ w'.cell? ⟨w.heap.size, ia * 2 + 1, none⟩ = some (.int .i64 xa.2) ∧ w'.cell? ⟨w.heap.size, ib * 2, none⟩ = some (.int .i64 xb.1) ∧ w'.cell? ⟨w.heap.size, ib * 2 + 1, none⟩ = some (.int .i64 xb.2) ∧ w'.cell? ⟨w.heap.size, ic * 2, none⟩ = some (.int .i64 xc.1) ∧ w'.cell? ⟨w.heap.size, ic * 2 + 1, none⟩ = some (.int .i64 xc.2)) (go_keep) (fail)
      obtain ⟨wa, hwa⟩ : ∃ q, q = (wr.alloc (.cells #[.int .i64 xa.1, .int .i64 xa.2, .int .i64 xb.1, .int .i64 xb.2, .int .i64 xc.1, .int .i64 xc.2] 32)).drew := ⟨_, rfl⟩
      have HA := Lib.hid ((recs_litK wr [xa, xb, xc] #[.int .i64 xa.1, .int .i64 xa.2, .int .i64 xb.1, .int .i64 xb.2, .int .i64 xc.1, .int .i64 xc.2] rfl 3 rfl (by omega)).below RRc.stays (below_drew (Below.refl _ _)))
      have HB1 := Lib.hid (below_then HB.out (below_drew (below_new wr (.cells #[.int .i64 xa.1, .int .i64 xa.2, .int .i64 xb.1, .int .i64 xb.2, .int .i64 xc.1, .int .i64 xc.2] 32))))
      rw [← hwa] at HA HB1 ⊢
      clear hwa HB ca0 ca1 cb0 cb1 cc0 cc1
      obtain ⟨xd, hxd, cd0, cd1⟩ := el12 (HRL.out.below RRc.stays HB1.out) (j := id) hd4
      rw [Nat.zero_add] at cd0 cd1
      have Id := Lib.hid (rs4_in _ hxd)
      clear hxd
      obtain ⟨xe, hxe, ce0, ce1⟩ := el12 (HRL.out.below RRc.stays HB1.out) (j := ie) he4
      rw [Nat.zero_add] at ce0 ce1
      have Ie := Lib.hid (rs4_in _ hxe)
      clear hxe
      obtain ⟨xf, hxf, cf0, cf1⟩ := el12 (HRL.out.below RRc.stays HB1.out) (j := jf) hf4
      rw [Nat.zero_add] at cf0 cf1
      have If := Lib.hid (rs4_in _ hxf)
      clear hxf
      go_wp2_with fail
      go_region_held3 (fun w' => w'.cell? ⟨w.heap.size, id * 2, none⟩ = some (.int .i64 xd.1) ∧ w'.cell? ⟨w.heap.size, id * 2 + 1, none⟩ = some (.int .i64 xd.2) ∧ w'.cell? ⟨w.heap.size, ie * 2, none⟩ = some (.int .i64 xe.1) ∧ w'.cell? ⟨w.heap.size, ie * 2 + 1, none⟩ = some (.int .i64 xe.2) ∧ w'.cell? ⟨w.heap.size, jf * 2, none⟩ = some (.int .i64 xf.1) ∧ w'.cell? ⟨w.heap.size, jf * 2 + 1, none⟩ = some (.int .i64 xf.2)) (go_keep) (fail)
      obtain ⟨wb, hwb⟩ : ∃ q, q = (wa.alloc (.cells #[.int .i64 xd.1, .int .i64 xd.2, .int .i64 xe.1, .int .i64 xe.2, .int .i64 xf.1, .int .i64 xf.2] 32)).drew := ⟨_, rfl⟩
      have hbw := below_drew (below_new wa (.cells #[.int .i64 xd.1, .int .i64 xd.2, .int .i64 xe.1, .int .i64 xe.2, .int .i64 xf.1, .int .i64 xf.2] 32))
      have HD := Lib.hid ((recs_litK wa [xd, xe, xf] #[.int .i64 xd.1, .int .i64 xd.2, .int .i64 xe.1, .int .i64 xe.2, .int .i64 xf.1, .int .i64 xf.2] rfl 3 rfl (by omega)).below RRc.stays (below_drew (Below.refl _ _)))
      have HA2 := Lib.hid (HA.out.below RRc.stays hbw)
      have HB2 := Lib.hid (below_then HB1.out hbw)
      rw [← hwb] at HD HA2 HB2 ⊢
      clear hwb hbw HB1 HA cd0 cd1 ce0 ce1 cf0 cf1
      obtain ⟨i3, h34, h3⟩ : ∃ q : Nat, q < 3 ∧ q = m % 3 := ⟨_, Nat.mod_lt _ (by decide), rfl⟩
      have r3 : (m : Int).tmod 3 = (i3 : Int) := by rw [Int.tmod_eq_emod_of_nonneg (by omega), h3]; omega
      have r3' : (m : Int) % 3 = (i3 : Int) := by rw [h3]; omega
      clear h3
      have hs1 := slice_to12 HD.out (k := ia) (by omega)
      have hs2 := slice_to12 HA2.out (k := i3) (by omega)
      have C1 := Lib.hid (law_two (some ⟨wr.heap.size, 0, none⟩) (some ⟨wa.heap.size, 0, none⟩) 3 3 ia 3 [xa, xb, xc] ([xd, xe, xf].take ia) wb HA2.out (recs_take HD.out (by omega) (by omega)))
      have C2 := Lib.hid (fun W (h : Below wb.heap.size wb W) => law_adds (some ⟨wr.heap.size, 0, none⟩) (some ⟨wa.heap.size, 0, none⟩) (some ⟨wr.heap.size, 0, none⟩) i3 3 3 3 3 3 m ([xa, xb, xc].take i3) [xd, xe, xf] [xa, xb, xc] W (recs_take (HA2.out.below RRc.stays h) (by omega) (by omega)) (HD.out.below RRc.stays h) (HA2.out.below RRc.stays h) ⟨by omega, by omega⟩)
      have C3 := Lib.hid (fun W (h : Below wb.heap.size wb W) => refput_any (some ⟨wa.heap.size, 0, none⟩) 3 3 [xd, xe, xf] W (HD.out.below RRc.stays h) (by omega))
      have HLA := Lib.hid (show ∀ x ∈ [xa, xb, xc], In64 x.1 ∧ In64 x.2 from fun x hx => by
        simp only [List.mem_cons, List.not_mem_nil, or_false] at hx
        rcases hx with rfl | rfl | rfl
        · exact Ia.out
        · exact Ib.out
        · exact Ic.out)
      clear Ia Ib Ic Id Ie If
      go_wp2_with fail
      refine C1.out.mono ?_
      rintro e w1 ⟨rfl, hb⟩
      have K1 := Lib.hid hb
      clear hb C1
      go_wp2_with fail
      refine (C2.out _ K1.out).mono ?_
      rintro e w2 ⟨rfl, hb⟩
      have K2 := Lib.hid (below_then K1.out hb)
      clear hb C2 K1
      go_wp2_with fail
      refine (C3.out _ K2.out).mono ?_
      rintro e w3 ⟨v, rfl, ho, hb⟩
      obtain ⟨Ap, cp, ev, hr⟩ := own_bytes (n := 48) (by rw [putR_length] at ho; exact ho) (by omega)
      subst ev
      have K3 := Lib.hid (below_then K2.out hb)
      have C4 := Lib.hid (law_bytes (some ⟨wr.heap.size, 0, none⟩) Ap 3 3 48 cp [xa, xb, xc] (putR [xd, xe, xf]) w3 (HA2.out.below RRc.stays K3.out) HLA.out hr (putR_in _))
      clear ho hb hr C3 K2
      go_wp2_with fail
      refine C4.out.mono ?_
      rintro e w4 ⟨rfl, hb⟩
      have HBN := Lib.hid (below_then HB2.out (below_then K3.out hb))
      clear hb C4 K3 HA2 HD HB2 hs1 hs2
      go_wp2_with fail
      go_roundw
      case rel => exact ⟨m + 5, by omega, by go_num, HBN⟩
      case measure => simp [intOf]; omega
    · have hd : decide ((m : Int) < 4096) = false := decide_eq_false (by omega)
      have hd' : decide (m < 4096) = false := decide_eq_false (by omega)
      have B1 := HB
      obtain ⟨wc, hwc⟩ : ∃ q, q = wr := ⟨_, rfl⟩
      subst hwc
      have BC0 := Lib.hid (Below.refl wc.heap.size wc)
      go_wp2_with fail
      go_loopw [5] (fun i wr => ∃ k : Nat, k ≤ 34 ∧ i = .int .i64 k ∧ Hid (Below wc.heap.size wc wr)) (fun i _ => 34 - (intOf i).toNat)
      case atStart => exact ⟨0, by omega, rfl, BC0⟩
      case round =>
        clear BC0
        obtain ⟨k, hk, rfl, HC⟩ := hrel
        by_cases hlt4 : k < 34
        · have hk4 : decide ((k : Int) < 34) = true := decide_eq_true (by omega)
          have hk4' : decide (k < 34) = true := decide_eq_true (by omega)
          go_wp2_with (refine own_make_b rfl (.tmp 80) (.tmp 80) 37 5 rfl Try.underlying37 infoB wr.heap.size k .i64 .i64 rfl rfl (by omega) (Nat.le_refl _) ?_; intro w5 hown hgr)
          have hbb := (Below.refl wr.heap.size wr).grown hgr (Nat.le_refl _) (fun k hk => by cases hk)
          obtain ⟨_, _, ev, hr⟩ := own_bytes hown (by omega)
          cases ev
          have HC2 := Lib.hid (below_then HC.out hbb)
          have C1 := Lib.hid (law_bytes none (some ⟨wr.heap.size, 0, none⟩) 0 0 k k [] (List.replicate k 0) w5 (Rd.nil _ _ _) (by simp) hr (fun x hx => by rw [List.eq_of_mem_replicate hx]; omega))
          clear hown hgr hbb hr
          go_wp2_with fail
          refine C1.out.mono ?_
          rintro e w6 ⟨rfl, hb⟩
          have HC3 := Lib.hid (below_then HC2.out hb)
          clear hb C1 HC2 HC
          go_wp2_with fail
          go_roundw
          case rel => exact ⟨k + 1, by omega, by go_num, HC3⟩
          case measure => simp [intOf]; omega
        · obtain rfl : k = 34 := by omega
          have HL := Lib.hid (below_then HB.out HC.out)
          have HRW := Lib.hid (HRL.out.below RRc.stays HL.out)
          have HW := Lib.hid (below_then HB0.out HL.out)
          have C1 := Lib.hid (law_two none none 0 0 0 0 [] [] wr (Rd.nil _ _ _) (Rd.nil _ _ _))
          have C2 := Lib.hid (fun W (h : Below wr.heap.size wr W) => law_two (some ⟨w.heap.size, 0, none⟩) none 4 4 0 0 rs4 [] W (HRW.out.below RRc.stays h) (Rd.nil _ _ _))
          have C3 := Lib.hid (fun W (h : Below wr.heap.size wr W) => law_two none (some ⟨w.heap.size, 0, none⟩) 0 0 4 4 [] rs4 W (Rd.nil _ _ _) (HRW.out.below RRc.stays h))
          clear HC HB HL
          go_wp2_with fail
          refine C1.out.mono ?_
          rintro e w1 ⟨rfl, hb⟩
          have K1 := Lib.hid hb
          clear hb C1
          go_wp2_with fail
          refine (C2.out _ K1.out).mono ?_
          rintro e w2 ⟨rfl, hb⟩
          have K2 := Lib.hid (below_then K1.out hb)
          clear hb C2 K1
          go_wp2_with fail
          refine (C3.out _ K2.out).mono ?_
          rintro e w3 ⟨rfl, hb⟩
          have K3 := Lib.hid (below_then HW.out (below_then K2.out hb))
          clear hb C3 K2
          go_wp2_with fail
          refine (works_any _).mono ?_
          rintro e w4 ⟨rfl, hb⟩
          have K4 := Lib.hid (below_then K3.out hb)
          clear hb K3
          go_wp2_with fail
          go_ret
          exact .bool rfl K4.out
end Go.Proofs.Ytainoghjelfnkaa
