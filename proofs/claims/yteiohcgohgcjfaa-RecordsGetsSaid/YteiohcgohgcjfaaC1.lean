/- General: append of one byte onto a fresh []byte(s). -/
import Derived.Lib.ConvBytes
import Derived.Laws.IdiomCopy
import Derived.Test.YteiohcgohgcjfaaWords
import Derived.Test.YteiohcgohgcjfaaByts
import Derived.Test.YteiohcgohgcjfaaFrame
import Derived.Test.YteiohcgohgcjfaaStrs
namespace Go.Proofs.Tail
open Go Go.Lib Go.RowKit
set_option linter.unusedSimpArgs false
set_option linter.unusedVariables false
theorem numsOf_cells (s : ByteArray) : ∀ j u, (byV (numsOf s))[j]? = some u → j < s.size := by
  intro j u hu
  have := (List.getElem?_eq_some_iff.1 hu).1
  simpa [byV, numsOf_length] using this
section
variable {P : Program} {ops : Array Oper} {rest : List Oper} {o : Oper} {a : Act} {Q : Exit → Act → World → Prop}
theorem run_conv_append (w0 : World) (s : ByteArray) (y : Int) (t ty e : TypeId) (i : TypeInfo) (ht : P.underlying t = some (.slice e)) (hi : P.info? e = some i) (hz : i.zero = some (.int .u8 0)) (hsz : i.size = 1) (hby : i.bytes = 1) (hlim : s.size + 1 ≤ 140737488355328) :
    ∃ A c w1, (Builtin.append_ #[t, t] ty #[.slice (some ⟨w0.heap.size, 0, none⟩) s.size (grownCap w0 s.size 0 e), .slice (some ⟨w0.heap.size + 1, 0, none⟩) 1 1]).run P ((bytesWorld w0 e s).alloc (.cells #[.int .u8 y] e)) = .ok (.slice A (s.size + 1) c) w1 ∧
      Byts w1 A (s.size + 1) c (numsOf s ++ [y]) ∧ Below w0.heap.size w0 w1 := by
  have hcb := conv_bytes w0 e s (by unfold maxLen; omega)
  obtain ⟨W, hW⟩ : ∃ W, W = (bytesWorld w0 e s).alloc (.cells #[.int .u8 y] e) := ⟨_, rfl⟩
  have hsize : (bytesWorld w0 e s).heap.size = w0.heap.size + 1 := bytesWorld_size w0 e s
  have hbw : Below (bytesWorld w0 e s).heap.size (bytesWorld w0 e s) W := by rw [hW]; exact below_new _ _
  have hbelow : Below w0.heap.size w0 W := hcb.1.trans (hbw.mono (by omega))
  have hby0 := hcb.2.below RByte.stays hbw
  have hnew : Blk W (w0.heap.size + 1) [.int .u8 y] e := by rw [hW]; exact Blk.new _ _ _ _ hsize
  have hblock : W.heap[w0.heap.size]? = some (.cells (bytesCells w0 e s) e ((bytesCells w0 e s).size, (bytesCells w0 e s).size + 1)) := by
    rw [hW]
    exact (Below.heap_alloc _ _ _ (by omega)).trans (bytesWorld_at_new w0 e s)
  have hge := grownCap_ge w0 s.size 0 e
  have hsz2 : s.data.size = s.size := rfl
  have hbs : (bytesCells w0 e s).size = grownCap w0 s.size 0 e := by
    unfold bytesCells
    simp only [Array.size_append, Array.size_map, Array.size_replicate, hsz2]
    omega
  have hnews : ∀ j u, ([Value.int .u8 y] : List Value)[j]? = some u → W.cell? ((⟨w0.heap.size + 1, 0, Option.none⟩ : Addr).add j) = some u := by
    intro j u hu
    rw [add_plain]
    have := hnew.cell j
    rw [this]; exact hu
  have holds : ∀ j u, (byV (numsOf s))[j]? = some u → W.cell? ((⟨w0.heap.size, 0, Option.none⟩ : Addr).add j) = some u := by
    intro j u hu
    have hj := numsOf_cells s j u hu
    obtain ⟨ad, had, hc⟩ := byV_src hby0 (by omega)
    injection had with had
    rw [← had] at hc
    exact hc j u hu
  rw [← hW]
  by_cases hroom : s.size + 1 ≤ grownCap w0 s.size 0 e
  · -- in place
    have hcell : (W.cell? ⟨w0.heap.size, s.size, Option.none⟩).isSome = true := by
      simp only [World.cell?, hblock]
      rw [Array.getElem?_eq_getElem (by rw [hbs]; omega)]
      rfl
    have hfro : W.frozen? ⟨w0.heap.size, s.size, Option.none⟩ = false := by
      simp only [World.frozen?, hblock, Bool.and_eq_false_iff, decide_eq_false_iff_not]
      left
      rw [hbs]; omega
    have hf := run_firstCells_some (P := P) W i.size 1 ⟨w0.heap.size + 1, 0, Option.none⟩ 1 1 [.int .u8 y] (by rw [hsz]; rfl) hnews
    have hst := run_storeCells_cells (P := P) w0.heap.size s.size [.int .u8 y] 0 W (by intro j hj; have : j = 0 := by simpa using hj
                                                                                       subst this; exact hcell)
      (by intro j hj; have : j = 0 := by simpa using hj
          subst this; exact hfro) (by intro v hv; rw [List.mem_singleton] at hv; subst hv; rfl)
    refine ⟨some ⟨w0.heap.size, 0, Option.none⟩, grownCap w0 s.size 0 e, W.setCell ⟨w0.heap.size, s.size, Option.none⟩ (.int .u8 y), ?_, ?_, hbelow.setCell (Nat.le_refl _) _⟩
    · rw [hsz] at hf
      simp only [Nat.add_zero, World.setCells] at hst
      simp [Builtin.append_, run_underlying ht, sizeOf, typeInfo, hi, Builtin.lenOf, hroom, hf, Addr.add_lit, hst, hsz]
    · refine ⟨by rw [List.length_append, numsOf_length]; rfl, hroom, by omega, fun _ => ⟨w0.heap.size, 0, rfl, fun j x hj => ?_⟩⟩
      unfold RByte
      rw [Nat.mul_one, Nat.zero_add]
      rcases Nat.lt_trichotomy j s.size with h | h | h
      · rw [World.cell?_setCell_other _ _ _ _ (by intro h9; injection h9 with _ h9 _; omega)]
        rw [List.getElem?_append_left (by rw [numsOf_length]; exact h)] at hj
        have := holds j (.int .u8 x) (by simp [byV, hj])
        rwa [add_plain] at this
      · subst h
        rw [List.getElem?_append_right (by rw [numsOf_length]; omega), numsOf_length, Nat.sub_self] at hj
        injection hj with hj
        subst hj
        obtain ⟨u, hu⟩ := Option.isSome_iff_exists.1 hcell
        exact World.cell?_setCell_same _ _ _ hu
      · exfalso
        have := (List.getElem?_eq_some_iff.1 hj).1
        rw [List.length_append, numsOf_length, List.length_singleton] at this
        omega
  · have hg : grownCap w0 s.size 0 e < s.size + 1 := by omega
    have hr := run_append_grow (P := P) W t ty e i (.int .u8 0) ht hi hz ⟨w0.heap.size, 0, Option.none⟩ s.size (grownCap w0 s.size 0 e) (byV (numsOf s)) (by rw [hsz]; simp [byV, numsOf_length]) holds ⟨w0.heap.size + 1, 0, Option.none⟩ 1 1 [.int .u8 y] (by rw [hsz]; rfl) hnews hg (by omega) (by rw [hby]; exact growslice_fits (by omega) (by omega))
    have hge2 := grownCap_ge W (s.size + 1) (grownCap w0 s.size 0 e) e
    have hcm2 : grownCap W (s.size + 1) (grownCap w0 s.size 0 e) e ≤ maxLen := grownCap_le_maxLen W (s.size + 1) _ e (by unfold maxLen; omega)
    have hsW : W.heap.size = w0.heap.size + 1 + 1 := by rw [hW]; simp [hsize]
    generalize hK : (W.drew.alloc (.cells ((byV (numsOf s)).toArray ++ #[Value.int .u8 y] ++ Builtin.zeroCells (Value.int .u8 0).cells (grownCap W (s.size + 1) (grownCap w0 s.size 0 e) e - (s.size + 1))) e)) = K at *
    have hKs : W.drew.heap.size = W.heap.size := rfl
    have hown : K.ownsRow 0 e 1 (.slice (some ⟨W.heap.size, 0, Option.none⟩) (s.size + 1) (grownCap W (s.size + 1) (grownCap w0 s.size 0 e) e)) (s.size + 1) (byV (numsOf s ++ [y])) := by
      rw [← hK]
      refine ⟨by simp [byV, numsOf_length], .inr ⟨W.heap.size, _, _, rfl, by omega, heap_alloc_new W.drew _, hge2, hcm2, ?_, ?_⟩⟩
      · have hz1 : (Value.int IntKind.u8 0).cells.size = 1 := rfl
        simp only [Array.size_append, List.size_toArray, size_zeroCells, hz1, byV, List.length_map, numsOf_length, List.length_cons, List.length_nil]
        omega
      · simp only [Array.toList_append, List.append_assoc]
        rw [byV_append, ← List.append_assoc]
        exact List.take_left' (by simp [byV, numsOf_length])
    obtain ⟨A, c, e1, hb1⟩ := own_bytes hown (by omega)
    injection e1 with e1 e2 e3
    refine ⟨_, _, K, hr, ?_, ?_⟩
    · rw [e1, e3]; exact hb1
    · have : Below W.heap.size W K := by rw [← hK]; exact below_alloc (w := W) (w1 := W.drew) (Below.refl W.heap.size W).drew _
      exact hbelow.trans (this.mono (by omega))
end
theorem nums_str {xs : List Int} (h : InB xs) : numsOf (strOfNums xs) = xs := by
  rw [numsOf, strOfNums_data, List.map_map]
  refine (List.map_congr_left fun x hx => ?_).trans (List.map_id _)
  have := h x hx
  show ((UInt8.ofNat x.toNat).toNat : Int) = x
  rw [UInt8.toNat_ofNat']
  omega
end Go.Proofs.Tail
namespace Go.Proofs.Tail
open Go Go.Lib Go.RowKit
section
variable {P : Program} {ops : Array Oper} {rest : List Oper} {o : Oper} {a : Act} {Q : Exit → Act → World → Prop}
/-- The operation, for the walk. -/
theorem conv_append_lit (w0 : World) (s : ByteArray) (y : Int) (b0 b1 : Nat) (h0 : b0 = w0.heap.size) (h1 : b1 = w0.heap.size + 1) (hgd : o.guard = none) (sl x : Operand) (t e : TypeId)
    (ho : o.op = .call { callee := .builtin .append, args := #[sl, x], argTypes := #[t, t] })
    (ht : P.underlying t = some (.slice e)) (hinfo : (P.info? e).map (fun i => (i.zero, i.size, i.bytes)) = some (some (.int .u8 0), 1, 1))
    (hs : a.eval sl = .slice (some ⟨b0, 0, none⟩) s.size (grownCap w0 s.size 0 e)) (hx : a.eval x = .slice (some ⟨b1, 0, none⟩) 1 1) (hlim : s.size + 1 ≤ 140737488355328)
    (h : ∀ A c w1, Byts w1 A (s.size + 1) c (numsOf s ++ [y]) → Below w0.heap.size w0 w1 → wpList P ops Q rest (a.put o.dst (.slice A (s.size + 1) c)) w1) :
    wpList P ops Q (o :: rest) a ((bytesWorld w0 e s).alloc (.cells #[.int .u8 y] e)) := by
  subst h0; subst h1
  obtain ⟨i0, hi, hzz⟩ := Option.map_eq_some_iff.1 hinfo
  simp only [Prod.mk.injEq] at hzz
  obtain ⟨hz0, hz1, hz2⟩ := hzz
  obtain ⟨A, c, w1, hr, hb, hbl⟩ := run_conv_append (P := P) w0 s y t o.type e i0 ht hi hz0 hz1 hz2 hlim
  refine wpList_plain hgd fun K hK => ?_
  unfold Oper.wp execOp
  simp only [ho, resolve, invoke, builtin, Sem.run_bind, Sem.run_pure, Result.andThen_ok, List.map_toArray, List.map_cons, List.map_nil, hs, hx, hr]
  exact hK _ _ (h A c w1 hb hbl)
end
end Go.Proofs.Tail
