/- Contracts of slices.DeleteFunc with 'took', of value.Less. -/
import Derived.Test.YtainoghjelfnkaaRows
import Derived.Laws.CopyRow
import Derived.Test.YtainoghjelfnkaaWords
import Derived.Test.YtainoghjelfnkaaByts
import Derived.Test.YtainoghjelfnkaaFrame
import Derived.Test.YtainoghjelfnkaaElems
import Derived.Test.YtainoghjelfnkaaV1
import Derived.Test.YtainoghjelfnkaaV2
import Derived.Test.YtainoghjelfnkaaV3
import Derived.Test.YtainoghjelfnkaaV4
import Derived.Test.YtainoghjelfnkaaV6
import Derived.Test.YtainoghjelfnkaaV7
import Derived.Test.YtainoghjelfnkaaV8
import Derived.Test.YtainoghjelfnkaaP1
namespace Go.Proofs.Ytainoghjelfnkaa
open Go Go.RowKit Go.Proofs.Tail Go.Sort
set_option linter.unusedSimpArgs false
set_option linter.unusedVariables false
theorem takeG_no {xs g : List Rc} (h : ∀ x, x ∈ xs → g.head? ≠ some x) : takeG xs g = (xs, g) := by
  induction xs with
  | nil => rfl
  | cons x xs ih =>
    rw [takeG, if_neg (h x (List.mem_cons_self ..)), ih fun y hy => h y (List.mem_cons_of_mem _ hy)]
theorem takeG_at : ∀ {xs g : List Rc} {p : Nat} {y : Rc}, xs[p]? = some y → g.head? = some y → (∀ j x, j < p → xs[j]? = some x → g.head? ≠ some x) → takeG xs g = (xs.take p ++ (takeG (xs.drop (p + 1)) g.tail).1, (takeG (xs.drop (p + 1)) g.tail).2)
  | [], g, p, y, h, _, _ => by simp at h
  | x :: xs, g, 0, y, h, hg, _ => by
    obtain rfl : x = y := by simpa using h
    rw [takeG, if_pos hg]; simp
  | x :: xs, g, p + 1, y, h, hg, hn => by
    rw [takeG, if_neg (hn 0 x (by omega) rfl), takeG_at (xs := xs) (p := p) (by simpa using h) hg fun j z hj hz => hn (j + 1) z (by omega) (by simpa using hz)]
    simp
/-- clear(s[i:]) of a row of one's own: what stands ahead of i stays. -/
theorem clear_own {w : World} {base g n cap i : Nat} {R : List Rc} (h : w.ownsRow base 32 2 (.slice (some ⟨g, 0, none⟩) n cap) n (recV R)) (hi : i < n) :
    ∃ w', (∀ ty, (Builtin.clear_ #[22] ty #[.slice (some ⟨g, i * 2, none⟩) (n - i) (cap - i)]).run Try.prog w = .ok (.tuple #[]) w') ∧
      w'.ownsRow base 32 2 (.slice (some ⟨g, 0, none⟩) i cap) i (recV (R.take i)) ∧ Fr (fun k => k = g) w w' := by
  have hl : R.length = n := by have := h.1; rw [recV_length] at this; omega
  rcases h.2 with ⟨e, _⟩ | ⟨g', cap', cur, e, hb, hh, hnc, hm, hs, ht⟩
  · cases e
  · injection e with e1 _ e3
    injection e1 with e1
    injection e1 with e1
    subst e1; subst e3
    have hz : (Builtin.zeroCells (Value.agg #[.int .i64 0, .int .i64 0]).cells (n - i)).toList.length = (n - i) * 2 := by simp [Builtin.zeroCells, Value.cells]
    have h1 : ∀ v ∈ (Builtin.zeroCells (Value.agg #[.int .i64 0, .int .i64 0]).cells (n - i)).toList, v.oneCell' = true := by
      intro v hv
      simp only [Builtin.zeroCells, Value.cells, Array.toList_map, List.mem_map] at hv
      obtain ⟨k, _, rfl⟩ := hv
      have : k % 2 = 0 ∨ k % 2 = 1 := by omega
      show (#[Value.int .i64 0, Value.int .i64 0][k % 2]!).oneCell' = true
      rcases this with e | e <;> rw [e] <;> rfl
    generalize hzs : (Builtin.zeroCells (Value.agg #[.int .i64 0, .int .i64 0]).cells (n - i)).toList = zs at *
    have hst := run_storeCells_at (P := Try.prog) g (i * 2) 32 zs 0 cur w hh (by rw [hz, hs]; omega) h1
    have hcl : cur.toList.length = cap * 2 := by rw [Array.length_toList, hs]
    have hn1 : (cur.toList.take (i * 2 + 0) ++ zs ++ cur.toList.drop (i * 2 + 0 + zs.length)).length = cap * 2 := by
      rw [List.length_append, List.length_append, List.length_take, List.length_drop, hz, hcl]; omega
    have hn2 : (cur.toList.take (i * 2 + 0) ++ zs ++ cur.toList.drop (i * 2 + 0 + zs.length)).take (i * 2) = cur.toList.take (i * 2) := by
      rw [List.append_assoc, List.take_append_of_le_length (by rw [List.length_take, hcl]; omega), List.take_take]
      congr 1; omega
    generalize cur.toList.take (i * 2 + 0) ++ zs ++ cur.toList.drop (i * 2 + 0 + zs.length) = ns at *
    refine ⟨w.setRow g ns.toArray, fun ty => ?_, ⟨by rw [recV_length, List.length_take, hl]; omega, .inr ⟨g, cap, _, rfl, hb, setRow_heap w g cur _ _ _ hh, by omega, hm, by simpa using hn1, ?_⟩⟩, ?_⟩
    · obtain ⟨m, hmm⟩ : ∃ m, n - i = m + 1 := ⟨n - i - 1, by omega⟩
      rw [hmm] at hzs ⊢
      have hv := Try.zeroValue32
      simp [Builtin.clear_, run_underlying Try.underlying22, hv, hzs, hst]
    · show ns.take (i * 2) = _
      rw [hn2]
      have : (cur.toList.take (n * 2)).take (i * 2) = (recV R).take (i * 2) := by rw [ht]
      rw [List.take_take, Nat.min_eq_left (by omega)] at this
      rw [this]
      conv => lhs; rw [← List.take_append_drop i R, recV_append]
      rw [List.take_append_of_le_length (by rw [recV_length, List.length_take, hl]; omega), List.take_of_length_le (by rw [recV_length, List.length_take, hl]; omega)]
    · exact ⟨rfl, rfl, rfl, by simp [World.setRow], fun k hk hn => by simp [World.setRow, Array.getElem?_modify, show g ≠ k from fun e => hn e.symm]⟩
/-- How far DeleteFunc has come. -/
structure Dl (w wr : World) (base B G r n cap : Nat) (xs g0 : List Rc) (i j : Nat) : Prop where
  ex : ∃ R K g, wr.ownsRow base 32 2 (.slice (some ⟨r, 0, none⟩) n cap) n (recV R) ∧ R.take i = K ∧ R.drop j = xs.drop j ∧ K.length = i ∧ Gn wr B G g ∧ takeG xs g0 = (K ++ (takeG (xs.drop j) g).1, (takeG (xs.drop j) g).2)
  hf : Fr (fun k => k = B ∨ k = r) w wr
/-- What DeleteFunc hands back. -/
def Del (base B G : Nat) (v : Value) (r : List Rc × List Rc) (w : World) (e : Ending) (w' : World) : Prop :=
  ∃ v', e = .returned v' ∧ w'.ownsRow base 32 2 v' r.1.length (recV r.1) ∧ Gn w' B G r.2 ∧ Fr (fun k => k = B ∨ v.ownBlock = some k) w w'
theorem Del.of {base B G : Nat} {v v' : Value} {r r' : List Rc × List Rc} {w w' : World} (h : r = r') (h1 : w'.ownsRow base 32 2 v' r.1.length (recV r.1)) (h2 : Gn w' B G r.2) (h3 : Fr (fun k => k = B ∨ v.ownBlock = some k) w w') : Del base B G v r' w (.returned v') w' := by
  subst h; exact ⟨v', rfl, h1, h2, h3⟩
set_option maxRecDepth 100000 in
set_option maxHeartbeats 16000000 in
theorem delete_any (base B G : Nat) (v : Value) (xs g : List Rc) (w : World) (HO0 : w.ownsRow base 32 2 v xs.length (recV xs)) (hG : Gn w B G g) (hB : v.ownBlock ≠ some B) (hGG : v.ownBlock ≠ some G) (hlim : xs.length ≤ 140737488355328) :
    Calls Try.prog 28 #[v, .func (.func 27) #[] #[.pointer (some ⟨B, 0, none⟩)]] w (Del base B G v (takeG xs g) w) := by
  obtain ⟨A, c, rfl, hr⟩ := own_recs HO0 (by omega)
  have HI := Lib.hid (index_any A _ c B G xs g w hr hG (fun a ha e => hB (by rw [ha]; show some a.block = _; rw [e])))
  have HO := Lib.hid HO0
  have HNB := Lib.hid (And.intro hB hGG)
  clear hr hG hB hGG HO0
  generalize hn : xs.length = n at *
  have HN := Lib.hid hn
  clear hn
  go_enter Try.func28, Try.ntmps28
  go_wp2_with fail
  refine HI.out.mono ?_
  rintro e w1 ⟨hf, ⟨p, y, hp, hg, hnn, rfl, hG⟩ | ⟨hnn, rfl, hG⟩⟩
  · have hpn : p < n := by have := (List.getElem?_eq_some_iff.1 hp).1; rw [HN.out] at this; exact this
    obtain ⟨r, cap, eg, hbr, hrl, hnc⟩ := own_form HO.out (by omega)
    injection eg with eg1 _ eg3
    subst eg1 eg3
    have HNR := Lib.hid (show B ≠ r ∧ G ≠ r from ⟨fun e => HNB.out.1 (by rw [e]; rfl), fun e => HNB.out.2 (by rw [e]; rfl)⟩)
    have D0 := Lib.hid (show Dl w w1 base B G r n c xs g p (p + 1) from ⟨⟨xs, xs.take p, g.tail, own_fr HO.out hf (fun k hk e => by cases hk; exact HNR.out.1 e.symm), rfl, rfl, by rw [List.length_take, HN.out]; omega, hG, takeG_at hp hg hnn⟩, hf.mono fun i _ hi => .inl hi⟩)
    have hne : ((p : Int) == -1) = false := by simp
    clear hp hg hnn hG hf HI HO HNB hbr hrl
    go_wp2_with fail
    go_loopw [5, 6] (fun a b wr => ∃ i j : Nat, i < j ∧ j ≤ n ∧ a = .int .i64 i ∧ b = .int .i64 j ∧ Hid (Dl w wr base B G r n c xs g i j)) (fun _ b _ => n - (intOf b).toNat)
    case atStart => exact ⟨p, p + 1, by omega, by omega, rfl, by first | rfl | go_num, D0⟩
    case round =>
      clear D0
      obtain ⟨i, j, hij, hj, rfl, rfl, HD⟩ := hrel
      obtain ⟨⟨R, K, g1, ho, hRK, hRd, hKl, hG, hT⟩, hf⟩ := HD.out
      have HO := Lib.hid ho
      have HK := Lib.hid (And.intro hRK hKl)
      have HRD := Lib.hid hRd
      have HG := Lib.hid hG
      have HT := Lib.hid hT
      have HF := Lib.hid hf
      have HRL := Lib.hid (show R.length = n by have := ho.1; rw [recV_length] at this; omega)
      clear ho hRK hKl hRd hG hT hf HD
      by_cases hlt : j < n
      · have hd : decide ((j : Int) < n) = true := decide_eq_true (by omega)
        have hd' : decide (j < n) = true := decide_eq_true (by omega)
        have hjl : j < xs.length := by rw [HN.out]; exact hlt
        have hxj := List.getElem?_eq_getElem hjl
        generalize xs[j] = x at hxj
        have hRj : R[j]? = some x := by
          have := congrArg (fun l => l[0]?) HRD.out
          simpa [hxj] using this
        have HDR := Lib.hid (show xs.drop j = x :: xs.drop (j + 1) by rw [List.drop_eq_getElem_cons hjl, (List.getElem?_eq_some_iff.1 hxj).2])
        obtain ⟨c0, c1, _, _⟩ := own_rcell HO.out hRj
        have HRJ := Lib.hid hRj
        have B1 := Lib.hid (below_new wr (.cells #[.int .i64 x.1, .int .i64 x.2] 32))
        have X1 := Lib.hid (Blk.new wr [.int .i64 x.1, .int .i64 x.2] 32 _ rfl)
        have HTK := Lib.hid (took_any B G x g1 _ (HG.out.below B1.out))
        have HBL := Lib.hid HG.out.lt
        clear hxj hRj hjl
        go_wp2_with fail
        refine HTK.out.mono ?_
        rintro e w2 ⟨b, g', rfl, hr, hG, hf⟩
        have HF2 := Lib.hid ((Fr.of_below (S := fun k => k = B) B1.out).trans hf (fun _ _ h => h))
        have HO2 := Lib.hid (own_fr HO.out HF2.out (fun k hk e => by cases hk; exact HNR.out.1 e.symm))
        have HFF := Lib.hid (HF.out.trans HF2.out (fun i _ h => .inl h))
        have X2 := Lib.hid (X1.out.fr hf (fun e => by have := HBL.out; omega))
        have HG2 := Lib.hid hG
        clear c0 c1 hf hG HTK HF HO X1 HG
        rcases hr with ⟨h1, rfl, rfl⟩ | ⟨h1, rfl, rfl⟩
        · have D2 := Lib.hid (show Dl w w2 base B G r n c xs g i (j + 1) from ⟨⟨R, K, _, HO2.out, HK.out.1, by have := congrArg (fun l => l.drop 1) HRD.out; simpa [List.drop_drop] using this, HK.out.2, HG2.out, by rw [HT.out, HDR.out, takeG, if_pos h1]⟩, HFF.out⟩)
          clear h1 HO2 HK HRD HT HG2 X2
          go_wp2_with fail
          go_roundw
          case rel => exact ⟨i, j + 1, by omega, by omega, rfl, by go_num, D2⟩
          case measure => simp [intOf]; omega
        · have v0 := X2.out.cell
          have hil : i < R.length := by rw [HRL.out]; omega
          have hget := List.getElem?_eq_getElem hil
          obtain ⟨z0, z1, f0, f1⟩ := own_rcell HO2.out hget
          generalize R[i] = z at z0 z1
          have HST := Lib.hid (own_rset HO2.out i x)
          have HFS := Lib.hid (show ∀ a b, Fr (fun k => k = r) w2 ((w2.setCell ⟨r, i * 2, none⟩ a).setCell ⟨r, i * 2 + 1, none⟩ b) from fun a b => ((Fr.refl (fun k => k = r) w2).set (p := ⟨r, i * 2, none⟩) (fun _ => rfl) a).set (p := ⟨r, i * 2 + 1, none⟩) (fun _ => rfl) b)
          have D2 := Lib.hid (show ∀ a b, a = .int .i64 x.1 → b = .int .i64 x.2 → Dl w ((w2.setCell ⟨r, i * 2, none⟩ a).setCell ⟨r, i * 2 + 1, none⟩ b) base B G r n c xs g (i + 1) (j + 1) from fun a b ea eb => by
            subst ea eb
            refine ⟨⟨R.set i x, K ++ [x], g', HST.out, ?_, ?_, by rw [List.length_append, HK.out.2]; rfl, HG2.out.fr (HFS.out _ _) (fun e => HNR.out.1 e) (fun e => HNR.out.2 e), ?_⟩, HFF.out.trans (HFS.out _ _) (fun i _ h => .inr h)⟩
            · rw [← HK.out.1, List.take_succ_eq_append_getElem (by rw [List.length_set]; exact hil), List.take_set, List.set_eq_of_length_le (by rw [List.length_take]; omega), List.getElem_set_self]
            · rw [List.drop_set, if_pos (by omega)]
              have := congrArg (fun l => l.drop 1) HRD.out
              simpa [List.drop_drop] using this
            · rw [HT.out, HDR.out, takeG, if_neg h1]; simp)
          clear h1 HO2 HK HRD HT HG2 hget hil X2 HST HFS
          go_wp2_with fail
          go_roundw
          case rel => exact ⟨i + 1, j + 1, by omega, by omega, by go_num, by go_num, Lib.hid (D2.out _ _ rfl rfl)⟩
          case measure => simp [intOf]; omega
      · have hjn : j = n := by omega
        subst hjn
        have hd : decide ((j : Int) < j) = false := decide_eq_false (by omega)
        have hd' : decide (j < j) = false := decide_eq_false (by omega)
        obtain ⟨w3, hcl, ho3, hf3⟩ := clear_own HO.out (show i < j by omega)
        have HO3 := Lib.hid ho3
        have HF3 := Lib.hid (HF.out.trans hf3 (fun i _ h => .inr h))
        have HG3 := Lib.hid (HG.out.fr hf3 (fun e => HNR.out.1 e) (fun e => HNR.out.2 e))
        have hcap : ¬ c = i := by omega
        have hcap' : ¬ (c : Int) = (i : Int) := by omega
        have HQ := Lib.hid (show (K, g1) = takeG xs g by rw [HT.out, List.drop_of_length_le (by rw [HN.out]; exact Nat.le_refl _)]; simp [takeG])
        have hle : (i : Int) ≤ j := by omega
        have hlc : (i : Int) ≤ c := by omega
        clear ho3 hf3
        go_wp2_with fail
        go_ret
        exact Del.of HQ.out (by dsimp only; rw [HK.out.2, ← HK.out.1]; exact HO3.out) HG3.out (HF3.out.mono fun k _ h => by rcases h with h | h; exact .inl h; exact .inr (by rw [h]; rfl))
  · have HG := Lib.hid hG
    have HF := Lib.hid hf
    have HQ := Lib.hid (takeG_no hnn)
    have HO1 := Lib.hid (own_fr HO.out hf (fun k hk e => HNB.out.1 (by rw [hk, e])))
    clear hG hf hnn HI HO
    go_wp2_with fail
    go_ret
    exact Del.of HQ.out.symm (by dsimp only; rw [HN.out]; exact HO1.out) HG.out (HF.out.mono fun k _ h => .inl h)
theorem sgn_gone {w : World} {B G : Nat} {g : List Rc} (h : Gn w B G g) : ∃ A n c, w.cell? ⟨B, 0, none⟩ = some (.slice A n c) ∧ g.length = n := by
  obtain ⟨A, n, c, hb, hr, _⟩ := h.ex
  exact ⟨A, n, c, hb.cell 0, hr.len⟩
set_option maxRecDepth 100000 in
set_option maxHeartbeats 16000000 in
theorem less_any (A A' : Option Addr) (n c n' c' : Nat) (xs ys : List Rc) (w : World) (hX : Recs w A n c xs) (hY : Recs w A' n' c' ys) (l1 : n * 16 ≤ 140737488355328) (l2 : n' * 16 ≤ 140737488355328) :
    Calls Try.prog 10 #[.slice A n c, .slice A' n' c'] w (GivesLess (LS xs ys) w) := by
  have H1 := Lib.hid (sorted_any A' n' c' ys w hY l2)
  have H2 := Lib.hid (fun w' hb => sorted_any A n c xs w' (hX.below RRc.stays hb) l1)
  have b1 : (sortR xs).length ≤ 140737488355328 := by rw [sortR_length, hX.len]; omega
  have b2 : (sortR ys).length ≤ 140737488355328 := by rw [sortR_length, hY.len]; omega
  have HQ := Lib.hid (takeG_LS xs ys)
  clear hX hY
  generalize LS xs ys = res at *
  generalize sortR xs = us at *
  generalize sortR ys = vs at *
  go_enter Try.func10, Try.ntmps10
  go_wp2_with fail
  refine H1.out.mono ?_
  rintro e w1 ⟨v, rfl, ho, hb⟩
  obtain ⟨A1, c1, rfl, hr⟩ := own_recs ho (by omega)
  have hb1 := below_new w1 (.cells #[.slice A1 vs.length c1] 22)
  have HK1 := Lib.hid (Blk.new w1 [.slice A1 vs.length c1] 22 _ rfl)
  have HR1 := Lib.hid (hr.below RRc.stays hb1)
  have HAL := Lib.hid (show ∀ a, A1 = some a → a.block < w1.heap.size from fun a ha => by subst ha; exact (ho.lt a.block rfl).2)
  have HB1 := Lib.hid (below_alloc hb (.cells #[.slice A1 vs.length c1] 22))
  have HW1 := Lib.hid hb.size
  clear ho hb H1 hr hb1
  go_wp2_with fail
  refine (H2.out _ HB1.out).mono ?_
  rintro e w2 ⟨v, rfl, ho, hb⟩
  have hvb : ∀ b, v.ownBlock = some b → w1.heap.size + 1 ≤ b := fun b hb => by have := own_lt ho b hb; simpa using this
  have HG1 := Lib.hid (show ∃ G, Gn w2 w1.heap.size G vs ∧ v.ownBlock ≠ some G from by
    cases A1 with
    | none =>
      by_cases hv : v.ownBlock = some (w1.heap.size + 1)
      · exact ⟨w1.heap.size + 2, ⟨⟨_, _, _, HK1.out.then hb, HR1.out.below RRc.stays hb, fun a ha => by cases ha⟩, by omega⟩, fun e => by rw [hv] at e; injection e with e; omega⟩
      · exact ⟨w1.heap.size + 1, ⟨⟨_, _, _, HK1.out.then hb, HR1.out.below RRc.stays hb, fun a ha => by cases ha⟩, by omega⟩, hv⟩
    | some a =>
      have hlt := HAL.out a rfl
      exact ⟨a.block, ⟨⟨_, _, _, HK1.out.then hb, HR1.out.below RRc.stays hb, fun a' ha => by cases ha; rfl⟩, by omega⟩, fun e => by have := hvb _ e; omega⟩)
  obtain ⟨G, hG, hvG⟩ := HG1.out
  have HB2 := Lib.hid (below_then HB1.out hb)
  have HVB := Lib.hid hvb
  have HD := Lib.hid (delete_any _ w1.heap.size G v us vs w2 ho hG (fun e => by have := hvb _ e; omega) hvG b1)
  clear ho hb H2 hG hvG hvb HG1 HK1 HR1
  go_wp2_with fail
  refine HD.out.mono ?_
  rintro e w3 ⟨v', rfl, ho, hG, hf⟩
  obtain ⟨A3, n3, c3, hc3, hl3⟩ := sgn_gone hG
  have HO3 := Lib.hid (own_base (base' := w.heap.size) ho (by have := HB1.out.size; exact this))
  have HB3 := Lib.hid (HB2.out.trans (hf.below HB2.out.size (fun k hk h => by
    have := HW1.out
    rcases h with h | h
    · omega
    · have := HVB.out k h; omega)))
  clear ho hG hf HD
  generalize takeG us vs = r at *
  by_cases h0 : r.2 = []
  · have hn3 : n3 = 0 := by rw [← hl3, h0]; rfl
    subst hn3
    have HQQ := Lib.hid (show some r.1 = res by rw [HQ.out, if_pos h0])
    clear h0 hl3
    go_wp2_with fail
    go_ret2
    exact GivesLess.yes HQQ.out HO3.out HB3.out
  · have hn3 : 0 < n3 := by rw [← hl3]; exact List.length_pos_iff.2 h0
    have hd : decide ((0 : Int) < n3) = true := decide_eq_true (by omega)
    have hd' : decide (0 < n3) = true := decide_eq_true (by omega)
    have HQQ := Lib.hid (show none = res by rw [HQ.out, if_neg h0])
    clear h0 hl3
    go_wp2_with fail
    go_ret2
    exact GivesLess.no HQQ.out HB3.out
end Go.Proofs.Ytainoghjelfnkaa
