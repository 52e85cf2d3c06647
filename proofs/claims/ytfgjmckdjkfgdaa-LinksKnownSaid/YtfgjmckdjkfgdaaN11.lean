/- A net's steps: New, Ends, Len, First, Take, Send. -/
import Derived.Test.YtfgjmckdjkfgdaaRows
import Derived.IntWalk
import Derived.Test.YtfgjmckdjkfgdaaWords
import Derived.Test.YtfgjmckdjkfgdaaByts
import Derived.Test.YtfgjmckdjkfgdaaStrs
import Derived.Test.YtfgjmckdjkfgdaaFrame
import Derived.Test.YtfgjmckdjkfgdaaOwnAt
import Derived.Test.YtfgjmckdjkfgdaaHeads
import Derived.Test.YtfgjmckdjkfgdaaN1
import Derived.Test.YtfgjmckdjkfgdaaN2
import Derived.Test.YtfgjmckdjkfgdaaN3
import Derived.Test.YtfgjmckdjkfgdaaN4
import Derived.Test.YtfgjmckdjkfgdaaN6
import Derived.Test.YtfgjmckdjkfgdaaN7
import Derived.Test.YtfgjmckdjkfgdaaN8
import Derived.Test.YtfgjmckdjkfgdaaN9
import Derived.Test.YtfgjmckdjkfgdaaN10
namespace Go.Proofs.Ytfgjmckdjkfgdaa
open Go Go.RowKit Go.Proofs.Tail
set_option linter.unusedSimpArgs false
set_option linter.unusedVariables false
variable {w w' w2 : World} {D : Nat → Prop} {P : Nat} {N : NetS} {H : Nat → Value} {hs : Nat → List Value}
def inN (N : NetS) (a b : Int) : Prop := 0 ≤ a ∧ 0 ≤ b ∧ a < N.E ∧ b < N.E
instance (N : NetS) (a b : Int) : Decidable (inN N a b) := by unfold inN; exact inferInstance
def ix (a b : Int) : Nat := a.toNat * 64 + b.toNat
def lenN (N : NetS) (a b : Int) : Nat := if inN N a b then (N.q (ix a b)).length else 0
def headN (N : NetS) (a b : Int) : Option (List Int) := if inN N a b then (N.q (ix a b)).head? else none
def takeN (N : NetS) (a b : Int) : NetS := if (headN N a b).isSome then { N with q := upd N.q (ix a b) (N.q (ix a b)).tail, t := wrap64 (N.t + 1) } else N
def sendE (N : NetS) (a b : Int) (n : Nat) : Int := if ¬ inN N a b then 2 else if 1048576 < n then 3 else if 4096 ≤ (N.q (ix a b)).length then 31 else 0
def sendN (N : NetS) (a b : Int) (xs : List Int) : NetS := if sendE N a b xs.length = 0 then { N with q := upd N.q (ix a b) (N.q (ix a b) ++ [xs]), s := wrap64 (N.s + 1) } else N
theorem ix_of {N : NetS} {a b : Int} (hE : N.E ≤ 64) (h : inN N a b) : ∃ x y : Nat, a = x ∧ b = y ∧ x < N.E ∧ y < N.E ∧ ix a b = x * 64 + y ∧ ix a b < 4096 ∧ ix a b / 64 < N.E ∧ ix a b % 64 < N.E := by
  obtain ⟨h1, h2, h3, h4⟩ := h
  refine ⟨a.toNat, b.toNat, by omega, by omega, by omega, by omega, rfl, ?_, ?_, ?_⟩ <;> unfold ix <;> omega
theorem grewD_self (D : Nat → Prop) (w : World) : grewD D w w = D := by
  funext b
  apply propext
  unfold grewD
  constructor
  · rintro (h | h)
    · exact h
    · omega
  · exact .inl
/-- A net that is new. -/
theorem nnew_any (E : Int) (w : World) : Calls Try.prog 8 #[.int .i64 E] w fun e w' => e = .returned (.pointer (some ⟨w.heap.size, 0, none⟩)) ∧ Net w' (fun b => b = w.heap.size) w.heap.size ⟨endsN E, fun _ => [], 0, 0⟩ ∧ Below w.heap.size w w' := by
  refine (new_any E w).mono ?_
  rintro e w' ⟨rfl, rfl⟩
  have hb := below_new w (.cells (zNet.setIfInBounds 0 (.int .i64 (endsN E))) 56)
  have hc : ∀ i, (w.alloc (.cells (zNet.setIfInBounds 0 (.int .i64 (endsN E))) 56)).cell? ⟨w.heap.size, i, none⟩ = (zNet.setIfInBounds 0 (.int .i64 (endsN E)))[i]? := fun i => by
    have hh := heap_alloc_new w (.cells (zNet.setIfInBounds 0 (.int .i64 (endsN E))) 56)
    unfold World.cell?
    dsimp only
    rw [hh]
    simp
  have h0 : ∀ i, i ≠ 0 → (zNet.setIfInBounds 0 (.int .i64 (endsN E)))[i]? = zNet[i]? := fun i hi => by
    rw [Array.getElem?_setIfInBounds]; split
    · omega
    · rfl
  have hs := zNet_size
  refine ⟨rfl, ⟨fun _ => .slice none 0 0, fun _ => [], ⟨(endsN_in E).1, (endsN_in E).2, rfl, ?_, ?_, ?_, ?_, ?_, ⟨?_, ?_, ?_, ?_⟩, ?_, ?_, ?_⟩⟩, hb⟩
  · rintro k rfl; simp
  · rw [hc]; simp [hs]
  · rw [hc, h0 _ (by omega)]; exact zNet_4097
  · rw [hc, h0 _ (by omega)]; exact zNet_4098
  · intro i
    have hh := heap_alloc_new w (.cells (zNet.setIfInBounds 0 (.int .i64 (endsN E))) 56)
    unfold World.frozen?
    dsimp only
    rw [hh]
    simp
  · intro k hk; rw [hc, h0 _ (by omega)]; exact zNet_cell k hk
  · intro k hk; exact OwnAt.nil _ _ _ _
  · intro k b _ h; cases h
  · intro k j b _ _ _ h; cases h
  · intro k _; rfl
  · intro k _ i xs hi; simp at hi
  · intro k _; rfl
theorem nends_any (h : Net w D P N) : Calls Try.prog 19 #[.pointer (some ⟨P, 0, none⟩)] w (Tells (.int .i64 N.E) w) := by
  obtain ⟨H, hs, h⟩ := h
  exact ends_any h.cE
theorem nsent_any (h : Net w D P N) : Calls Try.prog 16 #[.pointer (some ⟨P, 0, none⟩)] w (Tells (.int .i64 N.s) w) := by
  obtain ⟨H, hs, h⟩ := h
  exact sent_any h.cs
theorem ntaken_any (h : Net w D P N) : Calls Try.prog 17 #[.pointer (some ⟨P, 0, none⟩)] w (Tells (.int .i64 N.t) w) := by
  obtain ⟨H, hs, h⟩ := h
  exact taken_any h.ct
/-- The header of a link. -/
theorem NetH.head (h : NetH w D P N H hs) {x y : Nat} (hx : x < N.E) (hy : y < N.E) : ∃ A c, H (x * 64 + y) = .slice A (N.q (x * 64 + y)).length c ∧ w.cell? ⟨P, 1 + x * 64 + y, none⟩ = some (.slice A (N.q (x * 64 + y)).length c) ∧ OwnAt w 0 30 1 (.slice A (N.q (x * 64 + y)).length c) (N.q (x * 64 + y)).length (hs (x * 64 + y)) := by
  have hE := h.e64
  have hk : x * 64 + y < 4096 := by omega
  have ho := h.hd.own _ hk
  rw [h.len _ hk] at ho
  obtain ⟨A, c, he⟩ := ho.form
  refine ⟨A, c, he, ?_, by rw [← he]; exact ho⟩
  have := h.hd.cell _ hk
  rw [he] at this
  rwa [Nat.add_assoc]
theorem nlen_any (h : Net w D P N) (a b : Int) : Calls Try.prog 20 #[.pointer (some ⟨P, 0, none⟩), .int .i64 a, .int .i64 b] w (Tells (.int .i64 (lenN N a b)) w) := by
  obtain ⟨H, hs, h⟩ := h
  unfold lenN
  by_cases hi : inN N a b
  · rw [if_pos hi]
    obtain ⟨x, y, rfl, rfl, hx, hy, hxy, _⟩ := ix_of h.e64 hi
    rw [hxy]
    obtain ⟨A, c, _, h2, _⟩ := h.head hx hy
    exact len_yes h.cE h.e64 hx hy h2
  · rw [if_neg hi]
    exact len_no h.cE hi
/-- What First and Take hand back. -/
def GivesO (o : Option (List Int)) (w : World) (e : Ending) (w' : World) : Prop := ∃ v, e = .returned (.tuple #[v, .bool o.isSome]) ∧ w'.ownsRow w.heap.size 5 1 v (o.getD []).length (byV (o.getD [])) ∧ Below w.heap.size w w'
theorem GivesO.nothing (w : World) (e : Ending) (w' : World) (h : Tells (.tuple #[.slice none 0 0, .bool false]) w e w') : GivesO none w e w' := by
  obtain ⟨rfl, rfl⟩ := h
  exact ⟨_, rfl, World.ownsRow_nil _ _ _ _, Below.refl _ _⟩
theorem NetH.first (h : NetH w D P N H hs) {x y : Nat} (hx : x < N.E) (hy : y < N.E) {xs : List Int} {r : List (List Int)} (hq : N.q (x * 64 + y) = xs :: r) :
    ∃ g o c A n1 c1, H (x * 64 + y) = .slice (some ⟨g, o, none⟩) (r.length + 1) c ∧ w.cell? ⟨P, 1 + x * 64 + y, none⟩ = some (.slice (some ⟨g, o, none⟩) (r.length + 1) c) ∧ OwnAt w 0 30 1 (.slice (some ⟨g, o, none⟩) (r.length + 1) c) (r.length + 1) (hs (x * 64 + y)) ∧ r.length + 1 ≤ c ∧
      w.cell? ⟨g, o, none⟩ = some (.slice A n1 c1) ∧ Byts w A n1 c1 xs ∧ n1 ≤ 1048576 := by
  have hE := h.e64
  have hk : x * 64 + y < 4096 := by omega
  obtain ⟨A, c, h1, h2, h3⟩ := h.head hx hy
  rw [hq, List.length_cons] at h1 h2 h3
  rcases h3.2 with ⟨_, hn⟩ | ⟨g, off, cap, cur, hv, _, _, hnc, _⟩
  · omega
  · injection hv with hv1 hv2 hv3
    subst hv1 hv3
    have := h.el _ hk 0 xs (by rw [hq]; rfl)
    obtain ⟨A', n, c', e1, e2, e3, _⟩ := this
    have e4 := h3.cells 0 _ e1
    rw [Addr.add_lit] at e4
    exact ⟨g, off, c, A', n, c', h1, h2, h3, hnc, e4, e2, e3⟩
theorem nfirst_any (h : Net w D P N) (a b : Int) : Calls Try.prog 18 #[.pointer (some ⟨P, 0, none⟩), .int .i64 a, .int .i64 b] w (GivesO (headN N a b) w) := by
  obtain ⟨H, hs, h⟩ := h
  unfold headN
  by_cases hi : inN N a b
  · rw [if_pos hi]
    obtain ⟨x, y, rfl, rfl, hx, hy, hxy, _⟩ := ix_of h.e64 hi
    rw [hxy]
    cases hq : N.q (x * 64 + y) with
    | nil =>
      obtain ⟨A, c, _, h2, _⟩ := h.head hx hy
      rw [hq] at h2
      exact (first_empty h.cE h.e64 hx hy h2).mono (GivesO.nothing w)
    | cons xs r =>
      obtain ⟨g, o, c, A, n1, c1, _, h2, _, h4, h5, h6, h7⟩ := h.first hx hy hq
      refine (first_yes h.cE h.e64 hx hy h2 (by omega) h5 h6 (by omega)).mono ?_
      rintro e w1 ⟨v, rfl, h8, h9⟩
      exact ⟨v, rfl, h8, h9⟩
  · rw [if_neg hi]
    exact (first_no h.cE hi).mono (GivesO.nothing w)
/-- What Take gives. -/
def GivesTk (D : Nat → Prop) (P : Nat) (N : NetS) (a b : Int) (w : World) (e : Ending) (w' : World) : Prop :=
  ∃ v, e = .returned (.tuple #[v, .bool (headN N a b).isSome]) ∧ w'.ownsRow w.heap.size 5 1 v ((headN N a b).getD []).length (byV ((headN N a b).getD [])) ∧ Net w' D P (takeN N a b) ∧ Fr D w w'
theorem Msgs.tail {l : List Value} {Q : List (List Int)} (h : Msgs w D P H l Q) : Msgs w D P H (l.drop 1) Q.tail := fun i xs hi => by
  obtain ⟨A, n, c, h1, h2, h3, h4⟩ := h (i + 1) xs (by rw [← List.getElem?_tail]; exact hi)
  exact ⟨A, n, c, by rw [List.getElem?_drop, Nat.add_comm 1 i]; exact h1, h2, h3, h4⟩
theorem ntake_any (hN : Net w D P N) (a b : Int) : Calls Try.prog 12 #[.pointer (some ⟨P, 0, none⟩), .int .i64 a, .int .i64 b] w (GivesTk D P N a b w) := by
  have hN' := hN
  obtain ⟨H, hs, h⟩ := hN
  have none_ : headN N a b = none → ∀ e w', Tells (.tuple #[.slice none 0 0, .bool false]) w e w' → GivesTk D P N a b w e w' := by
    rintro h0 e w' ⟨rfl, rfl⟩
    unfold GivesTk takeN
    rw [h0]
    exact ⟨_, rfl, World.ownsRow_nil _ _ _ _, by simpa using hN', Fr.refl _ _⟩
  by_cases hi : inN N a b
  · obtain ⟨x, y, rfl, rfl, hx, hy, hxy, hk, hk1, hk2⟩ := ix_of h.e64 hi
    cases hq : N.q (x * 64 + y) with
    | nil =>
      obtain ⟨A, c, _, h2, _⟩ := h.head hx hy
      rw [hq] at h2
      exact (take_empty h.cE h.e64 hx hy h2).mono (none_ (by unfold headN; rw [if_pos hi, hxy, hq]; rfl))
    | cons xs r =>
      have hh : headN N x y = some xs := by unfold headN; rw [if_pos hi, hxy, hq]; rfl
      obtain ⟨g, o, c, A, n1, c1, h1, h2, h3, h4, h5, h6, h7⟩ := h.first hx hy hq
      refine (take_yes h.cE h.e64 hx hy h2 (by omega) h4 h5 h6 (by omega) h.ct h.fz (h.lt P h.dP)).mono ?_
      rintro e w1 ⟨v, w3, rfl, h8, h9, rfl⟩
      unfold GivesTk takeN
      rw [hh]
      rw [hxy] at hk hk1 hk2
      have hcut := cut_own h3 (by omega)
      have hl1 : (hs (x * 64 + y)).length = r.length + 1 := by rw [h.len _ hk, hq]; rfl
      have hl2 : ((hs (x * 64 + y)).drop 1).length = r.length := by rw [List.length_drop, hl1]; omega
      have hb9 : ∀ b, D b → w3.heap[b]? = w.heap[b]? := fun b hb => h9.block b (h.lt b hb)
      have hkeep := h.keep hb9 h9.size
      have hmsg := (hkeep.el _ hk).tail
      rw [hq] at hmsg
      have hown : OwnAt w3 0 30 1 (.slice (some (cutA g o c)) (r.length + 1 - 1) (c - 1)) ((hs (x * 64 + y)).drop 1).length ((hs (x * 64 + y)).drop 1) := by
        rw [hl2]
        exact hcut.then h9
      have hob : (Value.slice (some (cutA g o c)) (r.length + 1 - 1) (c - 1)).ownBlock = some g := by unfold cutA; split <;> rfl
      have hHg : (H (x * 64 + y)).ownBlock = some g := by rw [h1]; rfl
      have hput := hkeep.put (w2 := w3) hk ⟨hk1, hk2⟩ (fun b _ _ => rfl) (Nat.le_refl _) hown (fun b hb => .inl (by rw [hHg, ← hb, hob])) (Q := r) hl2 (fun i xs hi => by
        obtain ⟨A, n, c, e1, e2, e3, e4⟩ := hmsg i xs hi
        exact ⟨A, n, c, e1, e2, e3, fun ad ha => ⟨.inl (e4 ad ha).1, (e4 ad ha).2.1, by rw [hob, ← hHg]; exact (e4 ad ha).2.2 _ hk, (e4 ad ha).2.2⟩⟩)
      rw [grewD_self] at hput
      have hfin := hput.taken (wrap64 (N.t + 1))
      have hne := Nat.ne_of_gt (h.lt P h.dP)
      have hf : Fr (fun b => b = P) w3 ((w3.setCell ⟨P, 1 + (x * 64 + y), none⟩ (.slice (some (cutA g o c)) (r.length + 1 - 1) (c - 1))).setCell ⟨P, 4098, none⟩ (.int .i64 (wrap64 (N.t + 1)))) := ((Fr.refl (fun b => b = P) w3).set (fun _ => rfl) _).set (fun _ => rfl) _
      refine ⟨v, rfl, ?_, ?_, ?_⟩
      · rw [Nat.add_assoc]
        refine own_fr h8 hf ?_
        intro k hk hkP
        have := own_lt h8 k hk
        have := h.lt P h.dP
        omega
      · rw [if_pos (show (some xs).isSome = true from rfl), hxy, hq, Nat.add_assoc]
        exact ⟨_, _, hfin⟩
      · rw [Nat.add_assoc]
        exact ((Fr.of_below (S := D) h9).trans hf (fun i _ e => by subst e; exact h.dP))
  · exact (take_no h.cE hi).mono (none_ (by unfold headN; rw [if_neg hi]))
/-- What Send gives. -/
def GivesSd (D : Nat → Prop) (P : Nat) (N : NetS) (a b : Int) (xs : List Int) (w : World) (e : Ending) (w' : World) : Prop :=
  e = .returned (.int .i64 (sendE N a b xs.length)) ∧ Net w' (grewD D w w') P (sendN N a b xs) ∧ Fr D w w'
theorem nsend_any (hN : Net w D P N) (a b : Int) {A : Option Addr} {n c : Nat} {xs : List Int} (hx : Byts w A n c xs) : Calls Try.prog 14 #[.pointer (some ⟨P, 0, none⟩), .int .i64 a, .int .i64 b, .slice A n c] w (GivesSd D P N a b xs w) := by
  have hN' := hN
  have hl := hx.len
  obtain ⟨H, hs, h⟩ := hN
  have bad : ∀ z : Int, z ≠ 0 → sendE N a b xs.length = z → ∀ e w', Tells (.int .i64 z) w e w' → GivesSd D P N a b xs w e w' := by
    rintro z hz h0 e w' ⟨rfl, rfl⟩
    unfold GivesSd sendN
    rw [h0, if_neg hz, grewD_self]
    exact ⟨rfl, hN', Fr.refl _ _⟩
  by_cases hi : inN N a b
  · have hE0 : sendE N a b xs.length = if 1048576 < xs.length then 3 else if 4096 ≤ (N.q (ix a b)).length then 31 else 0 := by unfold sendE; rw [if_neg (not_not_intro hi)]
    obtain ⟨x, y, rfl, rfl, hx', hy, hxy, hk, hk1, hk2⟩ := ix_of h.e64 hi
    by_cases h1 : 1048576 < xs.length
    · rw [if_pos h1] at hE0
      exact (send_long h.cE h.e64 hx' hy (by omega)).mono (bad 3 (by omega) hE0)
    rw [if_neg h1] at hE0
    obtain ⟨A1, c1, e1, e2, e3⟩ := h.head hx' hy
    by_cases h2 : 4096 ≤ (N.q (ix x y)).length
    · rw [if_pos h2] at hE0
      exact (send_full h.cE h.e64 hx' hy (by omega) e2 (by rw [← hxy]; exact h2)).mono (bad 31 (by omega) hE0)
    rw [if_neg h2] at hE0
    rw [hxy] at hk hk1 hk2 h2
    have hne : (Value.slice A1 (N.q (x * 64 + y)).length c1).ownBlock ≠ some P := by rw [← e1]; exact fun e => (h.hd.dB _ P hk e).2 rfl
    refine (send_yes h.cE h.e64 hx' hy hx (by omega) e2 e3 hne (by omega) h.cs h.fz (Nat.zero_le _)).mono ?_
    rintro e w' ⟨v1, v', w1, w2, rfl, g1, g2, g3, g4, g5, rfl⟩
    unfold GivesSd sendN
    rw [hE0, if_pos rfl, hxy, Nat.add_assoc]
    obtain ⟨A2, c2, rfl, hb2⟩ := own_bytes g1 (by omega)
    have hPlt := h.lt P h.dP
    have hsz : w.heap.size ≤ w2.heap.size := Nat.le_trans g2.size g4.size
    have hl1 : (hs (x * 64 + y) ++ [Value.slice A2 xs.length c2]).length = (N.q (x * 64 + y)).length + 1 := by rw [List.length_append, h.len _ hk]; rfl
    have hput := h.put (w2 := w2) hk ⟨hk1, hk2⟩ (fun b hb hbn => by
        have hlt := h.lt b hb
        rw [← g2.block b hlt]
        exact g4.block b (Nat.lt_of_lt_of_le hlt g2.size) (fun e => hbn (by rw [e1, ← e]))) hsz (v := v') (l := hs (x * 64 + y) ++ [.slice A2 xs.length c2]) (by rw [hl1]; exact g3) (fun b hb => by
        rcases g5 with h5 | h5
        · exact .inl (by rw [e1, ← h5, hb])
        · rw [hb] at h5; injection h5 with h5; exact .inr (by rw [h5]; exact g2.size)) (Q := N.q (x * 64 + y) ++ [xs]) (by rw [hl1, List.length_append]; rfl) (fun i ys hi => by
        by_cases hil : i < (N.q (x * 64 + y)).length
        · rw [List.getElem?_append_left hil] at hi
          obtain ⟨A, n, c, q1, q2, q3, q4⟩ := h.el _ hk i ys hi
          refine ⟨A, n, c, by rw [List.getElem?_append_left (by rw [h.len _ hk]; exact hil)]; exact q1, byts_blocks q2 (fun ad ha => ?_), q3, fun ad ha => ⟨.inl (q4 ad ha).1, (q4 ad ha).2.1, fun e => ?_, (q4 ad ha).2.2⟩⟩
          · have hlt := h.lt _ (q4 ad ha).1
            rw [← g2.block _ hlt]
            exact g4.block _ (Nat.lt_of_lt_of_le hlt g2.size) (fun e => (q4 ad ha).2.2 _ hk (by rw [e1, ← e]))
          · have hlt := h.lt _ (q4 ad ha).1
            rcases g5 with h5 | h5
            · exact (q4 ad ha).2.2 _ hk (by rw [e1, ← h5, e])
            · rw [h5] at e; injection e with e; have := g2.size; omega
        · have hi' : i = (N.q (x * 64 + y)).length := by
            have := (List.getElem?_eq_some_iff.1 hi).1
            rw [List.length_append, List.length_singleton] at this
            omega
          subst hi'
          rw [List.getElem?_append_right (Nat.le_refl _), Nat.sub_self] at hi
          injection hi with hi
          subst hi
          have hlow : ∀ ad, A2 = some ad → w.heap.size ≤ ad.block ∧ ad.block < w1.heap.size := fun ad ha => by subst ha; exact g1.lt ad.block rfl
          refine ⟨A2, xs.length, c2, by rw [List.getElem?_append_right (by rw [h.len _ hk]; exact Nat.le_refl _), h.len _ hk, Nat.sub_self]; rfl, byts_blocks hb2 (fun ad ha => ?_), by omega, fun ad ha => ?_⟩
          · refine g4.block _ (hlow ad ha).2 (fun e => ?_)
            have h6 : (H (x * 64 + y)).ownBlock = some ad.block := by rw [e1, ← e]
            have := h.lt _ (h.hd.dB _ _ hk h6).1
            have := (hlow ad ha).1
            omega
          · have hlo := (hlow ad ha).1
            refine ⟨.inr ⟨hlo, Nat.lt_of_lt_of_le (hlow ad ha).2 g4.size⟩, by omega, fun e => ?_, fun j hj e => ?_⟩
            · rcases g5 with h5 | h5
              · have h6 : (H (x * 64 + y)).ownBlock = some ad.block := by rw [e1, ← h5, e]
                have := h.lt _ (h.hd.dB _ _ hk h6).1
                omega
              · rw [h5] at e; injection e with e; have := (hlow ad ha).2; omega
            · have := h.lt _ (h.hd.dB _ _ hj e).1
              omega)
    have hfin := hput.sent (wrap64 (N.s + 1))
    have hD : grewD D w ((w2.setCell ⟨P, 1 + (x * 64 + y), none⟩ v').setCell ⟨P, 4097, none⟩ (.int .i64 (wrap64 (N.s + 1)))) = grewD D w w2 := by
      unfold grewD
      simp [World.setCell]
    refine ⟨rfl, ?_, ?_⟩
    · rw [hD]
      exact ⟨_, _, hfin⟩
    · refine ((((Fr.of_below (S := D) g2).grown g4 ?_)).set (fun _ => h.dP) _).set (fun _ => h.dP) _
      intro k hk' _
      rw [← e1] at hk'
      exact (h.hd.dB _ _ hk hk').1
  · exact (send_no h.cE hi).mono (bad 2 (by omega) (by unfold sendE; rw [if_pos hi]))
end Go.Proofs.Ytfgjmckdjkfgdaa
