/- A net alone, from a world on; works. -/
import Derived.Test.YtfgjmckdjkfgdaaRows
import Derived.IntWalk
import Derived.Lib.ConvBytes
import Derived.Lib.SlBytesConst
import Derived.Test.YtfgjmckdjkfgdaaWords
import Derived.Test.YtfgjmckdjkfgdaaByts
import Derived.Test.YtfgjmckdjkfgdaaStrs
import Derived.Test.YtfgjmckdjkfgdaaFrame
import Derived.Test.YtfgjmckdjkfgdaaElems
import Derived.Test.YtfgjmckdjkfgdaaHeads
import Derived.Test.YtfgjmckdjkfgdaaN10
import Derived.Test.YtfgjmckdjkfgdaaN11
import Derived.Test.YtfgjmckdjkfgdaaN12
import Derived.Test.YtfgjmckdjkfgdaaN13
import Derived.Test.YtfgjmckdjkfgdaaN14
import Derived.Test.YtfgjmckdjkfgdaaT2
import Derived.Test.YtfgjmckdjkfgdaaT4
namespace Go.Proofs.Ytfgjmckdjkfgdaa
open Go Go.RowKit Go.Proofs.Tail
set_option linter.unusedSimpArgs false
set_option linter.unusedVariables false
variable {w w' w2 w0 : World} {D : Nat → Prop} {P : Nat} {N : NetS}
/-- A net that was made from w0 on. -/
structure NS (w0 : World) (D : Nat → Prop) (P : Nat) (N : NetS) (w : World) : Prop where
  net : Net w D P N
  low : ∀ k, D k → w0.heap.size ≤ k
  b : Below w0.heap.size w0 w
theorem NS.then (h : NS w0 D P N w) (hb : Below w.heap.size w w') : NS w0 D P N w' := ⟨h.net.below hb, h.low, h.b.trans (hb.mono h.b.size)⟩
theorem NS.fr (h : NS w0 D P N w) {S : Nat → Prop} (hf : Fr S w w') (h1 : ∀ k, D k → ¬ S k) (h2 : ∀ k, S k → w0.heap.size ≤ k) : NS w0 D P N w' := ⟨h.net.fr hf h1, h.low, h.b.trans (hf.below h.b.size (fun k hk hd => by have := h2 k hd; omega))⟩
theorem ns_new (E : Int) (h : Below w0.heap.size w0 w) : Calls Try.prog 8 #[.int .i64 E] w fun e w' => e = .returned (.pointer (some ⟨w.heap.size, 0, none⟩)) ∧ NS w0 (fun b => b = w.heap.size) w.heap.size ⟨endsN E, fun _ => [], 0, 0⟩ w' ∧ Below w.heap.size w w' := by
  refine (nnew_any E w).mono ?_
  rintro e w1 ⟨rfl, h1, h2⟩
  exact ⟨rfl, ⟨h1, (fun k hk => by rw [hk]; exact h.size), h.trans (h2.mono h.size)⟩, h2⟩
theorem ns_send (h : NS w0 D P N w) (a b : Int) {A : Option Addr} {n c : Nat} {xs : List Int} (hx : Byts w A n c xs) : Calls Try.prog 14 #[.pointer (some ⟨P, 0, none⟩), .int .i64 a, .int .i64 b, .slice A n c] w fun e w' => e = .returned (.int .i64 (sendE N a b xs.length)) ∧ NS w0 (grewD D w w') P (sendN N a b xs) w' ∧ Fr D w w' := by
  refine (nsend_any h.net a b hx).mono ?_
  rintro e w1 ⟨rfl, g1, g2⟩
  refine ⟨rfl, ⟨g1, fun k hk => ?_, h.b.trans (g2.below h.b.size (fun k hk hd => by have := h.low k hd; omega))⟩, g2⟩
  rcases hk with hk | hk
  · exact h.low k hk
  · exact Nat.le_trans h.b.size hk.1
theorem ns_take (h : NS w0 D P N w) (a b : Int) : Calls Try.prog 12 #[.pointer (some ⟨P, 0, none⟩), .int .i64 a, .int .i64 b] w fun e w' => ∃ v, e = .returned (.tuple #[v, .bool (headN N a b).isSome]) ∧ w'.ownsRow w.heap.size 5 1 v ((headN N a b).getD []).length (byV ((headN N a b).getD [])) ∧ NS w0 D P (takeN N a b) w' ∧ Fr D w w' := by
  refine (ntake_any h.net a b).mono ?_
  rintro e w1 ⟨v, rfl, g1, g2, g3⟩
  exact ⟨v, rfl, g1, ⟨g2, h.low, h.b.trans (g3.below h.b.size (fun k hk hd => by have := h.low k hd; omega))⟩, g3⟩
theorem ns_clear (h : NS w0 D P N w) (a : Int) : Calls Try.prog 13 #[.pointer (some ⟨P, 0, none⟩), .int .i64 a] w fun e w' => e = .returned (.tuple #[]) ∧ NS w0 D P (clearN N a) w' ∧ Fr D w w' := by
  refine (nclear_any h.net a).mono ?_
  rintro e w1 ⟨rfl, g2, g3⟩
  exact ⟨rfl, ⟨g2, h.low, h.b.trans (g3.below h.b.size (fun k hk hd => by have := h.low k hd; omega))⟩, g3⟩
theorem ns_links (h : NS w0 D P N w) : Calls Try.prog 15 #[.pointer (some ⟨P, 0, none⟩)] w fun e w' => ∃ v, e = .returned v ∧ w'.ownsRow w.heap.size 46 2 v (linksN N).length (recP (linksN N)) ∧ Below w.heap.size w w' := by
  refine (links_any h.net).mono ?_
  rintro e w1 ⟨v, rfl, g1, g2⟩
  exact ⟨v, rfl, g1, g2⟩
theorem byts_new (w : World) (cs : List Value) (xs : List Int) (f : Nat × Nat) (h : cs = byV xs) (hb : xs.length ≤ 100) : Byts (w.alloc (.cells cs.toArray 5 f)) (some ⟨w.heap.size, 0, none⟩) xs.length xs.length xs := by
  subst h
  refine ⟨rfl, Nat.le_refl _, by omega, fun _ => ⟨w.heap.size, 0, rfl, fun j x hj => ?_⟩⟩
  have hh := heap_alloc_new w (.cells (byV xs).toArray 5 f)
  unfold RByte World.cell?
  dsimp only
  rw [hh, Nat.zero_add, Nat.mul_one]
  simp [byV, hj]
def wk0 : NetS := ⟨endsN 2, fun _ => [], 0, 0⟩
def wk1 : NetS := sendN wk0 0 1 [97]
def wk2 : NetS := sendN wk1 0 1 [98]
def wk3 : NetS := sendN wk2 1 1 [99]
def wk4 : NetS := takeN wk3 0 1
def wk5 : NetS := clearN wk4 1
theorem wk_e1 : sendE wk0 0 1 1 = 0 := by decide
theorem wk_e2 : sendE wk1 0 1 1 = 0 := by decide
theorem wk_e3 : sendE wk2 1 1 1 = 0 := by decide
theorem wk_l3 : linksN wk3 = [(0, 1), (1, 1)] := by decide
theorem wk_h : headN wk3 0 1 = some [97] := by decide
theorem wk_l5 : linksN wk5 = [] := by decide
theorem wk_s : wk5.s = 3 ∧ wk5.t = 1 ∧ wk5.E = 2 := by decide +kernel
theorem ns_len (h : NS w0 D P N w) (a b : Int) : Calls Try.prog 20 #[.pointer (some ⟨P, 0, none⟩), .int .i64 a, .int .i64 b] w (Tells (.int .i64 (lenN N a b)) w) := by
  exact nlen_any h.net a b
theorem ns_ends (h : NS w0 D P N w) : Calls Try.prog 19 #[.pointer (some ⟨P, 0, none⟩)] w (Tells (.int .i64 N.E) w) := by
  exact nends_any h.net
theorem ns_sent (h : NS w0 D P N w) : Calls Try.prog 16 #[.pointer (some ⟨P, 0, none⟩)] w (Tells (.int .i64 N.s) w) := by
  exact nsent_any h.net
theorem ns_taken (h : NS w0 D P N w) : Calls Try.prog 17 #[.pointer (some ⟨P, 0, none⟩)] w (Tells (.int .i64 N.t) w) := by
  exact ntaken_any h.net
set_option maxRecDepth 100000 in
set_option maxHeartbeats 16000000 in
theorem works_any (w : World) : Calls Try.prog 7 #[] w (Gives (.bool true) w) := by
  have kc := fun (w : World) (C : Array Value) (n c : Nat) => Lib.run_convert_bytes_const (P := Try.prog) w 30 5 C n c Try.underlying30 Try.underlying5
  have HN := Lib.hid (ns_new 2 (Below.refl w.heap.size w))
  go_enter Try.func7, Try.ntmps7
  go_wp2_with fail
  refine HN.out.mono ?_
  rintro e w1 ⟨rfl, h1, _⟩
  generalize (fun b => b = w.heap.size : Nat → Prop) = E0 at *
  have H1 := Lib.hid h1
  clear h1 HN
  have C1 := Lib.hid (ns_send (H1.out.then (below_new w1 (.cells #[.int .u8 97] 5 (1, 2)))) 0 1 (byts_new w1 _ [97] (1, 2) rfl (by decide)))
  rw [show (⟨endsN 2, fun _ => [], 0, 0⟩ : NetS) = wk0 from rfl, show sendE wk0 0 1 ([97] : List Int).length = 0 from wk_e1] at C1
  go_wp2_with fail
  refine C1.out.mono ?_
  rintro e w2 ⟨rfl, h2, _⟩
  generalize grewD E0 _ w2 = E1 at *
  have H2 := Lib.hid h2
  clear h2 C1 H1
  have C1 := Lib.hid (ns_send (H2.out.then (below_new w2 (.cells #[.int .u8 98] 5 (1, 2)))) 0 1 (byts_new w2 _ [98] (1, 2) rfl (by decide)))
  rw [show sendN wk0 0 1 [97] = wk1 from rfl, show sendE wk1 0 1 ([98] : List Int).length = 0 from wk_e2] at C1
  go_wp2_with fail
  refine C1.out.mono ?_
  rintro e w3 ⟨rfl, h3, _⟩
  generalize grewD E1 _ w3 = E2 at *
  have H3 := Lib.hid h3
  clear h3 C1 H2
  have C1 := Lib.hid (ns_send (H3.out.then (below_new w3 (.cells #[.int .u8 99] 5 (1, 2)))) 1 1 (byts_new w3 _ [99] (1, 2) rfl (by decide)))
  rw [show sendN wk1 0 1 [98] = wk2 from rfl, show sendE wk2 1 1 ([99] : List Int).length = 0 from wk_e3] at C1
  go_wp2_with fail
  refine C1.out.mono ?_
  rintro e w4 ⟨rfl, h4, _⟩
  generalize grewD E2 _ w4 = E3 at *
  rw [show sendN wk2 1 1 [99] = wk3 from rfl] at h4
  have H4 := Lib.hid h4
  have C2 := Lib.hid (ns_links h4)
  rw [wk_l3] at C2
  clear h4 C1 H3
  go_wp2_with fail
  refine C2.out.mono ?_
  rintro e w5 ⟨v, rfl, hv, h5⟩
  have H5 := Lib.hid (H4.out.then h5)
  have C3 := Lib.hid (ns_take H5.out 0 1)
  rw [wk_h, show takeN wk3 0 1 = wk4 from rfl] at C3
  have HV := Lib.hid hv
  have HLO := Lib.hid (show ∀ k, E3 k → k < w4.heap.size from H4.out.net.lt)
  have HB5 := Lib.hid h5
  clear C2 hv h5 H4
  go_wp2_with fail
  refine C3.out.mono ?_
  rintro e w6 ⟨v2, rfl, hv2, h6, f6⟩
  have H6 := Lib.hid h6
  have C4 := Lib.hid (ns_clear h6 1)
  rw [show clearN wk4 1 = wk5 from rfl] at C4
  have HV6 := Lib.hid (own_fr HV.out f6 (fun k hk hd => by have := own_lt HV.out k hk; have := HLO.out k hd; omega))
  have HV2 := Lib.hid hv2
  clear C3 hv2 h6 f6 HV H5
  go_wp2_with fail
  refine C4.out.mono ?_
  rintro e w7 ⟨rfl, h7, f7⟩
  have HV7 := own_fr HV6.out f7 (fun k hk hd => by have := own_lt HV6.out k hk; have := HLO.out k hd; omega)
  have HV27 := own_fr HV2.out f7 (fun k hk hd => by have := own_lt HV2.out k hk; have := HLO.out k hd; have := HB5.out.size; omega)
  obtain ⟨A1, c1, rfl, hr⟩ := own_pairs HV7
  obtain ⟨A2, c2, rfl, hb2⟩ := own_bytes HV27 (by decide)
  have hcv := run_convert_byts w7 30 5 Try.underlying30 Try.underlying5 hb2 9 Try.underlying9
  obtain ⟨g, o, rfl, hc⟩ := hr.at_ (by decide)
  obtain ⟨p00, p01⟩ := hc 0 (0, 1) rfl
  obtain ⟨p10, p11⟩ := hc 1 (1, 1) rfl
  have r00 : w7.cell? ⟨g, o, none⟩ = some (.int .i64 0) := by simpa using p00
  have r01 : w7.cell? ⟨g, o + 1, none⟩ = some (.int .i64 1) := by simpa using p01
  have r10 : w7.cell? ⟨g, o + 2, none⟩ = some (.int .i64 1) := by simpa using p10
  have r11 : w7.cell? ⟨g, o + 2 + 1, none⟩ = some (.int .i64 1) := by simpa using p11
  have s97 : strOfNums ((some [97]).getD ([] : List Int)) = ⟨#[97]⟩ := by decide
  rw [s97] at hcv
  replace hcv : (convert 30 9 (.slice A2 1 c2)).run Try.prog w7 = .ok (.string ⟨#[97]⟩) w7 := hcv
  have K1 := Lib.hid (ns_links h7)
  rw [wk_l5] at K1
  have K2 := Lib.hid h7
  clear p00 p01 p10 p11 s97 hr hc hb2 HV7 HV27 f7 HV6 HV2 C4 H6 h7
  go_wp2_with fail
  refine K1.out.mono ?_
  rintro e w8 ⟨v, rfl, hv8, h8⟩
  obtain ⟨A8, c8, rfl⟩ := (OwnAt.of hv8).form
  have K3 := Lib.hid (K2.out.then h8)
  have HB8 := Lib.hid (K3.out.b)
  have M1 := Lib.hid (ns_sent K3.out)
  have M2 := Lib.hid (ns_taken K3.out)
  have M3 := Lib.hid (ns_ends K3.out)
  rw [wk_s.1] at M1
  rw [wk_s.2.1] at M2
  rw [wk_s.2.2] at M3
  clear hv8 h8 K1 K2 K3 hcv r00 r01 r10 r11
  go_wp2_with (first
    | (go_at_call 16; (with_reducible refine M1.out.mono ?_); rintro e wz ⟨rfl, rfl⟩)
    | (go_at_call 17; (with_reducible refine M2.out.mono ?_); rintro e wz ⟨rfl, rfl⟩)
    | (go_at_call 19; (with_reducible refine M3.out.mono ?_); rintro e wz ⟨rfl, rfl⟩))
  go_ret
  exact .bool rfl HB8.out
end Go.Proofs.Ytfgjmckdjkfgdaa
