/- Contracts of Open, slices.Clone, the Reader's Raw, Left, Bad. -/
import Derived.Test.YtnpiocbgbpnlmaaRows
import Derived.Test.YtnpiocbgbpnlmaaWords
import Derived.Test.YtnpiocbgbpnlmaaByts
import Derived.Test.YtnpiocbgbpnlmaaStrs
import Derived.Test.YtnpiocbgbpnlmaaFrame
import Derived.Test.YtnpiocbgbpnlmaaA1
import Derived.Test.YtnpiocbgbpnlmaaA4
namespace Go.Proofs.Ytnpiocbgbpnlmaa
open Go.RowKit Go.Proofs.Tail
set_option linter.unusedSimpArgs false
set_option linter.unusedVariables false
/-- A Reader of bytes, new. -/
def Opened (xs : List Int) (w : World) (e : Ending) (w' : World) : Prop :=
  ∃ P G, e = .returned (.pointer (some ⟨P, 0, none⟩)) ∧ Rr w' P G xs false ∧ w.heap.size ≤ P ∧ w.heap.size ≤ G ∧ Below w.heap.size w w'
set_option maxHeartbeats 4000000 in
theorem open_any (A : Option Addr) (n c : Nat) (xs : List Int) (w : World) (hR : Byts w A n c xs) (hI : InB xs) (hlim : n ≤ 140737488355328) :
    Calls Try.prog 15 #[.slice A n c] w (Opened xs w) := by
  have HR := Lib.hid hR
  have HI := Lib.hid hI
  clear hR hI
  go_enter Try.func15, Try.ntmps15
  go_wp2_with (at_builtin; (refine own_append_bytes (W := w) rfl _ (.tmp 3) 23 5 rfl Try.underlying23 infoB w.heap.size (.slice none 0 0) [] A n c xs rfl rfl (World.ownsRow_nil _ _ _ _) HR.out (by simp; omega) (Nat.le_refl _) ?_); intro v1 w1 hown hgr hat; have hx : ([] ++ xs).length = xs.length := rfl; obtain ⟨A1, k1, rfl, hr1⟩ := own_bytes hown (by have := HR.out.len; simp; omega); have HO := Lib.hid hown; have HX := Lib.hid hr1; have HB := Lib.hid (below_grown (Below.refl w.heap.size w) hgr (fun k hk => by simp [Value.ownBlock] at hk)); clear hown hgr hat hr1 hx)
  go_ret
  have hb2 := below_alloc HB.out (.cells #[.slice A1 xs.length k1, .bool false] 64)
  have hbk := Blk.new w1 [.slice A1 xs.length k1, .bool false] 64 _ rfl
  have hr2 := HX.out.below RByte.stays (below_new w1 (.cells #[.slice A1 xs.length k1, .bool false] 64))
  have hs := HB.out.size
  cases A1 with
  | none => exact ⟨_, w1.heap.size + 1, rfl, ⟨⟨_, _, _, hbk, hr2, fun a ha => by cases ha⟩, by omega, HI.out⟩, hs, by omega, hb2⟩
  | some a =>
    have hlt := HO.out.lt _ rfl
    exact ⟨_, a.block, rfl, ⟨⟨_, _, _, hbk, hr2, fun a' ha => by cases ha; rfl⟩, by omega, HI.out⟩, hs, hlt.1, hb2⟩
set_option maxHeartbeats 4000000 in
theorem clone_any (A : Option Addr) (n c : Nat) (xs : List Int) (w : World) (hR : Byts w A n c xs) (hlim : n ≤ 140737488355328) :
    Calls Try.prog 28 #[.slice A n c] w (GivesRow1 xs w) := by
  have HR := Lib.hid hR
  have hl := hR.len
  cases A with
  | none =>
    have h0 : n = 0 := by
      rcases Nat.eq_zero_or_pos n with h | h
      · exact h
      · obtain ⟨b, o, e, _⟩ := hR.at_ h; cases e
    subst h0
    obtain rfl := List.eq_nil_of_length_eq_zero hl
    have he : ∀ w, (binOp .eql 23 (.slice none 0 c) (.slice none 0 0)).run Try.prog w = .ok (.bool true) w := fun w => Lib.run_eql_slice_nil w _ _ none 0 c 0 0 Try.underlying23
    clear hl hR
    go_enter Try.func28, Try.ntmps28
    go_wp2_with fail
    go_ret
    exact ⟨_, rfl, World.ownsRow_nil _ _ _ _, Below.refl _ _⟩
  | some ad =>
    clear hR
    have HL := Lib.hid hl
    clear hl
    have he : ∀ w, (binOp .eql 23 (.slice (some ad) n c) (.slice none 0 0)).run Try.prog w = .ok (.bool false) w := fun w => Lib.run_eql_slice_nil w _ _ (some ad) n c 0 0 Try.underlying23
    go_enter Try.func28, Try.ntmps28
    go_wp2_with (at_builtin; (refine own_append_bytes (W := w.alloc (.cells #[] 5)) rfl (.tmp 5) (.tmp 6) 23 5 rfl Try.underlying23 infoB w.heap.size (.slice (some ⟨w.heap.size, 0, none⟩) 0 0) [] (some ad) n c xs rfl rfl ⟨rfl, .inr ⟨_, _, #[], rfl, Nat.le_refl _, heap_alloc_new w _, Nat.le_refl _, by decide, by simp, by simp [byV]⟩⟩ (HR.out.below RByte.stays (below_new w _)) (by simp; omega) (by simp) ?_); intro v1 w1 hown hgr hat; have HO := Lib.hid hown; have HB := Lib.hid (below_grown (below_new w _) hgr (fun k hk => by simp [Value.ownBlock] at hk; omega)); clear hown hgr hat)
    go_ret
    exact ⟨_, rfl, HO.out, HB.out⟩
/-- What Raw of a Reader gives. -/
def RawGives (P G : Nat) (r : List Int × List Int × Bool) (w : World) (e : Ending) (w' : World) : Prop :=
  ∃ v, e = .returned v ∧ w'.ownsRow w.heap.size 5 1 v r.1.length (byV r.1) ∧ Rr w' P G r.2.1 r.2.2 ∧ Fr (fun k => k = P) w w'
theorem nxt_len (xs : List Int) (sp : Bool) (k : Int) : (nxt xs sp k).1.length ≤ xs.length := by
  unfold nxt
  split
  · simp
  · simp [List.length_take]; omega
set_option maxHeartbeats 4000000 in
theorem rraw_any (P G : Nat) (xs : List Int) (sp : Bool) (k : Int) (w : World) (hW : Rr w P G xs sp) (hk : -9223372036854775808 ≤ k ∧ k ≤ 9223372036854775807) (hlim : xs.length ≤ 140737488355328) :
    Calls Try.prog 16 #[.pointer (some ⟨P, 0, none⟩), .int .i64 k] w (RawGives P G (nxt xs sp k) w) := by
  have H := Lib.hid (next_any P G xs sp k w hW hk)
  have HN := Lib.hid (nxt_len xs sp k)
  have hP := Lib.hid (show P < w.heap.size by obtain ⟨_, _, _, hb, _⟩ := hW.ex; exact hb.lt)
  generalize nxt xs sp k = r at H HN
  obtain ⟨r1, r2, r3⟩ := r
  clear hW
  go_enter Try.func16, Try.ntmps16
  go_wp2_with fail
  refine H.out.mono ?_
  rintro e w1 ⟨A, n, c, rfl, hr, hg, hR, hf⟩
  have HX := Lib.hid hr
  have HF := Lib.hid hf
  have HRR := Lib.hid hR
  have hl := hr.len
  have hn := HN.out
  dsimp only at hl hn HX
  clear hr hg hR hf
  have HC := Lib.hid (clone_any A n c r1 w1 HX.out (by omega))
  clear hl
  go_wp2_with fail
  refine HC.out.mono ?_
  rintro e w2 ⟨v, rfl, ho, hb⟩
  have HO := Lib.hid ho
  have HB := Lib.hid hb
  clear ho hb
  go_wp2_with fail
  go_ret
  exact ⟨_, rfl, own_base HO.out HF.out.size, HRR.out.below HB.out, HF.out.then HB.out⟩
set_option maxHeartbeats 4000000 in
theorem left_any (P G : Nat) (xs : List Int) (sp : Bool) (w : World) (hW : Rr w P G xs sp) :
    Calls Try.prog 20 #[.pointer (some ⟨P, 0, none⟩)] w (Tells (.int .i64 xs.length) w) := by
  obtain ⟨A, n, c, hb, hr, hg⟩ := hW.ex
  have c0 : w.cell? ⟨P, 0, none⟩ = some (.slice A n c) := hb.cell 0
  have HL := Lib.hid hr.len
  clear hb hr hg hW
  go_enter Try.func20, Try.ntmps20
  go_wp2_with fail
  go_ret
  exact .int (by rw [HL.out])
set_option maxHeartbeats 4000000 in
theorem bad_any (P G : Nat) (xs : List Int) (sp : Bool) (w : World) (hW : Rr w P G xs sp) :
    Calls Try.prog 21 #[.pointer (some ⟨P, 0, none⟩)] w (Tells (.bool sp) w) := by
  obtain ⟨A, n, c, hb, hr, hg⟩ := hW.ex
  have c0 : w.cell? ⟨P, 1, none⟩ = some (.bool sp) := hb.cell 1
  clear hb hr hg hW
  go_enter Try.func21, Try.ntmps21
  go_wp2_with fail
  go_ret
  exact .bool rfl
end Go.Proofs.Ytnpiocbgbpnlmaa
