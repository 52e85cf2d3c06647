/- A Reader in memory; contracts of Open, next, Raw, Left, Bad. -/
import Derived.Test.YtnpiocbgbpnlmaaRows
import Derived.Test.YtnpiocbgbpnlmaaWords
import Derived.Test.YtnpiocbgbpnlmaaByts
import Derived.Test.YtnpiocbgbpnlmaaStrs
import Derived.Test.YtnpiocbgbpnlmaaFrame
import Derived.Test.YtnpiocbgbpnlmaaA1
import Derived.Test.YtnpiocbgbpnlmaaA2
namespace Go.Proofs.Ytnpiocbgbpnlmaa
open Go.RowKit Go.Proofs.Tail
set_option linter.unusedSimpArgs false
set_option linter.unusedVariables false
/-- A Reader: what it has yet to read, whether it is spoilt; where its cell is, in which block its bytes are. -/
structure Rr (w : World) (P G : Nat) (xs : List Int) (sp : Bool) : Prop where
  ex : ∃ A n c, Blk w P [.slice A n c, .bool sp] 64 ∧ Byts w A n c xs ∧ ∀ a, A = some a → a.block = G
  ne : P ≠ G
  inb : InB xs
theorem Rr.fr {S : Nat → Prop} {w w' : World} {P G : Nat} {xs : List Int} {sp : Bool} (h : Rr w P G xs sp) (hf : Fr S w w') (h1 : ¬ S P) (h2 : ¬ S G) : Rr w' P G xs sp := by
  obtain ⟨A, n, c, hb, hr, hg⟩ := h.ex
  exact ⟨⟨A, n, c, hb.fr hf h1, byts_fr hr hf (fun a ha => by rw [hg a ha]; exact h2), hg⟩, h.ne, h.inb⟩
theorem Rr.below {w w' : World} {P G : Nat} {xs : List Int} {sp : Bool} (h : Rr w P G xs sp) (hb : Below w.heap.size w w') : Rr w' P G xs sp := h.fr (Fr.of_below (S := fun _ => False) hb) (fun h => h) (fun h => h)
/-- What 'next' answers. -/
def nxt (xs : List Int) (sp : Bool) (k : Int) : List Int × List Int × Bool := if sp = true ∨ k < 0 ∨ (xs.length : Int) < k then ([], [], true) else (xs.take k.toNat, xs.drop k.toNat, false)
theorem nxt_no {xs : List Int} {sp : Bool} {k : Int} (h : sp = true ∨ k < 0 ∨ (xs.length : Int) < k) : nxt xs sp k = ([], [], true) := if_pos h
theorem nxt_yes {xs : List Int} {k : Int} (h0 : 0 ≤ k) (h1 : k ≤ xs.length) : nxt xs false k = (xs.take k.toNat, xs.drop k.toNat, false) := if_neg (by simp; omega)
/-- A slice of what is read there; the Reader has gone on. -/
def Nexts (P G : Nat) (r : List Int × List Int × Bool) (w : World) (e : Ending) (w' : World) : Prop :=
  ∃ A n c, e = .returned (.slice A n c) ∧ Byts w' A n c r.1 ∧ (∀ a, A = some a → a.block = G) ∧ Rr w' P G r.2.1 r.2.2 ∧ Fr (fun k => k = P) w w'
set_option maxHeartbeats 8000000 in
theorem next_any (P G : Nat) (xs : List Int) (sp : Bool) (k : Int) (w : World) (hW : Rr w P G xs sp) (hk : -9223372036854775808 ≤ k ∧ k ≤ 9223372036854775807) :
    Calls Try.prog 29 #[.pointer (some ⟨P, 0, none⟩), .int .i64 k] w (Nexts P G (nxt xs sp k) w) := by
  obtain ⟨A, n, c, hb, hr, hg⟩ := hW.ex
  have hl := hr.len
  have hnc := hr.cap
  have hbig := hr.big
  have c0 : w.cell? ⟨P, 0, none⟩ = some (.slice A n c) := hb.cell 0
  have c1 : w.cell? ⟨P, 1, none⟩ = some (.bool sp) := hb.cell 1
  have f0 := hb.frozen 0
  have f1 := hb.frozen 1
  have HB := Lib.hid hb
  have HR := Lib.hid hr
  have HG := Lib.hid hg
  have HI := Lib.hid hW.inb
  have HN := Lib.hid hW.ne
  have HL := Lib.hid hl
  obtain ⟨k0, k1⟩ := hk
  clear hb hr hg hW hl
  have no : sp = true ∨ k < 0 ∨ (n : Int) < k → Calls Try.prog 29 #[.pointer (some ⟨P, 0, none⟩), .int .i64 k] w (Nexts P G ([], [], true) w) := by
    intro h
    have fin : ∀ w', Fr (fun k => k = P) w w' → Blk w' P [.slice none 0 0, .bool true] 64 → Nexts P G ([], [], true) w (.returned (.slice none 0 0)) w' := fun w' hf hb =>
      ⟨none, 0, 0, rfl, Rd.nil _ _ _, (fun a ha => by cases ha), ⟨⟨none, 0, 0, hb, Rd.nil _ _ _, (fun a ha => by cases ha)⟩, HN.out, by intro x hx; simp at hx⟩, hf⟩
    have FIN := Lib.hid fin
    clear fin
    have ft := Fr.refl (fun k => k = P) w
    have FF : Hid (Fr (fun k => k = P) w ((w.setCell ⟨P, 1, none⟩ (.bool true)).setCell ⟨P, 0, none⟩ (.slice none 0 0))) := Lib.hid ((ft.set (p := ⟨P, 1, none⟩) (fun _ => rfl) _).set (p := ⟨P, 0, none⟩) (fun _ => rfl) _)
    have FB : Hid (Blk ((w.setCell ⟨P, 1, none⟩ (.bool true)).setCell ⟨P, 0, none⟩ (.slice none 0 0)) P [.slice none 0 0, .bool true] 64) := Lib.hid ((HB.out.set 1 (.bool true)).set 0 (.slice none 0 0))
    clear ft
    cases sp with
    | true =>
      clear h
      go_enter Try.func29, Try.ntmps29
      go_wp2_with fail
      go_ret
      exact FIN.out _ FF.out FB.out
    | false =>
      by_cases hk0 : k < 0
      · have hd : decide (k < 0) = true := decide_eq_true hk0
        clear h
        go_enter Try.func29, Try.ntmps29
        go_wp2_with fail
        go_ret
        exact FIN.out _ FF.out FB.out
      · have hd : decide (k < 0) = false := decide_eq_false hk0
        have hn : (n : Int) < k := by simpa [hk0] using h
        have hd2 : decide ((n : Int) < k) = true := decide_eq_true hn
        clear h
        go_enter Try.func29, Try.ntmps29
        go_wp2_with fail
        go_ret
        exact FIN.out _ FF.out FB.out
  by_cases hno : sp = true ∨ k < 0 ∨ (n : Int) < k
  · have := no hno
    rwa [← nxt_no (xs := xs) (by rw [HL.out]; exact hno)] at this
  · obtain ⟨h1, h2, h3⟩ : sp = false ∧ 0 ≤ k ∧ k ≤ n := by
      cases sp
      · simp at hno; exact ⟨rfl, by omega, by omega⟩
      · simp at hno
    clear no hno
    subst h1
    rw [nxt_yes h2 (by rw [HL.out]; exact h3)]
    obtain ⟨m, rfl⟩ := Int.eq_ofNat_of_zero_le h2
    have hmn : m ≤ n := by omega
    rw [Int.toNat_natCast]
    have hd : decide ((m : Int) < 0) = false := decide_eq_false (by omega)
    have hd2 : decide ((n : Int) < (m : Int)) = false := decide_eq_false (by omega)
    have hd2' : decide (n < m) = false := decide_eq_false (by omega)
    have hd3 : decide ((n : Int) < 0) = false := decide_eq_false (by omega)
    have fin : ∀ A1 A2 c1 c2, Byts w A1 m c1 (xs.take m) → (∀ a, A1 = some a → a.block = G) → Byts w A2 (n - m) c2 (xs.drop m) → (∀ a, A2 = some a → a.block = G) →
        Nexts P G (xs.take m, xs.drop m, false) w (.returned (.slice A1 m c1)) ((w.setCell ⟨P, 1, none⟩ (.bool false)).setCell ⟨P, 0, none⟩ (.slice A2 (n - m) c2)) := by
      intro A1 A2 c1 c2 r1 g1 r2 g2
      have ff : Fr (fun k => k = P) w ((w.setCell ⟨P, 1, none⟩ (.bool false)).setCell ⟨P, 0, none⟩ (.slice A2 (n - m) c2)) := ((Fr.refl (fun k => k = P) w).set (p := ⟨P, 1, none⟩) (fun _ => rfl) _).set (p := ⟨P, 0, none⟩) (fun _ => rfl) _
      have hne := HN.out
      refine ⟨A1, m, c1, rfl, byts_fr r1 ff (fun a ha => by rw [g1 a ha]; exact fun e => hne e.symm), g1, ⟨⟨A2, n - m, c2, (HB.out.set 1 (.bool false)).set 0 _, byts_fr r2 ff (fun a ha => by rw [g2 a ha]; exact fun e => hne e.symm), g2⟩, hne, fun x hx => HI.out x (List.mem_of_mem_drop hx)⟩, ff⟩
    have FIN := Lib.hid fin
    clear fin
    have T1 := HR.out
    rcases Nat.eq_zero_or_pos n with hn | hn
    · subst hn
      obtain rfl : m = 0 := by omega
      have hxs : xs = [] := List.eq_nil_of_length_eq_zero HL.out
      have HXS := Lib.hid hxs
      clear hxs T1
      have e1 : ∀ (A' : Option Addr) c', Byts w A' 0 c' (xs.take 0) := fun A' c' => ⟨by simp, Nat.zero_le _, by omega, fun h => absurd h (Nat.lt_irrefl _)⟩
      have e2 : ∀ (A' : Option Addr) c', Byts w A' (0 - 0) c' (xs.drop 0) := fun A' c' => ⟨by simp [HXS.out], Nat.zero_le _, by omega, fun h => absurd h (Nat.lt_irrefl _)⟩
      have E1 := Lib.hid e1
      have E2 := Lib.hid e2
      clear e1 e2
      by_cases hc0 : c = 0
      · subst hc0
        go_enter Try.func29, Try.ntmps29
        go_wp2_with fail
        go_ret
        exact FIN.out A A 0 0 (E1.out _ _) HG.out (E2.out _ _) HG.out
      · cases A with
        | none =>
          go_enter Try.func29, Try.ntmps29
          go_wp2_with fail
          go_ret
          exact FIN.out none none 0 c (E1.out _ _) HG.out (E2.out _ _) HG.out
        | some ad =>
          go_enter Try.func29, Try.ntmps29
          go_wp2_with fail
          go_ret
          exact FIN.out (some ad) (some ad) 0 c (E1.out _ _) HG.out (E2.out _ _) HG.out
    · obtain ⟨b, off, rfl, _⟩ := HR.out.at_ hn
      have hbG : b = G := HG.out _ rfl
      have HBG := Lib.hid hbG
      clear hbG T1
      by_cases hm0 : m = 0
      · subst hm0
        have hc0 : c ≠ 0 := by omega
        go_enter Try.func29, Try.ntmps29
        go_wp2_with fail
        go_ret
        exact FIN.out (some ⟨b, off, none⟩) (some ⟨b, off, none⟩) 0 c (byts_take HR.out (Nat.zero_le _) (Nat.le_refl _)) HG.out (by simpa using HR.out) HG.out
      · by_cases hcm : c = m
        · have hnm : n = m := by omega
          subst hcm
          subst hnm
          have E2 := Lib.hid (show Byts w (some ⟨b, off, none⟩) (n - n) 0 (xs.drop n) from ⟨by simp [HL.out], by omega, by omega, fun h => by omega⟩)
          go_enter Try.func29, Try.ntmps29
          go_wp2_with fail
          go_ret
          have := FIN.out (some ⟨b, off, none⟩) (some ⟨b, off, none⟩) n 0 (byts_take HR.out (Nat.le_refl _) (Nat.le_refl _)) HG.out E2.out HG.out
          simpa using this
        · go_enter Try.func29, Try.ntmps29
          go_wp2_with fail
          go_ret
          exact FIN.out (some ⟨b, off, none⟩) (some ⟨b, off + m, none⟩) m (c - m) (byts_take HR.out hmn (Nat.le_refl _)) HG.out (byts_drop HR.out hmn (by omega)) (fun a ha => by cases ha; exact HBG.out)
end Go.Proofs.Ytnpiocbgbpnlmaa
