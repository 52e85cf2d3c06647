/- Plain: sixteen rows under Take, Send, Clear. -/
import Derived.Test.YtfgjmckdjkfgdaaRows
import Derived.Test.YtfgjmckdjkfgdaaWords
import Derived.Test.YtfgjmckdjkfgdaaHeads
import Derived.Test.YtfgjmckdjkfgdaaN10
import Derived.Test.YtfgjmckdjkfgdaaN11
import Derived.Test.YtfgjmckdjkfgdaaN12
import Derived.Test.YtfgjmckdjkfgdaaN13
import Derived.Test.YtfgjmckdjkfgdaaO1
namespace Go.Proofs.Ytfgjmckdjkfgdaa
open Go Go.RowKit Go.Proofs.Tail
set_option linter.unusedVariables false
variable {N : NetS} {q : Nat → List (List Int)}
theorem in4 (hE : N.E = 4) {a b : Nat} (ha : a < 4) (hb : b < 4) : inN N a b := ⟨by omega, by omega, by omega, by omega⟩
theorem ix4 (a b : Nat) : ix a b = a * 64 + b := by unfold ix; omega
theorem qr_at {a b : Nat} (ha : a < 4) (hb : b < 4) : qr N (a * 4 + b) = N.q (a * 64 + b) := by
  unfold qr
  rw [show (a * 4 + b) / 4 = a by omega, show (a * 4 + b) % 4 = b by omega]
theorem qr_upd (hq : ∀ k, k < 16 → q k = qr N k) {a b : Nat} (ha : a < 4) (hb : b < 4) (l : List (List Int)) {N' : NetS} (hN : N'.q = upd N.q (a * 64 + b) l) : ∀ k, k < 16 → upd q (a * 4 + b) l k = qr N' k := fun k hk => by
  unfold qr
  rw [hN]
  by_cases h : k = a * 4 + b
  · subst h
    rw [upd_same, show (a * 4 + b) / 4 = a by omega, show (a * 4 + b) % 4 = b by omega, upd_same]
  · rw [upd_other _ _ h, upd_other _ _ (by omega), hq k hk]
    rfl
theorem head_none (hE : N.E = 4) (hq : ∀ k, k < 16 → q k = qr N k) {a b : Nat} (ha : a < 4) (hb : b < 4) (h : q (a * 4 + b) = []) : headN N a b = none ∧ takeN N a b = N := by
  have h1 : headN N a b = none := by
    unfold headN
    rw [if_pos (in4 hE ha hb), ix4, ← qr_at ha hb, ← hq _ (by omega), h]
    rfl
  exact ⟨h1, by unfold takeN; rw [h1]; rfl⟩
theorem head_some (hE : N.E = 4) (hq : ∀ k, k < 16 → q k = qr N k) {a b : Nat} (ha : a < 4) (hb : b < 4) {xs : List Int} {r : List (List Int)} (h : q (a * 4 + b) = xs :: r) :
    headN N a b = some xs ∧ (takeN N a b).E = 4 ∧ (takeN N a b).s = N.s ∧ (takeN N a b).t = wrap64 (N.t + 1) ∧ ∀ k, k < 16 → upd q (a * 4 + b) r k = qr (takeN N a b) k := by
  have h0 : N.q (a * 64 + b) = xs :: r := by rw [← qr_at ha hb, ← hq _ (by omega), h]
  have h1 : headN N a b = some xs := by
    unfold headN
    rw [if_pos (in4 hE ha hb), ix4, h0]
    rfl
  have h2 : takeN N a b = { N with q := upd N.q (a * 64 + b) r, t := wrap64 (N.t + 1) } := by
    unfold takeN
    rw [h1, if_pos (show (some xs).isSome = true from rfl), ix4, h0]
    rfl
  rw [h2]
  exact ⟨h1, hE, rfl, rfl, qr_upd hq ha hb r rfl⟩
theorem send_good (hE : N.E = 4) (hq : ∀ k, k < 16 → q k = qr N k) {a b : Nat} (ha : a < 4) (hb : b < 4) {xs : List Int} (hx : xs.length ≤ 5000) (hl : (q (a * 4 + b)).length ≤ 200) :
    sendE N a b xs.length = 0 ∧ (sendN N a b xs).E = 4 ∧ (sendN N a b xs).s = wrap64 (N.s + 1) ∧ (sendN N a b xs).t = N.t ∧ ∀ k, k < 16 → upd q (a * 4 + b) (q (a * 4 + b) ++ [xs]) k = qr (sendN N a b xs) k := by
  have h0 : N.q (a * 64 + b) = q (a * 4 + b) := by rw [← qr_at ha hb, ← hq _ (by omega)]
  have h1 : sendE N a b xs.length = 0 := by
    unfold sendE
    rw [if_neg (not_not_intro (in4 hE ha hb)), if_neg (by omega), ix4, h0, if_neg (by omega)]
  have h2 : sendN N a b xs = { N with q := upd N.q (a * 64 + b) (q (a * 4 + b) ++ [xs]), s := wrap64 (N.s + 1) } := by
    unfold sendN
    rw [h1, if_pos rfl, ix4, h0]
  rw [h2]
  exact ⟨h1, hE, rfl, rfl, qr_upd hq ha hb _ rfl⟩
/-- Rows of the first c others emptied. -/
def clr4 (q : Nat → List (List Int)) (a c : Nat) : Nat → List (List Int) := fun k => if (k / 4 = a ∧ k % 4 < c) ∨ (k % 4 = a ∧ k / 4 < c) then [] else q k
theorem clr4_zero (q : Nat → List (List Int)) (a : Nat) : clr4 q a 0 = q := by funext k; unfold clr4; simp
theorem clr4_step (q : Nat → List (List Int)) {a c : Nat} (ha : a < 4) (hc : c < 4) : clr4 q a (c + 1) = upd (upd (clr4 q a c) (a * 4 + c) []) (c * 4 + a) [] := by
  funext k
  unfold clr4 upd
  dsimp only
  by_cases h1 : k = c * 4 + a
  · rw [if_pos h1, if_pos (.inr ⟨by omega, by omega⟩)]
  · rw [if_neg h1]
    by_cases h2 : k = a * 4 + c
    · rw [if_pos h2, if_pos (.inl ⟨by omega, by omega⟩)]
    · rw [if_neg h2]
      by_cases h3 : (k / 4 = a ∧ k % 4 < c) ∨ (k % 4 = a ∧ k / 4 < c)
      · rw [if_pos h3, if_pos (by omega)]
      · rw [if_neg h3, if_neg (by omega)]
theorem clear_good (hE : N.E = 4) (hq : ∀ k, k < 16 → q k = qr N k) {a : Nat} (ha : a < 4) : (clearN N a).E = 4 ∧ (clearN N a).s = N.s ∧ (clearN N a).t = N.t ∧ ∀ k, k < 16 → clr4 q a 4 k = qr (clearN N a) k := by
  have h : clearN N a = { N with q := clrq N.q a 4 } := by
    unfold clearN
    rw [if_pos ⟨by omega, by omega⟩, Int.toNat_natCast, hE]
  rw [h]
  refine ⟨hE, rfl, rfl, fun k hk => ?_⟩
  show clr4 q a 4 k = clrq N.q a 4 (k / 4 * 64 + k % 4)
  unfold clr4 clrq
  rw [show (k / 4 * 64 + k % 4) / 64 = k / 4 by omega, show (k / 4 * 64 + k % 4) % 64 = k % 4 by omega]
  split
  · rfl
  · rw [hq k hk]; rfl
/-- Both rows of a round of Clear, and how many were in them. -/
theorem clr4_sum (q : Nat → List (List Int)) {a c : Nat} (ha : a < 4) (hc : c < 4) :
    sumL (clr4 q a (c + 1)) 16 + (clr4 q a c (a * 4 + c)).length + (upd (clr4 q a c) (a * 4 + c) [] (c * 4 + a)).length = sumL (clr4 q a c) 16 := by
  rw [clr4_step q ha hc]
  have h1 := sumL_upd (q := clr4 q a c) (k := a * 4 + c) (l := []) (n := 16) (by omega)
  have h2 := sumL_upd (q := upd (clr4 q a c) (a * 4 + c) []) (k := c * 4 + a) (l := []) (n := 16) (by omega)
  simp only [List.length_nil, Nat.add_zero] at h1 h2
  omega
/-- A net of four ends whose rows are empty tells no link. -/
theorem links_none (hE : N.E = 4) (h : ∀ k, k < 16 → qr N k = []) : linksN N = [] := by
  unfold linksN rowsL
  rw [List.flatMap_eq_nil_iff]
  intro a ha
  rw [List.mem_range, hE] at ha
  unfold partL
  rw [List.map_eq_nil_iff, List.filter_eq_nil_iff]
  intro b hb
  rw [List.mem_range, hE] at hb
  have h0 := h (a * 4 + b) (by omega)
  rw [qr_at ha hb] at h0
  have : lenN N a b = 0 := by
    unfold lenN
    rw [if_pos (in4 hE ha hb), ix4, h0]
    rfl
  rw [this]
  simp
theorem wrap_small {x : Nat} (h : x ≤ 1000000) : wrap64 (x : Int) = x := by
  unfold wrap64
  omega
end Go.Proofs.Ytfgjmckdjkfgdaa
