/- The reference's is, Len, at, First. -/
import Derived.Test.YtfgjmckdjkfgdaaRows
import Derived.IntWalk
import Derived.Test.YtfgjmckdjkfgdaaWords
import Derived.Test.YtfgjmckdjkfgdaaByts
import Derived.Test.YtfgjmckdjkfgdaaStrs
import Derived.Test.YtfgjmckdjkfgdaaFrame
import Derived.Test.YtfgjmckdjkfgdaaElems
import Derived.Test.YtfgjmckdjkfgdaaR1
namespace Go.Proofs.Ytfgjmckdjkfgdaa
open Go Go.RowKit Go.Proofs.Tail
set_option linter.unusedSimpArgs false
set_option linter.unusedVariables false
variable {w w' : World} {D : Nat → Prop} {M : Nat} {R : RefS}
def isR (R : RefS) (e : Int) : Bool := decide (0 ≤ e ∧ e < R.E)
def ofR (a b : Int) (m : Mail) : Bool := m.f == a && m.t == b
def lenR (R : RefS) (a b : Int) : Nat := (R.L.filter (ofR a b)).length
def atI (R : RefS) (a b : Int) : Nat := R.L.findIdx (ofR a b)
def atR (R : RefS) (a b : Int) : Int := if atI R a b < R.L.length then atI R a b else -1
def headR (R : RefS) (a b : Int) : Option (List Int) := (R.L.find? (ofR a b)).map Mail.b
theorem refis_any (hR : Ref w D M R) (e : Int) : Calls Try.prog 33 #[.pointer (some ⟨M, 0, none⟩), .int .i64 e] w (Tells (.bool (isR R e)) w) := by
  obtain ⟨v, h⟩ := hR
  obtain ⟨A, c, rfl, hm, c0, c1, c2, c3, fz⟩ := h.reads
  clear h hm c1 c2 c3 fz
  by_cases h0 : 0 ≤ e
  · have HQ := Lib.hid (show isR R e = decide (e < R.E) by unfold isR; simp [h0])
    have d1 : decide (0 ≤ e) = true := decide_eq_true h0
    go_enter Try.func33, Try.ntmps33
    go_wp2_with fail
    go_ret
    exact ⟨by rw [HQ.out]; rfl, rfl⟩
  · have HQ := Lib.hid (show isR R e = false by unfold isR; simp [h0])
    have d1 : decide (0 ≤ e) = false := decide_eq_false h0
    go_enter Try.func33, Try.ntmps33
    go_wp2_with fail
    go_ret
    exact ⟨by rw [HQ.out]; rfl, rfl⟩
theorem take_succ_get {α : Type} {L : List α} {k : Nat} {x : α} (h : L[k]? = some x) : L.take (k + 1) = L.take k ++ [x] := by
  rw [List.take_add_one, h]; rfl
set_option maxHeartbeats 8000000 in
theorem reflen_any (hR : Ref w D M R) (a b : Int) : Calls Try.prog 24 #[.pointer (some ⟨M, 0, none⟩), .int .i64 a, .int .i64 b] w (Tells (.int .i64 (lenR R a b)) w) := by
  obtain ⟨v, h⟩ := hR
  obtain ⟨A, c, rfl, hm, c0, c1, c2, c3, fz⟩ := h.reads
  have hlim := h.lim
  have HX := Lib.hid hm
  have HQ := Lib.hid (show lenR R a b = ((R.L.take R.L.length).filter (ofR a b)).length by rw [List.take_length]; rfl)
  clear h hm c0 c2 c3 fz
  obtain ⟨n, hn⟩ : ∃ n, n = R.L.length := ⟨_, rfl⟩
  obtain ⟨L, hL⟩ : ∃ L, L = R.L := ⟨_, rfl⟩
  rw [← hL] at HX HQ hn c1 hlim
  rw [← hn] at HX HQ c1 hlim
  clear hL hn
  go_enter Try.func24, Try.ntmps24
  go_wp2_with fail
  go_loopw [7, 8] (fun s i wr => ∃ k : Nat, k ≤ n ∧ i = .int .i64 k ∧ s = .int .i64 (((L.take k).filter (ofR a b)).length) ∧ wr = w) (fun _ i _ => n - (intOf i).toNat)
  case atStart => exact ⟨0, Nat.zero_le _, rfl, rfl, rfl⟩
  case round =>
    obtain ⟨k, hk, rfl, rfl, rfl⟩ := hrel
    by_cases hlt : k < n
    · have hd : decide ((k : Int) < n) = true := decide_eq_true (by omega)
      have hd' : decide (k < n) = true := decide_eq_true (by omega)
      have hk0 : (0 : Int) ≤ k := by omega
      have hkn : (k : Int) < n := by omega
      obtain ⟨g, off, x, rfl, hx, hc⟩ := HX.out.elem hlt
      obtain ⟨x0, x1, x2⟩ := hc
      have HT := Lib.hid (take_succ_get hx)
      clear hx x2
      by_cases hf : x.f = a
      · have q1 : (x.f == a) = true := by simpa using hf
        by_cases ht : x.t = b
        · have q2 : (x.t == b) = true := by simpa using ht
          have HF := Lib.hid (show ((L.take (k + 1)).filter (ofR a b)).length = ((L.take k).filter (ofR a b)).length + 1 by rw [HT.out, List.filter_append]; simp [ofR, hf, ht])
          have HW := Lib.hid (show ((L.take k).filter (ofR a b)).length ≤ k from Nat.le_trans (List.length_filter_le _ _) (by rw [List.length_take]; omega))
          clear hf ht
          generalize ((L.take k).filter (ofR a b)).length = z at *
          have hw := HW.out
          go_wp2_with fail
          go_roundw
          case rel => exact ⟨k + 1, by omega, by go_num, by rw [HF.out]; go_num, (by first | trivial | rfl)⟩
          case measure => simp [intOf]; omega
        · have q2 : (x.t == b) = false := by simpa using ht
          have HF := Lib.hid (show ((L.take (k + 1)).filter (ofR a b)).length = ((L.take k).filter (ofR a b)).length by rw [HT.out, List.filter_append]; simp [ofR, hf, ht])
          clear hf ht
          generalize ((L.take k).filter (ofR a b)).length = z at *
          go_wp2_with fail
          go_roundw
          case rel => exact ⟨k + 1, by omega, by go_num, by rw [HF.out], (by first | trivial | rfl)⟩
          case measure => simp [intOf]; omega
      · have q1 : (x.f == a) = false := by simpa using hf
        have HF := Lib.hid (show ((L.take (k + 1)).filter (ofR a b)).length = ((L.take k).filter (ofR a b)).length by rw [HT.out, List.filter_append]; simp [ofR, hf])
        clear hf
        generalize ((L.take k).filter (ofR a b)).length = z at *
        go_wp2_with fail
        go_roundw
        case rel => exact ⟨k + 1, by omega, by go_num, by rw [HF.out], (by first | trivial | rfl)⟩
        case measure => simp [intOf]; omega
    · have hd : decide ((k : Int) < n) = false := decide_eq_false (by omega)
      have hd' : decide (k < n) = false := decide_eq_false (by omega)
      have hkn : k = n := by omega
      subst hkn
      go_wp2_with fail
      go_ret
      exact ⟨by rw [HQ.out]; rfl, rfl⟩
theorem findIdx_at {L : List Mail} {p : Mail → Bool} {k : Nat} (h : ∀ (j : Nat) (x : Mail), j < k → L[j]? = some x → p x = false) (hk : k ≤ L.length) (hx : ∀ x, L[k]? = some x → p x = true) : L.findIdx p = k := by
  induction L generalizing k with
  | nil => simp at hk; simp [hk]
  | cons m L ih =>
    cases k with
    | zero => rw [List.findIdx_cons, hx m rfl]; rfl
    | succ k =>
      rw [List.findIdx_cons, h 0 m (by omega) rfl]
      simp only [cond_false]
      rw [ih (fun j x hj hx => h (j + 1) x (by omega) hx) (by simpa using hk) (fun x h => hx x h)]
set_option maxHeartbeats 8000000 in
theorem refat_any (hR : Ref w D M R) (a b : Int) : Calls Try.prog 32 #[.pointer (some ⟨M, 0, none⟩), .int .i64 a, .int .i64 b] w (Tells (.int .i64 (atR R a b)) w) := by
  obtain ⟨v, h⟩ := hR
  obtain ⟨A, c, rfl, hm, c0, c1, c2, c3, fz⟩ := h.reads
  have hlim := h.lim
  have HX := Lib.hid hm
  have HQ := Lib.hid (show ∀ k, k ≤ R.L.length → (∀ (j : Nat) (x : Mail), j < k → R.L[j]? = some x → ofR a b x = false) → (∀ x, R.L[k]? = some x → ofR a b x = true) → atR R a b = if k < R.L.length then (k : Int) else -1 from fun k hk h1 h2 => by
    have := findIdx_at h1 hk h2
    unfold atR atI
    rw [this])
  clear h hm c0 c2 c3 fz
  obtain ⟨n, hn⟩ : ∃ n, n = R.L.length := ⟨_, rfl⟩
  obtain ⟨L, hL⟩ : ∃ L, L = R.L := ⟨_, rfl⟩
  obtain ⟨r, hr⟩ : ∃ r, r = atR R a b := ⟨_, rfl⟩
  rw [← hL] at HX HQ hn c1 hlim
  rw [← hn] at HX HQ c1 hlim
  rw [← hr] at HQ ⊢
  have HN := Lib.hid hn
  clear hL hn hr
  go_enter Try.func32, Try.ntmps32
  go_wp2_with fail
  go_loopw [7] (fun i wr => ∃ k : Nat, k ≤ n ∧ i = .int .i64 k ∧ Hid (∀ (j : Nat) (x : Mail), j < k → L[j]? = some x → ofR a b x = false) ∧ wr = w) (fun i _ => n - (intOf i).toNat)
  case atStart => exact ⟨0, Nat.zero_le _, rfl, Lib.hid (fun j x h => absurd h (Nat.not_lt_zero _)), rfl⟩
  case round =>
    obtain ⟨k, hk, rfl, HK, rfl⟩ := hrel
    by_cases hlt : k < n
    · have hd : decide ((k : Int) < n) = true := decide_eq_true (by omega)
      have hd' : decide (k < n) = true := decide_eq_true (by omega)
      have hk0 : (0 : Int) ≤ k := by omega
      have hkn : (k : Int) < n := by omega
      obtain ⟨g, off, x, rfl, hx, hc⟩ := HX.out.elem hlt
      obtain ⟨x0, x1, x2⟩ := hc
      have HXX := Lib.hid hx
      clear hx x2
      have next : ofR a b x = false → Hid (∀ (j : Nat) (y : Mail), j < k + 1 → L[j]? = some y → ofR a b y = false) := fun h => Lib.hid fun j y hj hy => by
        rcases Nat.eq_or_lt_of_le (Nat.le_of_lt_succ hj) with e | e
        · subst e; rw [HXX.out] at hy; cases hy; exact h
        · exact HK.out j y e hy
      by_cases hf : x.f = a
      · have q1 : (x.f == a) = true := by simpa using hf
        by_cases ht : x.t = b
        · have q2 : (x.t == b) = true := by simpa using ht
          have HO := Lib.hid (show r = (k : Int) by
            have := HQ.out k (Nat.le_of_lt hlt) HK.out (fun y hy => by rw [HXX.out] at hy; cases hy; simp [ofR, hf, ht])
            rwa [if_pos hlt] at this)
          clear hf ht next
          go_wp2_with fail
          go_ret
          exact ⟨by rw [HO.out]; rfl, rfl⟩
        · have q2 : (x.t == b) = false := by simpa using ht
          have HF := next (by simp [ofR, hf, ht])
          clear hf ht next
          go_wp2_with fail
          go_roundw
          case rel => exact ⟨k + 1, by omega, by go_num, HF, (by first | trivial | rfl)⟩
          case measure => simp [intOf]; omega
      · have q1 : (x.f == a) = false := by simpa using hf
        have HF := next (by simp [ofR, hf])
        clear hf next
        go_wp2_with fail
        go_roundw
        case rel => exact ⟨k + 1, by omega, by go_num, HF, (by first | trivial | rfl)⟩
        case measure => simp [intOf]; omega
    · have hd : decide ((k : Int) < n) = false := decide_eq_false (by omega)
      have hd' : decide (k < n) = false := decide_eq_false (by omega)
      have HO := Lib.hid (show r = -1 by
        have := HQ.out k hk HK.out (fun y hy => by have := (List.getElem?_eq_some_iff.1 hy).1; have := HN.out; omega)
        rwa [if_neg hlt] at this)
      go_wp2_with fail
      go_ret
      exact ⟨by rw [HO.out]; rfl, rfl⟩
theorem find_at (L : List Mail) (p : Mail → Bool) : L.find? p = L[L.findIdx p]? := by
  induction L with
  | nil => rfl
  | cons m L ih =>
    rw [List.find?_cons, List.findIdx_cons]
    cases h : p m
    · simpa using ih
    · rfl
/-- What the reference's First and Take hand back. -/
def pairR (o : Option (List Int)) : Value := .tuple #[.string (strOfNums (o.getD [])), .bool o.isSome]
theorem reffirst_any (hR : Ref w D M R) (a b : Int) : Calls Try.prog 25 #[.pointer (some ⟨M, 0, none⟩), .int .i64 a, .int .i64 b] w (Tells (pairR (headR R a b)) w) := by
  have HA := Lib.hid (refat_any hR a b)
  obtain ⟨v, h⟩ := hR
  obtain ⟨A, c, rfl, hm, c0, c1, c2, c3, fz⟩ := h.reads
  by_cases hi : atI R a b < R.L.length
  · obtain ⟨g, off, x, rfl, hx, hc⟩ := hm.elem hi
    obtain ⟨x0, x1, x2⟩ := hc
    have HO := Lib.hid (show headR R a b = some x.b by unfold headR; rw [find_at, show R.L.findIdx (ofR a b) = atI R a b from rfl, hx]; rfl)
    have e : atR R a b = ((atI R a b : Nat) : Int) := by unfold atR; rw [if_pos hi]
    rw [e] at HA
    have d1 : decide (((atI R a b : Nat) : Int) < 0) = false := decide_eq_false (by omega)
    have a0 : (0 : Int) ≤ (atI R a b : Nat) := by omega
    have a1 : ((atI R a b : Nat) : Int) < R.L.length := by omega
    clear h hm c0 c2 c3 fz e hx x0 x1
    generalize atI R a b = k at *
    go_enter Try.func25, Try.ntmps25
    go_wp2_with fail
    with_reducible refine HA.out.mono ?_
    rintro e w1 ⟨rfl, rfl⟩
    go_wp2_with fail
    go_ret2
    exact ⟨by rw [HO.out]; rfl, rfl⟩
  · have HO := Lib.hid (show headR R a b = none by unfold headR; rw [find_at, show R.L.findIdx (ofR a b) = atI R a b from rfl, List.getElem?_eq_none (by omega)]; rfl)
    have e : atR R a b = -1 := by unfold atR; rw [if_neg hi]
    rw [e] at HA
    clear h hm c0 c1 c2 c3 fz e
    go_enter Try.func25, Try.ntmps25
    go_wp2_with fail
    with_reducible refine HA.out.mono ?_
    rintro e w1 ⟨rfl, rfl⟩
    go_wp2_with fail
    go_ret2
    exact ⟨by rw [HO.out]; rfl, rfl⟩
end Go.Proofs.Ytfgjmckdjkfgdaa
