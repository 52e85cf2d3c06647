/- want; a number's value; reading numbers. -/
import Derived.Test.YteiohcgohgcjfaaRows
import Derived.IntWalk
import Derived.Test.YteiohcgohgcjfaaWords
import Derived.Test.YteiohcgohgcjfaaByts
import Derived.Test.YteiohcgohgcjfaaStrs
import Derived.Test.YteiohcgohgcjfaaFrame
import Derived.Test.YteiohcgohgcjfaaElems
import Derived.Test.YteiohcgohgcjfaaBitsW
import Derived.Test.YteiohcgohgcjfaaS1
import Derived.Test.YteiohcgohgcjfaaS2
import Derived.Test.YteiohcgohgcjfaaEqs
namespace Go.Proofs.Yteiohcgohgcjfaa
open Go Go.RowKit Go.Proofs.Tail
set_option linter.unusedSimpArgs false
set_option linter.unusedVariables false
/-- What is thrown. -/
def noneV : Value := .iface 76 (.agg #[])
theorem want_yes (w : World) : Calls Try.prog 39 #[.bool true] w (Tells (.tuple #[]) w) := by
  go_enter Try.func39, Try.ntmps39
  go_wp2_with fail
  go_end0
  exact ⟨rfl, rfl⟩
theorem want_no (w : World) : Calls Try.prog 39 #[.bool false] w (fun e w' => e = .panicked [{ v := .iface 76 (.agg #[]), recovered := false }] ∧ w = w') := by
  go_enter Try.func39, Try.ntmps39
  go_wp2_with fail
  exact ⟨rfl, rfl, rfl⟩
def val (xs : List Int) : Int := xs.foldl (fun n b => n * 256 + b) 0
theorem val_snoc (xs : List Int) (b : Int) : val (xs ++ [b]) = val xs * 256 + b := by simp [val]
def pw : Nat → Int
  | 0 => 1
  | n + 1 => pw n * 256
theorem val_bound (xs : List Int) (h : InB xs) : 0 ≤ val xs ∧ val xs < pw xs.length := by
  have key : ∀ k, k ≤ xs.length → 0 ≤ val (xs.take k) ∧ val (xs.take k) < pw k := by
    intro k
    induction k with
    | zero => intro _; simp [val, pw]
    | succ k ih =>
      intro hk
      have h1 := ih (by omega)
      have h2 := h xs[k] (List.getElem_mem _)
      rw [List.take_succ_eq_append_getElem (by omega), val_snoc]
      unfold pw
      omega
  have := key xs.length (Nat.le_refl _)
  rwa [List.take_length] at this
theorem pw_le {n : Nat} (h : n ≤ 7) : pw n ≤ 72057594037927936 := by
  have : n = 0 ∨ n = 1 ∨ n = 2 ∨ n = 3 ∨ n = 4 ∨ n = 5 ∨ n = 6 ∨ n = 7 := by omega
  rcases this with rfl | rfl | rfl | rfl | rfl | rfl | rfl | rfl <;> decide
theorem bits_or_u64 (p q : Int) (h0 : 0 ≤ p) (h1 : p < 72057594037927936) (q0 : 0 ≤ q) (q1 : q < 256) : bits .or .u64 (p * 256) q = p * 256 + q := by
  obtain ⟨n, rfl⟩ := Int.eq_ofNat_of_zero_le h0
  obtain ⟨m, rfl⟩ := Int.eq_ofNat_of_zero_le q0
  have hm : m < 256 := by omega
  have e : n * 256 ||| m = n * 256 + m := by
    have := Nat.shiftLeft_add_eq_or_of_lt (i := 8) (b := m) hm n
    rw [Nat.shiftLeft_eq] at this
    exact this.symm
  unfold bits
  have a1 : (BitVec.ofInt IntKind.u64.bits ((n : Int) * 256)) = BitVec.ofNat 64 (n * 256) := by
    rw [show ((n : Int) * 256) = ((n * 256 : Nat) : Int) by omega, BitVec.ofInt_natCast]; rfl
  have a2 : (BitVec.ofInt IntKind.u64.bits (m : Int)) = BitVec.ofNat 64 m := by rw [BitVec.ofInt_natCast]; rfl
  rw [a1, a2]
  have a3 : (BitVec.ofNat 64 (n * 256) ||| BitVec.ofNat 64 m).toNat = n * 256 + m := by
    rw [BitVec.toNat_or, BitVec.toNat_ofNat, BitVec.toNat_ofNat, Nat.mod_eq_of_lt (by omega), Nat.mod_eq_of_lt (by omega), e]
  show IntKind.u64.wrap ((BitVec.ofNat 64 (n * 256) ||| BitVec.ofNat 64 m).toNat : Int) = _
  rw [a3]
  show ((n * 256 + m : Nat) : Int) % 18446744073709551616 = _
  omega
/-- The bytes that are left: a cell that holds the slice. -/
structure Rb (w : World) (R : Nat) (xs : List Int) : Prop where
  sl : ∃ A c, Blk w R [.slice A xs.length c] 79 ∧ Byts w A xs.length c xs ∧ (0 < xs.length → ∀ a, A = some a → a.block + 2 < R)
  inb : InB xs
theorem Rb.below {w w' : World} {R : Nat} {xs : List Int} (h : Rb w R xs) (hb : Below w.heap.size w w') : Rb w' R xs := by
  obtain ⟨⟨A, c, h1, h2, h3⟩, h4⟩ := h
  exact ⟨⟨A, c, h1.then hb, h2.below RByte.stays hb, h3⟩, h4⟩
theorem Rb.lt {w : World} {R : Nat} {xs : List Int} (h : Rb w R xs) : R < w.heap.size := by
  obtain ⟨⟨A, c, h1, _, _⟩, _⟩ := h
  exact h1.lt
theorem rb_ne {w : World} {R n c : Nat} {v : Value} {A : Option Addr} {xs : List Int} (hB : Blk w R [v] 79) (hv : ∀ x, v ≠ .int .u8 x) (h : Byts w A n c xs) (hn : 0 < n) : ∀ a, A = some a → a.block ≠ R := by
  intro a ha he
  obtain ⟨b, o, e, hc⟩ := h.byte hn
  rw [ha] at e
  injection e with e
  rw [e] at he
  dsimp only at he
  rw [he, hB.cell] at hc
  match hq : o + 0, hc with
  | 0, hc => injection hc with hc; exact hv _ hc
  | k + 1, hc => simp at hc
theorem byts_fr' {S : Nat → Prop} {w w' : World} {A : Option Addr} {n c : Nat} {xs : List Int} (h : Byts w A n c xs) (hf : Fr S w w') (hn : 0 < n → ∀ a, A = some a → ¬ S a.block) : Byts w' A n c xs :=
  ⟨h.len, h.cap, h.big, fun hp => by
    obtain ⟨b, off, rfl, hc⟩ := h.at_ hp
    exact ⟨b, off, rfl, fun j x hj => RByte.block (hf.block b (RByte.lt (hc j x hj)) (hn hp _ rfl)) (hc j x hj)⟩⟩
def Pan (e : Ending) : Prop := e = .panicked [{ v := .iface 76 (.agg #[]), recovered := false }]
/-- What is told of a number read: it goes well where there are so many bytes. -/
def Num (R : Nat) (k : Nat) (xs : List Int) (w : World) (e : Ending) (w' : World) : Prop :=
  (k ≤ xs.length → e = .returned (.int .i64 (wrap64 (val (xs.take k)))) ∧ Rb w' R (xs.drop k)) ∧ (xs.length < k → Pan e) ∧ Fr (fun b => b = R) w w'
theorem InB.take {xs : List Int} (h : InB xs) (k : Nat) : InB (xs.take k) := fun x hx => h x (List.mem_of_mem_take hx)
theorem InB.drop {xs : List Int} (h : InB xs) (k : Nat) : InB (xs.drop k) := fun x hx => h x (List.mem_of_mem_drop hx)
theorem bslice_to {A : Option Addr} {n c k : Nat} (hk : k ≤ n) (hc : n ≤ c) (W : World) : (Instr.slice 36 (.slice A n c) none (some (.int .i64 k)) none).run Try.prog W = .ok (.slice A k c) W := by
  have h1 : (0 : Int) ≤ k := by omega
  have h2 : (k : Int) ≤ c := by omega
  have u := Try.underlying36
  have z := Try.sizeOf5
  go_simp
theorem bslice_from {A : Option Addr} {n c k : Nat} {xs : List Int} {w : World} (h : Byts w A n c xs) (hk : k ≤ n) :
    ∃ Ad, (∀ W, (Instr.slice 36 (.slice A n c) (some (.int .i64 k)) none none).run Try.prog W = .ok (.slice Ad (n - k) (c - k)) W) ∧ Byts w Ad (n - k) (c - k) (xs.drop k) ∧ ∀ a, Ad = some a → ∃ b, A = some b ∧ a.block = b.block := by
  have hc := h.cap
  refine ⟨if c = k then A else A.map (·.add (k * 1)), fun W => ?_, ?_, fun a ha => ?_⟩
  · have h1 : (0 : Int) ≤ k := by omega
    have h2 : (k : Int) ≤ n := by omega
    have u := Try.underlying36
    have z := Try.sizeOf5
    go_simp
  · refine ⟨by rw [List.length_drop, h.len], by omega, by have := h.big; omega, fun hn => ?_⟩
    obtain ⟨b, off, rfl, hc⟩ := h.at_ (by omega)
    rw [if_neg (by omega)]
    refine ⟨b, off + k, by simp only [Option.map_some, Addr.add, Nat.mul_one]; split <;> simp_all, fun j x hj => ?_⟩
    rw [List.getElem?_drop] at hj
    have := hc (k + j) x hj
    unfold RByte at *
    rw [Nat.mul_one] at *
    rw [← this, Nat.add_assoc]
  · split at ha
    · exact ⟨a, ha, rfl⟩
    · cases A with
      | none => cases ha
      | some b =>
        simp only [Option.map_some, Option.some.injEq] at ha
        refine ⟨b, rfl, ?_⟩
        rw [← ha]
        unfold Addr.add
        split <;> rfl
set_option maxHeartbeats 8000000 in
theorem number_any (R k : Nat) (xs : List Int) (w : World) (h : Rb w R xs) (h1 : 1 ≤ k) (h8 : k ≤ 8) : Calls Try.prog 33 #[.pointer (some ⟨R, 0, none⟩), .int .i64 k] w (Num R k xs w) := by
  obtain ⟨⟨A, c, hblk, hby, hlo⟩, hin⟩ := h
  have c0 : w.cell? ⟨R, 0, none⟩ = some (.slice A xs.length c) := hblk.cell 0
  by_cases hk : k ≤ xs.length
  · have d1 : decide ((k : Int) ≤ xs.length) = true := decide_eq_true (by omega)
    have d1' : decide (k ≤ xs.length) = true := decide_eq_true hk
    have W1 := Lib.hid (want_yes w)
    have s1 := fun W => bslice_to (A := A) hk hby.cap W
    obtain ⟨Ad, s2, hd, hbl⟩ := bslice_from hby hk
    have HLO := Lib.hid (show 0 < (xs.drop k).length → ∀ a, Ad = some a → a.block + 2 < R from fun hp a ha => by
      obtain ⟨b, hb, e⟩ := hbl a ha
      rw [e]; exact hlo (by rw [List.length_drop] at hp; omega) b hb)
    have HBY := Lib.hid hby
    have HD := Lib.hid hd
    have HBL := Lib.hid hblk
    have HIN := Lib.hid hin
    have fz := hblk.frozen 0
    have HK := Lib.hid hk
    have K8 := Lib.hid h8
    obtain ⟨n, hn⟩ : ∃ n, n = xs.length := ⟨_, rfl⟩
    rw [← hn] at c0 d1 d1' s1 s2 HBY HBL HD HK
    have HN := Lib.hid hn
    clear hblk hby hin hd hbl hk hn h8 hlo
    go_enter Try.func33, Try.ntmps33
    go_wp2_with fail
    with_reducible refine W1.out.mono ?_
    rintro e w1 ⟨rfl, rfl⟩
    go_wp2_with fail
    go_loopw [5, 23] (fun s i wr => ∃ j : Nat, j ≤ k ∧ i = .int .i64 j ∧ s = .int .u64 (val (xs.take j)) ∧ wr = w) (fun _ i _ => k - (intOf i).toNat)
    case atStart => exact ⟨0, Nat.zero_le _, rfl, rfl, rfl⟩
    case round =>
      obtain ⟨j, hj, rfl, rfl, rfl⟩ := hrel
      by_cases hlt : j < k
      · have hd : decide ((j : Int) < k) = true := decide_eq_true (by omega)
        have hd' : decide (j < k) = true := decide_eq_true hlt
        have hj0 : (0 : Int) ≤ j := by omega
        have hjk : (j : Int) < k := by omega
        obtain ⟨b, o, ex, rx⟩ := HBY.out.byte (j := j) (by have := HK.out; omega)
        obtain ⟨x, hx⟩ : ∃ x, x = xs.getD j 0 := ⟨_, rfl⟩
        rw [← hx] at rx
        have hxg : xs[j]? = some x := by
          rw [hx, List.getD_eq_getElem?_getD, List.getElem?_eq_getElem (by have := HK.out; have := HN.out; omega)]; rfl
        have hvs : val (xs.take (j + 1)) = val (xs.take j) * 256 + x := by rw [List.take_add_one, hxg]; exact val_snoc _ _
        have hxb := HIN.out x (List.mem_of_getElem? hxg)
        have hvb := val_bound (xs.take j) (InB.take HIN.out j)
        have hpw := pw_le (n := (xs.take j).length) (by rw [List.length_take]; have := K8.out; omega)
        have hsh : IntKind.u64.wrap (val (xs.take j) * 256) = val (xs.take j) * 256 := by simp [IntKind.wrap, IntKind.bits, IntKind.signed]; omega
        have hor := bits_or_u64 (val (xs.take j)) x (by omega) (by omega) (by omega) (by omega)
        have HV := Lib.hid hvs
        subst ex
        clear hx hxg hvs hvb hpw HBY
        generalize val (xs.take j) = z at *
        have hw9 : IntKind.i64.wrap ((j : Int) + 1) = (j : Int) + 1 := IntWalk.i64_in _ ⟨by have := K8.out; omega, by have := K8.out; omega⟩
        go_wp2_with fail
        go_roundw
        case rel => exact ⟨j + 1, by omega, by go_num, by rw [HV.out], (by first | trivial | rfl)⟩
        case measure => simp [intOf]; omega
      · have hd : decide ((j : Int) < k) = false := decide_eq_false (by omega)
        have hd' : decide (j < k) = false := decide_eq_false hlt
        have hjk : j = k := by omega
        subst hjk
        have gz : IntKind.i64.wrap (val (xs.take j)) = wrap64 (val (xs.take j)) := by simp [wrap64, IntKind.wrap_i64]
        go_wp2_with fail
        go_ret
        have hf : Fr (fun b => b = R) wr (wr.setCell ⟨R, 0, none⟩ (.slice Ad (n - j) (c - j))) := (Fr.refl (fun b => b = R) wr).set (fun _ => rfl) _
        have hl : (xs.drop j).length = n - j := by rw [List.length_drop, HN.out]
        refine ⟨fun _ => ⟨rfl, ⟨Ad, c - j, ?_, ?_, HLO.out⟩, InB.drop HIN.out j⟩, fun hq => by have := HK.out; have := HN.out; omega, hf⟩
        · rw [hl]
          exact HBL.out.set 0 _
        · rw [hl]
          exact byts_fr' HD.out hf (rb_ne HBL.out (fun x h => by cases h) HD.out)
  · have d1 : decide ((k : Int) ≤ xs.length) = false := decide_eq_false (by omega)
    have d1' : decide (k ≤ xs.length) = false := decide_eq_false hk
    have W1 := Lib.hid (want_no w)
    clear hby hin hblk hlo
    go_enter Try.func33, Try.ntmps33
    go_wp2_with fail
    with_reducible refine W1.out.mono ?_
    rintro e w1 ⟨rfl, rfl⟩
    exact ⟨rfl, fun hq => absurd hq hk, fun _ => rfl, Fr.refl _ _⟩
end Go.Proofs.Yteiohcgohgcjfaa
