/- Contract of the reference's Right. -/
import Derived.Test.YtamniepfgddecaaRows
import Derived.Test.YtamniepfgddecaaWords
import Derived.Test.YtamniepfgddecaaByts
import Derived.Test.YtamniepfgddecaaFrame
import Derived.Test.YtamniepfgddecaaElems
import Derived.Test.YtamniepfgddecaaS1
import Derived.Test.YtamniepfgddecaaS2
import Derived.Test.YtamniepfgddecaaS4
import Derived.Test.YtamniepfgddecaaS7
import Derived.Test.YtamniepfgddecaaS8
import Derived.Test.YtamniepfgddecaaU1
import Derived.Test.YtamniepfgddecaaA1
import Derived.Test.YtamniepfgddecaaA2
import Derived.Test.YtamniepfgddecaaA3
import Derived.Test.YtamniepfgddecaaF1
import Derived.Test.YtamniepfgddecaaP1
namespace Go.Proofs.Ytamniepfgddecaa
open Go Go.RowKit Go.Proofs.Tail Go.Sort
set_option linter.unusedSimpArgs false
set_option linter.unusedVariables false
/-- The first k are a frontier. -/
structure Pre (ts : List T) (k : Nat) : Prop where
  alk : ∀ t ∈ ts.take k, t.rightB = true ∧ t.d = (ts.headD T0).d
  srt : SSrt (ts.take k)
  anti : (ts.take k).Pairwise fun a b => leqB a b = false ∧ leqB b a = false
theorem Pre.zero (ts : List T) : Pre ts 0 := ⟨by simp, by simp, by simp⟩
theorem Pre.all {ts : List T} {k : Nat} (h : Pre ts k) (hk : ts.length ≤ k) : rightF ts = true := by
  have e := List.take_of_length_le hk
  refine rightF_iff.2 ⟨?_, ?_, ?_⟩
  · have := h.alk; rw [e] at this; exact this
  · have := h.srt; rw [e] at this; exact this
  · have := h.anti; rw [e] at this; exact this
theorem cfT_trans {a b c : T} (h : cfT a b < 0) (k : cfT b c < 0) : cfT a c < 0 := by
  have h1 := swoT.trans a b c (by unfold ltOf; exact decide_eq_true h) (by unfold ltOf; exact decide_eq_true k)
  unfold ltOf at h1
  exact of_decide_eq_true h1
theorem take_mem {α : Type} {ts : List α} {k : Nat} {t : α} (h : t ∈ ts.take k) : ∃ j, j < k ∧ ts[j]? = some t := by
  obtain ⟨j, hj, e⟩ := List.getElem_of_mem h
  rw [List.length_take] at hj
  refine ⟨j, by omega, ?_⟩
  rw [← e, List.getElem_take, List.getElem?_eq_getElem]
theorem Pre.succ {ts : List T} {k : Nat} {z : T} (h : Pre ts k) (hz : ts[k]? = some z) (hr : z.rightB = true) (hd : z.d = (ts.headD T0).d)
    (hl : ∀ m y, k = m + 1 → ts[m]? = some y → cfT y z < 0) (ha : ∀ j y, j < k → ts[j]? = some y → leqB y z = false ∧ leqB z y = false) : Pre ts (k + 1) := by
  have e : ts.take (k + 1) = ts.take k ++ [z] := by rw [List.take_add_one, hz]; rfl
  refine ⟨?_, ?_, ?_⟩
  · rw [e]
    intro t ht
    rcases List.mem_append.1 ht with ht | ht
    · exact h.alk t ht
    · obtain rfl : t = z := by simpa using ht
      exact ⟨hr, hd⟩
  · rw [e]
    refine List.pairwise_append.2 ⟨h.srt, List.pairwise_singleton _ _, fun a hm b hb => ?_⟩
    obtain rfl : b = z := by simpa using hb
    obtain ⟨j, hj, ej⟩ := take_mem hm
    rcases Nat.lt_or_ge (j + 1) k with hlt | hge
    · obtain ⟨m, rfl⟩ : ∃ m, k = m + 1 := ⟨k - 1, by omega⟩
      have hmk : m < ts.length := by have := (List.getElem?_eq_some_iff.1 hz).1; omega
      have h2 := hl m _ rfl (List.getElem?_eq_getElem hmk)
      refine cfT_trans ?_ h2
      have hjl : j < (ts.take (m + 1)).length := by rw [List.length_take]; omega
      have hml : m < (ts.take (m + 1)).length := by rw [List.length_take]; omega
      have h3 := List.pairwise_iff_getElem.1 h.srt j m hjl hml (by omega)
      simp only [List.getElem_take] at h3
      have ej' : ts[j] = a := (List.getElem?_eq_some_iff.1 ej).2
      rw [ej'] at h3
      exact h3
    · obtain rfl : k = j + 1 := by omega
      exact hl j a rfl ej
  · rw [e]
    refine List.pairwise_append.2 ⟨h.anti, List.pairwise_singleton _ _, fun a hm b hb => ?_⟩
    obtain rfl : b = z := by simpa using hb
    obtain ⟨j, hj, ej⟩ := take_mem hm
    exact ha j a hj ej
theorem right_no1 {ts : List T} {k : Nat} {z : T} (hz : ts[k]? = some z) (h : z.rightB = false ∨ z.d ≠ (ts.headD T0).d) : rightF ts = false := by
  cases e : rightF ts with
  | false => rfl
  | true =>
    have := (rightF_iff.1 e).1 z (List.mem_of_getElem? hz)
    rcases h with h | h
    · rw [h] at this; exact absurd this.1 (by simp)
    · exact absurd this.2 h
theorem right_no2 {ts : List T} {m : Nat} {y z : T} (hy : ts[m]? = some y) (hz : ts[m + 1]? = some z) (h : ¬ cfT y z < 0) : rightF ts = false := by
  cases e : rightF ts with
  | false => rfl
  | true =>
    have h1 := (rightF_iff.1 e).2.1
    obtain ⟨k1, e1⟩ := List.getElem?_eq_some_iff.1 hy
    obtain ⟨k2, e2⟩ := List.getElem?_eq_some_iff.1 hz
    have := List.pairwise_iff_getElem.1 h1 m (m + 1) k1 k2 (by omega)
    rw [e1, e2] at this
    exact absurd this h
theorem right_no3 {ts : List T} {j k : Nat} {y z : T} (hjk : j < k) (hy : ts[j]? = some y) (hz : ts[k]? = some z) (h : leqB y z = true ∨ leqB z y = true) : rightF ts = false := by
  cases e : rightF ts with
  | false => rfl
  | true =>
    have h1 := (rightF_iff.1 e).2.2
    obtain ⟨k1, e1⟩ := List.getElem?_eq_some_iff.1 hy
    obtain ⟨k2, e2⟩ := List.getElem?_eq_some_iff.1 hz
    have := List.pairwise_iff_getElem.1 h1 j k k1 k2 hjk
    rw [e1, e2] at this
    rcases h with h | h
    · rw [h] at this; exact absurd this.1 (by simp)
    · rw [h] at this; exact absurd this.2 (by simp)
theorem cells_of {w : World} {b off n c : Nat} {ts : List T} (h : Tms w (some ⟨b, off, none⟩) n c ts) {j : Nat} {t : T} (hj : ts[j]? = some t) : At w b (off + j * 5) t := by
  have hl := (List.getElem?_eq_some_iff.1 hj).1
  have hn := h.len
  obtain ⟨b', off', e, hc⟩ := h.at_ (by omega)
  cases e
  exact hc j t hj
set_option maxRecDepth 100000 in
set_option maxHeartbeats 64000000 in
theorem refright_all (A : Option Addr) (n c : Nat) (ts : List T) (w : World) (hX : Tms w A n c ts) (hlim : n ≤ 1000000) :
    Calls Try.prog 15 #[.slice A n c] w (Gives (.bool (rightF ts)) w) := by
  have HX := Lib.hid hX
  have LX := Lib.hid hX.len
  have B0 := Lib.hid (Below.refl w.heap.size w)
  have P0 := Lib.hid (Pre.zero ts)
  clear hX
  go_enter Try.func15, Try.ntmps15
  go_wp2_with fail
  go_loopw [3] (fun i wr => ∃ k : Nat, k ≤ n ∧ i = .int .i64 k ∧ Hid (Pre ts k) ∧ Hid (Below w.heap.size w wr)) (fun i _ => n - (intOf i).toNat)
  case atStart => exact ⟨0, Nat.zero_le _, rfl, P0, B0⟩
  case round =>
    clear P0 B0
    obtain ⟨k, hk, rfl, HP, HB⟩ := hrel
    by_cases hlt : k < n
    · have hd : decide ((k : Int) < n) = true := decide_eq_true (by omega)
      have hd' : decide (k < n) = true := decide_eq_true (by omega)
      obtain ⟨b, off, z, rfl, hz, hc⟩ := (HX.out.below At.stays HB.out).elem hlt
      have hX9 := HX.out.below At.stays HB.out
      obtain ⟨t0, h0⟩ : ∃ t0, ts[0]? = some t0 := ⟨_, List.getElem?_eq_getElem (by rw [LX.out]; omega)⟩
      have hh : ts.headD T0 = t0 := by
        cases ts with
        | nil => simp at h0
        | cons a l => simpa using h0
      have hc0 := (cells_of hX9 h0).c0
      rw [Nat.zero_mul, Nat.add_zero] at hc0
      have HZ := Lib.hid hz
      have HH := Lib.hid hh
      have hn0 : (0 : Int) < n := by omega
      have hkn : (k : Int) < n := by omega
      have z0 := fun p : After wr => cell_after hc.c0 p
      have z1 := fun p : After wr => cell_after hc.c1 p
      have z2 := fun p : After wr => cell_after hc.c2 p
      have z3 := fun p : After wr => cell_after hc.c3 p
      have z4 := fun p : After wr => cell_after hc.c4 p
      have CR := Lib.hid (fun W => refright_any z W)
      clear hz hc h0 hh
      cases g : z.rightB with
      | false =>
        rw [g] at CR
        have HQ := Lib.hid (show rightF ts = false from right_no1 HZ.out (.inl g))
        clear g hc0 hX9
        go_wp2_with fail
        refine quiet_after (by kernel_rfl) (by kernel_rfl) ?_
        repeat (first | go_big_quiet_step ((first | (go_at_call 34; with_reducible exact calls_after (CR.out _)) | (go_at_call 36; with_reducible exact calls_after (CC.out _)) | (go_at_call 35; first | with_reducible exact calls_after (C1.out _) | with_reducible exact calls_after (C2.out _)))) | quiet_step ((first | (go_at_call 34; with_reducible exact calls_after (CR.out _)) | (go_at_call 36; with_reducible exact calls_after (CC.out _)) | (go_at_call 35; first | with_reducible exact calls_after (C1.out _) | with_reducible exact calls_after (C2.out _)))))
        refine wpQuiet_nil ?_
        intro wz hw'
        obtain ⟨p, rfl⟩ := hw'
        obtain ⟨w5, hbq⟩ := p
        dsimp only
        have HB5 := Lib.hid (below_then HB.out hbq)
        clear hbq HB z0 z1 z2 z3 z4 CR HP
        go_wp2_with fail
        go_ret
        exact .bool HQ.out.symm HB5.out
      | true =>
        rw [g] at CR
        by_cases gd : z.d = t0.d
        · have HR := Lib.hid (show z.rightB = true ∧ z.d = (ts.headD T0).d from ⟨g, by rw [HH.out]; exact gd⟩)
          rw [← gd] at hc0
          have d0 := fun p : After wr => cell_after hc0 p
          clear g gd hc0
          rcases Nat.eq_zero_or_pos k with hk0 | hk0
          · have e1 : decide ((0 : Int) < k) = false := decide_eq_false (by omega)
            have e1' : decide (0 < k) = false := decide_eq_false (by omega)
            have HL := Lib.hid (show ∀ m y, k = m + 1 → ts[m]? = some y → cfT y z < 0 from fun m y h => by omega)
            clear hX9 hk0
            go_wp2_with fail
            refine quiet_after (by kernel_rfl) (by kernel_rfl) ?_
            repeat (first | go_big_quiet_step ((first | (go_at_call 34; with_reducible exact calls_after (CR.out _)) | (go_at_call 36; with_reducible exact calls_after (CC.out _)) | (go_at_call 35; first | with_reducible exact calls_after (C1.out _) | with_reducible exact calls_after (C2.out _)))) | quiet_step ((first | (go_at_call 34; with_reducible exact calls_after (CR.out _)) | (go_at_call 36; with_reducible exact calls_after (CC.out _)) | (go_at_call 35; first | with_reducible exact calls_after (C1.out _) | with_reducible exact calls_after (C2.out _)))))
            refine wpQuiet_nil ?_
            intro wz hw'
            obtain ⟨p, rfl⟩ := hw'
            obtain ⟨w5, hbq⟩ := p
            dsimp only
            have HB5 := Lib.hid (below_then HB.out hbq)
            clear hbq HB z0 z1 z2 z3 z4 d0 CR
            obtain ⟨wo, hwo⟩ : ∃ wo, wo = w5 := ⟨_, rfl⟩
            subst hwo
            have A0 := Lib.hid (show ∀ j y, j < 0 → ts[j]? = some y → leqB y z = false ∧ leqB z y = false from fun j y h => absurd h (Nat.not_lt_zero _))
            go_wp2_with fail
            go_loopw [4] (fun i wr => ∃ q : Nat, q ≤ k ∧ i = .int .i64 q ∧ Hid (∀ j y, j < q → ts[j]? = some y → leqB y z = false ∧ leqB z y = false) ∧ Hid (Below w.heap.size w wr)) (fun i _ => k - (intOf i).toNat)
            case atStart => exact ⟨0, Nat.zero_le _, rfl, A0, HB5⟩
            case round =>
              clear A0 HB5
              obtain ⟨q, hq, rfl, HA, HB⟩ := hrel
              by_cases hlq : q < k
              · have dq : decide ((q : Int) < k) = true := decide_eq_true (by omega)
                have dq' : decide (q < k) = true := decide_eq_true (by omega)
                have hX9 := HX.out.below At.stays HB.out
                have hcz := cells_of hX9 HZ.out
                obtain ⟨y, hy⟩ : ∃ y, ts[q]? = some y := ⟨_, List.getElem?_eq_getElem (by rw [LX.out]; omega)⟩
                have hcy := cells_of hX9 hy
                have HY := Lib.hid hy
                have z0 := fun p : After wr => cell_after hcz.c0 p
                have y0 := fun p : After wr => cell_after hcy.c0 p
                have z1 := fun p : After wr => cell_after hcz.c1 p
                have y1 := fun p : After wr => cell_after hcy.c1 p
                have z2 := fun p : After wr => cell_after hcz.c2 p
                have y2 := fun p : After wr => cell_after hcy.c2 p
                have z3 := fun p : After wr => cell_after hcz.c3 p
                have y3 := fun p : After wr => cell_after hcy.c3 p
                have z4 := fun p : After wr => cell_after hcz.c4 p
                have y4 := fun p : After wr => cell_after hcy.c4 p
                have C1 := Lib.hid (fun W => refleq_any y z W)
                have C2 := Lib.hid (fun W => refleq_any z y W)
                clear hX9 hcz hcy hy
                cases g1 : leqB y z with
                | true =>
                  rw [g1] at C1
                  have HQ := Lib.hid (show rightF ts = false from right_no3 hlq HY.out HZ.out (.inl g1))
                  clear g1
                  go_wp2_with fail
                  refine quiet_after (by kernel_rfl) (by kernel_rfl) ?_
                  repeat (first | go_big_quiet_step ((first | (go_at_call 34; with_reducible exact calls_after (CR.out _)) | (go_at_call 36; with_reducible exact calls_after (CC.out _)) | (go_at_call 35; first | with_reducible exact calls_after (C1.out _) | with_reducible exact calls_after (C2.out _)))) | quiet_step ((first | (go_at_call 34; with_reducible exact calls_after (CR.out _)) | (go_at_call 36; with_reducible exact calls_after (CC.out _)) | (go_at_call 35; first | with_reducible exact calls_after (C1.out _) | with_reducible exact calls_after (C2.out _)))))
                  refine wpQuiet_nil ?_
                  intro wz hw'
                  obtain ⟨p, rfl⟩ := hw'
                  obtain ⟨w5, hbq⟩ := p
                  dsimp only
                  have HB5 := Lib.hid (below_then HB.out hbq)
                  clear hbq HB z0 z1 z2 z3 z4 y0 y1 y2 y3 y4 C1 C2
                  go_wp2_with fail
                  go_ret
                  exact .bool HQ.out.symm HB5.out
                | false =>
                  rw [g1] at C1
                  cases g2 : leqB z y with
                  | true =>
                    rw [g2] at C2
                    have HQ := Lib.hid (show rightF ts = false from right_no3 hlq HY.out HZ.out (.inr g2))
                    clear g1 g2
                    go_wp2_with fail
                    refine quiet_after (by kernel_rfl) (by kernel_rfl) ?_
                    repeat (first | go_big_quiet_step ((first | (go_at_call 34; with_reducible exact calls_after (CR.out _)) | (go_at_call 36; with_reducible exact calls_after (CC.out _)) | (go_at_call 35; first | with_reducible exact calls_after (C1.out _) | with_reducible exact calls_after (C2.out _)))) | quiet_step ((first | (go_at_call 34; with_reducible exact calls_after (CR.out _)) | (go_at_call 36; with_reducible exact calls_after (CC.out _)) | (go_at_call 35; first | with_reducible exact calls_after (C1.out _) | with_reducible exact calls_after (C2.out _)))))
                    refine wpQuiet_nil ?_
                    intro wz hw'
                    obtain ⟨p, rfl⟩ := hw'
                    obtain ⟨w5, hbq⟩ := p
                    dsimp only
                    have HB5 := Lib.hid (below_then HB.out hbq)
                    clear hbq HB z0 z1 z2 z3 z4 y0 y1 y2 y3 y4 C1 C2
                    go_wp2_with fail
                    go_ret
                    exact .bool HQ.out.symm HB5.out
                  | false =>
                    rw [g2] at C2
                    have HN := Lib.hid (show ∀ j x, j < q + 1 → ts[j]? = some x → leqB x z = false ∧ leqB z x = false from fun j x hj hx => by
                      rcases Nat.eq_or_lt_of_le (Nat.le_of_lt_succ hj) with e | e
                      · subst e; rw [HY.out] at hx; injection hx with hx; subst hx; exact ⟨g1, g2⟩
                      · exact HA.out j x e hx)
                    clear g1 g2
                    go_wp2_with fail
                    refine quiet_after (by kernel_rfl) (by kernel_rfl) ?_
                    repeat (first | go_big_quiet_step ((first | (go_at_call 34; with_reducible exact calls_after (CR.out _)) | (go_at_call 36; with_reducible exact calls_after (CC.out _)) | (go_at_call 35; first | with_reducible exact calls_after (C1.out _) | with_reducible exact calls_after (C2.out _)))) | quiet_step ((first | (go_at_call 34; with_reducible exact calls_after (CR.out _)) | (go_at_call 36; with_reducible exact calls_after (CC.out _)) | (go_at_call 35; first | with_reducible exact calls_after (C1.out _) | with_reducible exact calls_after (C2.out _)))))
                    refine wpQuiet_nil ?_
                    intro wz hw'
                    obtain ⟨p, rfl⟩ := hw'
                    obtain ⟨w5, hbq⟩ := p
                    dsimp only
                    have HB5 := Lib.hid (below_then HB.out hbq)
                    clear hbq HB z0 z1 z2 z3 z4 y0 y1 y2 y3 y4 C1 C2 HA
                    go_wp2_with fail
                    go_roundw
                    case rel => exact ⟨q + 1, by omega, by go_num, HN, HB5⟩
                    case measure => simp [intOf]; omega
              · have hqk : k = q := by omega
                subst hqk
                have dq : decide ((k : Int) < k) = false := decide_eq_false (by omega)
                have dq' : decide (k < k) = false := decide_eq_false (by omega)
                have HP2 := Lib.hid (HP.out.succ HZ.out HR.out.1 HR.out.2 HL.out HA.out)
                clear HA HP HL HR
                go_wp2_with fail
                go_roundw
                case rel => exact ⟨k + 1, by omega, by go_num, HP2, HB⟩
                case measure => simp [intOf]; omega
          · obtain ⟨m, hm⟩ : ∃ m, k = m + 1 := ⟨k - 1, by omega⟩
            have e1 : decide ((0 : Int) < k) = true := decide_eq_true (by omega)
            have e1' : decide (0 < k) = true := decide_eq_true (by omega)
            have zk : IntKind.i64.wrap ((k : Int) - 1) = m := by
              have : (k : Int) - 1 = m := by omega
              rw [this]; exact IntWalk.i64_in _ ⟨by omega, by omega⟩
            obtain ⟨y, hy⟩ : ∃ y, ts[m]? = some y := ⟨_, List.getElem?_eq_getElem (by rw [LX.out]; omega)⟩
            have hcy := cells_of hX9 hy
            have y0 := fun p : After wr => cell_after hcy.c0 p
            have y1 := fun p : After wr => cell_after hcy.c1 p
            have y2 := fun p : After wr => cell_after hcy.c2 p
            have y3 := fun p : After wr => cell_after hcy.c3 p
            have y4 := fun p : After wr => cell_after hcy.c4 p
            have CC := Lib.hid (fun W => refcompare_any y z W)
            have hmn : (m : Int) < n := by omega
            have hm0 : (0 : Int) ≤ m := by omega
            have HM := Lib.hid hm
            have HY := Lib.hid hy
            clear hX9 hcy hy hm
            by_cases gc : cfT y z < 0
            · have ec : decide ((0 : Int) ≤ cmpP y z 3) = false := decide_eq_false (by unfold cfT at gc; omega)
              have HL := Lib.hid (show ∀ m y, k = m + 1 → ts[m]? = some y → cfT y z < 0 from fun m' y' h hy' => by
                have hm := HM.out
                obtain rfl : m = m' := by omega
                rw [HY.out] at hy'
                injection hy' with hy'
                subst hy'
                exact gc)
              clear gc HY
              generalize cmpP y z 3 = cv at *
              go_wp2_with fail
              refine quiet_after (by kernel_rfl) (by kernel_rfl) ?_
              repeat (first | go_big_quiet_step ((first | (go_at_call 34; with_reducible exact calls_after (CR.out _)) | (go_at_call 36; with_reducible exact calls_after (CC.out _)) | (go_at_call 35; first | with_reducible exact calls_after (C1.out _) | with_reducible exact calls_after (C2.out _)))) | quiet_step ((first | (go_at_call 34; with_reducible exact calls_after (CR.out _)) | (go_at_call 36; with_reducible exact calls_after (CC.out _)) | (go_at_call 35; first | with_reducible exact calls_after (C1.out _) | with_reducible exact calls_after (C2.out _)))))
              refine wpQuiet_nil ?_
              intro wz hw'
              obtain ⟨p, rfl⟩ := hw'
              obtain ⟨w5, hbq⟩ := p
              dsimp only
              have HB5 := Lib.hid (below_then HB.out hbq)
              clear hbq HB z0 z1 z2 z3 z4 y0 y1 y2 y3 y4 d0 CR CC zk ec
              obtain ⟨wo, hwo⟩ : ∃ wo, wo = w5 := ⟨_, rfl⟩
              subst hwo
              have A0 := Lib.hid (show ∀ j y, j < 0 → ts[j]? = some y → leqB y z = false ∧ leqB z y = false from fun j y h => absurd h (Nat.not_lt_zero _))
              go_wp2_with fail
              go_loopw [4] (fun i wr => ∃ q : Nat, q ≤ k ∧ i = .int .i64 q ∧ Hid (∀ j y, j < q → ts[j]? = some y → leqB y z = false ∧ leqB z y = false) ∧ Hid (Below w.heap.size w wr)) (fun i _ => k - (intOf i).toNat)
              case atStart => exact ⟨0, Nat.zero_le _, rfl, A0, HB5⟩
              case round =>
                clear A0 HB5
                obtain ⟨q, hq, rfl, HA, HB⟩ := hrel
                by_cases hlq : q < k
                · have dq : decide ((q : Int) < k) = true := decide_eq_true (by omega)
                  have dq' : decide (q < k) = true := decide_eq_true (by omega)
                  have hX9 := HX.out.below At.stays HB.out
                  have hcz := cells_of hX9 HZ.out
                  obtain ⟨y, hy⟩ : ∃ y, ts[q]? = some y := ⟨_, List.getElem?_eq_getElem (by rw [LX.out]; omega)⟩
                  have hcy := cells_of hX9 hy
                  have HY := Lib.hid hy
                  have z0 := fun p : After wr => cell_after hcz.c0 p
                  have y0 := fun p : After wr => cell_after hcy.c0 p
                  have z1 := fun p : After wr => cell_after hcz.c1 p
                  have y1 := fun p : After wr => cell_after hcy.c1 p
                  have z2 := fun p : After wr => cell_after hcz.c2 p
                  have y2 := fun p : After wr => cell_after hcy.c2 p
                  have z3 := fun p : After wr => cell_after hcz.c3 p
                  have y3 := fun p : After wr => cell_after hcy.c3 p
                  have z4 := fun p : After wr => cell_after hcz.c4 p
                  have y4 := fun p : After wr => cell_after hcy.c4 p
                  have C1 := Lib.hid (fun W => refleq_any y z W)
                  have C2 := Lib.hid (fun W => refleq_any z y W)
                  clear hX9 hcz hcy hy
                  cases g1 : leqB y z with
                  | true =>
                    rw [g1] at C1
                    have HQ := Lib.hid (show rightF ts = false from right_no3 hlq HY.out HZ.out (.inl g1))
                    clear g1
                    go_wp2_with fail
                    refine quiet_after (by kernel_rfl) (by kernel_rfl) ?_
                    repeat (first | go_big_quiet_step ((first | (go_at_call 34; with_reducible exact calls_after (CR.out _)) | (go_at_call 36; with_reducible exact calls_after (CC.out _)) | (go_at_call 35; first | with_reducible exact calls_after (C1.out _) | with_reducible exact calls_after (C2.out _)))) | quiet_step ((first | (go_at_call 34; with_reducible exact calls_after (CR.out _)) | (go_at_call 36; with_reducible exact calls_after (CC.out _)) | (go_at_call 35; first | with_reducible exact calls_after (C1.out _) | with_reducible exact calls_after (C2.out _)))))
                    refine wpQuiet_nil ?_
                    intro wz hw'
                    obtain ⟨p, rfl⟩ := hw'
                    obtain ⟨w5, hbq⟩ := p
                    dsimp only
                    have HB5 := Lib.hid (below_then HB.out hbq)
                    clear hbq HB z0 z1 z2 z3 z4 y0 y1 y2 y3 y4 C1 C2
                    go_wp2_with fail
                    go_ret
                    exact .bool HQ.out.symm HB5.out
                  | false =>
                    rw [g1] at C1
                    cases g2 : leqB z y with
                    | true =>
                      rw [g2] at C2
                      have HQ := Lib.hid (show rightF ts = false from right_no3 hlq HY.out HZ.out (.inr g2))
                      clear g1 g2
                      go_wp2_with fail
                      refine quiet_after (by kernel_rfl) (by kernel_rfl) ?_
                      repeat (first | go_big_quiet_step ((first | (go_at_call 34; with_reducible exact calls_after (CR.out _)) | (go_at_call 36; with_reducible exact calls_after (CC.out _)) | (go_at_call 35; first | with_reducible exact calls_after (C1.out _) | with_reducible exact calls_after (C2.out _)))) | quiet_step ((first | (go_at_call 34; with_reducible exact calls_after (CR.out _)) | (go_at_call 36; with_reducible exact calls_after (CC.out _)) | (go_at_call 35; first | with_reducible exact calls_after (C1.out _) | with_reducible exact calls_after (C2.out _)))))
                      refine wpQuiet_nil ?_
                      intro wz hw'
                      obtain ⟨p, rfl⟩ := hw'
                      obtain ⟨w5, hbq⟩ := p
                      dsimp only
                      have HB5 := Lib.hid (below_then HB.out hbq)
                      clear hbq HB z0 z1 z2 z3 z4 y0 y1 y2 y3 y4 C1 C2
                      go_wp2_with fail
                      go_ret
                      exact .bool HQ.out.symm HB5.out
                    | false =>
                      rw [g2] at C2
                      have HN := Lib.hid (show ∀ j x, j < q + 1 → ts[j]? = some x → leqB x z = false ∧ leqB z x = false from fun j x hj hx => by
                        rcases Nat.eq_or_lt_of_le (Nat.le_of_lt_succ hj) with e | e
                        · subst e; rw [HY.out] at hx; injection hx with hx; subst hx; exact ⟨g1, g2⟩
                        · exact HA.out j x e hx)
                      clear g1 g2
                      go_wp2_with fail
                      refine quiet_after (by kernel_rfl) (by kernel_rfl) ?_
                      repeat (first | go_big_quiet_step ((first | (go_at_call 34; with_reducible exact calls_after (CR.out _)) | (go_at_call 36; with_reducible exact calls_after (CC.out _)) | (go_at_call 35; first | with_reducible exact calls_after (C1.out _) | with_reducible exact calls_after (C2.out _)))) | quiet_step ((first | (go_at_call 34; with_reducible exact calls_after (CR.out _)) | (go_at_call 36; with_reducible exact calls_after (CC.out _)) | (go_at_call 35; first | with_reducible exact calls_after (C1.out _) | with_reducible exact calls_after (C2.out _)))))
                      refine wpQuiet_nil ?_
                      intro wz hw'
                      obtain ⟨p, rfl⟩ := hw'
                      obtain ⟨w5, hbq⟩ := p
                      dsimp only
                      have HB5 := Lib.hid (below_then HB.out hbq)
                      clear hbq HB z0 z1 z2 z3 z4 y0 y1 y2 y3 y4 C1 C2 HA
                      go_wp2_with fail
                      go_roundw
                      case rel => exact ⟨q + 1, by omega, by go_num, HN, HB5⟩
                      case measure => simp [intOf]; omega
                · have hqk : k = q := by omega
                  subst hqk
                  have dq : decide ((k : Int) < k) = false := decide_eq_false (by omega)
                  have dq' : decide (k < k) = false := decide_eq_false (by omega)
                  have HP2 := Lib.hid (HP.out.succ HZ.out HR.out.1 HR.out.2 HL.out HA.out)
                  clear HA HP HL HR
                  go_wp2_with fail
                  go_roundw
                  case rel => exact ⟨k + 1, by omega, by go_num, HP2, HB⟩
                  case measure => simp [intOf]; omega
            · have ec : decide ((0 : Int) ≤ cmpP y z 3) = true := decide_eq_true (by unfold cfT at gc; omega)
              have HQ := Lib.hid (show rightF ts = false from right_no2 HY.out (by rw [← HM.out]; exact HZ.out) gc)
              clear gc HY
              generalize cmpP y z 3 = cv at *
              go_wp2_with fail
              refine quiet_after (by kernel_rfl) (by kernel_rfl) ?_
              repeat (first | go_big_quiet_step ((first | (go_at_call 34; with_reducible exact calls_after (CR.out _)) | (go_at_call 36; with_reducible exact calls_after (CC.out _)) | (go_at_call 35; first | with_reducible exact calls_after (C1.out _) | with_reducible exact calls_after (C2.out _)))) | quiet_step ((first | (go_at_call 34; with_reducible exact calls_after (CR.out _)) | (go_at_call 36; with_reducible exact calls_after (CC.out _)) | (go_at_call 35; first | with_reducible exact calls_after (C1.out _) | with_reducible exact calls_after (C2.out _)))))
              refine wpQuiet_nil ?_
              intro wz hw'
              obtain ⟨p, rfl⟩ := hw'
              obtain ⟨w5, hbq⟩ := p
              dsimp only
              have HB5 := Lib.hid (below_then HB.out hbq)
              clear hbq HB z0 z1 z2 z3 z4 y0 y1 y2 y3 y4 d0 CR CC zk ec HP
              go_wp2_with fail
              go_ret
              exact .bool HQ.out.symm HB5.out
        · have HQ := Lib.hid (show rightF ts = false from right_no1 HZ.out (.inr (by rw [HH.out]; exact gd)))
          have gd' : (z.d != t0.d) = true := by simpa using gd
          have d0 := fun p : After wr => cell_after hc0 p
          clear g hc0 hX9
          go_wp2_with fail
          refine quiet_after (by kernel_rfl) (by kernel_rfl) ?_
          repeat (first | go_big_quiet_step ((first | (go_at_call 34; with_reducible exact calls_after (CR.out _)) | (go_at_call 36; with_reducible exact calls_after (CC.out _)) | (go_at_call 35; first | with_reducible exact calls_after (C1.out _) | with_reducible exact calls_after (C2.out _)))) | quiet_step ((first | (go_at_call 34; with_reducible exact calls_after (CR.out _)) | (go_at_call 36; with_reducible exact calls_after (CC.out _)) | (go_at_call 35; first | with_reducible exact calls_after (C1.out _) | with_reducible exact calls_after (C2.out _)))))
          refine wpQuiet_nil ?_
          intro wz hw'
          obtain ⟨p, rfl⟩ := hw'
          obtain ⟨w5, hbq⟩ := p
          dsimp only
          have HB5 := Lib.hid (below_then HB.out hbq)
          clear hbq HB z0 z1 z2 z3 z4 d0 CR HP
          go_wp2_with fail
          go_ret
          exact .bool HQ.out.symm HB5.out
    · have hkn : k = n := by omega
      subst hkn
      have hd : decide ((k : Int) < k) = false := decide_eq_false (by omega)
      have hd' : decide (k < k) = false := decide_eq_false (by omega)
      have HQ := Lib.hid (show rightF ts = true from HP.out.all (by rw [LX.out]; omega))
      clear HP
      go_wp2_with fail
      go_ret
      exact .bool HQ.out.symm HB.out
end Go.Proofs.Ytamniepfgddecaa
