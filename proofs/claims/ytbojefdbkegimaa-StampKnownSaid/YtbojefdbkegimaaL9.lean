/- The walk of StampGet. -/
import Derived.Test.YtbojefdbkegimaaRows
import Derived.Test.YtbojefdbkegimaaWords
import Derived.Test.YtbojefdbkegimaaByts
import Derived.Test.YtbojefdbkegimaaS1
import Derived.Test.YtbojefdbkegimaaS2
import Derived.Test.YtbojefdbkegimaaS11
import Derived.Test.YtbojefdbkegimaaEqs
import Derived.Test.YtbojefdbkegimaaBs
import Derived.Test.YtbojefdbkegimaaF1
import Derived.Test.YtbojefdbkegimaaF2
import Derived.Test.YtbojefdbkegimaaF3
import Derived.Test.YtbojefdbkegimaaG1
import Derived.Test.YtbojefdbkegimaaG2
import Derived.Test.YtbojefdbkegimaaS10
import Derived.Test.YtbojefdbkegimaaS12
import Derived.Test.YtbojefdbkegimaaL3
import Derived.Test.YtbojefdbkegimaaL8
namespace Go.Proofs.Ytbojefdbkegimaa
open Go.RowKit Go.Proofs.Tail
set_option linter.unusedSimpArgs false
set_option linter.unusedVariables false

theorem Bs.grown {w wx wy : World} {l : List (Nat × T)} {row : Option Nat} (h : Bs w wx l) (hg : wx.grownBy wy row) (h1 : ∀ k, row = some k → ∀ p ∈ l, p.1 < k) (h2 : ∀ k, row = some k → w.heap.size ≤ k) : Bs w wy l :=
  ⟨fun p hp => (h.x p hp).grown hg fun k hk => h1 k hk p hp, below_grown h.b hg h2⟩
def GivesAs (t : T) (rs : List Int) (code : Int) (w : World) (e : Ending) (w' : World) : Prop :=
  ∃ A n c, e = .returned (.tuple #[.agg #[.int .i64 t.d, .int .i64 t.e, .int .i64 t.a, .int .i64 t.b, .int .i64 t.c], .slice A n c, .int .i64 code]) ∧ Byts w A n c rs ∧ Below w.heap.size w w'
theorem gives_as {xs : List Int} {w : World} {e : Ending} {w' : World} (g : GivesGet xs w e w') {t : T} {rs : List Int} {code : Int} (h1 : getT xs = t) (h2 : getR xs = rs) (h3 : getE xs = code) : GivesAs t rs code w e w' := by
  subst h1 h2 h3; exact g
theorem same_self {A A' : Option Addr} {n c n' c' : Nat} {xs : List Int} {w : World} (hx : Byts w A n c xs) (hy : Byts w A' n' c' xs) (hb : InB xs) :
    Calls Try.prog 32 #[.slice A n c, .slice A' n' c'] w (Tells (.bool true) w) := by
  have := samebytes_any A A' n c n' c' xs xs w hx hy hb hb
  rwa [decide_eq_true (rfl : xs = xs)] at this
theorem byV_src {w : World} {A : Option Addr} {m c : Nat} {ys : List Int} (h : Byts w A m c ys) : 0 < m → ∃ ad, A = some ad ∧ ∀ j u, (byV ys)[j]? = some u → w.cell? (ad.add j) = some u := by
  intro hm
  obtain ⟨b, off, rfl, hc⟩ := h.at_ hm
  refine ⟨_, rfl, fun j u hu => ?_⟩
  have hj : j < ys.length := by have := (List.getElem?_eq_some_iff.1 hu).1; simpa [byV] using this
  have := hc j ys[j] (List.getElem?_eq_getElem hj)
  unfold RByte at this
  rw [Nat.mul_one] at this
  have ha : (⟨b, off, Option.none⟩ : Addr).add j = ⟨b, off + j, Option.none⟩ := by unfold Addr.add; split <;> simp_all
  rw [ha, this]
  simpa [byV, List.getElem?_eq_getElem hj] using hu
theorem byV_one (xs : List Int) : ∀ u ∈ byV xs, u.oneCell' = true := by
  intro u hu; simp only [byV, List.mem_map] at hu; obtain ⟨q, _, rfl⟩ := hu; rfl
set_option maxRecDepth 100000 in
set_option maxHeartbeats 32000000 in
theorem law_get_long (s : T) (A : Option Addr) (n c : Nat) (bs : List Int) (w : World) (hn : 100 < n) : Calls Try.prog 9 #[.agg #[.int .i64 s.d, .int .i64 s.e, .int .i64 s.a, .int .i64 s.b, .int .i64 s.c], .slice A n c] w (Gives (.bool true) w) := by
  have N0 := Lib.hid ((Bs.nil w).box s _ rfl)
  have HW := Lib.hid works_any
  go_enter Try.func9, Try.ntmps9
  go_wp2_with fail
  refine (HW.out _).mono ?_
  rintro e1 w1 ⟨rfl, hb⟩
  have N1 := Lib.hid (N0.out.below hb)
  clear hb N0
  have HE := Lib.hid N1.out.b
  go_wp2
  go_ret
  exact .bool rfl HE.out
set_option maxRecDepth 100000 in
set_option maxHeartbeats 32000000 in
theorem law_get_few (s : T) (A : Option Addr) (n c : Nat) (bs : List Int) (w : World) (hR : Byts w A n c bs) (hB : InB bs) (hn : n ≤ 100) : Calls Try.prog 9 #[.agg #[.int .i64 s.d, .int .i64 s.e, .int .i64 s.a, .int .i64 s.b, .int .i64 s.c], .slice A n c] w (Gives (.bool true) w) := by
  have N0 := Lib.hid ((Bs.nil w).box s _ rfl)
  have HW := Lib.hid works_any
  have HG1 := Lib.hid (fun W (hb : Below w.heap.size w W) => (get_any A n c bs W (hR.below RByte.stays hb) hB).mono fun _ _ g => gives_as g rfl rfl rfl)
  have HG2 := Lib.hid (fun W (hb : Below w.heap.size w W) => (refget_any A n c bs W (hR.below RByte.stays hb) hB).mono fun _ _ g => gives_as g rfl rfl rfl)
  have BR := Lib.hid (getR_in hB)
  have HP := Lib.hid (put_any s)
  have HX := Lib.hid (putL_len s)
  have HQ : Hid (Wn s.rightB (InB (putL s ++ bs) ∧ getT (putL s ++ bs) = s ∧ getR (putL s ++ bs) = bs ∧ getE (putL s ++ bs) = 0)) :=
    Lib.hid fun h => ⟨fun x hx => by exact (List.mem_append.1 hx).elim (putL_in h x) (hB x), get_put h bs⟩
  have HE0 : Hid (putE s = 50 ∧ s.rightB = false ∨ putE s = 0 ∧ s.rightB = true) := Lib.hid (by
    cases h : s.rightB with
    | false => exact .inl ⟨putE_not h, rfl⟩
    | true => exact .inr ⟨putE_of h, rfl⟩)
  have HR := Lib.hid hR
  have HB := Lib.hid hB
  have HL := Lib.hid hR.len
  clear hR hB
  generalize getT bs = x at HG1 HG2
  generalize getR bs = rs at HG1 HG2 BR
  generalize getE bs = ec at HG1 HG2
  generalize putL s = ps at HP HX HQ
  generalize putE s = pe at HP HE0
  go_enter Try.func9, Try.ntmps9
  go_wp2_with fail
  refine (HG1.out _ N0.out.b).mono ?_
  rintro e1 w1 ⟨A1, n1, c1, rfl, hr, hb⟩
  have N1 := Lib.hid (N0.out.call hb x)
  have R1 := Lib.hid ((hr.below RByte.stays hb).below RByte.stays (below_new _ (.cells #[.int .i64 x.d, .int .i64 x.e, .int .i64 x.a, .int .i64 x.b, .int .i64 x.c] 24)))
  clear hb hr N0
  go_wp2_with fail
  refine (HG2.out _ N1.out.b).mono ?_
  rintro e2 w2 ⟨A2, n2, c2, rfl, hr, hb⟩
  have N2 := Lib.hid (N1.out.call hb x)
  have R2 := Lib.hid ((hr.below RByte.stays hb).below RByte.stays (below_new _ (.cells #[.int .i64 x.d, .int .i64 x.e, .int .i64 x.a, .int .i64 x.b, .int .i64 x.c] 24)))
  have R1' := Lib.hid ((R1.out.below RByte.stays hb).below RByte.stays (below_new _ (.cells #[.int .i64 x.d, .int .i64 x.e, .int .i64 x.a, .int .i64 x.b, .int .i64 x.c] 24)))
  clear hb hr N1 R1
  have e1 := eq_self5 x
  have l0 := N2.out.at 1 rfl
  have l1 := N2.out.at 0 rfl
  go_wp2_with fail
  clear e1
  clear l0 l1
  have HS := same_self R1'.out R2.out BR.out
  refine HS.mono ?_
  rintro e3 w3 ⟨rfl, rfl⟩
  clear HS R1' R2
  have l0 := N2.out.at 2 rfl
  go_wp2_with fail
  have LT : Hid (∀ p ∈ [(w2.heap.size, x), (w1.heap.size, x), (w.heap.size, s)], p.1 < (w2.alloc (.cells #[.int .i64 x.d, .int .i64 x.e, .int .i64 x.a, .int .i64 x.b, .int .i64 x.c] 24)).heap.size) := Lib.hid fun p hp => (N2.out.x p hp).lt
  generalize hW : w2.alloc (.cells #[.int .i64 x.d, .int .i64 x.e, .int .i64 x.a, .int .i64 x.b, .int .i64 x.c] 24) = W2 at N2 LT ⊢
  clear hW
  refine (HP.out _).mono ?_
  rintro e3 w3 ⟨v, rfl, ho, hb⟩
  clear l0
  have N3 := Lib.hid (N2.out.below hb)
  have HO := Lib.hid ho
  have HBW := Lib.hid N2.out.b.size
  have HSZ := Lib.hid hb.size
  clear ho hb N2
  have HE0 := HE0.out
  rcases HE0 with ⟨rfl, hr⟩ | ⟨rfl, hr⟩
  · skip
    clear hr
    go_wp2_with fail
    refine (HW.out _).mono ?_
    rintro e4 w4 ⟨rfl, hb⟩
    have N4 := Lib.hid (N3.out.below hb)
    clear hb N3
    have HE := Lib.hid N4.out.b
    go_wp2
    go_ret
    exact .bool rfl HE.out
  · skip
    obtain ⟨q1, q2, q3, q4⟩ := HQ.out hr
    clear hr
    have HI := Lib.hid q1
    have Q := Lib.hid (And.intro q2 (And.intro q3 q4))
    clear q1 q2 q3 q4
    have hps := HX.out
    have hbn := HL.out
    have HRW := Lib.hid (HR.out.below RByte.stays N3.out.b)
    go_wp2_with (at_builtin; refine own_append rfl (.tmp 55) (.tmp 56) 27 5 (.int .u8 0) 1 1 rfl Try.underlying27 infoB rfl (by omega) (by omega) W2.heap.size v ps.length (byV ps) A n c (byV bs) rfl rfl HO.out (by rw [byV_length, hbn]; omega) (byV_src HRW.out) (byV_one _) (by omega) HSZ.out ?_; intro v1 w4 hown hgr hat)
    have HN := Lib.hid (show w4.ownsRow W2.heap.size 5 1 v1 (ps.length + n) (byV (ps ++ bs)) by rw [show byV (ps ++ bs) = byV ps ++ byV bs by simp [byV]]; exact hown)
    have hrow : ∀ k, v.ownBlock = some k → W2.heap.size ≤ k := fun k hk => own_lt HO.out k hk
    have N4 := Lib.hid (N3.out.grown hgr (fun k hk p hp => Nat.lt_of_lt_of_le (LT.out p hp) (hrow k hk)) (fun k hk => Nat.le_trans HBW.out (hrow k hk)))
    clear hown hgr hat hrow N3
    obtain ⟨A4, c4, rfl, hr4⟩ := own_bytes HN.out (by omega)
    have R4 := Lib.hid hr4
    clear hr4 HN
    have HG := Lib.hid ((get_any A4 (ps.length + n) c4 (ps ++ bs) w4 R4.out HI.out).mono fun _ _ g => gives_as g Q.out.1 Q.out.2.1 Q.out.2.2)
    go_wp2_with fail
    refine HG.out.mono ?_
    rintro e5 w5 ⟨A5, n5, c5, rfl, hr, hb⟩
    have N5 := Lib.hid (N4.out.call hb s)
    have R5 := Lib.hid ((hr.below RByte.stays hb).below RByte.stays (below_new _ (.cells #[.int .i64 s.d, .int .i64 s.e, .int .i64 s.a, .int .i64 s.b, .int .i64 s.c] 24)))
    clear hb hr N4
    have e1 := eq_self5 s
    have l0 := N5.out.at 0 rfl
    have l1 := N5.out.at 3 rfl
    go_wp2_with fail
    clear e1
    clear l0 l1
    have HRX := Lib.hid (HR.out.below RByte.stays N5.out.b)
    have HS := same_self R5.out HRX.out HB.out
    refine HS.mono ?_
    rintro e6 w6 ⟨rfl, rfl⟩
    clear HS
    go_wp2_with fail
    refine (HW.out _).mono ?_
    rintro e6 w6 ⟨rfl, hb⟩
    have N6 := Lib.hid (N5.out.below hb)
    clear hb N5
    have HE := Lib.hid N6.out.b
    go_wp2
    go_ret
    exact .bool rfl HE.out
theorem law_get (s : T) (A : Option Addr) (n c : Nat) (bs : List Int) (w : World) (hR : Byts w A n c bs) (hB : InB bs) : Calls Try.prog 9 #[.agg #[.int .i64 s.d, .int .i64 s.e, .int .i64 s.a, .int .i64 s.b, .int .i64 s.c], .slice A n c] w (Gives (.bool true) w) := by
  by_cases hn : 100 < n
  · exact law_get_long s A n c bs w hn
  · exact law_get_few s A n c bs w hR hB (by omega)
end Go.Proofs.Ytbojefdbkegimaa
