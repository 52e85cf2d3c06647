/- Contract of antichain.Of. -/
import Derived.Test.YtebpepjlhanopaaRows
import Derived.Test.YtebpepjlhanopaaWords
import Derived.Test.YtebpepjlhanopaaByts
import Derived.Test.YtebpepjlhanopaaFrame
import Derived.Test.YtebpepjlhanopaaElems
import Derived.Test.YtebpepjlhanopaaS1
import Derived.Test.YtebpepjlhanopaaS2
import Derived.Test.YtebpepjlhanopaaS4
import Derived.Test.YtebpepjlhanopaaU1
import Derived.Test.YtebpepjlhanopaaU3
import Derived.Test.YtebpepjlhanopaaA1
namespace Go.Proofs.Ytebpepjlhanopaa
open Go Go.RowKit Go.Proofs.Tail Go.Sort
set_option linter.unusedSimpArgs false
set_option linter.unusedVariables false
/-- Those that none of the earlier ones is at or ahead of. -/
def minS : List T → List T → List T
  | out, [] => out
  | out, t :: l => if out.any (fun s => leqB s t) then minS out l else minS (out ++ [t]) l
theorem minS_append (out xs ys : List T) : minS out (xs ++ ys) = minS (minS out xs) ys := by
  induction xs generalizing out with
  | nil => rfl
  | cons x xs ih => simp only [List.cons_append, minS]; split <;> exact ih _
theorem minS_length (out xs : List T) : (minS out xs).length ≤ out.length + xs.length := by
  induction xs generalizing out with
  | nil => simp [minS]
  | cons x xs ih =>
    simp only [minS, List.length_cons]
    split
    · have := ih out; omega
    · have := ih (out ++ [x]); simp at this; omega
def anyBad (ts : List T) : Bool := ts.any (badT (ts.headD T0).d)
/-- The frontier of times. -/
def ofT (ts : List T) : Option (List T) := if anyBad ts then none else some (minS [] (sortT ts))
def errT (r : Option (List T)) : Int := if r.isSome then 0 else 50
def GivesOf (r : Option (List T)) (w : World) (e : Ending) (w' : World) : Prop :=
  ∃ v, e = .returned (.tuple #[v, .int .i64 (errT r)]) ∧ w'.ownsRow w.heap.size 28 5 v (r.getD []).length (recT (r.getD [])) ∧ Below w.heap.size w w'
theorem tms_new (W : World) (t : T) (B : Nat) (hB : W.heap.size = B) : Tms (W.alloc (.cells #[.int .i64 t.d, .int .i64 t.e, .int .i64 t.a, .int .i64 t.b, .int .i64 t.c] 28)) (some ⟨B, 0, none⟩) 1 1 [t] :=
  ⟨rfl, Nat.le_refl _, by omega, fun _ => ⟨B, 0, rfl, fun j x hj => by
    match j, hj with
    | 0, hj => obtain rfl : t = x := by simpa using hj
               exact at_box W t B hB
    | j + 1, hj => simp at hj⟩⟩
theorem enters1 : ∀ args W, (callFunc 50 args).run Try.prog W = .ok (.enter 50 args) W := enters_of Try.func50 (by kernel_rfl) rfl
theorem enters2 : ∀ args W, (callFunc 52 args).run Try.prog W = .ok (.enter 52 args) W := enters_of Try.func52 (by kernel_rfl) rfl
theorem bads_any (B : Nat) (A : Option Addr) (n c : Nat) (ts : List T) (w : World) (hB : Blk w B [.slice A n c] 33) (hX : Tms w A n c ts) :
    Calls Try.prog 41 #[.slice A n c, .func (.func 50) #[] #[.pointer (some ⟨B, 0, none⟩)]] w (Gives (.bool (anyBad ts)) w) :=
  contains_any A n c _ _ (badT (ts.headD T0).d) ts w hX enters1 fun x hx W hb => by
    cases ts with
    | nil => simp at hx
    | cons t0 ts => exact bad_any B A n c x t0 ts W (hB.then hb) (hX.below At.stays hb)
theorem leasts_any (B : Nat) (A : Option Addr) (n c : Nat) (ts : List T) (t : T) (w : World) (hB : Bx w B t) (hX : Tms w A n c ts) :
    Calls Try.prog 41 #[.slice A n c, .func (.func 52) #[] #[.pointer (some ⟨B, 0, none⟩)]] w (Gives (.bool (ts.any fun s => leqB s t)) w) :=
  contains_any A n c _ _ (fun s => leqB s t) ts w hX enters2 fun x hx W hb => least_any B x t W (hB.below hb)
set_option maxRecDepth 100000 in
set_option maxHeartbeats 16000000 in
theorem of_any (A : Option Addr) (n c : Nat) (ts : List T) (w : World) (hX : Tms w A n c ts) (hlim : n ≤ 1000000) :
    Calls Try.prog 32 #[.slice A n c] w (GivesOf (ofT ts) w) := by
  have HX := Lib.hid hX
  have LX := Lib.hid hX.len
  have b0 := Blk.new w [.slice A n c] 33 _ rfl
  have HW := below_new w (.cells #[.slice A n c] 33)
  have HBK := Lib.hid b0
  have C1 := Lib.hid (bads_any w.heap.size A n c ts (w.alloc (.cells #[.slice A n c] 33)) b0 (hX.below At.stays HW))
  have k0 := b0.cell 0
  have HB0 := Lib.hid HW
  clear hX b0 HW
  go_enter Try.func32, Try.ntmps32
  go_wp2_with fail
  refine C1.out.mono ?_
  rintro e w1 ⟨rfl, hb⟩
  have HB1 := Lib.hid (below_then HB0.out hb)
  have k1 := (HBK.out.then hb).cell 0
  have HX1 := Lib.hid (HX.out.below At.stays HB1.out)
  clear hb k0 HB0 HBK C1
  cases hbad : anyBad ts with
  | true =>
    have HR := Lib.hid (show ofT ts = none by unfold ofT; rw [hbad]; rfl)
    clear hbad
    go_wp2_with fail
    go_ret2
    exact ⟨_, by rw [HR.out]; rfl, by rw [HR.out]; exact World.ownsRow_nil _ _ _ _, HB1.out⟩
  | false =>
    have HR := Lib.hid (show ofT ts = some (minS [] (sortT ts)) by unfold ofT; rw [hbad]; rfl)
    clear hbad
    have C2 := Lib.hid (clone_any A n c ts w1 HX1.out (by omega))
    go_wp2_with fail
    refine C2.out.mono ?_
    rintro e w2 ⟨v, rfl, ho, hb⟩
    have HO := Lib.hid ho
    have HB2 := Lib.hid (below_then HB1.out hb)
    have HS1 := Lib.hid HB1.out.size
    clear ho hb C2 k1 HB1 HX1
    have C3 := Lib.hid (sort_any w1.heap.size v ts w2 HO.out (by rw [LX.out]; omega))
    go_wp2_with fail
    refine C3.out.mono ?_
    rintro e w3 ⟨rfl, ho, hf⟩
    have HB3 := Lib.hid (HB2.out.trans (hf.below HB2.out.size (fun k hk e => by have := own_lt HO.out k e; have := HS1.out; omega)))
    have hsl : (sortT ts).length = n := by rw [sortT_length, LX.out]
    obtain ⟨A3, c3, ev, hr⟩ := own_tms (n := n) (by rw [← hsl]; exact ho) (by omega)
    subst ev
    have HR3 := Lib.hid hr
    have HSL := Lib.hid hsl
    clear ho hf hr C3 HO HB2 HS1 hsl
    generalize sortT ts = zs at *
    have O0 := Lib.hid (World.ownsRow_nil w3 w3.heap.size 28 5)
    have B0 := Lib.hid (Below.refl w3.heap.size w3)
    go_wp2_with fail
    go_loopw [5, 17] (fun v i wr => ∃ k : Nat, k ≤ n ∧ i = .int .i64 k ∧ Hid (wr.ownsRow w3.heap.size 28 5 v (minS [] (zs.take k)).length (recT (minS [] (zs.take k)))) ∧ Hid (Below w3.heap.size w3 wr)) (fun _ i _ => n - (intOf i).toNat)
    case atStart => exact ⟨0, Nat.zero_le _, rfl, O0, B0⟩
    case round =>
      clear O0 B0
      obtain ⟨k, hk, rfl, HO, HB⟩ := hrel
      by_cases hlt : k < n
      · have hd : decide ((k : Int) < n) = true := decide_eq_true (by omega)
        have hd' : decide (k < n) = true := decide_eq_true (by omega)
        obtain ⟨b, off, z, rfl, hz, hc⟩ := (HR3.out.below At.stays HB.out).elem hlt
        have c0 := hc.c0
        have c1 := hc.c1
        have c2 := hc.c2
        have c3' := hc.c3
        have c4 := hc.c4
        have hle := minS_length [] (zs.take k)
        have hml : (minS [] (zs.take k)).length ≤ 1000000 := by simp at hle; omega
        have HZ := Lib.hid (show minS [] (zs.take (k + 1)) = minS (minS [] (zs.take k)) [z] by
          rw [← minS_append]
          congr 1
          rw [List.take_add_one, hz]; rfl)
        clear hz hc hle
        generalize minS [] (zs.take k) = out at *
        generalize hol : out.length = m at *
        obtain ⟨A4, c5, ev, hr4⟩ := own_tms (n := m) HO.out (by omega)
        subst ev
        have HWN := Lib.hid (below_new wr (.cells #[.int .i64 z.d, .int .i64 z.e, .int .i64 z.a, .int .i64 z.b, .int .i64 z.c] 28))
        have C4 := Lib.hid (leasts_any wr.heap.size A4 m c5 out z (wr.alloc (.cells #[.int .i64 z.d, .int .i64 z.e, .int .i64 z.a, .int .i64 z.b, .int .i64 z.c] 28)) (Bx.new wr z _ rfl) (hr4.below At.stays HWN.out))
        have HOL := Lib.hid hol
        clear hr4 hol
        go_wp2_with fail
        refine C4.out.mono ?_
        rintro e w5 ⟨rfl, hb⟩
        have hbw := below_then HWN.out hb
        have HO5 := Lib.hid (own_below HO.out hbw)
        have HB5 := Lib.hid (below_then HB.out hbw)
        obtain ⟨x0, x1, x2, x3, x4⟩ := ((Bx.new wr z _ rfl).below hb).cells
        clear hb hbw HO HB C4 HWN c0 c1 c2 c3' c4
        cases hany : out.any (fun s => leqB s z) with
        | true =>
          have HN := Lib.hid (show w5.ownsRow w3.heap.size 28 5 (.slice A4 m c5) (minS [] (zs.take (k + 1))).length (recT (minS [] (zs.take (k + 1)))) by
            rw [HZ.out]; simp only [minS, hany, if_true]; rw [HOL.out]; exact HO5.out)
          clear hany HO5 x0 x1 x2 x3 x4
          go_wp2_with fail
          go_roundw
          case rel => exact ⟨k + 1, by omega, by go_num, HN, HB5⟩
          case measure => simp [intOf]; omega
        | false =>
          have HZ2 := Lib.hid (show minS [] (zs.take (k + 1)) = out ++ [z] by rw [HZ.out]; simp only [minS, hany]; rfl)
          have HWN := Lib.hid (below_new w5 (.cells #[.int .i64 z.d, .int .i64 z.e, .int .i64 z.a, .int .i64 z.b, .int .i64 z.c] 28))
          have HO6 := Lib.hid (own_below HO5.out HWN.out)
          have HT := Lib.hid (tms_new w5 z _ rfl)
          clear hany
          go_wp2_with (at_builtin; refine own_append_tms (W := w5.alloc (.cells #[.int .i64 z.d, .int .i64 z.e, .int .i64 z.a, .int .i64 z.b, .int .i64 z.c] 28)) rfl (.tmp 25) (.tmp 27) 33 28 rfl Try.underlying33 infoT w3.heap.size (.slice A4 m c5) out (some ⟨w5.heap.size, 0, none⟩) 1 1 [z] rfl rfl (by rw [HOL.out]; exact HO6.out) HT.out (by rw [HOL.out]; omega) (Nat.le_trans HB5.out.size HWN.out.size) ?_; intro v1 w6 hown hgr hat)
          have hr : ∀ k, (Value.slice A4 m c5).ownBlock = some k → w3.heap.size ≤ k := fun k hk => own_lt HO6.out k hk
          have HB6 := Lib.hid ((below_then HB5.out HWN.out).grown hgr (below_then HB5.out HWN.out).size hr)
          have HN := Lib.hid (show w6.ownsRow w3.heap.size 28 5 v1 (minS [] (zs.take (k + 1))).length (recT (minS [] (zs.take (k + 1)))) by rw [HZ2.out]; exact hown)
          clear hown hgr hat hr HO5 HO6 HT HB5 HWN x0 x1 x2 x3 x4
          go_roundw
          case rel => exact ⟨k + 1, by omega, by go_num, HN, HB6⟩
          case measure => simp [intOf]; omega
      · have hkn : k = n := by omega
        subst hkn
        have hd : decide ((k : Int) < k) = false := decide_eq_false (by omega)
        have hd' : decide (k < k) = false := decide_eq_false (by omega)
        have HN := Lib.hid (show wr.ownsRow w3.heap.size 28 5 u5 (minS [] zs).length (recT (minS [] zs)) by have := HO.out; rwa [List.take_of_length_le (by rw [HSL.out]; omega)] at this)
        have HB9 := Lib.hid (below_then HB3.out HB.out)
        have HS3 := Lib.hid HB3.out.size
        clear HO HB
        go_wp2_with fail
        go_ret2
        exact ⟨_, by rw [HR.out]; rfl, by rw [HR.out]; exact own_base HN.out HS3.out, HB9.out⟩
end Go.Proofs.Ytebpepjlhanopaa
