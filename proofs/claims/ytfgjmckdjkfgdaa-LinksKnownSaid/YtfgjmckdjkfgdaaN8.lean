/- Send, where it goes well. -/
import Derived.Test.YtfgjmckdjkfgdaaRows
import Derived.IntWalk
import Derived.Deep.RegionHeld3
import Derived.Test.YtfgjmckdjkfgdaaWords
import Derived.Test.YtfgjmckdjkfgdaaByts
import Derived.Test.YtfgjmckdjkfgdaaFrame
import Derived.Test.YtfgjmckdjkfgdaaOwnAt
import Derived.Test.YtfgjmckdjkfgdaaN1
import Derived.Test.YtfgjmckdjkfgdaaN2
import Derived.Test.YtfgjmckdjkfgdaaN3
import Derived.Test.YtfgjmckdjkfgdaaN4
namespace Go.Proofs.Ytfgjmckdjkfgdaa
open Go Go.RowKit Go.Proofs.Tail
set_option linter.unusedSimpArgs false
set_option linter.unusedVariables false
theorem infoH : (Try.prog.info? 30).map (fun i => (i.zero, i.size, i.bytes)) = some (some (.slice none 0 0), 1, 24) := by kernel_rfl
theorem OwnAt.form {w : World} {base : Nat} {e : TypeId} {size : Nat} {v : Value} {n : Nat} {xs : List Value} (h : OwnAt w base e size v n xs) : ∃ A c, v = .slice A n c := by
  rcases h.2 with ⟨rfl, rfl⟩ | ⟨g, off, cap, cur, rfl, _⟩
  · exact ⟨_, _, rfl⟩
  · exact ⟨_, _, rfl⟩
theorem OwnAt.then {w w' : World} {base : Nat} {e : TypeId} {size : Nat} {v : Value} {n : Nat} {xs : List Value} (h : OwnAt w base e size v n xs) (hb : Below w.heap.size w w') : OwnAt w' base e size v n xs :=
  h.block fun k hk => hb.block k (h.lt k hk).2
theorem owns_below {w w1 : World} {base : Nat} {e : TypeId} {size n : Nat} {v : Value} {xs : List Value} (h : w.ownsRow base e size v n xs) (hb : Below w.heap.size w w1) : w1.ownsRow base e size v n xs := own_below h hb
theorem owns_one {w : World} {base n : Nat} {e : TypeId} {size : Nat} {v : Value} {xs : List Value} (h : w.ownsRow base e size v n xs) : v.oneCell' = true := by
  rcases h.2 with ⟨rfl, _⟩ | ⟨g, cap, cur, rfl, _⟩ <;> rfl
/-- What Send gives where it goes well. -/
def GivesSend (P k base m : Nat) (hv : Value) (hs : List Value) (s : Int) (xs : List Int) (w : World) (e : Ending) (w' : World) : Prop :=
  ∃ v1 v' w1 w2, e = .returned (.int .i64 0) ∧ w1.ownsRow w.heap.size 5 1 v1 xs.length (byV xs) ∧ Below w.heap.size w w1 ∧ OwnAt w2 base 30 1 v' (m + 1) (hs ++ [v1]) ∧ w1.grownBy w2 hv.ownBlock ∧
    (v'.ownBlock = hv.ownBlock ∨ v'.ownBlock = some w1.heap.size) ∧ w' = (w2.setCell ⟨P, k, none⟩ v').setCell ⟨P, 4097, none⟩ (.int .i64 (wrap64 (s + 1)))
set_option maxHeartbeats 4000000 in
theorem send_yes {P n c a b E m base : Nat} {s : Int} {A A1 : Option Addr} {c1 : Nat} {hs : List Value} {xs : List Int} {w : World} (h : w.cell? ⟨P, 0, none⟩ = some (.int .i64 E)) (hE : E ≤ 64) (ha : a < E) (hb : b < E) (hx : Byts w A n c xs) (hn : n ≤ 1048576)
    (hr : w.cell? ⟨P, 1 + a * 64 + b, none⟩ = some (.slice A1 m c1)) (ho : OwnAt w base 30 1 (.slice A1 m c1) m hs) (hne : (Value.slice A1 m c1).ownBlock ≠ some P) (hm : m < 4096) (hs4 : w.cell? ⟨P, 4097, none⟩ = some (.int .i64 s))
    (hz : ∀ i, w.frozen? ⟨P, i, none⟩ = false) (hbase : base ≤ w.heap.size) :
    Calls Try.prog 14 #[.pointer (some ⟨P, 0, none⟩), .int .i64 a, .int .i64 b, .slice A n c] w (GivesSend P (1 + a * 64 + b) base m (.slice A1 m c1) hs s xs w) := by
  have HE := Lib.hid (link_yes h hE ha hb)
  have HC := Lib.hid (fun W (hb : Below w.heap.size w W) => clone_any A n c xs W (hx.below RByte.stays hb) (by omega))
  have d1 : decide (1048576 < (n : Int)) = false := decide_eq_false (by omega)
  have d2 : decide (1048576 < n) = false := decide_eq_false (by omega)
  have d3 : decide (4096 ≤ (m : Int)) = false := decide_eq_false (by omega)
  have d4 : decide (4096 ≤ m) = false := decide_eq_false (by omega)
  have HO := Lib.hid ho
  have HM := Lib.hid (show (m + 1) * 24 ≤ 140737488355328 by omega)
  have HB0 := Lib.hid hbase
  have HS := Lib.hid hs4
  have HZ := Lib.hid hz
  have HNE := Lib.hid hne
  have HP := Lib.hid (below_lt hr)
  have HL := Lib.hid hx.len
  clear hx ho hbase hne hs4
  have hz1 := HZ.out (1 + a * 64 + b)
  clear hz
  go_enter Try.func14, Try.ntmps14
  go_wp2_with fail
  with_reducible refine HE.out.mono ?_
  rintro e w1 ⟨rfl, rfl⟩
  go_wp2_with fail
  go_region_law
    (first
      | (go_simp; go_at_call 28; (with_reducible refine (HC.out _ (below_drew (Below.refl _ _))).mono ?_); rintro e wz ⟨v1, rfl, hv1, hb1⟩; obtain ⟨A2, c2, rfl⟩ := (OwnAt.of hv1).form; have HB1 := Lib.hid (show Below w.heap.size w wz from below_then (below_drew (Below.refl _ _)) hb1); have hr1 := below_cell HB1.out hr; have hra := below_cell (below_new wz (.cells #[.slice A2 xs.length c2] 30)) hr1; have hzz := (World.frozen?_of_block (HB1.out.block P HP.out)).trans hz1; have HV := Lib.hid hv1; have HV1 := Lib.hid (owns_one hv1); clear hv1 hb1 hr)
      | (refine step_own_append_off rfl (.tmp 32) (.tmp 35) 47 30 (.slice none 0 0) 1 24 rfl Try.underlying47 infoH rfl (by omega) (by omega) base (.slice A1 m c1) m hs _ 1 1 [.slice A2 xs.length c2] rfl rfl (HO.out.then (below_then HB1.out (below_new wz _))) rfl (fun _ => ⟨⟨wz.heap.size, 0, none⟩, rfl, fun j u hj => by rw [add_plain]; exact box_cell wz [.slice A2 xs.length c2] _ j u hj⟩) (by simpa using HV1.out) HM.out (Nat.le_trans HB0.out (below_then HB1.out (below_new wz _)).size) ?_
         intro v2 w2 hown hgr hat
         obtain ⟨A3, c3, rfl⟩ := hown.form
         have hz2 : w2.frozen? ⟨P, 1 + a * 64 + b, none⟩ = false := (World.frozen?_of_block (hgr.block P (Nat.lt_of_lt_of_le HP.out (below_then HB1.out (below_new wz _)).size) (fun e => HNE.out e.symm))).trans ((World.frozen?_of_block ((below_then HB1.out (below_new wz _)).block P HP.out)).trans hz1)
         have hr2 : w2.cell? ⟨P, 1 + a * 64 + b, none⟩ = some (.slice A1 m c1) := hgr.cell (below_cell (below_new _ _) hr1) (fun e => HNE.out e.symm)
         have HOW := Lib.hid hown
         have HGR := Lib.hid hgr
         have HAT := Lib.hid hat
         clear hown hgr hat))
  all_goals
    have hne : ¬ (1 + a * 64 + b = 4097) := by omega
    have hne' : ¬ (4097 = 1 + a * 64 + b) := by omega
    have t2 : (w2.setCell ⟨P, 1 + a * 64 + b, none⟩ (.slice A3 (m + 1) c3)).cell? ⟨P, 4097, none⟩ = some (.int .i64 s) := by
      rw [World.cell?_setCell_other _ _ _ _ (by simp [hne])]
      exact HGR.out.cell (below_cell (below_then HB1.out (below_new wz _)) HS.out) (fun e => HNE.out e.symm)
    have z3 : (w2.setCell ⟨P, 1 + a * 64 + b, none⟩ (.slice A3 (m + 1) c3)).frozen? ⟨P, 4097, none⟩ = false := by
      rw [World.frozen?_setCell]
      exact (World.frozen?_of_block (HGR.out.block P (Nat.lt_of_lt_of_le HP.out (below_then HB1.out (below_new wz _)).size) (fun e => HNE.out e.symm))).trans ((World.frozen?_of_block ((below_then HB1.out (below_new wz _)).block P HP.out)).trans (HZ.out 4097))
    have HMO := Lib.hid (more_any t2 z3)
    clear t2 z3
    go_wp2_with fail
    with_reducible refine HMO.out.mono ?_
    rintro e w3 ⟨rfl, rfl⟩
    go_wp2_with fail
    go_ret
    exact ⟨_, _, _, w2, rfl, owns_below HV.out (below_new wz _), below_then HB1.out (below_new wz _), HOW.out, HGR.out, HAT.out, rfl⟩
end Go.Proofs.Ytfgjmckdjkfgdaa
