/- A nil net; many bytes that are made. -/
import Derived.Test.YtfgjmckdjkfgdaaRows
import Derived.IntWalk
import Derived.Test.YtfgjmckdjkfgdaaWords
import Derived.Test.YtfgjmckdjkfgdaaByts
import Derived.Test.YtfgjmckdjkfgdaaStrs
import Derived.Test.YtfgjmckdjkfgdaaFrame
import Derived.Test.YtfgjmckdjkfgdaaElems
import Derived.Test.YtfgjmckdjkfgdaaN1
import Derived.Test.YtfgjmckdjkfgdaaN3
import Derived.Test.YtfgjmckdjkfgdaaN10
import Derived.Test.YtfgjmckdjkfgdaaN11
import Derived.Test.YtfgjmckdjkfgdaaN15
namespace Go.Proofs.Ytfgjmckdjkfgdaa
open Go Go.RowKit Go.Proofs.Tail
set_option linter.unusedSimpArgs false
set_option linter.unusedVariables false
theorem nil_link (w : World) : Calls Try.prog 26 #[.pointer none, .int .i64 0, .int .i64 0] w (Tells (.pointer none) w) := by
  have HE := Lib.hid (ends_nil w)
  go_enter Try.func26, Try.ntmps26
  go_wp2_with fail
  with_reducible refine HE.out.mono ?_
  rintro e w1 ⟨rfl, rfl⟩
  go_wp2_with fail
  go_ret
  exact ⟨rfl, rfl⟩
theorem nil_first (w : World) : Calls Try.prog 18 #[.pointer none, .int .i64 0, .int .i64 0] w (Tells (.tuple #[.slice none 0 0, .bool false]) w) := by
  have HE := Lib.hid (nil_link w)
  go_enter Try.func18, Try.ntmps18
  go_wp2_with fail
  with_reducible refine HE.out.mono ?_
  rintro e w1 ⟨rfl, rfl⟩
  go_wp2_with fail
  go_ret2
  exact ⟨rfl, rfl⟩
theorem nil_take (w : World) : Calls Try.prog 12 #[.pointer none, .int .i64 0, .int .i64 0] w (Tells (.tuple #[.slice none 0 0, .bool false]) w) := by
  have HE := Lib.hid (nil_first w)
  go_enter Try.func12, Try.ntmps12
  go_wp2_with fail
  with_reducible refine HE.out.mono ?_
  rintro e w1 ⟨rfl, rfl⟩
  go_wp2_with fail
  go_ret2
  exact ⟨rfl, rfl⟩
theorem nil_clear (w : World) : Calls Try.prog 13 #[.pointer none, .int .i64 0] w (Tells (.tuple #[]) w) := by
  have HE := Lib.hid (ends_nil w)
  go_enter Try.func13, Try.ntmps13
  go_wp2_with fail
  with_reducible refine HE.out.mono ?_
  rintro e w1 ⟨rfl, rfl⟩
  go_wp2_with fail
  go_end0
  exact ⟨rfl, rfl⟩
theorem nil_send (w : World) : Calls Try.prog 14 #[.pointer none, .int .i64 0, .int .i64 0, .slice none 0 0] w (Tells (.int .i64 1) w) := by
  go_enter Try.func14, Try.ntmps14
  go_wp2_with fail
  go_ret
  exact ⟨rfl, rfl⟩
theorem nil_len (w : World) : Calls Try.prog 20 #[.pointer none, .int .i64 0, .int .i64 0] w (Tells (.int .i64 0) w) := by
  have HE := Lib.hid (nil_link w)
  go_enter Try.func20, Try.ntmps20
  go_wp2_with fail
  with_reducible refine HE.out.mono ?_
  rintro e w1 ⟨rfl, rfl⟩
  go_wp2_with fail
  go_ret
  exact ⟨rfl, rfl⟩
theorem nil_sent (w : World) : Calls Try.prog 16 #[.pointer none] w (Tells (.int .i64 0) w) := by
  go_enter Try.func16, Try.ntmps16
  go_wp2_with fail
  go_ret
  exact ⟨rfl, rfl⟩
theorem nil_taken (w : World) : Calls Try.prog 17 #[.pointer none] w (Tells (.int .i64 0) w) := by
  go_enter Try.func17, Try.ntmps17
  go_wp2_with fail
  go_ret
  exact ⟨rfl, rfl⟩
/-- make([]byte, n), n great. -/
theorem own_makeB {P : Program} {w : World} {ops : Array Oper} {rest : List Oper} {o : Oper} {a : Act} {Q : Exit → Act → World → Prop}
    (hg : o.guard = none) (l c : Operand) (t e : TypeId) (hop : o.op = Op.makeSlice t l c) (ht : P.underlying t = some (.slice e)) (hinfo : (P.info? e).map (fun i => (i.zero, i.size, i.bytes)) = some (some (.int .u8 0), 1, 1))
    (base n : Nat) (kl kc : IntKind) (hl : a.eval l = .int kl (n : Int)) (hc : a.eval c = .int kc (n : Int)) (hn : n ≤ 100000000) (hb : base ≤ w.heap.size)
    (h : ∀ w' xs, Byts w' (some ⟨w.heap.size, 0, Option.none⟩) n n xs → Below w.heap.size w w' → wpList P ops Q rest (a.put o.dst (.slice (some ⟨w.heap.size, 0, Option.none⟩) n n)) w') :
    wpList P ops Q (o :: rest) a w := by
  obtain ⟨i, hi, hzz⟩ := Option.map_eq_some_iff.1 hinfo
  simp only [Prod.mk.injEq] at hzz
  obtain ⟨hz0, hz1, hz2⟩ := hzz
  refine wpList_make_full w hg l c t hop base e i (.int .u8 0) 1 ht hi hz0 hz1 kl kc n n n hl hc rfl rfl (by rw [hz2]; omega) (by unfold maxLen; omega) hb fun w' h1 h2 => ?_
  have : (madeCells (Value.int .u8 0).cells (n * 1)).toList = byV (List.replicate n 0) := by
    apply List.ext_getElem
    · simp [byV, madeCells]
    · intro i h1 h2
      simp [byV, madeCells, Nat.mod_one, Value.cells]
  rw [this] at h1
  obtain ⟨A, c', he, hb'⟩ := own_bytes h1 (by omega)
  injection he with he1 _ he2
  subst he1 he2
  exact h w' _ hb' (below_grown (Below.refl _ w) h2 (fun k hk => by cases hk))
theorem slice_oneB {g n : Nat} (hn : 1 < n) (W : World) : (Instr.slice 30 (.slice (some ⟨g, 0, none⟩) n n) (some (.int .i64 1)) none none).run Try.prog W = .ok (.slice (some ⟨g, 1, none⟩) (n - 1) (n - 1)) W := by
  have h1 : (1 : Int) ≤ n := by omega
  have h2 : (n : Int) ≤ n := by omega
  have u := Try.underlying30
  have z := Try.sizeOf5
  have ha : (⟨g, 0, none⟩ : Addr).add 1 = ⟨g, 1, none⟩ := by unfold Addr.add; split <;> simp_all
  have h4 : ¬ (n - 1 = 0) := by omega
  have h5 : ¬ (n = 1) := by omega
  go_simp
end Go.Proofs.Ytfgjmckdjkfgdaa
