/- Bricks of bytes are written. Conditions: the numbers are of their kinds. -/
import Derived.Test.YteglieoeblehpaaWire1
import Derived.Laws.IdiomStrings
namespace Go.Proofs.Yteglieoeblehpaa
open Go.RowKit

theorem info_u8 : (Try.prog.info? 5).map (fun i => (i.zero, i.size, i.bytes)) = some (some (.int .u8 0), 1, 1) := by kernel_rfl
theorem conv_own {w : World} {B n : Nat} {v : Value} {l : List UInt8} (h : w.ownsRow B 5 1 v n (Lib.byteCells l)) (hn : 0 < n) : (convert 79 9 v).run Try.prog w = .ok (.string (bs l)) w := by
  obtain ⟨hl, h⟩ := h
  have hl' : l.length = n := by simpa [Lib.byteCells] using hl
  rcases h with ⟨_, h0⟩ | ⟨g, cap, cur, rfl, _, hg, _, _, hcs, ht⟩
  · omega
  · subst hl'
    refine run_convert_bytes_back w _ _ _ ⟨g, 0, none⟩ cap l Try.underlying79 Try.underlying5 Try.underlying9 (fun j hj => ?_)
    have : (⟨g, 0, none⟩ : Addr).add j = ⟨g, j, none⟩ := by simp [Addr.add]; exact fun h => h.symm
    rw [this, cell_of_row w g j cur _ _ hg]
    have e := congrArg (fun x => x[j]?) ht
    simp only [Nat.mul_one, List.getElem?_take, hj, if_true] at e
    simp only [Lib.byteCells, List.getElem?_map, List.getElem?_eq_getElem hj, Option.map_some] at e
    rw [← Array.getElem?_toList]
    exact e
set_option maxRecDepth 100000 in
set_option maxHeartbeats 4000000 in
theorem wr_Uint (x : Nat) (hx : x < 18446744073709551616) (w : World) :
    Calls Try.prog 12 #[.int .u64 x] w fun e w' => e = .returned (.string (bs (Lib.uvarint x))) ∧ Below w.heap.size w w' := by
  obtain ⟨i0, hi, hz0, hz1, hz2⟩ := info_parts info_u8
  have hlen := Lib.uvarint_length64 hx
  have hmk : ∀ w, (Instr.makeSlice 79 (.int .i64 0) (.int .i64 10)).run Try.prog w = .ok (.slice (some ⟨w.heap.size, 0, none⟩) 0 10) (w.alloc (.cells #[.int .u8 0, .int .u8 0, .int .u8 0, .int .u8 0, .int .u8 0, .int .u8 0, .int .u8 0, .int .u8 0, .int .u8 0, .int .u8 0] 5)) := fun _ => by kernel_rfl
  have h0 : (w.alloc (.cells #[.int .u8 0, .int .u8 0, .int .u8 0, .int .u8 0, .int .u8 0, .int .u8 0, .int .u8 0, .int .u8 0, .int .u8 0, .int .u8 0] 5)).ownsRow w.heap.size 5 1 (.slice (some ⟨w.heap.size, 0, none⟩) 0 10) 0 (Lib.byteCells []) := World.ownsRow_made w _ 10 (Nat.le_refl _) (by decide) rfl
  have hb0 : Below w.heap.size w (w.alloc (.cells #[.int .u8 0, .int .u8 0, .int .u8 0, .int .u8 0, .int .u8 0, .int .u8 0, .int .u8 0, .int .u8 0, .int .u8 0, .int .u8 0] 5)) := by go_grown
  go_enter Try.func12, Try.ntmps12
  go_wp2_with fail
  go_loopw [0, 3] (fun vx vb wr => ∃ (y : Nat) (pre : List UInt8), vx = .int .u64 y ∧ y ≤ x ∧ Hid (Lib.uvarint x = pre ++ Lib.uvarint y) ∧ wr.ownsRow w.heap.size 5 1 vb pre.length (Lib.byteCells pre) ∧ Below w.heap.size w wr)
    (fun vx _ _ => (intOf vx).toNat)
  case atStart => exact ⟨x, [], rfl, Nat.le_refl _, Lib.hid rfl, h0, hb0⟩
  case round =>
    clear h0 hb0 hmk
    obtain ⟨y, pre, rfl, hy, hsplit, hown1, hnx⟩ := hrel
    have hpl : pre.length + (Lib.uvarint y).length ≤ 10 := by
      have h2 := congrArg List.length hsplit.out
      rw [List.length_append] at h2
      omega
    have hyp := Lib.uvarint_pos y
    by_cases h128 : 128 ≤ y
    · have hor : bits .or .u8 ((y : Int) % 256) 128 = ((y % 128 + 128 : Nat) : Int) := by
        rw [Lib.u8_or128_any _ (by omega) (by omega)]
        omega
      go_wp2_with (at_builtin; refine wpList_append_own _ rfl _ _ 79 rfl w.heap.size 5 i0 (.int .u8 0) 1 1 Try.underlying79 hi hz0 hz1 hz2 rfl (by decide) _ _ _ rfl (hown1.alloc _) ⟨wr.heap.size, 0, none⟩ 1 1 [Value.int .u8 ((y % 128 + 128 : Nat) : Int)] rfl rfl ?c1 ?c2 ?c3 ?c4 ?c5 ?_)
      case c1 =>
        intro j u hj
        match j, hj with
        | 0, hj => simp at hj; subst hj; simp [Addr.add]
      case c2 => intro u hu; simp at hu; subst hu; rfl
      case c3 => unfold maxLen; omega
      case c4 => omega
      case c5 => have := hnx.size; simp; omega
      intro v' w1 hown' hgrow _
      have hnx1 : Below w.heap.size w w1 := (hnx.alloc (by have := hnx.size; omega) _).grown hgrow (by have := hnx.size; simp; omega) (fun k hk => (hown1.lt k hk).1)
      go_wp2
      go_roundw
      case rel =>
        refine ⟨y / 128, pre ++ [(y % 128 + 128).toUInt8], by go_num, by omega, Lib.hid (by rw [hsplit.out, Lib.uvarint_big h128]; simp), ?_, hnx1⟩
        have ec : ((y % 128 + 128 : Nat) : Int) = (y : Int) % 128 + 128 := by omega
        rw [Lib.byteCells_snoc pre (by omega), List.length_append, List.length_singleton, ec]
        exact hown'
      case measure => simp [intOf]; omega
    · have hsm : Lib.uvarint y = [y.toUInt8] := Lib.uvarint_small (by omega)
      have HS : Hid (Lib.uvarint x = pre ++ [y.toUInt8]) := Lib.hid (hsplit.out.trans (by rw [hsm]))
      clear hsm hsplit
      go_wp2_with (at_builtin; refine wpList_append_own _ rfl _ _ 79 rfl w.heap.size 5 i0 (.int .u8 0) 1 1 Try.underlying79 hi hz0 hz1 hz2 rfl (by decide) _ _ _ rfl (hown1.alloc _) ⟨wr.heap.size, 0, none⟩ 1 1 [Value.int .u8 (y : Int)] rfl rfl ?c1 ?c2 ?c3 ?c4 ?c5 ?_)
      case c1 =>
        intro j u hj
        match j, hj with
        | 0, hj => simp at hj; subst hj; simp [Addr.add]
      case c2 => intro u hu; simp at hu; subst hu; rfl
      case c3 => unfold maxLen; omega
      case c4 => omega
      case c5 => have := hnx.size; simp; omega
      intro v' w1 hown' hgrow _
      have hnx1 : Below w.heap.size w w1 := (hnx.alloc (by have := hnx.size; omega) _).grown hgrow (by have := hnx.size; simp; omega) (fun k hk => (hown1.lt k hk).1)
      rw [← Lib.byteCells_snoc pre (by omega)] at hown'
      have hcv := conv_own hown' (by omega)
      rw [← HS.out] at hcv
      go_wp2
      go_ret
      exact ⟨rfl, hnx1⟩
set_option maxRecDepth 100000 in
set_option maxHeartbeats 4000000 in
theorem rr_Uint (x : Nat) (hx : x < 18446744073709551616) (w : World) :
    Calls Try.prog 13 #[.int .u64 x] w fun e w' => e = .returned (.string (bs (Lib.uvarint x))) ∧ Below w.heap.size w w' := by
  obtain ⟨i0, hi, hz0, hz1, hz2⟩ := info_parts info_u8
  have hlen := Lib.uvarint_length64 hx
  go_enter Try.func13, Try.ntmps13
  go_wp2_with fail
  go_loopw [0, 3] (fun vx vb wr => ∃ (y : Nat) (pre : List UInt8), vx = .int .u64 y ∧ y ≤ x ∧ Hid (Lib.uvarint x = pre ++ Lib.uvarint y) ∧ wr.ownsRow w.heap.size 5 1 vb pre.length (Lib.byteCells pre) ∧ Below w.heap.size w wr)
    (fun vx _ _ => (intOf vx).toNat)
  case atStart => exact ⟨x, [], rfl, Nat.le_refl _, Lib.hid rfl, World.ownsRow_nil _ _ _ _, Below.refl _ _⟩
  case round =>
    obtain ⟨y, pre, rfl, hy, hsplit, hown1, hnx⟩ := hrel
    have hpl : pre.length + (Lib.uvarint y).length ≤ 10 := by
      have h2 := congrArg List.length hsplit.out
      rw [List.length_append] at h2
      omega
    have hyp := Lib.uvarint_pos y
    by_cases h128 : 128 ≤ y
    · have hor : bits .or .u8 ((y : Int) % 256) 128 = ((y % 128 + 128 : Nat) : Int) := by
        rw [Lib.u8_or128_any _ (by omega) (by omega)]
        omega
      go_wp2_with (at_builtin; refine wpList_append_own _ rfl _ _ 79 rfl w.heap.size 5 i0 (.int .u8 0) 1 1 Try.underlying79 hi hz0 hz1 hz2 rfl (by decide) _ _ _ rfl (hown1.alloc _) ⟨wr.heap.size, 0, none⟩ 1 1 [Value.int .u8 ((y % 128 + 128 : Nat) : Int)] rfl rfl ?c1 ?c2 ?c3 ?c4 ?c5 ?_)
      case c1 =>
        intro j u hj
        match j, hj with
        | 0, hj => simp at hj; subst hj; simp [Addr.add]
      case c2 => intro u hu; simp at hu; subst hu; rfl
      case c3 => unfold maxLen; omega
      case c4 => omega
      case c5 => have := hnx.size; simp; omega
      intro v' w1 hown' hgrow _
      have hnx1 : Below w.heap.size w w1 := (hnx.alloc (by have := hnx.size; omega) _).grown hgrow (by have := hnx.size; simp; omega) (fun k hk => (hown1.lt k hk).1)
      go_wp2
      go_roundw
      case rel =>
        refine ⟨y / 128, pre ++ [(y % 128 + 128).toUInt8], by go_num, by omega, Lib.hid (by rw [hsplit.out, Lib.uvarint_big h128]; simp), ?_, hnx1⟩
        have ec : ((y % 128 + 128 : Nat) : Int) = (y : Int) % 128 + 128 := by omega
        rw [Lib.byteCells_snoc pre (by omega), List.length_append, List.length_singleton, ec]
        exact hown'
      case measure => simp [intOf]; omega
    · have hsm : Lib.uvarint y = [y.toUInt8] := Lib.uvarint_small (by omega)
      have HS : Hid (Lib.uvarint x = pre ++ [y.toUInt8]) := Lib.hid (hsplit.out.trans (by rw [hsm]))
      clear hsm hsplit
      go_wp2_with (at_builtin; refine wpList_append_own _ rfl _ _ 79 rfl w.heap.size 5 i0 (.int .u8 0) 1 1 Try.underlying79 hi hz0 hz1 hz2 rfl (by decide) _ _ _ rfl (hown1.alloc _) ⟨wr.heap.size, 0, none⟩ 1 1 [Value.int .u8 (y : Int)] rfl rfl ?c1 ?c2 ?c3 ?c4 ?c5 ?_)
      case c1 =>
        intro j u hj
        match j, hj with
        | 0, hj => simp at hj; subst hj; simp [Addr.add]
      case c2 => intro u hu; simp at hu; subst hu; rfl
      case c3 => unfold maxLen; omega
      case c4 => omega
      case c5 => have := hnx.size; simp; omega
      intro v' w1 hown' hgrow _
      have hnx1 : Below w.heap.size w w1 := (hnx.alloc (by have := hnx.size; omega) _).grown hgrow (by have := hnx.size; simp; omega) (fun k hk => (hown1.lt k hk).1)
      rw [← Lib.byteCells_snoc pre (by omega)] at hown'
      have hcv := conv_own hown' (by omega)
      rw [← HS.out] at hcv
      go_wp2
      go_ret
      exact ⟨rfl, hnx1⟩
theorem rr_Bool (b : Bool) (w : World) : Calls Try.prog 19 #[.bool b] w fun e w' => e = .returned (.string (bs [if b then 1 else 0])) ∧ w = w' := by
  cases b
  all_goals
    go_enter Try.func19, Try.ntmps19
    go_wp2
    go_ret
    exact ⟨rfl, rfl⟩
theorem wr_Bool (b : Bool) (w : World) : Calls Try.prog 18 #[.bool b] w fun e w' => e = .returned (.string (bs [if b then 1 else 0])) ∧ w = w' := by
  cases b
  all_goals
    go_enter Try.func18, Try.ntmps18
    go_wp2
    go_ret
    exact ⟨rfl, rfl⟩
theorem wr_Text (s : ByteArray) (hs : s.size ≤ 140737488351232) (w : World) : Calls Try.prog 16 #[.string s] w fun e w' => e = .returned (.string (bs (Lib.uvarint s.size) ++ s)) ∧ Below w.heap.size w w' := by
  have C := Lib.hid (wr_Uint s.size (by omega))
  have hz : (bs (Lib.uvarint s.size)).size ≤ 10 := by rw [bs_size]; exact Lib.uvarint_length64 (by omega)
  go_enter Try.func16, Try.ntmps16
  go_wp2_with fail
  refine (C.out _).mono ?_
  rintro r w1 ⟨rfl, hb⟩; dsimp only
  go_wp2_with fail
  go_ret
  exact ⟨rfl, hb⟩
theorem rr_Text (s : ByteArray) (hs : s.size ≤ 140737488351232) (w : World) : Calls Try.prog 17 #[.string s] w fun e w' => e = .returned (.string (bs (Lib.uvarint s.size) ++ s)) ∧ Below w.heap.size w w' := by
  have C := Lib.hid (rr_Uint s.size (by omega))
  have hz : (bs (Lib.uvarint s.size)).size ≤ 10 := by rw [bs_size]; exact Lib.uvarint_length64 (by omega)
  go_enter Try.func17, Try.ntmps17
  go_wp2_with fail
  refine (C.out _).mono ?_
  rintro r w1 ⟨rfl, hb⟩; dsimp only
  go_wp2_with fail
  go_ret
  exact ⟨rfl, hb⟩
theorem rr_Int (x : Int) (h0 : -9223372036854775808 ≤ x) (h1 : x ≤ 9223372036854775807) (w : World) : Calls Try.prog 15 #[.int .i64 x] w fun e w' => e = .returned (.string (bs (Lib.uvarint (Lib.zigzag x)))) ∧ Below w.heap.size w w' := by
  have C := Lib.hid (rr_Uint (Lib.zigzag x) (Lib.zigzag_lt h0 h1))
  by_cases hx : x < 0
  · have hz : bits .or .u64 (-(x + 1) * 2) 1 = ((Lib.zigzag x : Nat) : Int) := by
      rw [bits_join .u64 64 (by decide) wraps_u64 1 _ _ (by omega) (by omega) (by omega) (by omega) (by omega) (by decide)]
      unfold Lib.zigzag; rw [if_neg (by omega)]; omega
    rw [← hz] at C
    clear hz
    go_enter Try.func15, Try.ntmps15
    go_wp2_with fail
    refine (C.out _).mono ?_
    rintro r w1 ⟨rfl, hb⟩; dsimp only
    go_wp2_with fail
    go_ret
    exact ⟨rfl, hb⟩
  · have hz : ((Lib.zigzag x : Nat) : Int) = x * 2 := Lib.zigzag_nonneg (by omega)
    rw [hz] at C
    clear hz
    go_enter Try.func15, Try.ntmps15
    go_wp2_with fail
    refine (C.out _).mono ?_
    rintro r w1 ⟨rfl, hb⟩; dsimp only
    go_wp2_with fail
    go_ret
    exact ⟨rfl, hb⟩
theorem xor_zig (x : Int) (h0 : -9223372036854775808 ≤ x) (h1 : x ≤ 9223372036854775807) : bits BinOp.xor IntKind.u64 (IntKind.u64.wrap (wrap64 (x * 2))) (IntKind.u64.wrap (x / 9223372036854775808)) = ((Lib.zigzag x : Nat) : Int) := by
  have e : IntKind.u64.wrap (wrap64 (x * 2)) = ((if 0 ≤ x then (2 * x).toNat else (2 * x + 18446744073709551616).toNat : Nat) : Int) := by
    have : wrap64 (x * 2) = IntKind.i64.wrap (x * 2) := (IntWalk.i64_left _).symm
    rw [this, IntKind.wrap_i64, IntKind.wrap_u64]
    split <;> omega
  rw [e]
  by_cases hx : 0 ≤ x
  · have e2 : IntKind.u64.wrap (x / 9223372036854775808) = ((0 : Nat) : Int) := by rw [IntKind.wrap_u64]; omega
    rw [e2, if_pos hx, bits_xor_u64_nat _ _ (by omega) (by decide), Nat.xor_zero]
    unfold Lib.zigzag; rw [if_pos hx]
  · have e2 : IntKind.u64.wrap (x / 9223372036854775808) = ((2 ^ 64 - 1 : Nat) : Int) := by
      rw [IntKind.wrap_u64, show x / 9223372036854775808 = -1 by omega]; decide
    rw [e2, if_neg hx, bits_xor_u64_nat _ _ (by omega) (by decide), Nat.xor_comm, Lib.xor_ones64 _ (by omega)]
    unfold Lib.zigzag; rw [if_neg hx]; omega
theorem wr_Int (x : Int) (h0 : -9223372036854775808 ≤ x) (h1 : x ≤ 9223372036854775807) (w : World) : Calls Try.prog 14 #[.int .i64 x] w fun e w' => e = .returned (.string (bs (Lib.uvarint (Lib.zigzag x)))) ∧ Below w.heap.size w w' := by
  have C := Lib.hid (wr_Uint (Lib.zigzag x) (Lib.zigzag_lt h0 h1))
  rw [← xor_zig x h0 h1] at C
  go_enter Try.func14, Try.ntmps14
  go_wp2_with fail
  refine (C.out _).mono ?_
  rintro r w1 ⟨rfl, hb⟩; dsimp only
  go_wp2_with fail
  go_ret
  exact ⟨rfl, hb⟩
end Go.Proofs.Yteglieoeblehpaa
