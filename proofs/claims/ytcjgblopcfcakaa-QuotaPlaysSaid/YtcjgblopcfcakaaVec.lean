/- The contracts of package vec and of the document's answer for it: what each function hands back, as plain Lean. Conditions: the numbers are of their kinds. -/
import Derived.Test.YtcjgblopcfcakaaK4
import Derived.ChangeKeysEq
import Derived.Laws.Externs
import Derived.Shelf.Abstract
import Derived.Lib.Mul64
import Derived.Laws.Bits64b
namespace Go.Proofs.Ytcjgblopcfcakaa
open Go.RowKit

/-! ### Plain words -/
def fits (z : Int) : Bool := decide (-9223372036854775808 ≤ z ∧ z ≤ 9223372036854775807)
def lo (z : Int) : Int := z % 18446744073709551616
def hi (z : Int) : Int := (z / 18446744073709551616) % 18446744073709551616
/-- A number that two words hold. -/
def I128 (z : Int) : Prop := -170141183460469231731687303715884105728 ≤ z ∧ z < 170141183460469231731687303715884105728
theorem lo_of (x : Int) : IntKind.u64.wrap x = lo x := by rw [IntKind.wrap_u64]; rfl
theorem hi_of {x : Int} (h : I64 x) : IntKind.u64.wrap (x / 9223372036854775808) = hi x := by
  obtain ⟨h0, h1⟩ := h
  rw [IntKind.wrap_u64]; unfold hi; omega
abbrev wide (z : Int) : Value := .agg #[.int .u64 (lo z), .int .u64 (hi z)]
theorem wrap64_I64 (x : Int) : I64 (wrap64 x) := by unfold I64 wrap64; omega
theorem wrap64_id {x : Int} (h : I64 x) : wrap64 x = x := by obtain ⟨h0, h1⟩ := h; unfold wrap64; omega
theorem wrap64_lo (z : Int) : wrap64 (lo z) = wrap64 z := by unfold lo wrap64; omega
theorem small_eq {z : Int} (h : I128 z) : (lo z == lo (wrap64 z) && hi z == hi (wrap64 z)) = fits z := by
  obtain ⟨h0, h1⟩ := h
  unfold lo hi fits wrap64
  rw [Bool.eq_iff_iff]
  simp only [Bool.and_eq_true, beq_iff_eq, decide_eq_true_eq]
  omega
def cy (a b : Int) : Int := (lo a + lo b) / 18446744073709551616
def cy2 (a b : Int) : Int := (hi a + hi b + cy a b) / 18446744073709551616
def bw (a b : Int) : Int := if lo a < lo b then 1 else 0
def bw2 (a b : Int) : Int := if hi a < hi b + bw a b then 1 else 0
theorem lo_bd (a : Int) : 0 ≤ lo a ∧ lo a < 18446744073709551616 := by unfold lo; omega
theorem hi_bd (a : Int) : 0 ≤ hi a ∧ hi a < 18446744073709551616 := by unfold hi; omega
theorem cy_bd (a b : Int) : 0 ≤ cy a b ∧ cy a b ≤ 1 := by have := lo_bd a; have := lo_bd b; unfold cy; omega
theorem bw_bd (a b : Int) : 0 ≤ bw a b ∧ bw a b ≤ 1 := by unfold bw; split <;> omega
theorem add_lo (a b : Int) : (lo a + lo b) % 18446744073709551616 = lo (a + b) := by unfold lo; omega
theorem add_hi (a b : Int) : (hi a + hi b + cy a b) % 18446744073709551616 = hi (a + b) := by unfold hi cy lo; omega
theorem sub_lo (a b : Int) : (lo a - lo b) % 18446744073709551616 = lo (a - b) := by unfold lo; omega
theorem sub_hi (a b : Int) : (hi a - hi b - bw a b) % 18446744073709551616 = hi (a - b) := by unfold hi bw lo; split <;> omega
theorem lo_small {z : Int} (h : I64 z) : lo z = if 0 ≤ z then z else z + 18446744073709551616 := by obtain ⟨h0, h1⟩ := h; unfold lo; split <;> omega

/-! ### math/bits -/
theorem add64 (x y c : Int) (hx : 0 ≤ x ∧ x < 18446744073709551616) (hy : 0 ≤ y ∧ y < 18446744073709551616) (hc : 0 ≤ c ∧ c ≤ 1) (w : World) : (callFunc 51 #[.int .u64 x, .int .u64 y, .int .u64 c]).run Try.prog w =
    .ok (.value (.tuple #[.int .u64 ((x + y + c) % 18446744073709551616), .int .u64 ((x + y + c) / 18446744073709551616)])) w := by
  obtain ⟨x, rfl⟩ := Int.eq_ofNat_of_zero_le hx.1
  obtain ⟨y, rfl⟩ := Int.eq_ofNat_of_zero_le hy.1
  have hc' : c = 0 ∨ c = 1 := by omega
  rw [run_callFunc_extern Try.func51 (by kernel_rfl) (by kernel_rfl) (by kernel_rfl) (e := fun args => do
    let (x, y, c) ← Extern.MathBitsCarry.three "Add64" args
    pure (Extern.MathBitsCarry.pair ((x + y + c) % Extern.MathBitsCarry.m64) ((x + y + c) / Extern.MathBitsCarry.m64))) (by kernel_rfl)]
  rcases hc' with rfl | rfl <;> rfl
theorem sub64 (x y b : Int) (hx : 0 ≤ x ∧ x < 18446744073709551616) (hy : 0 ≤ y ∧ y < 18446744073709551616) (hb : 0 ≤ b ∧ b ≤ 1) (w : World) : (callFunc 52 #[.int .u64 x, .int .u64 y, .int .u64 b]).run Try.prog w =
    .ok (.value (.tuple #[.int .u64 ((x - y - b) % 18446744073709551616), .int .u64 (if x < y + b then 1 else 0)])) w := by
  obtain ⟨x, rfl⟩ := Int.eq_ofNat_of_zero_le hx.1
  obtain ⟨y, rfl⟩ := Int.eq_ofNat_of_zero_le hy.1
  obtain ⟨b, rfl⟩ := Int.eq_ofNat_of_zero_le hb.1
  have e1 : (((x + 18446744073709551616 - y - b) % 18446744073709551616 : Nat) : Int) = ((x : Int) - y - b) % 18446744073709551616 := by omega
  have e2 : ((if x < y + b then 1 else 0 : Nat) : Int) = if (x : Int) < y + b then 1 else 0 := by split <;> split <;> omega
  have hc' : b = 0 ∨ b = 1 := by omega
  rw [← e1, ← e2, run_callFunc_extern Try.func52 (by kernel_rfl) (by kernel_rfl) (by kernel_rfl) (e := fun args => do
    let (x, y, b) ← Extern.MathBitsCarry.three "Sub64" args
    pure (Extern.MathBitsCarry.pair ((x + Extern.MathBitsCarry.m64 - y - b) % Extern.MathBitsCarry.m64) (if x < y + b then 1 else 0))) (by kernel_rfl)]
  rcases hc' with rfl | rfl <;> rfl
theorem add_lo_run (a b : Int) (w : World) : (callFunc 51 #[.int .u64 (lo a), .int .u64 (lo b), .int .u64 0]).run Try.prog w = .ok (.value (.tuple #[.int .u64 (lo (a + b)), .int .u64 (cy a b)])) w := by
  rw [add64 _ _ _ (lo_bd a) (lo_bd b) (by omega), ← add_lo, cy, Int.add_zero]
theorem add_hi_run (a b : Int) (w : World) : (callFunc 51 #[.int .u64 (hi a), .int .u64 (hi b), .int .u64 (cy a b)]).run Try.prog w = .ok (.value (.tuple #[.int .u64 (hi (a + b)), .int .u64 (cy2 a b)])) w := by
  rw [add64 _ _ _ (hi_bd a) (hi_bd b) (cy_bd a b), ← add_hi, cy2]
theorem sub_lo_run (a b : Int) (w : World) : (callFunc 52 #[.int .u64 (lo a), .int .u64 (lo b), .int .u64 0]).run Try.prog w = .ok (.value (.tuple #[.int .u64 (lo (a - b)), .int .u64 (bw a b)])) w := by
  rw [sub64 _ _ _ (lo_bd a) (lo_bd b) (by omega), ← sub_lo, bw, Int.sub_zero, Int.add_zero]
theorem sub_hi_run (a b : Int) (w : World) : (callFunc 52 #[.int .u64 (hi a), .int .u64 (hi b), .int .u64 (bw a b)]).run Try.prog w = .ok (.value (.tuple #[.int .u64 (hi (a - b)), .int .u64 (bw2 a b)])) w := by
  rw [sub64 _ _ _ (hi_bd a) (hi_bd b) (bw_bd a b), ← sub_hi, bw2]

/-! ### Arrays of two words -/
theorem info_u64 : (Try.prog.info? 67).map (fun i => (i.zero, i.size, i.bytes)) = some (some (.int .u64 0), 1, 8) := by kernel_rfl
theorem plain_u64 : Try.prog.plainKey 67 = true := by kernel_rfl
theorem cellsOf_u64 : Try.prog.cellsOf 67 = 1 := by kernel_rfl
theorem eql_wide (a b c d : Int) (w : World) : (binOp .eql 69 (.agg #[.int .u64 a, .int .u64 b]) (.agg #[.int .u64 c, .int .u64 d])).run Try.prog w = .ok (.bool (a == c && b == d)) w := by
  obtain ⟨i, hi, hz, hs, hb⟩ := info_parts info_u64
  rw [run_eql_struct, run_equalIn_array w 9999 _ _ Try.underlying69 hi]
  have h53 : ∀ x y (w : World), (Op.equalIn 9999 67 (.int .u64 x) (.int .u64 y)).run Try.prog w = .ok (x == y) w := fun x y w => run_equalIn_int w 9998 67 .u64 .u64 x y Try.underlying67
  simp only [List.range_succ, List.range_zero, List.nil_append, List.singleton_append, Op.eqItems]
  have p0 : ∀ x y, (part 67 #[Value.int .u64 x, Value.int .u64 y] 0).run Try.prog w = .ok (.int .u64 x) w := fun x y => run_part_plain w plain_u64 rfl
  have p1 : ∀ x y, (part 67 #[Value.int .u64 x, Value.int .u64 y] 1).run Try.prog w = .ok (.int .u64 y) w := fun x y => run_part_plain w plain_u64 rfl
  simp [cellsOf_u64, p0, p1, h53]
  by_cases h1 : a = c <;> by_cases h2 : b = d <;> simp [h1, h2]

/-! ### The numbers of two words -/
set_option maxHeartbeats 400000 in
theorem vec_of (x : Int) (h : I64 x) (w : World) :
    Calls Try.prog 49 #[.int .i64 x] w fun e w' => e = .returned (wide x) ∧ Below w.heap.size w w' := by
  obtain ⟨h0, h1⟩ := h
  go_enter Try.func49, Try.ntmps49
  go_wp2
  exact bodyPost_ret (v := wide x) (by simp [results, Try.results49, go_sem, lo_of, hi_of ⟨h0, h1⟩]) rfl ⟨rfl, (Below.refl _ _).alloc (Nat.le_refl _) _⟩

set_option maxHeartbeats 400000 in
theorem wide_small (z : Int) (h : I128 z) (w : World) :
    Calls Try.prog 50 #[wide z] w fun e w' => e = .returned (.tuple #[.int .i64 (wrap64 z), .bool (fits z)]) ∧ Below w.heap.size w w' := by
  have hs := Lib.hid (small_eq h)
  clear h
  have hl := wrap64_lo z
  have e55 := eql_wide
  go_enter Try.func50, Try.ntmps50
  go_wp2
  refine wp_region_ext (by kernel_rfl) (by kernel_rfl) ?_
  repeat (go_big_quiet_step ((go_at_call 49; exact ext_of (vec_of _ (wrap64_I64 _) _))))
  refine wpQuiet_nil ?_
  rintro _ ⟨x, rfl⟩
  go_wp2
  go_ret2
  exact ⟨by simp [hl, hs.out], below_to (below_own (below_self w) _) (extn_below _ x)⟩

set_option maxHeartbeats 400000 in
theorem wide_plus (a b : Int) (w : World) :
    Calls Try.prog 31 #[wide a, wide b] w fun e w' => e = .returned (wide (a + b)) ∧ Below w.heap.size w w' := by
  have e1 := add_lo_run a b
  have e2 := add_hi_run a b
  go_enter Try.func31, Try.ntmps31
  go_wp2
  go_returns
  exact ⟨rfl, by go_grown⟩

set_option maxHeartbeats 400000 in
theorem wide_minus (a b : Int) (w : World) :
    Calls Try.prog 33 #[wide a, wide b] w fun e w' => e = .returned (wide (a - b)) ∧ Below w.heap.size w w' := by
  have e1 := sub_lo_run a b
  have e2 := sub_hi_run a b
  go_enter Try.func33, Try.ntmps33
  go_wp2
  go_returns
  exact ⟨rfl, by go_grown⟩

namespace Mul64
theorem maskN (a : Nat) (ha : a < 18446744073709551616) : bits .and .u64 (a : Int) 4294967295 = ((a % 4294967296 : Nat) : Int) := by
  have h := bits_and_u64_nat a 4294967295 ha (by omega)
  have e : a &&& 4294967295 = a % 4294967296 := Nat.and_two_pow_sub_one_eq_mod a 32
  rw [e] at h
  exact h
theorem divN (a : Nat) : (a : Int) / 4294967296 = ((a / 4294967296 : Nat) : Int) := by omega
theorem mulN (a b : Nat) : (a : Int) * (b : Int) = ((a * b : Nat) : Int) := (Int.natCast_mul a b).symm
theorem addN (a b : Nat) : (a : Int) + (b : Int) = ((a + b : Nat) : Int) := (Int.natCast_add a b).symm
theorem wrapN (a : Nat) (ha : a < 18446744073709551616) : IntKind.u64.wrap (a : Int) = (a : Int) := by rw [IntKind.wrap_u64]; omega
theorem wrapM (a : Nat) : IntKind.u64.wrap (a : Int) = ((a % 18446744073709551616 : Nat) : Int) := by rw [IntKind.wrap_u64]; omega
end Mul64
/-- The upper word of a product of two numbers of one word each. -/
def mulHi (a b : Int) : Int := lo a * lo b / 18446744073709551616
theorem mul_lo (a b : Int) : lo a * lo b % 18446744073709551616 = lo (a * b) := by unfold lo; rw [← Int.mul_emod]
theorem times_eq {a b : Int} (ha : I64 a) (hb : I64 b) : IntKind.u64.wrap (mulHi a b + IntKind.u64.wrap (IntKind.u64.wrap (lo a * hi b) + IntKind.u64.wrap (hi a * lo b))) = hi (a * b) := by
  simp only [IntKind.wrap_u64]
  obtain ⟨a0, a1⟩ := ha
  obtain ⟨b0, b1⟩ := hb
  have ea : (0 ≤ a ∧ hi a = 0 ∧ a = lo a) ∨ (hi a = 18446744073709551615 ∧ a = lo a - 18446744073709551616) := by unfold hi lo; omega
  have eb : (0 ≤ b ∧ hi b = 0 ∧ b = lo b) ∨ (hi b = 18446744073709551615 ∧ b = lo b - 18446744073709551616) := by unfold hi lo; omega
  have h : ∃ x y, x = lo a ∧ y = lo b := ⟨_, _, rfl, rfl⟩
  obtain ⟨x, y, hx, hy⟩ := h
  unfold mulHi
  rw [← hx] at ea
  rw [← hy] at eb
  rw [← hx, ← hy]
  have hp : ∃ p, p = x * y := ⟨_, rfl⟩
  obtain ⟨p, hp⟩ := hp
  rcases ea with ⟨_, e1, e2⟩ | ⟨e1, e2⟩ <;> rcases eb with ⟨_, f1, f2⟩ | ⟨f1, f2⟩ <;> rw [e1, f1]
  · have e : a * b = p := by rw [e2, f2, hp]
    rw [e, ← hp]; unfold hi; omega
  · have e : a * b = p - 18446744073709551616 * x := by rw [e2, f2, Int.mul_sub, hp]; omega
    rw [e, ← hp]; unfold hi; omega
  · have e : a * b = p - 18446744073709551616 * y := by rw [e2, f2, Int.sub_mul, hp]
    rw [e, ← hp]; unfold hi; omega
  · have e : a * b = p - 18446744073709551616 * y - 18446744073709551616 * x + 340282366920938463463374607431768211456 := by rw [e2, f2, Int.sub_mul, Int.mul_sub, Int.mul_sub, hp]; omega
    rw [e, ← hp]; unfold hi; omega
/-! ### Vecs -/
structure Vec where
  cpu : Int
  mem : Int
  disk : Int
  deriving DecidableEq
abbrev Vec.v (x : Vec) : Value := .agg #[.int .i64 x.cpu, .int .i64 x.mem, .int .i64 x.disk]
def Vec.ok (x : Vec) : Prop := I64 x.cpu ∧ I64 x.mem ∧ I64 x.disk
instance (x : Vec) : Decidable x.ok := inferInstanceAs (Decidable (_ ∧ _))
def zeroV : Vec := ⟨0, 0, 0⟩
/-- What is done with two numbers of two words, as the machine does it. -/
def Does (g : Nat) (op : Int → Int → Int) : Prop := ∀ (a b : Int), I64 a → I64 b → I128 (op a b) ∧ ∀ (w : World), Calls Try.prog g #[wide a, wide b] w fun e w' => e = .returned (wide (op a b)) ∧ Below w.heap.size w w'
def eachV (op : Int → Int → Int) (a b : Vec) : Vec × Int :=
  if fits (op a.cpu b.cpu) && fits (op a.mem b.mem) && fits (op a.disk b.disk) then (⟨op a.cpu b.cpu, op a.mem b.mem, op a.disk b.disk⟩, 0) else (zeroV, 9)
theorem fits_wrap {z : Int} (h : fits z = true) : wrap64 z = z := by unfold fits at h; rw [decide_eq_true_eq] at h; exact wrap64_id h
set_option maxHeartbeats 1000000 in
theorem vec_each (g : Nat) (op : Int → Int → Int) (hg : Does g op) (ef : ∀ args w, (callFunc g args).run Try.prog w = .ok (.enter g args) w) (a b : Vec) (ha : a.ok) (hb : b.ok) (w : World) :
    Calls Try.prog 30 #[a.v, b.v, .func (.func g) #[] #[]] w fun e w' => e = .returned (.tuple #[(eachV op a b).1.v, .int .i64 (eachV op a b).2]) ∧ Below w.heap.size w w' := by
  obtain ⟨a0, a1, a2⟩ := a
  obtain ⟨b0, b1, b2⟩ := b
  obtain ⟨xa0, xa1, xa2⟩ := ha
  obtain ⟨xb0, xb1, xb2⟩ := hb
  have d0 := (hg _ _ xa0 xb0).1
  have d1 := (hg _ _ xa1 xb1).1
  have d2 := (hg _ _ xa2 xb2).1
  have c := fun a b ha hb => (hg a b ha hb).2
  clear hg
  go_enter Try.func30, Try.ntmps30
  go_wp2
  refine wp_region_ext (by kernel_rfl) (by kernel_rfl) ?_
  repeat (go_big_quiet_step ((first | (go_at_call 49; with_reducible refine ext_of (vec_of _ ?_ _); with_reducible assumption) | (go_at_call 50; with_reducible refine ext_of (wide_small _ ?_ _); with_reducible assumption) | (with_reducible refine ext_of (c _ _ ?_ ?_ _) <;> with_reducible assumption))))
  refine wpQuiet_nil ?_
  intro w1 hx
  obtain ⟨hc1, hf1, hce1, hfe1, hb1⟩ := after_region hx
  clear hx
  go_wp2
  refine wp_region_ext (by kernel_rfl) (by kernel_rfl) ?_
  repeat (go_big_quiet_step ((first | (go_at_call 49; with_reducible refine ext_of (vec_of _ ?_ _); with_reducible assumption) | (go_at_call 50; with_reducible refine ext_of (wide_small _ ?_ _); with_reducible assumption) | (with_reducible refine ext_of (c _ _ ?_ ?_ _) <;> with_reducible assumption))))
  refine wpQuiet_nil ?_
  intro w2 hx
  obtain ⟨hc2, hf2, hce2, hfe2, hb2⟩ := more_region hb1 hx
  clear hx hc1 hf1 hce1 hfe1 hb1
  go_wp2
  refine wp_region_ext (by kernel_rfl) (by kernel_rfl) ?_
  repeat (go_big_quiet_step ((first | (go_at_call 49; with_reducible refine ext_of (vec_of _ ?_ _); with_reducible assumption) | (go_at_call 50; with_reducible refine ext_of (wide_small _ ?_ _); with_reducible assumption) | (with_reducible refine ext_of (c _ _ ?_ ?_ _) <;> with_reducible assumption))))
  refine wpQuiet_nil ?_
  intro w3 hx
  obtain ⟨hc3, hf3, hce3, hfe3, hb3⟩ := more_region hb2 hx
  clear hx hc2 hf2 hce2 hfe2 hb2
  clear c d0 d1 d2 ef
  have hB : Below w.heap.size w w3 := below_to (by go_grown) hb3
  clear hce3 hfe3 hb3
  by_cases H : fits (op a0 b0) = true ∧ fits (op a1 b1) = true ∧ fits (op a2 b2) = true
  · obtain ⟨h0, h1, h2⟩ := H
    have e0 := Lib.hid (fits_wrap h0)
    have e1 := Lib.hid (fits_wrap h1)
    have e2 := Lib.hid (fits_wrap h2)
    go_wp2
    refine bodyPost_ret (v := .tuple #[.agg #[.int .i64 (op a0 b0), .int .i64 (op a1 b1), .int .i64 (op a2 b2)], .int .i64 0]) (by simp [results, Try.results30, go_sem, hc3, e0.out, e1.out, e2.out]) rfl ?_
    exact ⟨by simp [eachV, h0, h1, h2], by go_grown⟩
  · cases h0 : fits (op a0 b0) with
    | false =>
      go_wp2
      refine bodyPost_ret (v := .tuple #[.agg #[.int .i64 0, .int .i64 0, .int .i64 0], .int .i64 9]) (by simp [results, Try.results30, go_sem, hc3]) rfl ?_
      exact ⟨by simp [eachV, h0, zeroV], by go_grown⟩
    | true =>
      cases h1 : fits (op a1 b1) with
      | false =>
        go_wp2
        refine bodyPost_ret (v := .tuple #[.agg #[.int .i64 0, .int .i64 0, .int .i64 0], .int .i64 9]) (by simp [results, Try.results30, go_sem, hc3]) rfl ?_
        exact ⟨by simp [eachV, h0, h1, zeroV], by go_grown⟩
      | true =>
        have h2 : fits (op a2 b2) = false := by simpa [h0, h1] using H
        go_wp2
        refine bodyPost_ret (v := .tuple #[.agg #[.int .i64 0, .int .i64 0, .int .i64 0], .int .i64 9]) (by simp [results, Try.results30, go_sem, hc3]) rfl ?_
        exact ⟨by simp [eachV, h0, h1, h2, zeroV], by go_grown⟩

theorem enters_plus (args : Array Value) (w : World) : (callFunc 31 args).run Try.prog w = .ok (.enter 31 args) w := enters_of Try.func31 (by kernel_rfl) rfl args w
theorem enters_minus (args : Array Value) (w : World) : (callFunc 33 args).run Try.prog w = .ok (.enter 33 args) w := enters_of Try.func33 (by kernel_rfl) rfl args w
theorem does_plus : Does 31 (· + ·) := fun a b ha hb => ⟨by obtain ⟨_, _⟩ := ha; obtain ⟨_, _⟩ := hb; constructor <;> dsimp only <;> omega, fun w => wide_plus a b w⟩
theorem does_minus : Does 33 (· - ·) := fun a b ha hb => ⟨by obtain ⟨_, _⟩ := ha; obtain ⟨_, _⟩ := hb; constructor <;> dsimp only <;> omega, fun w => wide_minus a b w⟩
theorem mul_I128 {a b : Int} (ha : I64 a) (hb : I64 b) : I128 (a * b) := by
  obtain ⟨a0, a1⟩ := ha
  obtain ⟨b0, b1⟩ := hb
  have h : (a * b).natAbs ≤ 9223372036854775808 * 9223372036854775808 := by
    rw [Int.natAbs_mul]
    exact Nat.mul_le_mul (by omega) (by omega)
  constructor <;> omega
def addV (a b : Vec) : Vec × Int := eachV (· + ·) a b
def subV (a b : Vec) : Vec × Int := eachV (· - ·) a b
def timesV (a : Vec) (n : Int) : Vec × Int := eachV (· * ·) a ⟨n, n, n⟩
set_option maxHeartbeats 400000 in
theorem vec_Add (a b : Vec) (ha : a.ok) (hb : b.ok) (w : World) :
    Calls Try.prog 12 #[a.v, b.v] w fun e w' => e = .returned (.tuple #[(addV a b).1.v, .int .i64 (addV a b).2]) ∧ Below w.heap.size w w' := by
  obtain ⟨a0, a1, a2⟩ := a
  obtain ⟨b0, b1, b2⟩ := b
  have c : ∀ w, Calls Try.prog 30 #[.agg #[.int .i64 a0, .int .i64 a1, .int .i64 a2], .agg #[.int .i64 b0, .int .i64 b1, .int .i64 b2], .func (.func 31) #[] #[]] w fun e w' => e = .returned (.tuple #[(addV ⟨a0, a1, a2⟩ ⟨b0, b1, b2⟩).1.v, .int .i64 (addV ⟨a0, a1, a2⟩ ⟨b0, b1, b2⟩).2]) ∧ Below w.heap.size w w' := fun w => vec_each _ _ does_plus enters_plus ⟨a0, a1, a2⟩ ⟨b0, b1, b2⟩ ha hb w
  generalize addV ⟨a0, a1, a2⟩ ⟨b0, b1, b2⟩ = r at c ⊢
  obtain ⟨⟨r0, r1, r2⟩, r3⟩ := r
  clear ha hb
  have C := Lib.hid c
  clear c
  go_enter Try.func12, Try.ntmps12
  go_wp2_with (go_at_call 30; refine (C.out _).mono ?_; rintro e w1 ⟨rfl, hb⟩; have hB : Below w.heap.size w w1 := below_to (by go_grown) hb; obtain ⟨hc1, hf1, hce1, hfe1, hb1⟩ := after_call hb; clear hb hce1 hfe1 hb1)
  refine bodyPost_ret (v := .tuple #[.agg #[.int .i64 r0, .int .i64 r1, .int .i64 r2], .int .i64 r3]) (by simp [results, Try.results12, go_sem, hc1]) rfl ?_
  exact ⟨rfl, by go_grown⟩
set_option maxHeartbeats 400000 in
theorem vec_Sub (a b : Vec) (ha : a.ok) (hb : b.ok) (w : World) :
    Calls Try.prog 15 #[a.v, b.v] w fun e w' => e = .returned (.tuple #[(subV a b).1.v, .int .i64 (subV a b).2]) ∧ Below w.heap.size w w' := by
  obtain ⟨a0, a1, a2⟩ := a
  obtain ⟨b0, b1, b2⟩ := b
  have c : ∀ w, Calls Try.prog 30 #[.agg #[.int .i64 a0, .int .i64 a1, .int .i64 a2], .agg #[.int .i64 b0, .int .i64 b1, .int .i64 b2], .func (.func 33) #[] #[]] w fun e w' => e = .returned (.tuple #[(subV ⟨a0, a1, a2⟩ ⟨b0, b1, b2⟩).1.v, .int .i64 (subV ⟨a0, a1, a2⟩ ⟨b0, b1, b2⟩).2]) ∧ Below w.heap.size w w' := fun w => vec_each _ _ does_minus enters_minus ⟨a0, a1, a2⟩ ⟨b0, b1, b2⟩ ha hb w
  generalize subV ⟨a0, a1, a2⟩ ⟨b0, b1, b2⟩ = r at c ⊢
  obtain ⟨⟨r0, r1, r2⟩, r3⟩ := r
  clear ha hb
  have C := Lib.hid c
  clear c
  go_enter Try.func15, Try.ntmps15
  go_wp2_with (go_at_call 30; refine (C.out _).mono ?_; rintro e w1 ⟨rfl, hb⟩; have hB : Below w.heap.size w w1 := below_to (by go_grown) hb; obtain ⟨hc1, hf1, hce1, hfe1, hb1⟩ := after_call hb; clear hb hce1 hfe1 hb1)
  refine bodyPost_ret (v := .tuple #[.agg #[.int .i64 r0, .int .i64 r1, .int .i64 r2], .int .i64 r3]) (by simp [results, Try.results15, go_sem, hc1]) rfl ?_
  exact ⟨rfl, by go_grown⟩
/-! ### What fits, the greater, the lesser -/
def fitsV (a b : Vec) : Bool := decide (a.cpu ≤ b.cpu) && (decide (a.mem ≤ b.mem) && decide (a.disk ≤ b.disk))
set_option maxHeartbeats 400000 in
theorem vec_Fits (a b : Vec) (w : World) :
    Calls Try.prog 13 #[a.v, b.v] w fun e w' => e = .returned (.bool (fitsV a b)) ∧ Below w.heap.size w w' := by
  obtain ⟨a0, a1, a2⟩ := a
  obtain ⟨b0, b1, b2⟩ := b
  unfold fitsV
  by_cases h0 : a0 ≤ b0 <;> by_cases h1 : a1 ≤ b1
  all_goals
    go_enter Try.func13, Try.ntmps13
    go_wp2
    go_returns
    exact ⟨by first | (simp [*]; done) | (simp [*]; intros; omega), by go_grown⟩

end Go.Proofs.Ytcjgblopcfcakaa
