/- The contracts of the document's answer for vecs (reeveref01). Conditions: the numbers are of their kinds. -/
import Derived.Test.YtcjgblopcfcakaaVec3
namespace Go.Proofs.Ytcjgblopcfcakaa
open Go.RowKit

def Mid (z : Int) : Prop := -1237940039285380274899124224 ≤ z ∧ z ≤ 1237940039285380274899124224
theorem Mid.of {z : Int} (h : I64 z) : Mid z := by obtain ⟨_, _⟩ := h; constructor <;> omega
abbrev wd (z : Int) : Value := .agg #[.int .i64 (z / 4294967296), .int .i64 (z % 4294967296)]
def cut (z : Int) : Int := if fits z then z else 0
theorem and_mask (x : Int) (h : I64 x) : bits .and .i64 x 4294967295 = x % 4294967296 := by
  obtain ⟨h0, h1⟩ := h
  unfold bits
  have e : (BitVec.ofInt 64 x &&& BitVec.ofInt 64 4294967295).toNat = ((x % 4294967296).toNat) := by
    rw [BitVec.toNat_and, BitVec.toNat_ofInt, BitVec.toNat_ofInt]
    rw [show ((4294967295 : Int) % ((2 ^ 64 : Nat) : Int)).toNat = 2 ^ 32 - 1 by decide, Nat.and_two_pow_sub_one_eq_mod]
    omega
  show IntKind.i64.wrap ((BitVec.ofInt 64 x &&& BitVec.ofInt 64 4294967295).toNat : Int) = _
  rw [e, IntKind.wrap_i64]
  omega
theorem or_join (h l : Int) (hh : -2147483648 ≤ h ∧ h ≤ 2147483647) (hl : 0 ≤ l ∧ l < 4294967296) : bits .or .i64 (h * 4294967296) l = h * 4294967296 + l := by
  obtain ⟨h0, h1⟩ := hh
  obtain ⟨l0, l1⟩ := hl
  have e : (BitVec.ofInt 64 (h * 4294967296) ||| BitVec.ofInt 64 l).toNat = (((h * 4294967296 + l) % 18446744073709551616).toNat) := by
    rw [BitVec.toNat_or, BitVec.toNat_ofInt, BitVec.toNat_ofInt]
    obtain ⟨m, hm⟩ : ∃ m : Nat, ((h * 4294967296) % ((2 ^ 64 : Nat) : Int)).toNat = 2 ^ 32 * m := ⟨((h % 4294967296).toNat), by omega⟩
    have hl' : (l % ((2 ^ 64 : Nat) : Int)).toNat = l.toNat := by omega
    rw [hm, hl', ← Nat.two_pow_add_eq_or_of_lt (show l.toNat < 2 ^ 32 by omega)]
    omega
  show IntKind.i64.wrap ((BitVec.ofInt 64 (h * 4294967296) ||| BitVec.ofInt 64 l).toNat : Int) = _
  rw [e, IntKind.wrap_i64]
  omega

set_option maxHeartbeats 400000 in
theorem ref_Of (x : Int) (h : I64 x) (w : World) :
    Calls Try.prog 78 #[.int .i64 x] w fun e w' => e = .returned (wd x) ∧ Below w.heap.size w w' := by
  have e := and_mask x h
  obtain ⟨h0, h1⟩ := h
  go_enter Try.func78, Try.ntmps78
  go_wp2
  go_returns
  exact ⟨rfl, by go_grown⟩

set_option maxHeartbeats 400000 in
theorem ref_WAdd (a b : Int) (ha : Mid a) (hb : Mid b) (w : World) :
    Calls Try.prog 79 #[wd a, wd b] w fun e w' => e = .returned (wd (a + b)) ∧ Below w.heap.size w w' := by
  obtain ⟨a0, a1⟩ := ha
  obtain ⟨b0, b1⟩ := hb
  have e1 : (a % 4294967296 + b % 4294967296) % 4294967296 = (a + b) % 4294967296 := by omega
  have e2 : a / 4294967296 + b / 4294967296 + (a % 4294967296 + b % 4294967296) / 4294967296 = (a + b) / 4294967296 := by omega
  have e := and_mask (a % 4294967296 + b % 4294967296) (by constructor <;> omega)
  rw [e1] at e
  have c0 : -1152921504606846976 ≤ a / 4294967296 ∧ a / 4294967296 ≤ 1152921504606846976 := by omega
  have c1 : -1152921504606846976 ≤ b / 4294967296 ∧ b / 4294967296 ≤ 1152921504606846976 := by omega
  have c2 : 0 ≤ a % 4294967296 ∧ a % 4294967296 < 4294967296 := by omega
  have c3 : 0 ≤ b % 4294967296 ∧ b % 4294967296 < 4294967296 := by omega
  have E2 := Lib.hid e2
  clear a0 a1 b0 b1 e1 e2
  go_enter Try.func79, Try.ntmps79
  go_wp2
  go_returns
  exact ⟨by rw [E2.out], by go_grown⟩

set_option maxHeartbeats 400000 in
theorem ref_Minus (a : Int) (ha : Mid a) (w : World) :
    Calls Try.prog 80 #[wd a] w fun e w' => e = .returned (wd (-a)) ∧ Below w.heap.size w w' := by
  obtain ⟨a0, a1⟩ := ha
  have c0 : -1152921504606846976 ≤ a / 4294967296 ∧ a / 4294967296 ≤ 1152921504606846976 := by omega
  have c2 : 0 ≤ a % 4294967296 ∧ a % 4294967296 < 4294967296 := by omega
  by_cases h : a % 4294967296 = 0
  · have hb : (a % 4294967296 == 0) = true := by simpa using h
    have E1 := Lib.hid (show -(a / 4294967296) = (-a) / 4294967296 by omega)
    have E2 := Lib.hid (show 0 = (-a) % 4294967296 by omega)
    clear a0 a1 h
    go_enter Try.func80, Try.ntmps80
    go_wp2
    go_returns
    exact ⟨by rw [E1.out]; exact congrArg (fun z => Ending.returned (.agg #[.int .i64 (-a / 4294967296), .int .i64 z])) E2.out, by go_grown⟩
  · have hb : (a % 4294967296 == 0) = false := by simpa using h
    have E1 := Lib.hid (show -(a / 4294967296) - 1 = (-a) / 4294967296 by omega)
    have E2 := Lib.hid (show 4294967296 - a % 4294967296 = (-a) % 4294967296 by omega)
    clear a0 a1 h
    go_enter Try.func80, Try.ntmps80
    go_wp2
    go_returns
    exact ⟨by rw [E1.out, E2.out], by go_grown⟩

set_option maxHeartbeats 400000 in
theorem ref_Int (a : Int) (ha : Mid a) (w : World) :
    Calls Try.prog 86 #[wd a] w fun e w' => e = .returned (.tuple #[.int .i64 (cut a), .bool (fits a)]) ∧ Below w.heap.size w w' := by
  obtain ⟨a0, a1⟩ := ha
  have c2 : 0 ≤ a % 4294967296 ∧ a % 4294967296 < 4294967296 := by omega
  by_cases h0 : a / 4294967296 < -2147483648
  · have hf : fits a = false := by unfold fits; rw [decide_eq_false_iff_not]; omega
    have hc : cut a = 0 := by simp [cut, hf]
    have H := Lib.hid hf
    have C := Lib.hid hc
    clear hf hc
    go_enter Try.func86, Try.ntmps86
    go_wp2
    go_returns
    exact ⟨by simp [H.out, C.out], by go_grown⟩
  · by_cases h1 : a / 4294967296 > 2147483647
    · have hf : fits a = false := by unfold fits; rw [decide_eq_false_iff_not]; omega
      have hc : cut a = 0 := by simp [cut, hf]
      have H := Lib.hid hf
      have C := Lib.hid hc
      clear hf hc
      go_enter Try.func86, Try.ntmps86
      go_wp2
      go_returns
      exact ⟨by simp [H.out, C.out], by go_grown⟩
    · have hf : fits a = true := by unfold fits; rw [decide_eq_true_eq]; omega
      have hc : cut a = a := by simp [cut, hf]
      have H := Lib.hid hf
      have C := Lib.hid hc
      have E := Lib.hid (show bits .or .i64 (a / 4294967296 * 4294967296) (a % 4294967296) = a by rw [or_join _ _ (by omega) c2]; omega)
      have h0' : -2147483648 ≤ a / 4294967296 := by omega
      have h1' : a / 4294967296 ≤ 2147483647 := by omega
      clear hf hc
      go_enter Try.func86, Try.ntmps86
      go_wp2
      go_returns
      exact ⟨by simp [H.out, C.out, E.out], by go_grown⟩

def threeV (a b c : Int) : Vec × Int := if fits a && fits b && fits c then (⟨a, b, c⟩, 0) else (zeroV, 9)
theorem cut_fits {a : Int} (h : fits a = true) : cut a = a := by simp [cut, h]
set_option maxHeartbeats 1000000 in
theorem ref_three (a b c : Int) (ha : Mid a) (hb : Mid b) (hc : Mid c) (w : World) :
    Calls Try.prog 77 #[wd a, wd b, wd c] w fun e w' => e = .returned (.tuple #[(threeV a b c).1.v, .int .i64 (threeV a b c).2]) ∧ Below w.heap.size w w' := by
  go_enter Try.func77, Try.ntmps77
  go_wp2_with fail
  refine (ref_Int a ha _).mono ?_
  rintro e w1 ⟨rfl, hb1⟩
  obtain ⟨hc1, hf1, -, -, hb1⟩ := after_call hb1
  go_wp2_with fail
  refine (ref_Int b hb _).mono ?_
  rintro e w2 ⟨rfl, hb2⟩
  obtain ⟨hc2, hf2, -, -, hb2⟩ := more_call hb1 hb2
  clear hc1 hf1 hb1
  go_wp2_with fail
  refine (ref_Int c hc _).mono ?_
  rintro e w3 ⟨rfl, hb3⟩
  obtain ⟨hc3, hf3, -, -, hb3⟩ := more_call hb2 hb3
  have hB : Below w.heap.size w w3 := below_to (by go_grown) hb3
  clear hc2 hf2 hb2 hb3 ha hb hc
  by_cases H : fits a = true ∧ fits b = true ∧ fits c = true
  · obtain ⟨h0, h1, h2⟩ := H
    have e0 := Lib.hid (cut_fits h0)
    have e1 := Lib.hid (cut_fits h1)
    have e2 := Lib.hid (cut_fits h2)
    go_wp2
    refine bodyPost_ret (v := .tuple #[.agg #[.int .i64 a, .int .i64 b, .int .i64 c], .int .i64 0]) (by simp [results, Try.results77, go_sem, hc3, e0.out, e1.out, e2.out]) rfl ?_
    exact ⟨by simp [threeV, h0, h1, h2], by go_grown⟩
  · cases h0 : fits a with
    | false =>
      go_wp2
      refine bodyPost_ret (v := .tuple #[.agg #[.int .i64 0, .int .i64 0, .int .i64 0], .int .i64 9]) (by simp [results, Try.results77, go_sem, hc3]) rfl ?_
      exact ⟨by simp [threeV, h0, zeroV], by go_grown⟩
    | true =>
      cases h1 : fits b with
      | false =>
        go_wp2
        refine bodyPost_ret (v := .tuple #[.agg #[.int .i64 0, .int .i64 0, .int .i64 0], .int .i64 9]) (by simp [results, Try.results77, go_sem, hc3]) rfl ?_
        exact ⟨by simp [threeV, h0, h1, zeroV], by go_grown⟩
      | true =>
        have h2 : fits c = false := by simpa [h0, h1] using H
        go_wp2
        refine bodyPost_ret (v := .tuple #[.agg #[.int .i64 0, .int .i64 0, .int .i64 0], .int .i64 9]) (by simp [results, Try.results77, go_sem, hc3]) rfl ?_
        exact ⟨by simp [threeV, h0, h1, h2, zeroV], by go_grown⟩
end Go.Proofs.Ytcjgblopcfcakaa
