/- The contracts of the document's answer for vecs (reeveref01). Conditions: the numbers are of their kinds. -/
import Derived.Test.YtbamgoocgmhohaaVec3
namespace Go.Proofs.Ytbamgoocgmhohaa
open Go.RowKit

def Mid (z : Int) : Prop := -1237940039285380274899124224 ≤ z ∧ z ≤ 1237940039285380274899124224
theorem Mid.of {z : Int} (h : I64 z) : Mid z := by obtain ⟨_, _⟩ := h; constructor <;> omega
abbrev wd (z : Int) : Value := .agg #[.int .i64 (z / 4294967296), .int .i64 (z % 4294967296)]
def cut (z : Int) : Int := if fits z then z else 0
theorem and_mask (x : Int) (h : I64 x) : bits .and .i64 x 4294967295 = x % 4294967296 := by
  obtain ⟨h0, h1⟩ := h
  unfold bits
  have e : (BitVec.ofInt 64 x &&& BitVec.ofInt 64 4294967295).toNat = ((x % 4294967296).toNat) := by
    rw [BitVec.toNat_and, BitVec.toNat_ofInt, BitVec.toNat_ofInt]
    rw [show ((4294967295 : Int) % ((2 ^ 64 : Nat) : Int)).toNat = 2 ^ 32 - 1 by decide, Nat.and_two_pow_sub_one_eq_mod]
    omega
  show IntKind.i64.wrap ((BitVec.ofInt 64 x &&& BitVec.ofInt 64 4294967295).toNat : Int) = _
  rw [e, IntKind.wrap_i64]
  omega
theorem or_join (h l : Int) (hh : -2147483648 ≤ h ∧ h ≤ 2147483647) (hl : 0 ≤ l ∧ l < 4294967296) : bits .or .i64 (h * 4294967296) l = h * 4294967296 + l := by
  obtain ⟨h0, h1⟩ := hh
  obtain ⟨l0, l1⟩ := hl
  have e : (BitVec.ofInt 64 (h * 4294967296) ||| BitVec.ofInt 64 l).toNat = (((h * 4294967296 + l) % 18446744073709551616).toNat) := by
    rw [BitVec.toNat_or, BitVec.toNat_ofInt, BitVec.toNat_ofInt]
    obtain ⟨m, hm⟩ : ∃ m : Nat, ((h * 4294967296) % ((2 ^ 64 : Nat) : Int)).toNat = 2 ^ 32 * m := ⟨((h % 4294967296).toNat), by omega⟩
    have hl' : (l % ((2 ^ 64 : Nat) : Int)).toNat = l.toNat := by omega
    rw [hm, hl', ← Nat.two_pow_add_eq_or_of_lt (show l.toNat < 2 ^ 32 by omega)]
    omega
  show IntKind.i64.wrap ((BitVec.ofInt 64 (h * 4294967296) ||| BitVec.ofInt 64 l).toNat : Int) = _
  rw [e, IntKind.wrap_i64]
  omega

def threeV (a b c : Int) : Vec × Int := if fits a && fits b && fits c then (⟨a, b, c⟩, 0) else (zeroV, 9)
theorem cut_fits {a : Int} (h : fits a = true) : cut a = a := by simp [cut, h]
end Go.Proofs.Ytbamgoocgmhohaa
