/- The contract of vec.Sum. Conditions: the numbers are of their kinds, the list is as long as a list can be. -/
import Derived.Test.YtcjgblopcfcakaaVec2
import Derived.Test.YtcjgblopcfcakaaK2
namespace Go.Proofs.Ytcjgblopcfcakaa
open Go.RowKit

/-- A list of vecs in memory. -/
def VecsIn (w : World) (A : Option Addr) (xs : List Vec) : Prop :=
  xs ≠ [] → ∃ b off, A = some ⟨b, off, none⟩ ∧ b < w.heap.size ∧ ∀ i (h : i < xs.length),
    w.cell? ⟨b, off + i * 3, none⟩ = some (.int .i64 xs[i].cpu) ∧ w.cell? ⟨b, off + i * 3 + 1, none⟩ = some (.int .i64 xs[i].mem) ∧ w.cell? ⟨b, off + i * 3 + 2, none⟩ = some (.int .i64 xs[i].disk)
def sumC (f : Vec → Int) (xs : List Vec) : Int := (xs.map f).sum
def sumV (xs : List Vec) : Vec × Int :=
  if fits (sumC Vec.cpu xs) && fits (sumC Vec.mem xs) && fits (sumC Vec.disk xs) then (⟨sumC Vec.cpu xs, sumC Vec.mem xs, sumC Vec.disk xs⟩, 0) else (zeroV, 9)
theorem sumC_snoc (f : Vec → Int) (xs : List Vec) (k : Nat) (h : k < xs.length) : sumC f (xs.take (k + 1)) = sumC f (xs.take k) + f xs[k] := by
  unfold sumC
  rw [List.take_succ_eq_append_getElem h, List.map_append, List.sum_append]
  simp

abbrev sixW (a b c : Int) : Array Value := #[.int .u64 (lo a), .int .u64 (hi a), .int .u64 (lo b), .int .u64 (hi b), .int .u64 (lo c), .int .u64 (hi c)]
theorem sumC_bd (f : Vec → Int) (h : ∀ x : Vec, x.ok → I64 (f x)) : ∀ (xs : List Vec), (∀ x ∈ xs, x.ok) → -(9223372036854775808 * (xs.length : Int)) ≤ sumC f xs ∧ sumC f xs ≤ 9223372036854775808 * xs.length
  | [], _ => by simp [sumC]
  | x :: xs, hx => by
    have ih := sumC_bd f h xs (fun y hy => hx y (List.mem_cons_of_mem _ hy))
    have h0 := h x (hx x List.mem_cons_self)
    obtain ⟨a, b⟩ := h0
    have e : sumC f (x :: xs) = f x + sumC f xs := by simp [sumC]
    rw [e, List.length_cons]
    omega
theorem sumC_128 (f : Vec → Int) (h : ∀ x : Vec, x.ok → I64 (f x)) (xs : List Vec) (hx : ∀ x ∈ xs, x.ok) (hn : xs.length ≤ 4611686018427387904) : I128 (sumC f xs) := by
  have := sumC_bd f h xs hx
  constructor <;> omega
end Go.Proofs.Ytcjgblopcfcakaa
