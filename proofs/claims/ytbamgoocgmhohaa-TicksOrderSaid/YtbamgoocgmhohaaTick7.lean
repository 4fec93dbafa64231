/- The law TicksOrder of reevelaw09: the plain part. Conditions: none. -/
import Derived.Test.YtbamgoocgmhohaaTick5
namespace Go.Proofs.Ytbamgoocgmhohaa
open Go.RowKit

theorem and16_bd (y : Int) : 0 ≤ bits .and .i64 y 65535 ∧ bits .and .i64 y 65535 ≤ 65535 := by
  have e : bits .and .i64 y 65535 = IntKind.i64.wrap ((BitVec.ofInt 64 y &&& BitVec.ofInt 64 65535).toNat : Int) := rfl
  rw [e, BitVec.toNat_and, show (BitVec.ofInt 64 65535).toNat = 65535 by decide, IntKind.wrap_i64]
  have := @Nat.and_le_right ((BitVec.ofInt 64 y).toNat) 65535
  omega
theorem times_of {ts : List Int} {N : Nat} (h1 : 1 ≤ N) (h2 : N ≤ 128) (hl : ts.length = N) {m : Int} (hm : m ≤ 17592186044416) (h : ∀ x ∈ ts, 0 ≤ x ∧ x ≤ m) : Times ts := by
  refine ⟨by omega, fun x hx => ?_⟩
  have := h x hx
  omega
theorem set_bd {ts : List Int} {m m' : Int} (h : ∀ x ∈ ts, 0 ≤ x ∧ x ≤ m) (k : Nat) (y : Int) (h0 : 0 ≤ y) (h1 : y ≤ m') (hm : m ≤ m') : ∀ x ∈ ts.set k y, 0 ≤ x ∧ x ≤ m' := by
  intro x hx
  rcases List.mem_or_eq_of_mem_set hx with h' | rfl
  · have := h x h'; omega
  · omega
/-- From the end on it is laid anew. -/
def laid (ts : List Int) (j : Nat) : List Int := List.replicate j 0 ++ ts.drop j
theorem laid_all (ts : List Int) : laid ts ts.length = List.replicate ts.length 0 := by simp [laid]
theorem laid_none (ts : List Int) : laid ts 0 = ts := by simp [laid]
theorem laid_len (ts : List Int) (j : Nat) (h : j ≤ ts.length) : (laid ts j).length = ts.length := by simp [laid]; omega
theorem laid_at (ts : List Int) (j : Nat) (h : j + 1 ≤ ts.length) (h' : j < (laid ts (j + 1)).length) : (laid ts (j + 1))[j] = 0 := by
  have e : (laid ts (j + 1))[j]? = some 0 := by
    unfold laid
    rw [List.getElem?_append_left (by simp)]
    simp
  exact (List.getElem?_eq_some_iff.1 e).2
theorem laid_set (ts : List Int) (j : Nat) (h : j + 1 ≤ ts.length) : (laid ts (j + 1)).set j (0 + ts[j]) = laid ts j := by
  show (List.replicate (j + 1) 0 ++ ts.drop (j + 1)).set j (0 + ts[j]) = List.replicate j 0 ++ ts.drop j
  apply List.ext_getElem
  · simp; omega
  · intro i h1 h2
    simp only [List.getElem_set, List.getElem_append, List.length_replicate, List.getElem_replicate, List.getElem_drop]
    grind
theorem laid_bd {ts : List Int} {m : Int} (hm : 0 ≤ m) (h : ∀ x ∈ ts, 0 ≤ x ∧ x ≤ m) (j : Nat) : ∀ x ∈ laid ts j, 0 ≤ x ∧ x ≤ m := by
  intro x hx
  unfold laid at hx
  rcases List.mem_append.1 hx with h' | h'
  · rw [List.eq_of_mem_replicate h']; omega
  · exact h x (List.mem_of_mem_drop h')
end Go.Proofs.Ytbamgoocgmhohaa
