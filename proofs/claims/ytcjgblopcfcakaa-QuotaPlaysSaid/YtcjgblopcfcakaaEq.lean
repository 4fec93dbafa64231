/- Whether two vecs are the same, as the machine finds it. Conditions: none. -/
import Derived.Test.YtcjgblopcfcakaaVec
namespace Go.Proofs.Ytcjgblopcfcakaa
open Go.RowKit

def eqV (a b : Vec) : Bool := decide (a = b)
theorem eqV_true {a b : Vec} (h : eqV a b = true) : a = b := of_decide_eq_true h
theorem eqV_false {a b : Vec} (h : eqV a b = false) : a ≠ b := of_decide_eq_false h
theorem eql_vec (a0 a1 a2 b0 b1 b2 : Int) (w : World) : (binOp .eql 28 (.agg #[.int .i64 a0, .int .i64 a1, .int .i64 a2]) (.agg #[.int .i64 b0, .int .i64 b1, .int .i64 b2])).run Try.prog w = .ok (.bool (eqV ⟨a0, a1, a2⟩ ⟨b0, b1, b2⟩)) w := by
  unfold eqV
  by_cases h0 : a0 = b0 <;> by_cases h1 : a1 = b1 <;> by_cases h2 : a2 = b2 <;> simp [go_sem, h0, h1, h2]
theorem neq_vec (a0 a1 a2 b0 b1 b2 : Int) (w : World) : (binOp .neq 28 (.agg #[.int .i64 a0, .int .i64 a1, .int .i64 a2]) (.agg #[.int .i64 b0, .int .i64 b1, .int .i64 b2])).run Try.prog w = .ok (.bool (!eqV ⟨a0, a1, a2⟩ ⟨b0, b1, b2⟩)) w := by
  unfold eqV
  by_cases h0 : a0 = b0 <;> by_cases h1 : a1 = b1 <;> by_cases h2 : a2 = b2 <;> simp [go_sem, h0, h1, h2]
theorem eqV_self (a : Vec) : eqV a a = true := decide_eq_true rfl
end Go.Proofs.Ytcjgblopcfcakaa
