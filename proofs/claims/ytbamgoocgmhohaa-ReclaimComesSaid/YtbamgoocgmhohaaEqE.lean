/- Whether two estimates are the same, as the machine finds it. Conditions: none. -/
import Derived.Test.YtbamgoocgmhohaaRec
import Derived.Test.YtbamgoocgmhohaaEq
namespace Go.Proofs.Ytbamgoocgmhohaa
open Go.RowKit

def eqE (a b : Est) : Bool := decide (a = b)
theorem eqE_true {a b : Est} (h : eqE a b = true) : a = b := of_decide_eq_true h
theorem eqE_false {a b : Est} (h : eqE a b = false) : a ≠ b := of_decide_eq_false h
theorem eql_est (a0 a1 a2 a3 b0 b1 b2 b3 : Int) (w : World) : (binOp .eql 27 (.agg #[.int .i64 a0, .int .i64 a1, .int .i64 a2, .int .i64 a3]) (.agg #[.int .i64 b0, .int .i64 b1, .int .i64 b2, .int .i64 b3])).run Try.prog w = .ok (.bool (eqE ⟨⟨a0, a1, a2⟩, a3⟩ ⟨⟨b0, b1, b2⟩, b3⟩)) w := by
  unfold eqE
  by_cases h0 : a0 = b0 <;> by_cases h1 : a1 = b1 <;> by_cases h2 : a2 = b2 <;> by_cases h3 : a3 = b3 <;> simp [go_sem, h0, h1, h2, h3]
theorem neq_est (a0 a1 a2 a3 b0 b1 b2 b3 : Int) (w : World) : (binOp .neq 27 (.agg #[.int .i64 a0, .int .i64 a1, .int .i64 a2, .int .i64 a3]) (.agg #[.int .i64 b0, .int .i64 b1, .int .i64 b2, .int .i64 b3])).run Try.prog w = .ok (.bool (!eqE ⟨⟨a0, a1, a2⟩, a3⟩ ⟨⟨b0, b1, b2⟩, b3⟩)) w := by
  unfold eqE
  by_cases h0 : a0 = b0 <;> by_cases h1 : a1 = b1 <;> by_cases h2 : a2 = b2 <;> by_cases h3 : a3 = b3 <;> simp [go_sem, h0, h1, h2, h3]
end Go.Proofs.Ytbamgoocgmhohaa
