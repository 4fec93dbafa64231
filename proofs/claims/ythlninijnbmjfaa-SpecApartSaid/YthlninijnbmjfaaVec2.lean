/- The contracts of package vec, its second half: the greater, the lesser, sums of lists. Conditions: the numbers are of their kinds. -/
import Derived.Test.YthlninijnbmjfaaVec
namespace Go.Proofs.Ythlninijnbmjfaa
open Go.RowKit

/-- What is taken of two numbers. -/
def Picks (g : Nat) (op : Int → Int → Int) : Prop := ∀ (a b : Int), I64 a → I64 b → ∀ (w : World), Calls Try.prog g #[.int .i64 a, .int .i64 b] w fun e w' => e = .returned (.int .i64 (op a b)) ∧ Below w.heap.size w w'
def pickV (op : Int → Int → Int) (a b : Vec) : Vec := ⟨op a.cpu b.cpu, op a.mem b.mem, op a.disk b.disk⟩
def maxV (a b : Vec) : Vec := pickV max a b
def minV (a b : Vec) : Vec := pickV min a b
end Go.Proofs.Ythlninijnbmjfaa
