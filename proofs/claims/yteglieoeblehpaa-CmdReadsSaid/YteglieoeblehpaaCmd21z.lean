/- Commands: the reference's command of what a kind has alone, walked. Conditions: none. -/
import Derived.Test.YteglieoeblehpaaCmd21a
import Derived.Test.YteglieoeblehpaaCmd21b
import Derived.Test.YteglieoeblehpaaCmd21c
import Derived.Test.YteglieoeblehpaaCmd21d
namespace Go.Proofs.Yteglieoeblehpaa
open Go.RowKit

theorem r_only (c : Command) (hk : 0 ≤ c.kind ∧ c.kind ≤ 14) (w : World) : Calls Try.prog 65 #[.agg (csC c)] w fun e w' => e = .returned (.agg (csC (onlyC c))) ∧ Below w.heap.size w w' := by
  rcases (show c.kind = 0 ∨ c.kind = 1 ∨ c.kind = 2 ∨ c.kind = 3 ∨ c.kind = 4 ∨ c.kind = 5 ∨ c.kind = 6 ∨ c.kind = 7 ∨ c.kind = 8 ∨ c.kind = 9 ∨ c.kind = 10 ∨ c.kind = 11 ∨ c.kind = 12 ∨ c.kind = 13 ∨ c.kind = 14 by omega) with h | h | h | h | h | h | h | h | h | h | h | h | h | h | h
  · exact only_0 c h w
  · exact only_1 c h w
  · exact only_2 c h w
  · exact only_3 c h w
  · exact only_4 c h w
  · exact only_5 c h w
  · exact only_6 c h w
  · exact only_7 c h w
  · exact only_8 c h w
  · exact only_9 c h w
  · exact only_10 c h w
  · exact only_11 c h w
  · exact only_12 c h w
  · exact only_13 c h w
  · exact only_14 c h w
end Go.Proofs.Yteglieoeblehpaa
