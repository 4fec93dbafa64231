/- Commands: the reference's bytes, walked. Conditions: the texts are short. -/
import Derived.Test.YtjnhhippmigbiaaCmd23a
import Derived.Test.YtjnhhippmigbiaaCmd23b
import Derived.Test.YtjnhhippmigbiaaCmd23c
import Derived.Test.YtjnhhippmigbiaaCmd23d
namespace Go.Proofs.Ytjnhhippmigbiaa
open Go.RowKit

theorem r_Bytes (c : Command) (hc : c.ok) (hl : shortC c) (hk : 0 ≤ c.kind ∧ c.kind ≤ 14) (w : World) : Calls Try.prog 18 #[.agg (csC c)] w fun e w' => e = .returned (.string (encC c)) ∧ Below w.heap.size w w' := by
  rcases (show c.kind = 0 ∨ c.kind = 1 ∨ c.kind = 2 ∨ c.kind = 3 ∨ c.kind = 4 ∨ c.kind = 5 ∨ c.kind = 6 ∨ c.kind = 7 ∨ c.kind = 8 ∨ c.kind = 9 ∨ c.kind = 10 ∨ c.kind = 11 ∨ c.kind = 12 ∨ c.kind = 13 ∨ c.kind = 14 by omega) with h | h | h | h | h | h | h | h | h | h | h | h | h | h | h
  · exact bytes_0 c hc hl h w
  · exact bytes_1 c hc hl h w
  · exact bytes_2 c hc hl h w
  · exact bytes_3 c hc hl h w
  · exact bytes_4 c hc hl h w
  · exact bytes_5 c hc hl h w
  · exact bytes_6 c hc hl h w
  · exact bytes_7 c hc hl h w
  · exact bytes_8 c hc hl h w
  · exact bytes_9 c hc hl h w
  · exact bytes_10 c hc hl h w
  · exact bytes_11 c hc hl h w
  · exact bytes_12 c hc hl h w
  · exact bytes_13 c hc hl h w
  · exact bytes_14 c hc hl h w
end Go.Proofs.Ytjnhhippmigbiaa
