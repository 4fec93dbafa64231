/- Commands: how the reference reads what a kind has, walked. Conditions: the bytes are in memory. -/
import Derived.Test.YteglieoeblehpaaCmd25a
import Derived.Test.YteglieoeblehpaaCmd25b
import Derived.Test.YteglieoeblehpaaCmd25c
import Derived.Test.YteglieoeblehpaaCmd25d
namespace Go.Proofs.Yteglieoeblehpaa
open Go.RowKit

theorem r_read (R : Nat) (x : RS) (c : Command) (hk : 0 ≤ c.kind ∧ c.kind ≤ 14) (w : World) (hs : x.1.size ≤ 140737488351232) (h : RR w R x) : Calls Try.prog 67 #[.pointer (some ⟨R, 0, none⟩), .agg (csC c)] w fun e w' => e = .returned (.agg (csC (rdK (fieldsOf c.kind) 13 (x, c)).2)) ∧ RR w' R (rdK (fieldsOf c.kind) 13 (x, c)).1 ∧ Kept R w w' := by
  rcases (show c.kind = 0 ∨ c.kind = 1 ∨ c.kind = 2 ∨ c.kind = 3 ∨ c.kind = 4 ∨ c.kind = 5 ∨ c.kind = 6 ∨ c.kind = 7 ∨ c.kind = 8 ∨ c.kind = 9 ∨ c.kind = 10 ∨ c.kind = 11 ∨ c.kind = 12 ∨ c.kind = 13 ∨ c.kind = 14 by omega) with hq | hq | hq | hq | hq | hq | hq | hq | hq | hq | hq | hq | hq | hq | hq
  · exact read_0 R x c hq w hs h
  · exact read_1 R x c hq w hs h
  · exact read_2 R x c hq w hs h
  · exact read_3 R x c hq w hs h
  · exact read_4 R x c hq w hs h
  · exact read_5 R x c hq w hs h
  · exact read_6 R x c hq w hs h
  · exact read_7 R x c hq w hs h
  · exact read_8 R x c hq w hs h
  · exact read_9 R x c hq w hs h
  · exact read_10 R x c hq w hs h
  · exact read_11 R x c hq w hs h
  · exact read_12 R x c hq w hs h
  · exact read_13 R x c hq w hs h
  · exact read_14 R x c hq w hs h
end Go.Proofs.Yteglieoeblehpaa
