/- Commands: what is read as a command: the plain part. Conditions: none. -/
import Derived.Test.YteglieoeblehpaaCmd6
import Derived.Test.YteglieoeblehpaaCmd10
namespace Go.Proofs.Yteglieoeblehpaa
open Go.RowKit

/-- What the thirteen closures read. -/
def readG : Nat → St → St
  | 0, x => stepT x 3
  | 1, x => stepS x 4
  | 2, x => stepT x 25
  | 3, x => stepI (stepT x 27) (27 + 1)
  | 4, x => stepI x 26
  | 5, x => stepI x 8
  | 6, x => stepI x 29
  | 7, x => stepI x 30
  | 8, x => stepS x 31
  | 9, x => [5, 5 + 1, 5 + 2].foldl stepI x
  | 10, x => jobS x 9
  | 11, x => allocS x 19
  | _, x => stepI x 32
/-- The first so many fields, those that the kind has. -/
def readK (B : Int) : Nat → St → St
  | 0, x => x
  | k + 1, x => if selB B k = true then readG k (readK B k x) else readK B k x
theorem fair_vec (x : St) (i : Nat) : Fair x ([i, i + 1, i + 2].foldl stepI x) := ((fairI x i).trans (fairI _ (i + 1))).trans (fairI _ (i + 2))
theorem fair_job (x : St) (off : Nat) : Fair x (jobS x off) :=
  (((((((fairT x off).trans (fairT _ (off + 1))).trans (fairS _ (off + 2))).trans (fairI _ (off + 3))).trans (fair_vec _ (off + 4))).trans (fairT _ (off + 7))).trans (fairI _ (off + 8))).trans (fairI _ (off + 8 + 1))
theorem fair_alloc (x : St) (off : Nat) : Fair x (allocS x off) :=
  (((fairT x off).trans (fairT _ (off + 1))).trans (fairI _ (off + 2))).trans (fair_vec _ (off + 3))
theorem fairGk (k : Nat) (x : St) : Fair x (readG k x) := by
  unfold readG
  split
  · exact fairT _ _
  · exact fairS _ _
  · exact fairT _ _
  · exact (fairT _ _).trans (fairI _ _)
  · exact fairI _ _
  · exact fairI _ _
  · exact fairI _ _
  · exact fairI _ _
  · exact fairS _ _
  · exact fair_vec _ _
  · exact fair_job _ _
  · exact fair_alloc _ _
  · exact fairI _ _
theorem fairK (B : Int) (x : St) : ∀ k, Fair x (readK B k x)
  | 0 => ⟨Nat.le_refl _, rfl⟩
  | k + 1 => by
    unfold readK
    split
    · exact (fairK B x k).trans (fairGk k _)
    · exact fairK B x k
/-- The kind that is read. -/
def kindR (x : St) : Int := rdV x.2.1 (qUint x.1 255) 0
/-- All that is read. -/
def readAll (x : St) : St :=
  readK (fieldsOf (kindR x)) 13 (if clientB (kindR x) = true then stepG (stepG (stepS x 0) 1) 2 else stepS x 0)
end Go.Proofs.Yteglieoeblehpaa
