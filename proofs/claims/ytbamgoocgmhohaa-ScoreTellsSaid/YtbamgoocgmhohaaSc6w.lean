/- ScoreTells, as its row asks for it. Conditions: the numbers are of their kinds, the lists are in memory. -/
import Derived.Test.YtbamgoocgmhohaaSc6
namespace Go.Proofs.Ytbamgoocgmhohaa
open Go.RowKit

theorem ScoreTells_walk (A : Option Addr) (n ca : Nat) (hs : List Vec) (hl : hs.length = n) (_hn : n * 24 ≤ 140737488351232) (hok : ∀ x ∈ hs, x.ok) {w : World} (hA : VecsIn w A hs) (B : Option Addr) (n2 cb : Nat) (us : List Vec) (ul : us.length = n2) (_hn2 : n2 * 24 ≤ 140737488351232) (uok : ∀ x ∈ us, x.ok) (hB : VecsIn w B us) (m : Vec) (mok : m.ok) :
    Calls Try.prog 11 #[.slice A n ca, .slice B n2 cb, m.v] w fun r w' => r = .returned (.bool true) ∧ Below w.heap.size w w' := ScoreTells_in A B n n2 ca cb hs us m hl ul hok uok mok w hA hB
end Go.Proofs.Ytbamgoocgmhohaa
