/- Words of this session: regions that draw their order, walked operation by operation, where what holds of the world turns on the way. Conditions: none. -/
import Derived.Test.YtcjgblopcfcakaaK2
import Derived.Deep.RegionHeld3
namespace Go.Proofs.Ytcjgblopcfcakaa
open Go.RowKit

/-- From here on more holds. -/
theorem wpAnyH_strong {P : Program} {md : Region.Mode} {ops : Array Oper} {Q : Exit → Act → World → Prop} {S S' : World → Prop} (hS : ∀ w, S' w → S w) :
    ∀ (fuel : Nat) (listed : Array Bool) (a : Act) (w : World), wpAnyH P md ops Q S' fuel listed a w → wpAnyH P md ops Q S fuel listed a w
  | 0, _, _, _, h => h
  | fuel + 1, _, _, _, h => ⟨h.1, fun i hi => wpOp_mono (fun a' w' h' => ⟨hS _ h'.1, wpAnyH_strong hS fuel _ a' w' h'.2⟩) (h.2 i hi)⟩
end Go.Proofs.Ytcjgblopcfcakaa
