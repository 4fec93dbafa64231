/- Words of this session, the sixth part: the walk is stopped at an operation, and the world there gets a name. Conditions: none. -/
import Derived.Test.YteglieoeblehpaaK2
namespace Go.Proofs.Yteglieoeblehpaa
open Go.RowKit

theorem ops_at {P : Program} {ops : Array Oper} {Q : Exit → Act → World → Prop} {l : List Oper} {a : Act} {W : World} {o : Oper} (d : Nat) (hd : o.dst = some d) (F : World → Prop) (hF : RowKit.Hid (F W)) (h : RowKit.Hid (∀ w, F w → wpList P ops Q (o :: l) a w)) : wpList P ops Q (o :: l) a W := h.out W hF.out
end Go.Proofs.Yteglieoeblehpaa
