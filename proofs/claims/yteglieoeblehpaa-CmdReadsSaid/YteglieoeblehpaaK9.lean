/- Words of this session: one block alone has been written, of those that were there. Conditions: none. -/
import Derived.Test.YteglieoeblehpaaK4
namespace Go.Proofs.Yteglieoeblehpaa
open Go.RowKit

/-- Only block P has been written, of those that were there. -/
def Kept (P : Nat) (w w' : World) : Prop := (∀ B, B ≤ P → B ≤ w.heap.size → Below B w w') ∧ w.heap.size ≤ w'.heap.size ∧ ∀ g t cs, g ≠ P → Blk w g t cs → Blk w' g t cs
theorem Kept.refl (P : Nat) (w : World) : Kept P w w := ⟨fun B _ _ => Below.refl B w, Nat.le_refl _, fun _ _ _ _ h => h⟩
theorem Kept.trans {P : Nat} {w w1 w2 : World} (h : Kept P w w1) (h' : Kept P w1 w2) : Kept P w w2 := ⟨fun B a c => (h.1 B a c).trans (h'.1 B a (Nat.le_trans c h.2.1)), Nat.le_trans h.2.1 h'.2.1, fun g t cs a c => h'.2.2 g t cs a (h.2.2 g t cs a c)⟩
theorem Kept.of {P : Nat} {w w' : World} (h : Below w.heap.size w w') : Kept P w w' := ⟨fun _ _ c => h.mono c, h.size, fun _ _ _ _ hB => hB.past h⟩
theorem Kept.set_ {P : Nat} {w : World} (i : Nat) (v : Value) : Kept P w (w.setCell ⟨P, i, none⟩ v) := ⟨fun B h _ => (Below.refl B w).setCell h v, by simp, fun _ _ _ h hB => hB.far h v⟩
theorem Kept.below {P : Nat} {w0 w w' : World} (h : Kept P w w') (hb : Below w0.heap.size w0 w) (hP : w0.heap.size ≤ P) : Below w0.heap.size w0 w' := hb.trans (h.1 _ hP hb.size)
theorem Kept.blk {P g : Nat} {t : TypeId} {cs : Array Value} {w w' : World} (h : Kept P w w') (hB : Blk w g t cs) (hg : g ≠ P) : Blk w' g t cs := h.2.2 _ _ _ hg hB
/-- What was made since is as good as nothing. -/
theorem Kept.under {P : Nat} {w w1 w2 : World} (h : Kept P w1 w2) (hb : Below w.heap.size w w1) : Kept P w w2 := (Kept.of hb).trans h
end Go.Proofs.Yteglieoeblehpaa
