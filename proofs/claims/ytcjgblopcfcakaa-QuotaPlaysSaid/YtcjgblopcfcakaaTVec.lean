/- A vec, and a list of vecs, as they come in. Conditions: none. -/
import Derived.Test.YtcjgblopcfcakaaK4
import Derived.Test.YtcjgblopcfcakaaVec3
namespace Go.Proofs.Ytcjgblopcfcakaa
open Go.RowKit Go.Deep Go.WideShapes

set_option maxRecDepth 100000 in
theorem Vec_cells {H : Type} {enc : TypeId × Value → H} {w : World} {base : Nat} {spare : Nat → Bool} {held : Bool} {fuel : Nat} {cs : List Value} {x : DataW H × List MemPlace} (h : DataW.trod enc Try.prog w base spare held fuel 28 cs = some x) : ∃ t : Vec, cs = [.int .i64 t.cpu, .int .i64 t.mem, .int .i64 t.disk] ∧ t.ok := by
  obtain ⟨xs, n, _, _, hlen, hl, hf⟩ := DataW.trod_struct Try.underlying28 h
  have hlen' : cs.length = 3 := hlen.trans (by kernel_rfl)
  obtain ⟨c0, c1, c2, rfl⟩ : ∃ c0 c1 c2, cs = [c0, c1, c2] := by
    match cs, hlen' with
    | [c0, c1, c2], _ => exact ⟨c0, c1, c2, rfl⟩
  obtain ⟨y0, y1, y2, rfl⟩ : ∃ y0 y1 y2, xs = [y0, y1, y2] := by
    match xs, (hl : xs.length = 3) with
    | [y0, y1, y2], _ => exact ⟨y0, y1, y2, rfl⟩
  have k0 : Try.prog.cellsOf 2 = 1 := by kernel_rfl
  have f0 : DataW.trod enc Try.prog w base spare held n 2 [c0] = some y0 := by have q := hf 0 _ rfl; simpa [k0] using q
  obtain ⟨a0, e0, _, w0⟩ := DataW.trod_int Try.underlying2 f0
  simp only [List.cons.injEq, and_true] at e0
  subst e0
  have f1 : DataW.trod enc Try.prog w base spare held n 2 [c1] = some y1 := by have q := hf 1 _ rfl; simpa [k0] using q
  obtain ⟨a1, e1, _, w1⟩ := DataW.trod_int Try.underlying2 f1
  simp only [List.cons.injEq, and_true] at e1
  subst e1
  have f2 : DataW.trod enc Try.prog w base spare held n 2 [c2] = some y2 := by have q := hf 2 _ rfl; simpa [k0] using q
  obtain ⟨a2, e2, _, w2⟩ := DataW.trod_int Try.underlying2 f2
  simp only [List.cons.injEq, and_true] at e2
  subst e2
  exact ⟨⟨a0, a1, a2⟩, rfl, ⟨I64_of w0, I64_of w1, I64_of w2⟩⟩
set_option maxRecDepth 100000 in
theorem Vec_open {H : Type} {enc : TypeId × Value → H} {w : World} {r : Reach} {b0 base : Nat} {spare : Nat → Bool} {held : Bool} {v : Value} {d : DataW H} {p : List MemPlace} (hv : Value.okWide Try.prog w r b0 28 v) (h : DataW.Trod enc Try.prog w base spare held 28 v d p) : ∃ t : Vec, v = t.v ∧ t.ok := by
  obtain ⟨cs, rfl, _⟩ := okWide_struct Try.underlying28 hv
  obtain ⟨fuel, hf⟩ := h
  obtain ⟨t, hc, ho⟩ := Vec_cells hf
  refine ⟨t, ?_, ho⟩
  obtain ⟨l⟩ := cs
  have hc' : l = [.int .i64 t.cpu, .int .i64 t.mem, .int .i64 t.disk] := hc
  rw [hc']

end Go.Proofs.Ytcjgblopcfcakaa
