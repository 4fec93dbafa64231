/- A step of a script, and a script, as they come in. Conditions: none. -/
import Derived.Test.YtbamgoocgmhohaaK4
import Derived.Test.YtbamgoocgmhohaaK3
namespace Go.Proofs.Ytbamgoocgmhohaa
open Go.RowKit Go.Deep Go.WideShapes

structure TStep where
  node : Int
  by_ : Int
  deriving DecidableEq
abbrev TStep.v (x : TStep) : Value := .agg #[.int .i64 x.node, .int .i64 x.by_]
def TStep.ok (x : TStep) : Prop := I64 x.node ∧ I64 x.by_
instance (x : TStep) : Decidable x.ok := inferInstanceAs (Decidable (_ ∧ _))

set_option maxRecDepth 100000 in
theorem TStep_cells {H : Type} {enc : TypeId × Value → H} {w : World} {base : Nat} {spare : Nat → Bool} {held : Bool} {fuel : Nat} {cs : List Value} {x : DataW H × List MemPlace} (h : DataW.trod enc Try.prog w base spare held fuel 60 cs = some x) : ∃ t : TStep, cs = [.int .i64 t.node, .int .i64 t.by_] ∧ t.ok := by
  obtain ⟨xs, n, _, _, hlen, hl, hf⟩ := DataW.trod_struct Try.underlying60 h
  have hlen' : cs.length = 2 := hlen.trans (by kernel_rfl)
  obtain ⟨c0, c1, rfl⟩ : ∃ c0 c1, cs = [c0, c1] := by
    match cs, hlen' with
    | [c0, c1], _ => exact ⟨c0, c1, rfl⟩
  obtain ⟨y0, y1, rfl⟩ : ∃ y0 y1, xs = [y0, y1] := by
    match xs, (hl : xs.length = 2) with
    | [y0, y1], _ => exact ⟨y0, y1, rfl⟩
  have k0 : Try.prog.cellsOf 3 = 1 := by kernel_rfl
  have f0 : DataW.trod enc Try.prog w base spare held n 3 [c0] = some y0 := by have q := hf 0 _ rfl; simpa [k0] using q
  obtain ⟨a0, e0, _, w0⟩ := DataW.trod_int Try.underlying3 f0
  simp only [List.cons.injEq, and_true] at e0
  subst e0
  have k1 : Try.prog.cellsOf 2 = 1 := by kernel_rfl
  have f1 : DataW.trod enc Try.prog w base spare held n 2 [c1] = some y1 := by have q := hf 1 _ rfl; simpa [k1] using q
  obtain ⟨a1, e1, _, w1⟩ := DataW.trod_int Try.underlying2 f1
  simp only [List.cons.injEq, and_true] at e1
  subst e1
  exact ⟨⟨a0, a1⟩, rfl, ⟨I64_of w0, I64_of w1⟩⟩
set_option maxRecDepth 100000 in
theorem TStep_open {H : Type} {enc : TypeId × Value → H} {w : World} {r : Reach} {b0 base : Nat} {spare : Nat → Bool} {held : Bool} {v : Value} {d : DataW H} {p : List MemPlace} (hv : Value.okWide Try.prog w r b0 60 v) (h : DataW.Trod enc Try.prog w base spare held 60 v d p) : ∃ t : TStep, v = t.v ∧ t.ok := by
  obtain ⟨cs, rfl, _⟩ := okWide_struct Try.underlying60 hv
  obtain ⟨fuel, hf⟩ := h
  obtain ⟨t, hc, ho⟩ := TStep_cells hf
  refine ⟨t, ?_, ho⟩
  obtain ⟨l⟩ := cs
  have hc' : l = [.int .i64 t.node, .int .i64 t.by_] := hc
  rw [hc']

/-- A list of them in memory. -/
def TStepsIn (w : World) (A : Option Addr) (xs : List TStep) : Prop :=
  xs ≠ [] → ∃ b off, A = some ⟨b, off, none⟩ ∧ b < w.heap.size ∧ ∀ i (h : i < xs.length),
    w.cell? ⟨b, off + i * 2, none⟩ = some (.int .i64 xs[i].node) ∧ w.cell? ⟨b, off + i * 2 + 1, none⟩ = some (.int .i64 xs[i].by_)
set_option maxRecDepth 100000 in
theorem TSteps_open {H : Type} {enc : TypeId × Value → H} {w : World} {spare : Nat → Bool} {held : Bool} {A : Option Addr} {n c : Nat} {d : DataW H} {p : List MemPlace} (h : DataW.Trod enc Try.prog w 0 spare held 48 (.slice A n c) d p) : ∃ xs : List TStep, xs.length = n ∧ (∀ x ∈ xs, x.ok) ∧ TStepsIn w A xs := by
  obtain ⟨xs, hl, ho, hr⟩ := slice_rows (c := 2) (Pf := fun cs (t : TStep) => cs = [.int .i64 t.node, .int .i64 t.by_] ∧ t.ok) Try.underlying48 (by kernel_rfl) (by decide) (fun h => by obtain ⟨t, h1, h2⟩ := TStep_cells h; exact ⟨t, h1, h2⟩) h
  refine ⟨xs, hl, fun x hx => by obtain ⟨cs, _, h2⟩ := ho x hx; exact h2, fun hne => ?_⟩
  obtain ⟨b, off, hA, hb, hc⟩ := hr hne
  refine ⟨b, off, hA, hb, fun i hi => ?_⟩
  obtain ⟨cs, _, ⟨rfl, _⟩, hj⟩ := hc i hi
  exact ⟨hj 0 (by decide), hj 1 (by decide)⟩

end Go.Proofs.Ytbamgoocgmhohaa
