/- A job, a set of allocs, a budget, as they come in. Conditions: none. -/
import Derived.Test.YthlninijnbmjfaaK4
import Derived.Test.YthlninijnbmjfaaTVec
namespace Go.Proofs.Ythlninijnbmjfaa
open Go.RowKit Go.Deep Go.WideShapes

structure Budget where
  k : Int
  window : Int
  deriving DecidableEq
abbrev Budget.v (x : Budget) : Value := .agg #[.int .i64 x.k, .int .i64 x.window]
def Budget.ok (x : Budget) : Prop := I64 x.k ∧ I64 x.window
instance (x : Budget) : Decidable x.ok := inferInstanceAs (Decidable (_ ∧ _))

structure JobSpec where
  name : ByteArray
  user : ByteArray
  band : Int
  count : Int
  limit : Vec
  alloc : ByteArray
  budget : Budget
  deriving DecidableEq
abbrev JobSpec.v (x : JobSpec) : Value := .agg #[.string x.name, .string x.user, .int .u8 x.band, .int .i64 x.count, .int .i64 x.limit.cpu, .int .i64 x.limit.mem, .int .i64 x.limit.disk, .string x.alloc, .int .i64 x.budget.k, .int .i64 x.budget.window]
def JobSpec.ok (x : JobSpec) : Prop := x.name.size ≤ 9223372036854775807 ∧ x.user.size ≤ 9223372036854775807 ∧ U8 x.band ∧ I64 x.count ∧ x.limit.ok ∧ x.alloc.size ≤ 9223372036854775807 ∧ x.budget.ok
instance (x : JobSpec) : Decidable x.ok := inferInstanceAs (Decidable (_ ∧ _))

structure AllocSpec where
  name : ByteArray
  user : ByteArray
  count : Int
  limit : Vec
  deriving DecidableEq
abbrev AllocSpec.v (x : AllocSpec) : Value := .agg #[.string x.name, .string x.user, .int .i64 x.count, .int .i64 x.limit.cpu, .int .i64 x.limit.mem, .int .i64 x.limit.disk]
def AllocSpec.ok (x : AllocSpec) : Prop := x.name.size ≤ 9223372036854775807 ∧ x.user.size ≤ 9223372036854775807 ∧ I64 x.count ∧ x.limit.ok
instance (x : AllocSpec) : Decidable x.ok := inferInstanceAs (Decidable (_ ∧ _))

set_option maxRecDepth 100000 in
theorem Budget_cells {H : Type} {enc : TypeId × Value → H} {w : World} {base : Nat} {spare : Nat → Bool} {held : Bool} {fuel : Nat} {cs : List Value} {x : DataW H × List MemPlace} (h : DataW.trod enc Try.prog w base spare held fuel 49 cs = some x) : ∃ t : Budget, cs = [.int .i64 t.k, .int .i64 t.window] ∧ t.ok := by
  obtain ⟨xs, n, _, _, hlen, hl, hf⟩ := DataW.trod_struct Try.underlying49 h
  have hlen' : cs.length = 2 := hlen.trans (by kernel_rfl)
  obtain ⟨c0, c1, rfl⟩ : ∃ c0 c1, cs = [c0, c1] := by
    match cs, hlen' with
    | [c0, c1], _ => exact ⟨c0, c1, rfl⟩
  obtain ⟨y0, y1, rfl⟩ : ∃ y0 y1, xs = [y0, y1] := by
    match xs, (hl : xs.length = 2) with
    | [y0, y1], _ => exact ⟨y0, y1, rfl⟩
  have k0 : Try.prog.cellsOf 3 = 1 := by kernel_rfl
  have f0 : DataW.trod enc Try.prog w base spare held n 3 [c0] = some y0 := by have q := hf 0 _ rfl; simpa [k0] using q
  obtain ⟨a0, e0, _, w0⟩ := DataW.trod_int Try.underlying3 f0
  simp only [List.cons.injEq, and_true] at e0
  subst e0
  have k1 : Try.prog.cellsOf 2 = 1 := by kernel_rfl
  have f1 : DataW.trod enc Try.prog w base spare held n 2 [c1] = some y1 := by have q := hf 1 _ rfl; simpa [k1] using q
  obtain ⟨a1, e1, _, w1⟩ := DataW.trod_int Try.underlying2 f1
  simp only [List.cons.injEq, and_true] at e1
  subst e1
  exact ⟨⟨a0, a1⟩, rfl, ⟨I64_of w0, I64_of w1⟩⟩
set_option maxRecDepth 100000 in
theorem Budget_open {H : Type} {enc : TypeId × Value → H} {w : World} {r : Reach} {b0 base : Nat} {spare : Nat → Bool} {held : Bool} {v : Value} {d : DataW H} {p : List MemPlace} (hv : Value.okWide Try.prog w r b0 49 v) (h : DataW.Trod enc Try.prog w base spare held 49 v d p) : ∃ t : Budget, v = t.v ∧ t.ok := by
  obtain ⟨cs, rfl, _⟩ := okWide_struct Try.underlying49 hv
  obtain ⟨fuel, hf⟩ := h
  obtain ⟨t, hc, ho⟩ := Budget_cells hf
  refine ⟨t, ?_, ho⟩
  obtain ⟨l⟩ := cs
  have hc' : l = [.int .i64 t.k, .int .i64 t.window] := hc
  rw [hc']

set_option maxRecDepth 100000 in
theorem JobSpec_cells {H : Type} {enc : TypeId × Value → H} {w : World} {base : Nat} {spare : Nat → Bool} {held : Bool} {fuel : Nat} {cs : List Value} {x : DataW H × List MemPlace} (h : DataW.trod enc Try.prog w base spare held fuel 68 cs = some x) : ∃ t : JobSpec, cs = [.string t.name, .string t.user, .int .u8 t.band, .int .i64 t.count, .int .i64 t.limit.cpu, .int .i64 t.limit.mem, .int .i64 t.limit.disk, .string t.alloc, .int .i64 t.budget.k, .int .i64 t.budget.window] ∧ t.ok := by
  obtain ⟨xs, n, _, _, hlen, hl, hf⟩ := DataW.trod_struct Try.underlying68 h
  have hlen' : cs.length = 10 := hlen.trans (by kernel_rfl)
  obtain ⟨c0, c1, c2, c3, c4, c5, c6, c7, c8, c9, rfl⟩ : ∃ c0 c1 c2 c3 c4 c5 c6 c7 c8 c9, cs = [c0, c1, c2, c3, c4, c5, c6, c7, c8, c9] := by
    match cs, hlen' with
    | [c0, c1, c2, c3, c4, c5, c6, c7, c8, c9], _ => exact ⟨c0, c1, c2, c3, c4, c5, c6, c7, c8, c9, rfl⟩
  obtain ⟨y0, y1, y2, y3, y4, y5, y6, rfl⟩ : ∃ y0 y1 y2 y3 y4 y5 y6, xs = [y0, y1, y2, y3, y4, y5, y6] := by
    match xs, (hl : xs.length = 7) with
    | [y0, y1, y2, y3, y4, y5, y6], _ => exact ⟨y0, y1, y2, y3, y4, y5, y6, rfl⟩
  have k0 : Try.prog.cellsOf 9 = 1 := by kernel_rfl
  have f0 : DataW.trod enc Try.prog w base spare held n 9 [c0] = some y0 := by have q := hf 0 _ rfl; simpa [k0] using q
  obtain ⟨a0, e0, _, w0⟩ := DataW.trod_string Try.underlying9 f0
  simp only [List.cons.injEq, and_true] at e0
  subst e0
  have f1 : DataW.trod enc Try.prog w base spare held n 9 [c1] = some y1 := by have q := hf 1 _ rfl; simpa [k0] using q
  obtain ⟨a1, e1, _, w1⟩ := DataW.trod_string Try.underlying9 f1
  simp only [List.cons.injEq, and_true] at e1
  subst e1
  have k1 : Try.prog.cellsOf 5 = 1 := by kernel_rfl
  have f2 : DataW.trod enc Try.prog w base spare held n 5 [c2] = some y2 := by have q := hf 2 _ rfl; simpa [k1] using q
  obtain ⟨a2, e2, _, w2⟩ := DataW.trod_int Try.underlying5 f2
  simp only [List.cons.injEq, and_true] at e2
  subst e2
  have k2 : Try.prog.cellsOf 3 = 1 := by kernel_rfl
  have f3 : DataW.trod enc Try.prog w base spare held n 3 [c3] = some y3 := by have q := hf 3 _ rfl; simpa [k2] using q
  obtain ⟨a3, e3, _, w3⟩ := DataW.trod_int Try.underlying3 f3
  simp only [List.cons.injEq, and_true] at e3
  subst e3
  have k3 : Try.prog.cellsOf 66 = 3 := by kernel_rfl
  have f4 : DataW.trod enc Try.prog w base spare held n 66 [c4, c5, c6] = some y4 := by have q := hf 4 _ rfl; simpa [k3] using q
  obtain ⟨a4, e4, w4⟩ := Vec_cells f4
  simp only [List.cons.injEq, and_true] at e4
  obtain ⟨rfl, rfl, rfl⟩ := e4
  have f5 : DataW.trod enc Try.prog w base spare held n 9 [c7] = some y5 := by have q := hf 5 _ rfl; simpa [k0] using q
  obtain ⟨a5, e5, _, w5⟩ := DataW.trod_string Try.underlying9 f5
  simp only [List.cons.injEq, and_true] at e5
  subst e5
  have k4 : Try.prog.cellsOf 49 = 2 := by kernel_rfl
  have f6 : DataW.trod enc Try.prog w base spare held n 49 [c8, c9] = some y6 := by have q := hf 6 _ rfl; simpa [k4] using q
  obtain ⟨a6, e6, w6⟩ := Budget_cells f6
  simp only [List.cons.injEq, and_true] at e6
  obtain ⟨rfl, rfl⟩ := e6
  exact ⟨⟨a0, a1, a2, a3, a4, a5, a6⟩, rfl, ⟨w0, w1, U8_of w2, I64_of w3, w4, w5, w6⟩⟩
set_option maxRecDepth 100000 in
theorem JobSpec_open {H : Type} {enc : TypeId × Value → H} {w : World} {r : Reach} {b0 base : Nat} {spare : Nat → Bool} {held : Bool} {v : Value} {d : DataW H} {p : List MemPlace} (hv : Value.okWide Try.prog w r b0 68 v) (h : DataW.Trod enc Try.prog w base spare held 68 v d p) : ∃ t : JobSpec, v = t.v ∧ t.ok := by
  obtain ⟨cs, rfl, _⟩ := okWide_struct Try.underlying68 hv
  obtain ⟨fuel, hf⟩ := h
  obtain ⟨t, hc, ho⟩ := JobSpec_cells hf
  refine ⟨t, ?_, ho⟩
  obtain ⟨l⟩ := cs
  have hc' : l = [.string t.name, .string t.user, .int .u8 t.band, .int .i64 t.count, .int .i64 t.limit.cpu, .int .i64 t.limit.mem, .int .i64 t.limit.disk, .string t.alloc, .int .i64 t.budget.k, .int .i64 t.budget.window] := hc
  rw [hc']

set_option maxRecDepth 100000 in
theorem AllocSpec_cells {H : Type} {enc : TypeId × Value → H} {w : World} {base : Nat} {spare : Nat → Bool} {held : Bool} {fuel : Nat} {cs : List Value} {x : DataW H × List MemPlace} (h : DataW.trod enc Try.prog w base spare held fuel 79 cs = some x) : ∃ t : AllocSpec, cs = [.string t.name, .string t.user, .int .i64 t.count, .int .i64 t.limit.cpu, .int .i64 t.limit.mem, .int .i64 t.limit.disk] ∧ t.ok := by
  obtain ⟨xs, n, _, _, hlen, hl, hf⟩ := DataW.trod_struct Try.underlying79 h
  have hlen' : cs.length = 6 := hlen.trans (by kernel_rfl)
  obtain ⟨c0, c1, c2, c3, c4, c5, rfl⟩ : ∃ c0 c1 c2 c3 c4 c5, cs = [c0, c1, c2, c3, c4, c5] := by
    match cs, hlen' with
    | [c0, c1, c2, c3, c4, c5], _ => exact ⟨c0, c1, c2, c3, c4, c5, rfl⟩
  obtain ⟨y0, y1, y2, y3, rfl⟩ : ∃ y0 y1 y2 y3, xs = [y0, y1, y2, y3] := by
    match xs, (hl : xs.length = 4) with
    | [y0, y1, y2, y3], _ => exact ⟨y0, y1, y2, y3, rfl⟩
  have k0 : Try.prog.cellsOf 9 = 1 := by kernel_rfl
  have f0 : DataW.trod enc Try.prog w base spare held n 9 [c0] = some y0 := by have q := hf 0 _ rfl; simpa [k0] using q
  obtain ⟨a0, e0, _, w0⟩ := DataW.trod_string Try.underlying9 f0
  simp only [List.cons.injEq, and_true] at e0
  subst e0
  have f1 : DataW.trod enc Try.prog w base spare held n 9 [c1] = some y1 := by have q := hf 1 _ rfl; simpa [k0] using q
  obtain ⟨a1, e1, _, w1⟩ := DataW.trod_string Try.underlying9 f1
  simp only [List.cons.injEq, and_true] at e1
  subst e1
  have k1 : Try.prog.cellsOf 3 = 1 := by kernel_rfl
  have f2 : DataW.trod enc Try.prog w base spare held n 3 [c2] = some y2 := by have q := hf 2 _ rfl; simpa [k1] using q
  obtain ⟨a2, e2, _, w2⟩ := DataW.trod_int Try.underlying3 f2
  simp only [List.cons.injEq, and_true] at e2
  subst e2
  have k2 : Try.prog.cellsOf 66 = 3 := by kernel_rfl
  have f3 : DataW.trod enc Try.prog w base spare held n 66 [c3, c4, c5] = some y3 := by have q := hf 3 _ rfl; simpa [k2] using q
  obtain ⟨a3, e3, w3⟩ := Vec_cells f3
  simp only [List.cons.injEq, and_true] at e3
  obtain ⟨rfl, rfl, rfl⟩ := e3
  exact ⟨⟨a0, a1, a2, a3⟩, rfl, ⟨w0, w1, I64_of w2, w3⟩⟩
set_option maxRecDepth 100000 in
theorem AllocSpec_open {H : Type} {enc : TypeId × Value → H} {w : World} {r : Reach} {b0 base : Nat} {spare : Nat → Bool} {held : Bool} {v : Value} {d : DataW H} {p : List MemPlace} (hv : Value.okWide Try.prog w r b0 79 v) (h : DataW.Trod enc Try.prog w base spare held 79 v d p) : ∃ t : AllocSpec, v = t.v ∧ t.ok := by
  obtain ⟨cs, rfl, _⟩ := okWide_struct Try.underlying79 hv
  obtain ⟨fuel, hf⟩ := h
  obtain ⟨t, hc, ho⟩ := AllocSpec_cells hf
  refine ⟨t, ?_, ho⟩
  obtain ⟨l⟩ := cs
  have hc' : l = [.string t.name, .string t.user, .int .i64 t.count, .int .i64 t.limit.cpu, .int .i64 t.limit.mem, .int .i64 t.limit.disk] := hc
  rw [hc']

end Go.Proofs.Ythlninijnbmjfaa
