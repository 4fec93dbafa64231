/- A command, as it comes in. Conditions: none. -/
import Derived.Test.YteglieoeblehpaaK4
import Derived.Test.YteglieoeblehpaaK3
namespace Go.Proofs.Yteglieoeblehpaa
open Go.RowKit Go.Deep Go.WideShapes

theorem uncons {α : Type} {n : Nat} (l : List α) (h : l.length = n + 1) : ∃ a t, l = a :: t ∧ t.length = n := by
  cases l with
  | nil => cases h
  | cons a t => exact ⟨a, t, rfl, Nat.succ.inj h⟩

structure Vec where
  cpu : Int
  mem : Int
  disk : Int
  deriving DecidableEq
abbrev Vec.v (x : Vec) : Value := .agg #[.int .i64 x.cpu, .int .i64 x.mem, .int .i64 x.disk]
def Vec.ok (x : Vec) : Prop := I64 x.cpu ∧ I64 x.mem ∧ I64 x.disk
instance decOkVec (x : Vec) : Decidable x.ok := inferInstanceAs (Decidable (_ ∧ _))

structure Budget where
  k : Int
  window : Int
  deriving DecidableEq
abbrev Budget.v (x : Budget) : Value := .agg #[.int .i64 x.k, .int .i64 x.window]
def Budget.ok (x : Budget) : Prop := I64 x.k ∧ I64 x.window
instance decOkBudget (x : Budget) : Decidable x.ok := inferInstanceAs (Decidable (_ ∧ _))

structure JobSpec where
  name : ByteArray
  user : ByteArray
  band : Int
  count : Int
  limit : Vec
  alloc : ByteArray
  budget : Budget
  deriving DecidableEq
abbrev JobSpec.v (x : JobSpec) : Value := .agg #[.string x.name, .string x.user, .int .u8 x.band, .int .i64 x.count, .int .i64 x.limit.cpu, .int .i64 x.limit.mem, .int .i64 x.limit.disk, .string x.alloc, .int .i64 x.budget.k, .int .i64 x.budget.window]
def JobSpec.ok (x : JobSpec) : Prop := x.name.size ≤ 9223372036854775807 ∧ x.user.size ≤ 9223372036854775807 ∧ U8 x.band ∧ I64 x.count ∧ x.limit.ok ∧ x.alloc.size ≤ 9223372036854775807 ∧ x.budget.ok
instance decOkJobSpec (x : JobSpec) : Decidable x.ok := inferInstanceAs (Decidable (_ ∧ _))

structure AllocSpec where
  name : ByteArray
  user : ByteArray
  count : Int
  limit : Vec
  deriving DecidableEq
abbrev AllocSpec.v (x : AllocSpec) : Value := .agg #[.string x.name, .string x.user, .int .i64 x.count, .int .i64 x.limit.cpu, .int .i64 x.limit.mem, .int .i64 x.limit.disk]
def AllocSpec.ok (x : AllocSpec) : Prop := x.name.size ≤ 9223372036854775807 ∧ x.user.size ≤ 9223372036854775807 ∧ I64 x.count ∧ x.limit.ok
instance decOkAllocSpec (x : AllocSpec) : Decidable x.ok := inferInstanceAs (Decidable (_ ∧ _))

structure Task where
  job : ByteArray
  n : Int
  deriving DecidableEq
abbrev Task.v (x : Task) : Value := .agg #[.string x.job, .int .i64 x.n]
def Task.ok (x : Task) : Prop := x.job.size ≤ 9223372036854775807 ∧ I64 x.n
instance decOkTask (x : Task) : Decidable x.ok := inferInstanceAs (Decidable (_ ∧ _))

structure Command where
  kind : Int
  client : Int
  seq : Int
  user : ByteArray
  band : Int
  vec : Vec
  machine : Int
  job : JobSpec
  alloc : AllocSpec
  name : ByteArray
  n : Int
  task : Task
  in_ : Int
  gen : Int
  why : Int
  tick : Int
  deriving DecidableEq
abbrev Command.v (x : Command) : Value := .agg #[.int .u8 x.kind, .int .u64 x.client, .int .u64 x.seq, .string x.user, .int .u8 x.band, .int .i64 x.vec.cpu, .int .i64 x.vec.mem, .int .i64 x.vec.disk, .int .i64 x.machine, .string x.job.name, .string x.job.user, .int .u8 x.job.band, .int .i64 x.job.count, .int .i64 x.job.limit.cpu, .int .i64 x.job.limit.mem, .int .i64 x.job.limit.disk, .string x.job.alloc, .int .i64 x.job.budget.k, .int .i64 x.job.budget.window, .string x.alloc.name, .string x.alloc.user, .int .i64 x.alloc.count, .int .i64 x.alloc.limit.cpu, .int .i64 x.alloc.limit.mem, .int .i64 x.alloc.limit.disk, .string x.name, .int .i64 x.n, .string x.task.job, .int .i64 x.task.n, .int .i64 x.in_, .int .i64 x.gen, .int .u8 x.why, .int .i64 x.tick]
def Command.ok (x : Command) : Prop := U8 x.kind ∧ U64 x.client ∧ U64 x.seq ∧ x.user.size ≤ 9223372036854775807 ∧ U8 x.band ∧ x.vec.ok ∧ I64 x.machine ∧ x.job.ok ∧ x.alloc.ok ∧ x.name.size ≤ 9223372036854775807 ∧ I64 x.n ∧ x.task.ok ∧ I64 x.in_ ∧ I64 x.gen ∧ U8 x.why ∧ I64 x.tick
instance decOkCommand (x : Command) : Decidable x.ok := inferInstanceAs (Decidable (_ ∧ _))

set_option maxRecDepth 100000 in
theorem Vec_cells {H : Type} {enc : TypeId × Value → H} {w : World} {base : Nat} {spare : Nat → Bool} {held : Bool} {fuel : Nat} {cs : List Value} {x : DataW H × List MemPlace} (h : DataW.trod enc Try.prog w base spare held fuel 54 cs = some x) : ∃ t : Vec, cs = [.int .i64 t.cpu, .int .i64 t.mem, .int .i64 t.disk] ∧ t.ok := by
  obtain ⟨xs, n, _, _, hlen, hl, hf⟩ := DataW.trod_struct Try.underlying54 h
  have hlen' : cs.length = 3 := hlen.trans (by kernel_rfl)
  obtain ⟨c0, c1, c2, rfl⟩ : ∃ c0 c1 c2, cs = [c0, c1, c2] := by
    match cs, hlen' with
    | [c0, c1, c2], _ => exact ⟨c0, c1, c2, rfl⟩
  obtain ⟨y0, y1, y2, rfl⟩ : ∃ y0 y1 y2, xs = [y0, y1, y2] := by
    match xs, (hl : xs.length = 3) with
    | [y0, y1, y2], _ => exact ⟨y0, y1, y2, rfl⟩
  have k0 : Try.prog.cellsOf 2 = 1 := by kernel_rfl
  have f0 : DataW.trod enc Try.prog w base spare held n 2 [c0] = some y0 := by have q := hf 0 _ rfl; simpa [k0] using q
  obtain ⟨a0, e0, _, w0⟩ := DataW.trod_int Try.underlying2 f0
  simp only [List.cons.injEq, and_true] at e0
  subst e0
  have f1 : DataW.trod enc Try.prog w base spare held n 2 [c1] = some y1 := by have q := hf 1 _ rfl; simpa [k0] using q
  obtain ⟨a1, e1, _, w1⟩ := DataW.trod_int Try.underlying2 f1
  simp only [List.cons.injEq, and_true] at e1
  subst e1
  have f2 : DataW.trod enc Try.prog w base spare held n 2 [c2] = some y2 := by have q := hf 2 _ rfl; simpa [k0] using q
  obtain ⟨a2, e2, _, w2⟩ := DataW.trod_int Try.underlying2 f2
  simp only [List.cons.injEq, and_true] at e2
  subst e2
  exact ⟨⟨a0, a1, a2⟩, rfl, ⟨I64_of w0, I64_of w1, I64_of w2⟩⟩
set_option maxRecDepth 100000 in
theorem Vec_open {H : Type} {enc : TypeId × Value → H} {w : World} {r : Reach} {b0 base : Nat} {spare : Nat → Bool} {held : Bool} {v : Value} {d : DataW H} {p : List MemPlace} (hv : Value.okWide Try.prog w r b0 54 v) (h : DataW.Trod enc Try.prog w base spare held 54 v d p) : ∃ t : Vec, v = t.v ∧ t.ok := by
  obtain ⟨cs, rfl, _⟩ := okWide_struct Try.underlying54 hv
  obtain ⟨fuel, hf⟩ := h
  obtain ⟨t, hc, ho⟩ := Vec_cells hf
  refine ⟨t, ?_, ho⟩
  obtain ⟨l⟩ := cs
  have hc' : l = [.int .i64 t.cpu, .int .i64 t.mem, .int .i64 t.disk] := hc
  rw [hc']

set_option maxRecDepth 100000 in
theorem Budget_cells {H : Type} {enc : TypeId × Value → H} {w : World} {base : Nat} {spare : Nat → Bool} {held : Bool} {fuel : Nat} {cs : List Value} {x : DataW H × List MemPlace} (h : DataW.trod enc Try.prog w base spare held fuel 56 cs = some x) : ∃ t : Budget, cs = [.int .i64 t.k, .int .i64 t.window] ∧ t.ok := by
  obtain ⟨xs, n, _, _, hlen, hl, hf⟩ := DataW.trod_struct Try.underlying56 h
  have hlen' : cs.length = 2 := hlen.trans (by kernel_rfl)
  obtain ⟨c0, c1, rfl⟩ : ∃ c0 c1, cs = [c0, c1] := by
    match cs, hlen' with
    | [c0, c1], _ => exact ⟨c0, c1, rfl⟩
  obtain ⟨y0, y1, rfl⟩ : ∃ y0 y1, xs = [y0, y1] := by
    match xs, (hl : xs.length = 2) with
    | [y0, y1], _ => exact ⟨y0, y1, rfl⟩
  have k0 : Try.prog.cellsOf 3 = 1 := by kernel_rfl
  have f0 : DataW.trod enc Try.prog w base spare held n 3 [c0] = some y0 := by have q := hf 0 _ rfl; simpa [k0] using q
  obtain ⟨a0, e0, _, w0⟩ := DataW.trod_int Try.underlying3 f0
  simp only [List.cons.injEq, and_true] at e0
  subst e0
  have k1 : Try.prog.cellsOf 2 = 1 := by kernel_rfl
  have f1 : DataW.trod enc Try.prog w base spare held n 2 [c1] = some y1 := by have q := hf 1 _ rfl; simpa [k1] using q
  obtain ⟨a1, e1, _, w1⟩ := DataW.trod_int Try.underlying2 f1
  simp only [List.cons.injEq, and_true] at e1
  subst e1
  exact ⟨⟨a0, a1⟩, rfl, ⟨I64_of w0, I64_of w1⟩⟩
set_option maxRecDepth 100000 in
theorem Budget_open {H : Type} {enc : TypeId × Value → H} {w : World} {r : Reach} {b0 base : Nat} {spare : Nat → Bool} {held : Bool} {v : Value} {d : DataW H} {p : List MemPlace} (hv : Value.okWide Try.prog w r b0 56 v) (h : DataW.Trod enc Try.prog w base spare held 56 v d p) : ∃ t : Budget, v = t.v ∧ t.ok := by
  obtain ⟨cs, rfl, _⟩ := okWide_struct Try.underlying56 hv
  obtain ⟨fuel, hf⟩ := h
  obtain ⟨t, hc, ho⟩ := Budget_cells hf
  refine ⟨t, ?_, ho⟩
  obtain ⟨l⟩ := cs
  have hc' : l = [.int .i64 t.k, .int .i64 t.window] := hc
  rw [hc']

set_option maxRecDepth 100000 in
theorem JobSpec_cells {H : Type} {enc : TypeId × Value → H} {w : World} {base : Nat} {spare : Nat → Bool} {held : Bool} {fuel : Nat} {cs : List Value} {x : DataW H × List MemPlace} (h : DataW.trod enc Try.prog w base spare held fuel 58 cs = some x) : ∃ t : JobSpec, cs = [.string t.name, .string t.user, .int .u8 t.band, .int .i64 t.count, .int .i64 t.limit.cpu, .int .i64 t.limit.mem, .int .i64 t.limit.disk, .string t.alloc, .int .i64 t.budget.k, .int .i64 t.budget.window] ∧ t.ok := by
  obtain ⟨xs, n, _, _, hlen, hl, hf⟩ := DataW.trod_struct Try.underlying58 h
  have hlen' : cs.length = 10 := hlen.trans (by kernel_rfl)
  obtain ⟨c0, c1, c2, c3, c4, c5, c6, c7, c8, c9, rfl⟩ : ∃ c0 c1 c2 c3 c4 c5 c6 c7 c8 c9, cs = [c0, c1, c2, c3, c4, c5, c6, c7, c8, c9] := by
    match cs, hlen' with
    | [c0, c1, c2, c3, c4, c5, c6, c7, c8, c9], _ => exact ⟨c0, c1, c2, c3, c4, c5, c6, c7, c8, c9, rfl⟩
  obtain ⟨y0, y1, y2, y3, y4, y5, y6, rfl⟩ : ∃ y0 y1 y2 y3 y4 y5 y6, xs = [y0, y1, y2, y3, y4, y5, y6] := by
    match xs, (hl : xs.length = 7) with
    | [y0, y1, y2, y3, y4, y5, y6], _ => exact ⟨y0, y1, y2, y3, y4, y5, y6, rfl⟩
  have k0 : Try.prog.cellsOf 9 = 1 := by kernel_rfl
  have f0 : DataW.trod enc Try.prog w base spare held n 9 [c0] = some y0 := by have q := hf 0 _ rfl; simpa [k0] using q
  obtain ⟨a0, e0, _, w0⟩ := DataW.trod_string Try.underlying9 f0
  simp only [List.cons.injEq, and_true] at e0
  subst e0
  have f1 : DataW.trod enc Try.prog w base spare held n 9 [c1] = some y1 := by have q := hf 1 _ rfl; simpa [k0] using q
  obtain ⟨a1, e1, _, w1⟩ := DataW.trod_string Try.underlying9 f1
  simp only [List.cons.injEq, and_true] at e1
  subst e1
  have k1 : Try.prog.cellsOf 5 = 1 := by kernel_rfl
  have f2 : DataW.trod enc Try.prog w base spare held n 5 [c2] = some y2 := by have q := hf 2 _ rfl; simpa [k1] using q
  obtain ⟨a2, e2, _, w2⟩ := DataW.trod_int Try.underlying5 f2
  simp only [List.cons.injEq, and_true] at e2
  subst e2
  have k2 : Try.prog.cellsOf 3 = 1 := by kernel_rfl
  have f3 : DataW.trod enc Try.prog w base spare held n 3 [c3] = some y3 := by have q := hf 3 _ rfl; simpa [k2] using q
  obtain ⟨a3, e3, _, w3⟩ := DataW.trod_int Try.underlying3 f3
  simp only [List.cons.injEq, and_true] at e3
  subst e3
  have k3 : Try.prog.cellsOf 54 = 3 := by kernel_rfl
  have f4 : DataW.trod enc Try.prog w base spare held n 54 [c4, c5, c6] = some y4 := by have q := hf 4 _ rfl; simpa [k3] using q
  obtain ⟨a4, e4, w4⟩ := Vec_cells f4
  simp only [List.cons.injEq, and_true] at e4
  obtain ⟨rfl, rfl, rfl⟩ := e4
  have f5 : DataW.trod enc Try.prog w base spare held n 9 [c7] = some y5 := by have q := hf 5 _ rfl; simpa [k0] using q
  obtain ⟨a5, e5, _, w5⟩ := DataW.trod_string Try.underlying9 f5
  simp only [List.cons.injEq, and_true] at e5
  subst e5
  have k4 : Try.prog.cellsOf 56 = 2 := by kernel_rfl
  have f6 : DataW.trod enc Try.prog w base spare held n 56 [c8, c9] = some y6 := by have q := hf 6 _ rfl; simpa [k4] using q
  obtain ⟨a6, e6, w6⟩ := Budget_cells f6
  simp only [List.cons.injEq, and_true] at e6
  obtain ⟨rfl, rfl⟩ := e6
  exact ⟨⟨a0, a1, a2, a3, a4, a5, a6⟩, rfl, ⟨w0, w1, U8_of w2, I64_of w3, w4, w5, w6⟩⟩
set_option maxRecDepth 100000 in
theorem JobSpec_open {H : Type} {enc : TypeId × Value → H} {w : World} {r : Reach} {b0 base : Nat} {spare : Nat → Bool} {held : Bool} {v : Value} {d : DataW H} {p : List MemPlace} (hv : Value.okWide Try.prog w r b0 58 v) (h : DataW.Trod enc Try.prog w base spare held 58 v d p) : ∃ t : JobSpec, v = t.v ∧ t.ok := by
  obtain ⟨cs, rfl, _⟩ := okWide_struct Try.underlying58 hv
  obtain ⟨fuel, hf⟩ := h
  obtain ⟨t, hc, ho⟩ := JobSpec_cells hf
  refine ⟨t, ?_, ho⟩
  obtain ⟨l⟩ := cs
  have hc' : l = [.string t.name, .string t.user, .int .u8 t.band, .int .i64 t.count, .int .i64 t.limit.cpu, .int .i64 t.limit.mem, .int .i64 t.limit.disk, .string t.alloc, .int .i64 t.budget.k, .int .i64 t.budget.window] := hc
  rw [hc']

set_option maxRecDepth 100000 in
theorem AllocSpec_cells {H : Type} {enc : TypeId × Value → H} {w : World} {base : Nat} {spare : Nat → Bool} {held : Bool} {fuel : Nat} {cs : List Value} {x : DataW H × List MemPlace} (h : DataW.trod enc Try.prog w base spare held fuel 60 cs = some x) : ∃ t : AllocSpec, cs = [.string t.name, .string t.user, .int .i64 t.count, .int .i64 t.limit.cpu, .int .i64 t.limit.mem, .int .i64 t.limit.disk] ∧ t.ok := by
  obtain ⟨xs, n, _, _, hlen, hl, hf⟩ := DataW.trod_struct Try.underlying60 h
  have hlen' : cs.length = 6 := hlen.trans (by kernel_rfl)
  obtain ⟨c0, c1, c2, c3, c4, c5, rfl⟩ : ∃ c0 c1 c2 c3 c4 c5, cs = [c0, c1, c2, c3, c4, c5] := by
    match cs, hlen' with
    | [c0, c1, c2, c3, c4, c5], _ => exact ⟨c0, c1, c2, c3, c4, c5, rfl⟩
  obtain ⟨y0, y1, y2, y3, rfl⟩ : ∃ y0 y1 y2 y3, xs = [y0, y1, y2, y3] := by
    match xs, (hl : xs.length = 4) with
    | [y0, y1, y2, y3], _ => exact ⟨y0, y1, y2, y3, rfl⟩
  have k0 : Try.prog.cellsOf 9 = 1 := by kernel_rfl
  have f0 : DataW.trod enc Try.prog w base spare held n 9 [c0] = some y0 := by have q := hf 0 _ rfl; simpa [k0] using q
  obtain ⟨a0, e0, _, w0⟩ := DataW.trod_string Try.underlying9 f0
  simp only [List.cons.injEq, and_true] at e0
  subst e0
  have f1 : DataW.trod enc Try.prog w base spare held n 9 [c1] = some y1 := by have q := hf 1 _ rfl; simpa [k0] using q
  obtain ⟨a1, e1, _, w1⟩ := DataW.trod_string Try.underlying9 f1
  simp only [List.cons.injEq, and_true] at e1
  subst e1
  have k1 : Try.prog.cellsOf 3 = 1 := by kernel_rfl
  have f2 : DataW.trod enc Try.prog w base spare held n 3 [c2] = some y2 := by have q := hf 2 _ rfl; simpa [k1] using q
  obtain ⟨a2, e2, _, w2⟩ := DataW.trod_int Try.underlying3 f2
  simp only [List.cons.injEq, and_true] at e2
  subst e2
  have k2 : Try.prog.cellsOf 54 = 3 := by kernel_rfl
  have f3 : DataW.trod enc Try.prog w base spare held n 54 [c3, c4, c5] = some y3 := by have q := hf 3 _ rfl; simpa [k2] using q
  obtain ⟨a3, e3, w3⟩ := Vec_cells f3
  simp only [List.cons.injEq, and_true] at e3
  obtain ⟨rfl, rfl, rfl⟩ := e3
  exact ⟨⟨a0, a1, a2, a3⟩, rfl, ⟨w0, w1, I64_of w2, w3⟩⟩
set_option maxRecDepth 100000 in
theorem AllocSpec_open {H : Type} {enc : TypeId × Value → H} {w : World} {r : Reach} {b0 base : Nat} {spare : Nat → Bool} {held : Bool} {v : Value} {d : DataW H} {p : List MemPlace} (hv : Value.okWide Try.prog w r b0 60 v) (h : DataW.Trod enc Try.prog w base spare held 60 v d p) : ∃ t : AllocSpec, v = t.v ∧ t.ok := by
  obtain ⟨cs, rfl, _⟩ := okWide_struct Try.underlying60 hv
  obtain ⟨fuel, hf⟩ := h
  obtain ⟨t, hc, ho⟩ := AllocSpec_cells hf
  refine ⟨t, ?_, ho⟩
  obtain ⟨l⟩ := cs
  have hc' : l = [.string t.name, .string t.user, .int .i64 t.count, .int .i64 t.limit.cpu, .int .i64 t.limit.mem, .int .i64 t.limit.disk] := hc
  rw [hc']

set_option maxRecDepth 100000 in
theorem Task_cells {H : Type} {enc : TypeId × Value → H} {w : World} {base : Nat} {spare : Nat → Bool} {held : Bool} {fuel : Nat} {cs : List Value} {x : DataW H × List MemPlace} (h : DataW.trod enc Try.prog w base spare held fuel 62 cs = some x) : ∃ t : Task, cs = [.string t.job, .int .i64 t.n] ∧ t.ok := by
  obtain ⟨xs, n, _, _, hlen, hl, hf⟩ := DataW.trod_struct Try.underlying62 h
  have hlen' : cs.length = 2 := hlen.trans (by kernel_rfl)
  obtain ⟨c0, c1, rfl⟩ : ∃ c0 c1, cs = [c0, c1] := by
    match cs, hlen' with
    | [c0, c1], _ => exact ⟨c0, c1, rfl⟩
  obtain ⟨y0, y1, rfl⟩ : ∃ y0 y1, xs = [y0, y1] := by
    match xs, (hl : xs.length = 2) with
    | [y0, y1], _ => exact ⟨y0, y1, rfl⟩
  have k0 : Try.prog.cellsOf 9 = 1 := by kernel_rfl
  have f0 : DataW.trod enc Try.prog w base spare held n 9 [c0] = some y0 := by have q := hf 0 _ rfl; simpa [k0] using q
  obtain ⟨a0, e0, _, w0⟩ := DataW.trod_string Try.underlying9 f0
  simp only [List.cons.injEq, and_true] at e0
  subst e0
  have k1 : Try.prog.cellsOf 3 = 1 := by kernel_rfl
  have f1 : DataW.trod enc Try.prog w base spare held n 3 [c1] = some y1 := by have q := hf 1 _ rfl; simpa [k1] using q
  obtain ⟨a1, e1, _, w1⟩ := DataW.trod_int Try.underlying3 f1
  simp only [List.cons.injEq, and_true] at e1
  subst e1
  exact ⟨⟨a0, a1⟩, rfl, ⟨w0, I64_of w1⟩⟩
set_option maxRecDepth 100000 in
theorem Task_open {H : Type} {enc : TypeId × Value → H} {w : World} {r : Reach} {b0 base : Nat} {spare : Nat → Bool} {held : Bool} {v : Value} {d : DataW H} {p : List MemPlace} (hv : Value.okWide Try.prog w r b0 62 v) (h : DataW.Trod enc Try.prog w base spare held 62 v d p) : ∃ t : Task, v = t.v ∧ t.ok := by
  obtain ⟨cs, rfl, _⟩ := okWide_struct Try.underlying62 hv
  obtain ⟨fuel, hf⟩ := h
  obtain ⟨t, hc, ho⟩ := Task_cells hf
  refine ⟨t, ?_, ho⟩
  obtain ⟨l⟩ := cs
  have hc' : l = [.string t.job, .int .i64 t.n] := hc
  rw [hc']

set_option maxRecDepth 100000 in
theorem Command_cells {H : Type} {enc : TypeId × Value → H} {w : World} {base : Nat} {spare : Nat → Bool} {held : Bool} {fuel : Nat} {cs : List Value} {x : DataW H × List MemPlace} (h : DataW.trod enc Try.prog w base spare held fuel 64 cs = some x) : ∃ t : Command, cs = [.int .u8 t.kind, .int .u64 t.client, .int .u64 t.seq, .string t.user, .int .u8 t.band, .int .i64 t.vec.cpu, .int .i64 t.vec.mem, .int .i64 t.vec.disk, .int .i64 t.machine, .string t.job.name, .string t.job.user, .int .u8 t.job.band, .int .i64 t.job.count, .int .i64 t.job.limit.cpu, .int .i64 t.job.limit.mem, .int .i64 t.job.limit.disk, .string t.job.alloc, .int .i64 t.job.budget.k, .int .i64 t.job.budget.window, .string t.alloc.name, .string t.alloc.user, .int .i64 t.alloc.count, .int .i64 t.alloc.limit.cpu, .int .i64 t.alloc.limit.mem, .int .i64 t.alloc.limit.disk, .string t.name, .int .i64 t.n, .string t.task.job, .int .i64 t.task.n, .int .i64 t.in_, .int .i64 t.gen, .int .u8 t.why, .int .i64 t.tick] ∧ t.ok := by
  obtain ⟨xs, n, _, _, hlen, hl, hf⟩ := DataW.trod_struct Try.underlying64 h
  have hlen' : cs.length = 33 := hlen.trans (by kernel_rfl)
  obtain ⟨c0, t0, rfl, g0⟩ := uncons cs hlen'
  obtain ⟨c1, t1, rfl, g1⟩ := uncons t0 g0
  obtain ⟨c2, t2, rfl, g2⟩ := uncons t1 g1
  obtain ⟨c3, t3, rfl, g3⟩ := uncons t2 g2
  obtain ⟨c4, t4, rfl, g4⟩ := uncons t3 g3
  obtain ⟨c5, t5, rfl, g5⟩ := uncons t4 g4
  obtain ⟨c6, t6, rfl, g6⟩ := uncons t5 g5
  obtain ⟨c7, t7, rfl, g7⟩ := uncons t6 g6
  obtain ⟨c8, t8, rfl, g8⟩ := uncons t7 g7
  obtain ⟨c9, t9, rfl, g9⟩ := uncons t8 g8
  obtain ⟨c10, t10, rfl, g10⟩ := uncons t9 g9
  obtain ⟨c11, t11, rfl, g11⟩ := uncons t10 g10
  obtain ⟨c12, t12, rfl, g12⟩ := uncons t11 g11
  obtain ⟨c13, t13, rfl, g13⟩ := uncons t12 g12
  obtain ⟨c14, t14, rfl, g14⟩ := uncons t13 g13
  obtain ⟨c15, t15, rfl, g15⟩ := uncons t14 g14
  obtain ⟨c16, t16, rfl, g16⟩ := uncons t15 g15
  obtain ⟨c17, t17, rfl, g17⟩ := uncons t16 g16
  obtain ⟨c18, t18, rfl, g18⟩ := uncons t17 g17
  obtain ⟨c19, t19, rfl, g19⟩ := uncons t18 g18
  obtain ⟨c20, t20, rfl, g20⟩ := uncons t19 g19
  obtain ⟨c21, t21, rfl, g21⟩ := uncons t20 g20
  obtain ⟨c22, t22, rfl, g22⟩ := uncons t21 g21
  obtain ⟨c23, t23, rfl, g23⟩ := uncons t22 g22
  obtain ⟨c24, t24, rfl, g24⟩ := uncons t23 g23
  obtain ⟨c25, t25, rfl, g25⟩ := uncons t24 g24
  obtain ⟨c26, t26, rfl, g26⟩ := uncons t25 g25
  obtain ⟨c27, t27, rfl, g27⟩ := uncons t26 g26
  obtain ⟨c28, t28, rfl, g28⟩ := uncons t27 g27
  obtain ⟨c29, t29, rfl, g29⟩ := uncons t28 g28
  obtain ⟨c30, t30, rfl, g30⟩ := uncons t29 g29
  obtain ⟨c31, t31, rfl, g31⟩ := uncons t30 g30
  obtain ⟨c32, t32, rfl, g32⟩ := uncons t31 g31
  obtain rfl := List.eq_nil_of_length_eq_zero g32
  obtain ⟨y0, y1, y2, y3, y4, y5, y6, y7, y8, y9, y10, y11, y12, y13, y14, y15, rfl⟩ : ∃ y0 y1 y2 y3 y4 y5 y6 y7 y8 y9 y10 y11 y12 y13 y14 y15, xs = [y0, y1, y2, y3, y4, y5, y6, y7, y8, y9, y10, y11, y12, y13, y14, y15] := by
    match xs, (hl : xs.length = 16) with
    | [y0, y1, y2, y3, y4, y5, y6, y7, y8, y9, y10, y11, y12, y13, y14, y15], _ => exact ⟨y0, y1, y2, y3, y4, y5, y6, y7, y8, y9, y10, y11, y12, y13, y14, y15, rfl⟩
  have k0 : Try.prog.cellsOf 5 = 1 := by kernel_rfl
  have f0 : DataW.trod enc Try.prog w base spare held n 5 [c0] = some y0 := by have q := hf 0 _ rfl; simpa [k0] using q
  obtain ⟨a0, e0, _, w0⟩ := DataW.trod_int Try.underlying5 f0
  simp only [List.cons.injEq, and_true] at e0
  subst e0
  have k1 : Try.prog.cellsOf 22 = 1 := by kernel_rfl
  have f1 : DataW.trod enc Try.prog w base spare held n 22 [c1] = some y1 := by have q := hf 1 _ rfl; simpa [k1] using q
  obtain ⟨a1, e1, _, w1⟩ := DataW.trod_int Try.underlying22 f1
  simp only [List.cons.injEq, and_true] at e1
  subst e1
  have f2 : DataW.trod enc Try.prog w base spare held n 22 [c2] = some y2 := by have q := hf 2 _ rfl; simpa [k1] using q
  obtain ⟨a2, e2, _, w2⟩ := DataW.trod_int Try.underlying22 f2
  simp only [List.cons.injEq, and_true] at e2
  subst e2
  have k2 : Try.prog.cellsOf 9 = 1 := by kernel_rfl
  have f3 : DataW.trod enc Try.prog w base spare held n 9 [c3] = some y3 := by have q := hf 3 _ rfl; simpa [k2] using q
  obtain ⟨a3, e3, _, w3⟩ := DataW.trod_string Try.underlying9 f3
  simp only [List.cons.injEq, and_true] at e3
  subst e3
  have f4 : DataW.trod enc Try.prog w base spare held n 5 [c4] = some y4 := by have q := hf 4 _ rfl; simpa [k0] using q
  obtain ⟨a4, e4, _, w4⟩ := DataW.trod_int Try.underlying5 f4
  simp only [List.cons.injEq, and_true] at e4
  subst e4
  have k3 : Try.prog.cellsOf 54 = 3 := by kernel_rfl
  have f5 : DataW.trod enc Try.prog w base spare held n 54 [c5, c6, c7] = some y5 := by have q := hf 5 _ rfl; simpa [k3] using q
  obtain ⟨a5, e5, w5⟩ := Vec_cells f5
  simp only [List.cons.injEq, and_true] at e5
  obtain ⟨rfl, rfl, rfl⟩ := e5
  have k4 : Try.prog.cellsOf 3 = 1 := by kernel_rfl
  have f6 : DataW.trod enc Try.prog w base spare held n 3 [c8] = some y6 := by have q := hf 6 _ rfl; simpa [k4] using q
  obtain ⟨a6, e6, _, w6⟩ := DataW.trod_int Try.underlying3 f6
  simp only [List.cons.injEq, and_true] at e6
  subst e6
  have k5 : Try.prog.cellsOf 58 = 10 := by kernel_rfl
  have f7 : DataW.trod enc Try.prog w base spare held n 58 [c9, c10, c11, c12, c13, c14, c15, c16, c17, c18] = some y7 := by have q := hf 7 _ rfl; simpa [k5] using q
  obtain ⟨a7, e7, w7⟩ := JobSpec_cells f7
  simp only [List.cons.injEq, and_true] at e7
  obtain ⟨rfl, rfl, rfl, rfl, rfl, rfl, rfl, rfl, rfl, rfl⟩ := e7
  have k6 : Try.prog.cellsOf 60 = 6 := by kernel_rfl
  have f8 : DataW.trod enc Try.prog w base spare held n 60 [c19, c20, c21, c22, c23, c24] = some y8 := by have q := hf 8 _ rfl; simpa [k6] using q
  obtain ⟨a8, e8, w8⟩ := AllocSpec_cells f8
  simp only [List.cons.injEq, and_true] at e8
  obtain ⟨rfl, rfl, rfl, rfl, rfl, rfl⟩ := e8
  have f9 : DataW.trod enc Try.prog w base spare held n 9 [c25] = some y9 := by have q := hf 9 _ rfl; simpa [k2] using q
  obtain ⟨a9, e9, _, w9⟩ := DataW.trod_string Try.underlying9 f9
  simp only [List.cons.injEq, and_true] at e9
  subst e9
  have f10 : DataW.trod enc Try.prog w base spare held n 3 [c26] = some y10 := by have q := hf 10 _ rfl; simpa [k4] using q
  obtain ⟨a10, e10, _, w10⟩ := DataW.trod_int Try.underlying3 f10
  simp only [List.cons.injEq, and_true] at e10
  subst e10
  have k7 : Try.prog.cellsOf 62 = 2 := by kernel_rfl
  have f11 : DataW.trod enc Try.prog w base spare held n 62 [c27, c28] = some y11 := by have q := hf 11 _ rfl; simpa [k7] using q
  obtain ⟨a11, e11, w11⟩ := Task_cells f11
  simp only [List.cons.injEq, and_true] at e11
  obtain ⟨rfl, rfl⟩ := e11
  have f12 : DataW.trod enc Try.prog w base spare held n 3 [c29] = some y12 := by have q := hf 12 _ rfl; simpa [k4] using q
  obtain ⟨a12, e12, _, w12⟩ := DataW.trod_int Try.underlying3 f12
  simp only [List.cons.injEq, and_true] at e12
  subst e12
  have f13 : DataW.trod enc Try.prog w base spare held n 3 [c30] = some y13 := by have q := hf 13 _ rfl; simpa [k4] using q
  obtain ⟨a13, e13, _, w13⟩ := DataW.trod_int Try.underlying3 f13
  simp only [List.cons.injEq, and_true] at e13
  subst e13
  have f14 : DataW.trod enc Try.prog w base spare held n 5 [c31] = some y14 := by have q := hf 14 _ rfl; simpa [k0] using q
  obtain ⟨a14, e14, _, w14⟩ := DataW.trod_int Try.underlying5 f14
  simp only [List.cons.injEq, and_true] at e14
  subst e14
  have k8 : Try.prog.cellsOf 2 = 1 := by kernel_rfl
  have f15 : DataW.trod enc Try.prog w base spare held n 2 [c32] = some y15 := by have q := hf 15 _ rfl; simpa [k8] using q
  obtain ⟨a15, e15, _, w15⟩ := DataW.trod_int Try.underlying2 f15
  simp only [List.cons.injEq, and_true] at e15
  subst e15
  exact ⟨⟨a0, a1, a2, a3, a4, a5, a6, a7, a8, a9, a10, a11, a12, a13, a14, a15⟩, rfl, ⟨U8_of w0, U64_of w1, U64_of w2, w3, U8_of w4, w5, I64_of w6, w7, w8, w9, I64_of w10, w11, I64_of w12, I64_of w13, U8_of w14, I64_of w15⟩⟩
set_option maxRecDepth 100000 in
theorem Command_open {H : Type} {enc : TypeId × Value → H} {w : World} {r : Reach} {b0 base : Nat} {spare : Nat → Bool} {held : Bool} {v : Value} {d : DataW H} {p : List MemPlace} (hv : Value.okWide Try.prog w r b0 64 v) (h : DataW.Trod enc Try.prog w base spare held 64 v d p) : ∃ t : Command, v = t.v ∧ t.ok := by
  obtain ⟨cs, rfl, _⟩ := okWide_struct Try.underlying64 hv
  obtain ⟨fuel, hf⟩ := h
  obtain ⟨t, hc, ho⟩ := Command_cells hf
  refine ⟨t, ?_, ho⟩
  obtain ⟨l⟩ := cs
  have hc' : l = [.int .u8 t.kind, .int .u64 t.client, .int .u64 t.seq, .string t.user, .int .u8 t.band, .int .i64 t.vec.cpu, .int .i64 t.vec.mem, .int .i64 t.vec.disk, .int .i64 t.machine, .string t.job.name, .string t.job.user, .int .u8 t.job.band, .int .i64 t.job.count, .int .i64 t.job.limit.cpu, .int .i64 t.job.limit.mem, .int .i64 t.job.limit.disk, .string t.job.alloc, .int .i64 t.job.budget.k, .int .i64 t.job.budget.window, .string t.alloc.name, .string t.alloc.user, .int .i64 t.alloc.count, .int .i64 t.alloc.limit.cpu, .int .i64 t.alloc.limit.mem, .int .i64 t.alloc.limit.disk, .string t.name, .int .i64 t.n, .string t.task.job, .int .i64 t.task.n, .int .i64 t.in_, .int .i64 t.gen, .int .u8 t.why, .int .i64 t.tick] := hc
  rw [hc']

end Go.Proofs.Yteglieoeblehpaa
