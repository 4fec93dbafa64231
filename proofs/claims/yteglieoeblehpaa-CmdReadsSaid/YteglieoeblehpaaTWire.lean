/- Asks and items, and lists of them, as they come in. Conditions: none. -/
import Derived.Test.YteglieoeblehpaaK4
import Derived.Test.YteglieoeblehpaaK3
namespace Go.Proofs.Yteglieoeblehpaa
open Go.RowKit Go.Deep Go.WideShapes

structure Ask where
  do_ : Int
  least : Int
  most : Int
  deriving DecidableEq
abbrev Ask.v (x : Ask) : Value := .agg #[.int .u8 x.do_, .int .i64 x.least, .int .u64 x.most]
def Ask.ok (x : Ask) : Prop := U8 x.do_ ∧ I64 x.least ∧ U64 x.most
instance decOkAsk (x : Ask) : Decidable x.ok := inferInstanceAs (Decidable (_ ∧ _))

structure Item where
  kind : Int
  x : Int
  s : ByteArray
  deriving DecidableEq
abbrev Item.v (x : Item) : Value := .agg #[.int .u8 x.kind, .int .u64 x.x, .string x.s]
def Item.ok (x : Item) : Prop := U8 x.kind ∧ U64 x.x ∧ x.s.size ≤ 9223372036854775807
instance decOkItem (x : Item) : Decidable x.ok := inferInstanceAs (Decidable (_ ∧ _))

set_option maxRecDepth 100000 in
theorem Ask_cells {H : Type} {enc : TypeId × Value → H} {w : World} {base : Nat} {spare : Nat → Bool} {held : Bool} {fuel : Nat} {cs : List Value} {x : DataW H × List MemPlace} (h : DataW.trod enc Try.prog w base spare held fuel 48 cs = some x) : ∃ t : Ask, cs = [.int .u8 t.do_, .int .i64 t.least, .int .u64 t.most] ∧ t.ok := by
  obtain ⟨xs, n, _, _, hlen, hl, hf⟩ := DataW.trod_struct Try.underlying48 h
  have hlen' : cs.length = 3 := hlen.trans (by kernel_rfl)
  obtain ⟨c0, c1, c2, rfl⟩ : ∃ c0 c1 c2, cs = [c0, c1, c2] := by
    match cs, hlen' with
    | [c0, c1, c2], _ => exact ⟨c0, c1, c2, rfl⟩
  obtain ⟨y0, y1, y2, rfl⟩ : ∃ y0 y1 y2, xs = [y0, y1, y2] := by
    match xs, (hl : xs.length = 3) with
    | [y0, y1, y2], _ => exact ⟨y0, y1, y2, rfl⟩
  have k0 : Try.prog.cellsOf 5 = 1 := by kernel_rfl
  have f0 : DataW.trod enc Try.prog w base spare held n 5 [c0] = some y0 := by have q := hf 0 _ rfl; simpa [k0] using q
  obtain ⟨a0, e0, _, w0⟩ := DataW.trod_int Try.underlying5 f0
  simp only [List.cons.injEq, and_true] at e0
  subst e0
  have k1 : Try.prog.cellsOf 2 = 1 := by kernel_rfl
  have f1 : DataW.trod enc Try.prog w base spare held n 2 [c1] = some y1 := by have q := hf 1 _ rfl; simpa [k1] using q
  obtain ⟨a1, e1, _, w1⟩ := DataW.trod_int Try.underlying2 f1
  simp only [List.cons.injEq, and_true] at e1
  subst e1
  have k2 : Try.prog.cellsOf 22 = 1 := by kernel_rfl
  have f2 : DataW.trod enc Try.prog w base spare held n 22 [c2] = some y2 := by have q := hf 2 _ rfl; simpa [k2] using q
  obtain ⟨a2, e2, _, w2⟩ := DataW.trod_int Try.underlying22 f2
  simp only [List.cons.injEq, and_true] at e2
  subst e2
  exact ⟨⟨a0, a1, a2⟩, rfl, ⟨U8_of w0, I64_of w1, U64_of w2⟩⟩
set_option maxRecDepth 100000 in
theorem Ask_open {H : Type} {enc : TypeId × Value → H} {w : World} {r : Reach} {b0 base : Nat} {spare : Nat → Bool} {held : Bool} {v : Value} {d : DataW H} {p : List MemPlace} (hv : Value.okWide Try.prog w r b0 48 v) (h : DataW.Trod enc Try.prog w base spare held 48 v d p) : ∃ t : Ask, v = t.v ∧ t.ok := by
  obtain ⟨cs, rfl, _⟩ := okWide_struct Try.underlying48 hv
  obtain ⟨fuel, hf⟩ := h
  obtain ⟨t, hc, ho⟩ := Ask_cells hf
  refine ⟨t, ?_, ho⟩
  obtain ⟨l⟩ := cs
  have hc' : l = [.int .u8 t.do_, .int .i64 t.least, .int .u64 t.most] := hc
  rw [hc']

set_option maxRecDepth 100000 in
theorem Item_cells {H : Type} {enc : TypeId × Value → H} {w : World} {base : Nat} {spare : Nat → Bool} {held : Bool} {fuel : Nat} {cs : List Value} {x : DataW H × List MemPlace} (h : DataW.trod enc Try.prog w base spare held fuel 31 cs = some x) : ∃ t : Item, cs = [.int .u8 t.kind, .int .u64 t.x, .string t.s] ∧ t.ok := by
  obtain ⟨xs, n, _, _, hlen, hl, hf⟩ := DataW.trod_struct Try.underlying31 h
  have hlen' : cs.length = 3 := hlen.trans (by kernel_rfl)
  obtain ⟨c0, c1, c2, rfl⟩ : ∃ c0 c1 c2, cs = [c0, c1, c2] := by
    match cs, hlen' with
    | [c0, c1, c2], _ => exact ⟨c0, c1, c2, rfl⟩
  obtain ⟨y0, y1, y2, rfl⟩ : ∃ y0 y1 y2, xs = [y0, y1, y2] := by
    match xs, (hl : xs.length = 3) with
    | [y0, y1, y2], _ => exact ⟨y0, y1, y2, rfl⟩
  have k0 : Try.prog.cellsOf 5 = 1 := by kernel_rfl
  have f0 : DataW.trod enc Try.prog w base spare held n 5 [c0] = some y0 := by have q := hf 0 _ rfl; simpa [k0] using q
  obtain ⟨a0, e0, _, w0⟩ := DataW.trod_int Try.underlying5 f0
  simp only [List.cons.injEq, and_true] at e0
  subst e0
  have k1 : Try.prog.cellsOf 22 = 1 := by kernel_rfl
  have f1 : DataW.trod enc Try.prog w base spare held n 22 [c1] = some y1 := by have q := hf 1 _ rfl; simpa [k1] using q
  obtain ⟨a1, e1, _, w1⟩ := DataW.trod_int Try.underlying22 f1
  simp only [List.cons.injEq, and_true] at e1
  subst e1
  have k2 : Try.prog.cellsOf 9 = 1 := by kernel_rfl
  have f2 : DataW.trod enc Try.prog w base spare held n 9 [c2] = some y2 := by have q := hf 2 _ rfl; simpa [k2] using q
  obtain ⟨a2, e2, _, w2⟩ := DataW.trod_string Try.underlying9 f2
  simp only [List.cons.injEq, and_true] at e2
  subst e2
  exact ⟨⟨a0, a1, a2⟩, rfl, ⟨U8_of w0, U64_of w1, w2⟩⟩
set_option maxRecDepth 100000 in
theorem Item_open {H : Type} {enc : TypeId × Value → H} {w : World} {r : Reach} {b0 base : Nat} {spare : Nat → Bool} {held : Bool} {v : Value} {d : DataW H} {p : List MemPlace} (hv : Value.okWide Try.prog w r b0 31 v) (h : DataW.Trod enc Try.prog w base spare held 31 v d p) : ∃ t : Item, v = t.v ∧ t.ok := by
  obtain ⟨cs, rfl, _⟩ := okWide_struct Try.underlying31 hv
  obtain ⟨fuel, hf⟩ := h
  obtain ⟨t, hc, ho⟩ := Item_cells hf
  refine ⟨t, ?_, ho⟩
  obtain ⟨l⟩ := cs
  have hc' : l = [.int .u8 t.kind, .int .u64 t.x, .string t.s] := hc
  rw [hc']

/-- A list of them in memory. -/
def AsksIn (w : World) (A : Option Addr) (xs : List Ask) : Prop :=
  xs ≠ [] → ∃ b off, A = some ⟨b, off, none⟩ ∧ b < w.heap.size ∧ ∀ i (h : i < xs.length),
    w.cell? ⟨b, off + i * 3, none⟩ = some (.int .u8 xs[i].do_) ∧ w.cell? ⟨b, off + i * 3 + 1, none⟩ = some (.int .i64 xs[i].least) ∧ w.cell? ⟨b, off + i * 3 + 2, none⟩ = some (.int .u64 xs[i].most)
set_option maxRecDepth 100000 in
theorem Asks_open {H : Type} {enc : TypeId × Value → H} {w : World} {spare : Nat → Bool} {held : Bool} {A : Option Addr} {n c : Nat} {d : DataW H} {p : List MemPlace} (h : DataW.Trod enc Try.prog w 0 spare held 42 (.slice A n c) d p) : ∃ xs : List Ask, xs.length = n ∧ (∀ x ∈ xs, x.ok) ∧ AsksIn w A xs := by
  obtain ⟨xs, hl, ho, hr⟩ := slice_rows (c := 3) (Pf := fun cs (t : Ask) => cs = [.int .u8 t.do_, .int .i64 t.least, .int .u64 t.most] ∧ t.ok) Try.underlying42 (by kernel_rfl) (by decide) (fun h => by obtain ⟨t, h1, h2⟩ := Ask_cells h; exact ⟨t, h1, h2⟩) h
  refine ⟨xs, hl, fun x hx => by obtain ⟨cs, _, h2⟩ := ho x hx; exact h2, fun hne => ?_⟩
  obtain ⟨b, off, hA, hb, hc⟩ := hr hne
  refine ⟨b, off, hA, hb, fun i hi => ?_⟩
  obtain ⟨cs, _, ⟨rfl, _⟩, hj⟩ := hc i hi
  exact ⟨hj 0 (by decide), hj 1 (by decide), hj 2 (by decide)⟩

/-- A list of them in memory. -/
def ItemsIn (w : World) (A : Option Addr) (xs : List Item) : Prop :=
  xs ≠ [] → ∃ b off, A = some ⟨b, off, none⟩ ∧ b < w.heap.size ∧ ∀ i (h : i < xs.length),
    w.cell? ⟨b, off + i * 3, none⟩ = some (.int .u8 xs[i].kind) ∧ w.cell? ⟨b, off + i * 3 + 1, none⟩ = some (.int .u64 xs[i].x) ∧ w.cell? ⟨b, off + i * 3 + 2, none⟩ = some (.string xs[i].s)
set_option maxRecDepth 100000 in
theorem Items_open {H : Type} {enc : TypeId × Value → H} {w : World} {spare : Nat → Bool} {held : Bool} {A : Option Addr} {n c : Nat} {d : DataW H} {p : List MemPlace} (h : DataW.Trod enc Try.prog w 0 spare held 29 (.slice A n c) d p) : ∃ xs : List Item, xs.length = n ∧ (∀ x ∈ xs, x.ok) ∧ ItemsIn w A xs := by
  obtain ⟨xs, hl, ho, hr⟩ := slice_rows (c := 3) (Pf := fun cs (t : Item) => cs = [.int .u8 t.kind, .int .u64 t.x, .string t.s] ∧ t.ok) Try.underlying29 (by kernel_rfl) (by decide) (fun h => by obtain ⟨t, h1, h2⟩ := Item_cells h; exact ⟨t, h1, h2⟩) h
  refine ⟨xs, hl, fun x hx => by obtain ⟨cs, _, h2⟩ := ho x hx; exact h2, fun hne => ?_⟩
  obtain ⟨b, off, hA, hb, hc⟩ := hr hne
  refine ⟨b, off, hA, hb, fun i hi => ?_⟩
  obtain ⟨cs, _, ⟨rfl, _⟩, hj⟩ := hc i hi
  exact ⟨hj 0 (by decide), hj 1 (by decide), hj 2 (by decide)⟩

end Go.Proofs.Yteglieoeblehpaa
