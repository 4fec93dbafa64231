/- A share, a step, and lists of them, as they come in. Conditions: none. -/
import Derived.Test.YtcjgblopcfcakaaK4
import Derived.Test.YtcjgblopcfcakaaTVec
namespace Go.Proofs.Ytcjgblopcfcakaa
open Go.RowKit Go.Deep Go.WideShapes

structure Share where
  user : ByteArray
  band : Int
  quota : Vec
  used : Vec
  deriving DecidableEq
abbrev Share.v (x : Share) : Value := .agg #[.string x.user, .int .u8 x.band, .int .i64 x.quota.cpu, .int .i64 x.quota.mem, .int .i64 x.quota.disk, .int .i64 x.used.cpu, .int .i64 x.used.mem, .int .i64 x.used.disk]
def Share.ok (x : Share) : Prop := x.user.size ≤ 9223372036854775807 ∧ U8 x.band ∧ x.quota.ok ∧ x.used.ok
instance decOkShare (x : Share) : Decidable x.ok := inferInstanceAs (Decidable (_ ∧ _))

structure QStep where
  do_ : Int
  user : ByteArray
  band : Int
  vec : Vec
  deriving DecidableEq
abbrev QStep.v (x : QStep) : Value := .agg #[.int .u8 x.do_, .string x.user, .int .u8 x.band, .int .i64 x.vec.cpu, .int .i64 x.vec.mem, .int .i64 x.vec.disk]
def QStep.ok (x : QStep) : Prop := U8 x.do_ ∧ x.user.size ≤ 9223372036854775807 ∧ U8 x.band ∧ x.vec.ok
instance decOkQStep (x : QStep) : Decidable x.ok := inferInstanceAs (Decidable (_ ∧ _))

set_option maxRecDepth 100000 in
theorem Share_cells {H : Type} {enc : TypeId × Value → H} {w : World} {base : Nat} {spare : Nat → Bool} {held : Bool} {fuel : Nat} {cs : List Value} {x : DataW H × List MemPlace} (h : DataW.trod enc Try.prog w base spare held fuel 39 cs = some x) : ∃ t : Share, cs = [.string t.user, .int .u8 t.band, .int .i64 t.quota.cpu, .int .i64 t.quota.mem, .int .i64 t.quota.disk, .int .i64 t.used.cpu, .int .i64 t.used.mem, .int .i64 t.used.disk] ∧ t.ok := by
  obtain ⟨xs, n, _, _, hlen, hl, hf⟩ := DataW.trod_struct Try.underlying39 h
  have hlen' : cs.length = 8 := hlen.trans (by kernel_rfl)
  obtain ⟨c0, c1, c2, c3, c4, c5, c6, c7, rfl⟩ : ∃ c0 c1 c2 c3 c4 c5 c6 c7, cs = [c0, c1, c2, c3, c4, c5, c6, c7] := by
    match cs, hlen' with
    | [c0, c1, c2, c3, c4, c5, c6, c7], _ => exact ⟨c0, c1, c2, c3, c4, c5, c6, c7, rfl⟩
  obtain ⟨y0, y1, y2, y3, rfl⟩ : ∃ y0 y1 y2 y3, xs = [y0, y1, y2, y3] := by
    match xs, (hl : xs.length = 4) with
    | [y0, y1, y2, y3], _ => exact ⟨y0, y1, y2, y3, rfl⟩
  have k0 : Try.prog.cellsOf 9 = 1 := by kernel_rfl
  have f0 : DataW.trod enc Try.prog w base spare held n 9 [c0] = some y0 := by have q := hf 0 _ rfl; simpa [k0] using q
  obtain ⟨a0, e0, _, w0⟩ := DataW.trod_string Try.underlying9 f0
  simp only [List.cons.injEq, and_true] at e0
  subst e0
  have k1 : Try.prog.cellsOf 5 = 1 := by kernel_rfl
  have f1 : DataW.trod enc Try.prog w base spare held n 5 [c1] = some y1 := by have q := hf 1 _ rfl; simpa [k1] using q
  obtain ⟨a1, e1, _, w1⟩ := DataW.trod_int Try.underlying5 f1
  simp only [List.cons.injEq, and_true] at e1
  subst e1
  have k2 : Try.prog.cellsOf 28 = 3 := by kernel_rfl
  have f2 : DataW.trod enc Try.prog w base spare held n 28 [c2, c3, c4] = some y2 := by have q := hf 2 _ rfl; simpa [k2] using q
  obtain ⟨a2, e2, w2⟩ := Vec_cells f2
  simp only [List.cons.injEq, and_true] at e2
  obtain ⟨rfl, rfl, rfl⟩ := e2
  have f3 : DataW.trod enc Try.prog w base spare held n 28 [c5, c6, c7] = some y3 := by have q := hf 3 _ rfl; simpa [k2] using q
  obtain ⟨a3, e3, w3⟩ := Vec_cells f3
  simp only [List.cons.injEq, and_true] at e3
  obtain ⟨rfl, rfl, rfl⟩ := e3
  exact ⟨⟨a0, a1, a2, a3⟩, rfl, ⟨w0, U8_of w1, w2, w3⟩⟩
set_option maxRecDepth 100000 in
theorem Share_open {H : Type} {enc : TypeId × Value → H} {w : World} {r : Reach} {b0 base : Nat} {spare : Nat → Bool} {held : Bool} {v : Value} {d : DataW H} {p : List MemPlace} (hv : Value.okWide Try.prog w r b0 39 v) (h : DataW.Trod enc Try.prog w base spare held 39 v d p) : ∃ t : Share, v = t.v ∧ t.ok := by
  obtain ⟨cs, rfl, _⟩ := okWide_struct Try.underlying39 hv
  obtain ⟨fuel, hf⟩ := h
  obtain ⟨t, hc, ho⟩ := Share_cells hf
  refine ⟨t, ?_, ho⟩
  obtain ⟨l⟩ := cs
  have hc' : l = [.string t.user, .int .u8 t.band, .int .i64 t.quota.cpu, .int .i64 t.quota.mem, .int .i64 t.quota.disk, .int .i64 t.used.cpu, .int .i64 t.used.mem, .int .i64 t.used.disk] := hc
  rw [hc']

set_option maxRecDepth 100000 in
theorem QStep_cells {H : Type} {enc : TypeId × Value → H} {w : World} {base : Nat} {spare : Nat → Bool} {held : Bool} {fuel : Nat} {cs : List Value} {x : DataW H × List MemPlace} (h : DataW.trod enc Try.prog w base spare held fuel 30 cs = some x) : ∃ t : QStep, cs = [.int .u8 t.do_, .string t.user, .int .u8 t.band, .int .i64 t.vec.cpu, .int .i64 t.vec.mem, .int .i64 t.vec.disk] ∧ t.ok := by
  obtain ⟨xs, n, _, _, hlen, hl, hf⟩ := DataW.trod_struct Try.underlying30 h
  have hlen' : cs.length = 6 := hlen.trans (by kernel_rfl)
  obtain ⟨c0, c1, c2, c3, c4, c5, rfl⟩ : ∃ c0 c1 c2 c3 c4 c5, cs = [c0, c1, c2, c3, c4, c5] := by
    match cs, hlen' with
    | [c0, c1, c2, c3, c4, c5], _ => exact ⟨c0, c1, c2, c3, c4, c5, rfl⟩
  obtain ⟨y0, y1, y2, y3, rfl⟩ : ∃ y0 y1 y2 y3, xs = [y0, y1, y2, y3] := by
    match xs, (hl : xs.length = 4) with
    | [y0, y1, y2, y3], _ => exact ⟨y0, y1, y2, y3, rfl⟩
  have k0 : Try.prog.cellsOf 5 = 1 := by kernel_rfl
  have f0 : DataW.trod enc Try.prog w base spare held n 5 [c0] = some y0 := by have q := hf 0 _ rfl; simpa [k0] using q
  obtain ⟨a0, e0, _, w0⟩ := DataW.trod_int Try.underlying5 f0
  simp only [List.cons.injEq, and_true] at e0
  subst e0
  have k1 : Try.prog.cellsOf 9 = 1 := by kernel_rfl
  have f1 : DataW.trod enc Try.prog w base spare held n 9 [c1] = some y1 := by have q := hf 1 _ rfl; simpa [k1] using q
  obtain ⟨a1, e1, _, w1⟩ := DataW.trod_string Try.underlying9 f1
  simp only [List.cons.injEq, and_true] at e1
  subst e1
  have f2 : DataW.trod enc Try.prog w base spare held n 5 [c2] = some y2 := by have q := hf 2 _ rfl; simpa [k0] using q
  obtain ⟨a2, e2, _, w2⟩ := DataW.trod_int Try.underlying5 f2
  simp only [List.cons.injEq, and_true] at e2
  subst e2
  have k2 : Try.prog.cellsOf 28 = 3 := by kernel_rfl
  have f3 : DataW.trod enc Try.prog w base spare held n 28 [c3, c4, c5] = some y3 := by have q := hf 3 _ rfl; simpa [k2] using q
  obtain ⟨a3, e3, w3⟩ := Vec_cells f3
  simp only [List.cons.injEq, and_true] at e3
  obtain ⟨rfl, rfl, rfl⟩ := e3
  exact ⟨⟨a0, a1, a2, a3⟩, rfl, ⟨U8_of w0, w1, U8_of w2, w3⟩⟩
set_option maxRecDepth 100000 in
theorem QStep_open {H : Type} {enc : TypeId × Value → H} {w : World} {r : Reach} {b0 base : Nat} {spare : Nat → Bool} {held : Bool} {v : Value} {d : DataW H} {p : List MemPlace} (hv : Value.okWide Try.prog w r b0 30 v) (h : DataW.Trod enc Try.prog w base spare held 30 v d p) : ∃ t : QStep, v = t.v ∧ t.ok := by
  obtain ⟨cs, rfl, _⟩ := okWide_struct Try.underlying30 hv
  obtain ⟨fuel, hf⟩ := h
  obtain ⟨t, hc, ho⟩ := QStep_cells hf
  refine ⟨t, ?_, ho⟩
  obtain ⟨l⟩ := cs
  have hc' : l = [.int .u8 t.do_, .string t.user, .int .u8 t.band, .int .i64 t.vec.cpu, .int .i64 t.vec.mem, .int .i64 t.vec.disk] := hc
  rw [hc']

/-- A list of them in memory. -/
def SharesIn (w : World) (A : Option Addr) (xs : List Share) : Prop :=
  xs ≠ [] → ∃ b off, A = some ⟨b, off, none⟩ ∧ b < w.heap.size ∧ ∀ i (h : i < xs.length),
    w.cell? ⟨b, off + i * 8, none⟩ = some (.string xs[i].user) ∧ w.cell? ⟨b, off + i * 8 + 1, none⟩ = some (.int .u8 xs[i].band) ∧ w.cell? ⟨b, off + i * 8 + 2, none⟩ = some (.int .i64 xs[i].quota.cpu) ∧ w.cell? ⟨b, off + i * 8 + 3, none⟩ = some (.int .i64 xs[i].quota.mem) ∧ w.cell? ⟨b, off + i * 8 + 4, none⟩ = some (.int .i64 xs[i].quota.disk) ∧ w.cell? ⟨b, off + i * 8 + 5, none⟩ = some (.int .i64 xs[i].used.cpu) ∧ w.cell? ⟨b, off + i * 8 + 6, none⟩ = some (.int .i64 xs[i].used.mem) ∧ w.cell? ⟨b, off + i * 8 + 7, none⟩ = some (.int .i64 xs[i].used.disk)
set_option maxRecDepth 100000 in
theorem Shares_open {H : Type} {enc : TypeId × Value → H} {w : World} {spare : Nat → Bool} {held : Bool} {A : Option Addr} {n c : Nat} {d : DataW H} {p : List MemPlace} (h : DataW.Trod enc Try.prog w 0 spare held 36 (.slice A n c) d p) : ∃ xs : List Share, xs.length = n ∧ (∀ x ∈ xs, x.ok) ∧ SharesIn w A xs := by
  obtain ⟨xs, hl, ho, hr⟩ := slice_rows (c := 8) (Pf := fun cs (t : Share) => cs = [.string t.user, .int .u8 t.band, .int .i64 t.quota.cpu, .int .i64 t.quota.mem, .int .i64 t.quota.disk, .int .i64 t.used.cpu, .int .i64 t.used.mem, .int .i64 t.used.disk] ∧ t.ok) Try.underlying36 (by kernel_rfl) (by decide) (fun h => by obtain ⟨t, h1, h2⟩ := Share_cells h; exact ⟨t, h1, h2⟩) h
  refine ⟨xs, hl, fun x hx => by obtain ⟨cs, _, h2⟩ := ho x hx; exact h2, fun hne => ?_⟩
  obtain ⟨b, off, hA, hb, hc⟩ := hr hne
  refine ⟨b, off, hA, hb, fun i hi => ?_⟩
  obtain ⟨cs, _, ⟨rfl, _⟩, hj⟩ := hc i hi
  exact ⟨hj 0 (by decide), hj 1 (by decide), hj 2 (by decide), hj 3 (by decide), hj 4 (by decide), hj 5 (by decide), hj 6 (by decide), hj 7 (by decide)⟩

/-- A list of them in memory. -/
def QStepsIn (w : World) (A : Option Addr) (xs : List QStep) : Prop :=
  xs ≠ [] → ∃ b off, A = some ⟨b, off, none⟩ ∧ b < w.heap.size ∧ ∀ i (h : i < xs.length),
    w.cell? ⟨b, off + i * 6, none⟩ = some (.int .u8 xs[i].do_) ∧ w.cell? ⟨b, off + i * 6 + 1, none⟩ = some (.string xs[i].user) ∧ w.cell? ⟨b, off + i * 6 + 2, none⟩ = some (.int .u8 xs[i].band) ∧ w.cell? ⟨b, off + i * 6 + 3, none⟩ = some (.int .i64 xs[i].vec.cpu) ∧ w.cell? ⟨b, off + i * 6 + 4, none⟩ = some (.int .i64 xs[i].vec.mem) ∧ w.cell? ⟨b, off + i * 6 + 5, none⟩ = some (.int .i64 xs[i].vec.disk)
set_option maxRecDepth 100000 in
theorem QSteps_open {H : Type} {enc : TypeId × Value → H} {w : World} {spare : Nat → Bool} {held : Bool} {A : Option Addr} {n c : Nat} {d : DataW H} {p : List MemPlace} (h : DataW.Trod enc Try.prog w 0 spare held 22 (.slice A n c) d p) : ∃ xs : List QStep, xs.length = n ∧ (∀ x ∈ xs, x.ok) ∧ QStepsIn w A xs := by
  obtain ⟨xs, hl, ho, hr⟩ := slice_rows (c := 6) (Pf := fun cs (t : QStep) => cs = [.int .u8 t.do_, .string t.user, .int .u8 t.band, .int .i64 t.vec.cpu, .int .i64 t.vec.mem, .int .i64 t.vec.disk] ∧ t.ok) Try.underlying22 (by kernel_rfl) (by decide) (fun h => by obtain ⟨t, h1, h2⟩ := QStep_cells h; exact ⟨t, h1, h2⟩) h
  refine ⟨xs, hl, fun x hx => by obtain ⟨cs, _, h2⟩ := ho x hx; exact h2, fun hne => ?_⟩
  obtain ⟨b, off, hA, hb, hc⟩ := hr hne
  refine ⟨b, off, hA, hb, fun i hi => ?_⟩
  obtain ⟨cs, _, ⟨rfl, _⟩, hj⟩ := hc i hi
  exact ⟨hj 0 (by decide), hj 1 (by decide), hj 2 (by decide), hj 3 (by decide), hj 4 (by decide), hj 5 (by decide)⟩

end Go.Proofs.Ytcjgblopcfcakaa
