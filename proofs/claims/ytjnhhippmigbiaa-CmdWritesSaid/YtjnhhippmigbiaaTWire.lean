/- Asks and items, and lists of them, as they come in. Conditions: none. -/
import Derived.Test.YtjnhhippmigbiaaK4
import Derived.Test.YtjnhhippmigbiaaK3
namespace Go.Proofs.Ytjnhhippmigbiaa
open Go.RowKit Go.Deep Go.WideShapes

structure Ask where
  do_ : Int
  least : Int
  most : Int
  deriving DecidableEq
abbrev Ask.v (x : Ask) : Value := .agg #[.int .u8 x.do_, .int .i64 x.least, .int .u64 x.most]
def Ask.ok (x : Ask) : Prop := U8 x.do_ ∧ I64 x.least ∧ U64 x.most
instance decOkAsk (x : Ask) : Decidable x.ok := inferInstanceAs (Decidable (_ ∧ _))

structure Item where
  kind : Int
  x : Int
  s : ByteArray
  deriving DecidableEq
abbrev Item.v (x : Item) : Value := .agg #[.int .u8 x.kind, .int .u64 x.x, .string x.s]
def Item.ok (x : Item) : Prop := U8 x.kind ∧ U64 x.x ∧ x.s.size ≤ 9223372036854775807
instance decOkItem (x : Item) : Decidable x.ok := inferInstanceAs (Decidable (_ ∧ _))

/-- A list of them in memory. -/
def AsksIn (w : World) (A : Option Addr) (xs : List Ask) : Prop :=
  xs ≠ [] → ∃ b off, A = some ⟨b, off, none⟩ ∧ b < w.heap.size ∧ ∀ i (h : i < xs.length),
    w.cell? ⟨b, off + i * 3, none⟩ = some (.int .u8 xs[i].do_) ∧ w.cell? ⟨b, off + i * 3 + 1, none⟩ = some (.int .i64 xs[i].least) ∧ w.cell? ⟨b, off + i * 3 + 2, none⟩ = some (.int .u64 xs[i].most)
/-- A list of them in memory. -/
def ItemsIn (w : World) (A : Option Addr) (xs : List Item) : Prop :=
  xs ≠ [] → ∃ b off, A = some ⟨b, off, none⟩ ∧ b < w.heap.size ∧ ∀ i (h : i < xs.length),
    w.cell? ⟨b, off + i * 3, none⟩ = some (.int .u8 xs[i].kind) ∧ w.cell? ⟨b, off + i * 3 + 1, none⟩ = some (.int .u64 xs[i].x) ∧ w.cell? ⟨b, off + i * 3 + 2, none⟩ = some (.string xs[i].s)
end Go.Proofs.Ytjnhhippmigbiaa
