/- Words of this session, the fourth part: ranges of numbers as they come in; how long a slice can be. Conditions: none. -/
import Derived.Test.YtcjgblopcfcakaaK3
namespace Go.Proofs.Ytcjgblopcfcakaa
open Go.RowKit Go.Deep

def I64 (x : Int) : Prop := -9223372036854775808 ≤ x ∧ x ≤ 9223372036854775807
def U64 (x : Int) : Prop := 0 ≤ x ∧ x ≤ 18446744073709551615
def U32 (x : Int) : Prop := 0 ≤ x ∧ x ≤ 4294967295
def U16 (x : Int) : Prop := 0 ≤ x ∧ x ≤ 65535
def I8 (x : Int) : Prop := -128 ≤ x ∧ x ≤ 127
def U8 (x : Int) : Prop := 0 ≤ x ∧ x ≤ 255
instance (x : Int) : Decidable (I64 x) := inferInstanceAs (Decidable (_ ∧ _))
instance (x : Int) : Decidable (U64 x) := inferInstanceAs (Decidable (_ ∧ _))
instance (x : Int) : Decidable (U32 x) := inferInstanceAs (Decidable (_ ∧ _))
instance (x : Int) : Decidable (U16 x) := inferInstanceAs (Decidable (_ ∧ _))
instance (x : Int) : Decidable (U8 x) := inferInstanceAs (Decidable (_ ∧ _))
theorem I64_of {x : Int} (h : (Lit.int .i64 x).wf = true) : I64 x := by simp only [Lit.wf, Bool.and_eq_true, decide_eq_true_eq] at h; exact h
theorem U64_of {x : Int} (h : (Lit.int .u64 x).wf = true) : U64 x := by simp only [Lit.wf, Bool.and_eq_true, decide_eq_true_eq] at h; exact h
theorem U32_of {x : Int} (h : (Lit.int .u32 x).wf = true) : U32 x := by simp only [Lit.wf, Bool.and_eq_true, decide_eq_true_eq] at h; exact h
theorem U16_of {x : Int} (h : (Lit.int .u16 x).wf = true) : U16 x := by simp only [Lit.wf, Bool.and_eq_true, decide_eq_true_eq] at h; exact h
theorem I8_of {x : Int} (h : (Lit.int .i8 x).wf = true) : I8 x := by simp only [Lit.wf, Bool.and_eq_true, decide_eq_true_eq] at h; exact h
theorem U8_of {x : Int} (h : (Lit.int .u8 x).wf = true) : U8 x := by simp only [Lit.wf, Bool.and_eq_true, decide_eq_true_eq] at h; exact h
/-- How long a slice that comes in can be. -/
theorem slice_bd {H : Type} {enc : TypeId × Value → H} {P : Program} {w : World} {spare : Nat → Bool} {held : Bool} {t e : TypeId} {B : Nat} {A : Option Addr} {n c : Nat} {d : DataW H} {p : List MemPlace} {ts : List TypeId} {ds : List (DataW H)} {j : Nat}
    (ht : P.underlying t = some (.slice e)) (hB : P.bytesOf e = B) (_hpos : 0 < B) (hsz : (DataW.weightsEach P ts ds).all (· ≤ reachBytes) = true) (htj : ts[j]? = some t) (h : DataW.Trod enc P w 0 spare held t (.slice A n c) d p) (hd : ds[j]? = some d := by rfl) : n * B ≤ 140737488351232 := by
  obtain ⟨fuel, hf⟩ := h
  rcases open_slice ht hf with ⟨hcs, _⟩ | ⟨a, len, cap, m, n', D, Pl, hcs, hb, hl, hm, hmm, hx, hi⟩
  · simp [Value.cells] at hcs
    obtain ⟨_, rfl, _⟩ := hcs
    omega
  · simp [Value.cells] at hcs
    obtain ⟨_, rfl, _⟩ := hcs
    simp only [Prod.mk.injEq] at hx
    obtain ⟨hx, _⟩ := hx
    subst hx
    have := sized_slice hsz htj hd ht
    rw [hB] at this
    simp only [List.length_map, List.length_range, reachBytes] at this
    exact Nat.le_trans (Nat.mul_le_mul_right B (by omega)) this
end Go.Proofs.Ytcjgblopcfcakaa
