/- The laws SumParts, SumBursts of reevelaw02, walked. Conditions: the strings are within the reach. -/
import Derived.Test.YthlninijnbmjfaaSum5
import Derived.Laws.IdiomStrings
namespace Go.Proofs.Ythlninijnbmjfaa
open Go.RowKit

theorem ba_append (s t : ByteArray) : (s ++ t).data.toList = s.data.toList ++ t.data.toList := by simp
/-- A block of bytes as a string was laid, with the mark behind its end. -/
def BytesAt (w : World) (g : Nat) (L : List UInt8) : Prop := ∃ cs m, w.heap[g]? = some (.cells cs 5 (m, m + 1)) ∧ L.length ≤ m ∧ cs.size = m ∧ ∀ j (h : j < L.length), cs[j]? = some (.int .u8 (L[j].toNat : Int))
theorem BytesAt.lt {w : World} {g : Nat} {L : List UInt8} (h : BytesAt w g L) : g < w.heap.size := by
  obtain ⟨cs, m, hh, _⟩ := h
  rcases Nat.lt_or_ge g w.heap.size with hlt | hge
  · exact hlt
  · rw [Array.getElem?_eq_none hge] at hh; cases hh
theorem BytesAt.cell {w : World} {g : Nat} {L : List UInt8} (h : BytesAt w g L) (j : Nat) (hj : j < L.length) : w.cell? ⟨g, j, none⟩ = some (.int .u8 (L[j].toNat : Int)) := by
  obtain ⟨cs, m, hh, _, _, hc⟩ := h
  rw [cell_of_row w g j cs _ _ hh, hc j hj]
theorem BytesAt.frozen {w : World} {g : Nat} {L : List UInt8} (h : BytesAt w g L) (j : Nat) (hj : j < L.length) : w.frozen? ⟨g, j, none⟩ = false := by
  obtain ⟨cs, m, hh, hl, _⟩ := h
  simp [World.frozen?, hh]
  omega
theorem BytesAt.put {w : World} {g : Nat} {L : List UInt8} (h : BytesAt w g L) (j : Nat) (x : UInt8) (hj : j < L.length) : BytesAt (w.setCell ⟨g, j, none⟩ (.int .u8 (x.toNat : Int))) g (L.set j x) := by
  obtain ⟨cs, m, hh, hl, hs, hc⟩ := h
  refine ⟨cs.setIfInBounds j (.int .u8 (x.toNat : Int)), m, ?_, by simpa using hl, by simpa using hs, fun i hi => ?_⟩
  · simp [World.setCell, Array.getElem?_modify, hh]
  · have hi' : i < L.length := by simpa using hi
    rw [Array.getElem?_setIfInBounds, List.getElem_set]
    by_cases he : j = i
    · subst he; simp; omega
    · simp [he]; exact hc i hi'
theorem bytes_new (w : World) (s : ByteArray) (cap : Nat) : BytesAt (w.alloc (.cells (bytesRow s cap) 5 ((bytesRow s cap).size, (bytesRow s cap).size + 1))) w.heap.size s.data.toList := by
  refine ⟨_, _, heap_alloc_new w _, by simp [bytesRow], rfl, fun j hj => ?_⟩
  have hj' : j < s.size := by simpa using hj
  rw [bytesRow, Array.getElem?_append_left (by simpa using hj)]
  simp [hj']
theorem xor8_bit (a : UInt8) (r : Nat) (hr : r < 8) : bits .xor .u8 (a.toNat : Int) ((2 : Int) ^ r % 256) = ((a ^^^ UInt8.ofNat (2 ^ r)).toNat : Int) := by
  have e : ∀ r, r < 8 → ((2 : Int) ^ r % 256) = ((2 ^ r : Nat) : Int) := by decide
  have e2 : ∀ r, r < 8 → (UInt8.ofNat (2 ^ r)).toNat = 2 ^ r := by decide
  have e3 : ∀ r, r < 8 → 2 ^ r < 256 := by decide
  rw [e r hr, u8_xor_nat _ _ a.toNat_lt (e3 r hr), UInt8.toNat_xor, e2 r hr]
theorem xor8_none (a : UInt8) : bits .xor .u8 (a.toNat : Int) 0 = (a.toNat : Int) := by
  have := u8_xor_nat a.toNat 0 a.toNat_lt (by decide)
  rw [Nat.xor_zero] at this
  exact this
theorem byteB_bit : ∀ r, r < 8 → byteB (UInt8.ofNat (2 ^ r)) = 1#32 <<< r := by decide
theorem lowB_one {p : B32} {k : Nat} (h : p.getLsbD k = true) : lowB p (k + 1) = lowB p k ^^^ (1#32 <<< k) := by
  show lowB p k ^^^ (if p.getLsbD k then _ else _) = _
  rw [h, if_pos rfl]
theorem lowB_none {p : B32} {k : Nat} (h : p.getLsbD k = false) : lowB p (k + 1) = lowB p k := by
  show lowB p k ^^^ (if p.getLsbD k then _ else _) = _
  rw [h, if_neg (by decide), BitVec.xor_zero]
theorem burst_more (p a0 : B32) {L M : List UInt8} {n f k j r : Nat} (c : B32) (hL : L.length = n) (hj : j < L.length) (hr : r < 8) (hk : k < 32) (hjr : 8 * j + r = f + k) (hf : f + 32 ≤ 8 * n)
    (h : crcL c L = a0 ^^^ bsteps (8 * n - f) (lowB p k)) (hb : p.getLsbD k = true) (hM : M = L.set j (L[j] ^^^ UInt8.ofNat (2 ^ r))) : crcL c M = a0 ^^^ bsteps (8 * n - f) (lowB p (k + 1)) := by
  rw [hM, crcL_turn _ _ _ hj, h, lowB_one hb, bsteps_xor, byteB_bit r hr, hL, bit_place hr hk hjr hf, BitVec.xor_assoc]
end Go.Proofs.Ythlninijnbmjfaa
