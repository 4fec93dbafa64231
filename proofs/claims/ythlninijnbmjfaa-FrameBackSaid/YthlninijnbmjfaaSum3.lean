/- The contracts of sum.Join and of the document's answer for checksums. Conditions: a length that may be. -/
import Derived.Test.YthlninijnbmjfaaSum2
namespace Go.Proofs.Ythlninijnbmjfaa
open Go.RowKit

theorem Blk.off' {w : World} {g : Nat} {t : TypeId} {cs : Array Value} (h : Blk w g t cs) {b o : Nat} (hp : g ≠ b) (u : Value) : Blk (w.setCell ⟨b, o, none⟩ u) g t cs := h.far hp u
/-- A matrix as far as it is laid. -/
def matC (f : Nat → B32) (k : Nat) : Array Value := (Array.range 32).map fun i => .int .u32 (if i < k then u (f i) else 0)
theorem matC_size (f : Nat → B32) (k : Nat) : (matC f k).size = 32 := by simp [matC]
theorem matC_get (f : Nat → B32) (k i : Nat) (h : i < 32) : (matC f k)[i]? = some (.int .u32 (if i < k then u (f i) else 0)) := by
  simp [matC, h]
theorem matC_set (f : Nat → B32) (k : Nat) : (matC f k).setIfInBounds k (.int .u32 (u (f k))) = matC f (k + 1) := by
  apply Array.ext_getElem?
  intro i
  rw [Array.getElem?_setIfInBounds]
  by_cases hi : i < 32
  · rw [matC_get _ _ _ hi, matC_get _ _ _ hi, matC_size]
    by_cases hk : k = i
    · subst hk; simp [hi]
    · simp only [if_neg hk]
      by_cases h : i < k
      · rw [if_pos h, if_pos (by omega)]
      · rw [if_neg h, if_neg (by omega)]
  · rw [Array.getElem?_eq_none (by rw [matC_size]; omega), Array.getElem?_eq_none (by rw [matC_size]; omega)]
    split
    · rw [if_neg (by rw [matC_size]; omega)]
    · rfl
theorem mat_one (f : Nat → B32) (k : Nat) : (matC f k).all (·.oneCell') = true := by
  rw [Array.all_eq_true]
  intro i hi
  have : (matC f k)[i] = .int .u32 (if i < k then u (f i) else 0) := by
    have h := matC_get f k i (by rwa [matC_size] at hi)
    rw [Array.getElem?_eq_getElem hi] at h
    exact Option.some.inj h
  rw [this]
  rfl
theorem matC_full (f : Nat → B32) : ∀ i, i < 32 → (matC f 32)[i]? = some (.int .u32 (u (f i))) := fun i hi => by rw [matC_get _ _ _ hi, if_pos hi]
theorem matC_congr {f g : Nat → B32} (h : ∀ i, i < 32 → f i = g i) : matC f 32 = matC g 32 := by
  apply Array.ext_getElem?
  intro i
  by_cases hi : i < 32
  · rw [matC_full _ _ hi, matC_full _ _ hi, h i hi]
  · rw [Array.getElem?_eq_none (by rw [matC_size]; omega), Array.getElem?_eq_none (by rw [matC_size]; omega)]
theorem u_shl (i : Nat) (h : i < 32) : IntKind.u32.wrap ((2 : Int) ^ i) = u (1#32 <<< i) := by
  unfold u
  rw [IntKind.wrap_u32', BitVec.toNat_shiftLeft, Nat.shiftLeft_eq]
  simp
theorem i64_odd (k : Nat) : bits .and .i64 (k : Int) 1 = ((k % 2 : Nat) : Int) := by
  have h1 : bits .and .i64 (k : Int) 1 = IntKind.i64.wrap (((BitVec.ofInt 64 (k : Int) &&& BitVec.ofInt 64 1).toNat : Nat) : Int) := rfl
  rw [h1]
  have h2 : (BitVec.ofInt 64 (k : Int) &&& BitVec.ofInt 64 1).toNat = k % 2 := by
    rw [BitVec.toNat_and]
    have e1 : (BitVec.ofInt 64 1).toNat = 2 ^ 1 - 1 := rfl
    rw [e1, Nat.and_two_pow_sub_one_eq_mod, BitVec.toNat_ofInt]
    omega
  rw [h2, IntWalk.i64_in]
  omega
theorem wpQuiet_load_row {P : Program} {ops : Array Oper} {C : World → Prop} {Q : Act → Prop} {o : Oper} {rest : List Oper} {a : Act} (hw : Region.wanted o (yielded ops a.tmps) = true) (ty : TypeId) (x : Operand) (ho : o.op = .load ty x)
    (g : Nat) (hx : a.eval x = .pointer (some ⟨g, 0, none⟩)) (cs : Array Value) (hrun : ∀ W, C W → (loadVar ty ⟨g, 0, none⟩).run P W = .ok (.agg cs) W) (h : wpQuiet P ops C Q rest (a.put o.dst (.agg cs))) : wpQuiet P ops C Q (o :: rest) a := by
  unfold wpQuiet
  rw [if_pos hw]
  refine ⟨.agg cs, fun w hC => ?_, h⟩
  unfold Oper.quietAt execOp
  simp only [ho, hx, Instr.loadAt, Instr.sureAddr, Sem.run_bind, Sem.run_pure, Result.andThen_ok, hrun w hC]
  exact ⟨rfl, rfl⟩
end Go.Proofs.Ythlninijnbmjfaa
