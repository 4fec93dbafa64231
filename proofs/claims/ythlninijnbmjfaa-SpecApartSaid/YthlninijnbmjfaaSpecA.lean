/- What a job that may be wants in all, in plain Lean. Conditions: none. -/
import Derived.Test.YthlninijnbmjfaaSpec9
namespace Go.Proofs.Ythlninijnbmjfaa
open Go.RowKit

def goodB (j : JobSpec) : Prop := nameB j.name = true ∧ nameB j.user = true ∧ (decide (j.alloc.size = 0) || nameB j.alloc) = true ∧ bandB j.band = true ∧ cntB j.count = true ∧ limB j.limit = true ∧ mayBud j.budget = true ∧ j.limit.ok ∧ I64 j.count
theorem goodB_job {j : JobSpec} (h : goodB j) : jobI j = 0 := by
  obtain ⟨h1, h2, h3, h4, h5, h6, h7, _⟩ := h
  simp only [jobI, namesB, h1, h2, h3, h4, h5, h6, h7, firstI, if_true, Bool.and_self]
theorem goodB_of {j : JobSpec} (hj : j.ok) (h : jobI j = 0) : goodB j := by
  unfold jobI namesB at h
  unfold goodB
  generalize (decide (j.alloc.size = 0) || nameB j.alloc) = x at *
  refine ⟨?_, ?_, ?_, ?_, ?_, ?_, ?_, hj.2.2.2.2.1, hj.2.2.2.1⟩ <;>
    (cases h0 : nameB j.name <;> cases h1 : nameB j.user <;> cases x <;> cases h2 : bandB j.band <;> cases h3 : cntB j.count <;> cases h4 : limB j.limit <;> cases h5 : mayBud j.budget <;> simp [h0, h1, h2, h3, h4, h5, firstI] at h ⊢)
theorem mul_bd {x n : Int} (h0 : 0 ≤ x) (h1 : x ≤ 1099511627776) (h2 : 1 ≤ n) (h3 : n ≤ 64) : x ≤ x * n ∧ x * n ≤ 70368744177664 := by
  constructor
  · have := Int.mul_le_mul_of_nonneg_left h2 h0; omega
  · have a := Int.mul_le_mul_of_nonneg_left h3 h0; omega
theorem apart_wants {l : Vec} {n : Int} (hl : limB l = true) (hn : cntB n = true) :
    ∃ t : Vec, timesV l n = (t, 0) ∧ fitsV ⟨0, 0, 0⟩ t = true ∧ fitsV t ⟨70368744177664, 70368744177664, 70368744177664⟩ = true ∧ eqV t ⟨0, 0, 0⟩ = false := by
  obtain ⟨x, y, z⟩ := l
  simp only [limB, mayV, cntB, eqV, zeroV, Bool.and_eq_true, Bool.not_eq_true', decide_eq_true_eq, decide_eq_false_iff_not, Vec.mk.injEq] at hl hn
  obtain ⟨⟨h1, h2, h3, h4, h5, h6⟩, h7⟩ := hl
  obtain ⟨a1, a2⟩ := mul_bd h1 h2 hn.1 hn.2
  obtain ⟨b1, b2⟩ := mul_bd h3 h4 hn.1 hn.2
  obtain ⟨c1, c2⟩ := mul_bd h5 h6 hn.1 hn.2
  refine ⟨⟨x * n, y * n, z * n⟩, ?_, ?_, ?_, ?_⟩
  · unfold timesV eachV fits
    dsimp only
    rw [if_pos]
    simp only [Bool.and_eq_true, decide_eq_true_eq]
    omega
  · simp only [fitsV, Bool.and_eq_true, decide_eq_true_eq]; omega
  · simp only [fitsV, Bool.and_eq_true, decide_eq_true_eq]; omega
  · simp only [eqV, decide_eq_false_iff_not, Vec.mk.injEq]; omega
end Go.Proofs.Ythlninijnbmjfaa
