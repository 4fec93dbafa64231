/- Scores: more never makes a machine less full; the best is where it stands, and nowhere better. Conditions: none. -/
import Derived.Test.YtbamgoocgmhohaaSc5
namespace Go.Proofs.Ytbamgoocgmhohaa
open Go.RowKit

theorem fullN_mono {h u v : Int} (hh : 0 ≤ h) (huv : u ≤ v) : fullN h u ≤ fullN h v := by
  unfold fullN
  by_cases h0 : h = 0
  · rw [if_pos h0, if_pos h0]; exact Int.le_refl _
  · rw [if_neg h0, if_neg h0]
    have : u * 1000 / h ≤ v * 1000 / h := Int.ediv_le_ediv (by omega) (by omega)
    omega
theorem fillN_mono {h u v : Vec} (hh : mayV h = true) (huv : fitsV u v = true) : fillN h u ≤ fillN h v := by
  rw [mayV_spec] at hh
  rw [fitsV_spec] at huv
  unfold fillN
  have a := fullN_mono (h := h.cpu) hh.1.1 huv.1
  have b := fullN_mono (h := h.mem) hh.2.1.1 huv.2.1
  have c := fullN_mono (h := h.disk) hh.2.2.1 huv.2.2
  omega
theorem mayS_parts {h u m : Vec} (hs : mayS h u m = true) : mayV h = true ∧ mayUseV u = true ∧ mayV m = true := by
  unfold mayS at hs
  simp only [Bool.and_eq_true] at hs
  exact hs
/-- More never makes it less full. -/
theorem score_fill {h u m : Vec} (hm : mayS h u m = true) (hs : standsV h u m = true) : fillN h u ≤ scoreN h u m := by
  obtain ⟨h1, _, h3⟩ := mayS_parts hm
  unfold scoreN
  rw [if_pos hs]
  apply fillN_mono h1
  rw [mayV_spec] at h3
  rw [fitsV_spec]
  simp only [sumVec]
  omega
/-- Where something stands less of it stands, too. -/
theorem score_less {h u m l : Vec} (hm : mayS h u m = true) (hf : fitsV l m = true) (hs : standsV h u m = true) : standsV h u l = true ∧ scoreN h u l ≤ scoreN h u m := by
  obtain ⟨h1, _, _⟩ := mayS_parts hm
  have e : fitsV (sumVec u l) (sumVec u m) = true := by
    rw [fitsV_spec] at hf ⊢
    simp only [sumVec]
    omega
  have k : standsV h u l = true := by
    unfold standsV at hs ⊢
    rw [fitsV_spec] at *
    omega
  refine ⟨k, ?_⟩
  unfold scoreN
  rw [if_pos hs, if_pos k]
  exact fillN_mono h1 e
/-- What the best of the first k is. -/
theorem best_spec (hs us : List Vec) (m : Vec) : ∀ k : Nat, (∀ i, i < k → mayAt hs us m i = true) →
    ((bestF hs us m (scored hs us m k)).1 = -1 ∧ ∀ i, i < k → stAt hs us m i = false) ∨
    ((bestF hs us m (scored hs us m k)).2 < k ∧ stAt hs us m (bestF hs us m (scored hs us m k)).2 = true ∧ scAt hs us m (bestF hs us m (scored hs us m k)).2 = (bestF hs us m (scored hs us m k)).1 ∧ 0 ≤ (bestF hs us m (scored hs us m k)).1 ∧
      ∀ i, i < k → stAt hs us m i = true → scAt hs us m i ≤ (bestF hs us m (scored hs us m k)).1 ∧ (scAt hs us m i = (bestF hs us m (scored hs us m k)).1 → (bestF hs us m (scored hs us m k)).2 ≤ i))
  | 0, _ => .inl ⟨rfl, fun i h => by omega⟩
  | k + 1, hm => by
    have ih := best_spec hs us m k (fun i hi => hm i (by omega))
    have hb : 0 ≤ scAt hs us m k := (scoreN_bd (hm k (by omega))).1
    have e1 := scored_succ hs us m k
    have e2 := bestF_snoc hs us m (scored hs us m k) k
    unfold betterP at e2
    rw [e1]
    generalize hp : bestF hs us m (scored hs us m k) = p at *
    cases hst : stAt hs us m k
    · rw [if_neg (by simp), hp]
      rcases ih with ⟨a, b⟩ | ⟨a, b, c, d, e⟩
      · refine .inl ⟨a, fun i hi => ?_⟩
        rcases (show i < k ∨ i = k by omega) with h | rfl
        · exact b i h
        · exact hst
      · refine .inr ⟨by omega, b, c, d, fun i hi hs' => ?_⟩
        rcases (show i < k ∨ i = k by omega) with h | rfl
        · exact e i h hs'
        · rw [hst] at hs'; cases hs'
    · rw [if_pos rfl, e2]
      right
      by_cases hlt : p.1 < scAt hs us m k
      · rw [if_pos hlt]
        refine ⟨by omega, hst, rfl, hb, fun i hi hs' => ?_⟩
        dsimp only
        rcases (show i < k ∨ i = k by omega) with h | rfl
        · rcases ih with ⟨a, b⟩ | ⟨a, b, c, d, e⟩
          · rw [b i h] at hs'; cases hs'
          · have := (e i h hs').1
            exact ⟨by omega, by omega⟩
        · exact ⟨Int.le_refl _, fun _ => Nat.le_refl _⟩
      · rw [if_neg hlt]
        rcases ih with ⟨a, b⟩ | ⟨a, b, c, d, e⟩
        · omega
        · refine ⟨by omega, b, c, d, fun i hi hs' => ?_⟩
          rcases (show i < k ∨ i = k by omega) with h | rfl
          · exact e i h hs'
          · exact ⟨by omega, fun _ => by omega⟩
theorem turned_fill (h u : Vec) : fillN (turnedV h) (turnedV u) = fillN h u := by
  unfold fillN turnedV
  dsimp only
  omega
theorem turned_may (h : Vec) : mayV (turnedV h) = mayV h := by
  rw [Bool.eq_iff_iff, mayV_spec, mayV_spec]
  unfold turnedV
  dsimp only
  omega
theorem turned_use (h : Vec) : mayUseV (turnedV h) = mayUseV h := by
  rw [Bool.eq_iff_iff, mayUseV_spec, mayUseV_spec]
  unfold turnedV
  dsimp only
  omega
theorem turned_fits (a b : Vec) : fitsV (turnedV a) (turnedV b) = fitsV a b := by
  rw [Bool.eq_iff_iff, fitsV_spec, fitsV_spec]
  unfold turnedV
  dsimp only
  omega
theorem turned_sum (u m : Vec) : sumVec (turnedV u) (turnedV m) = turnedV (sumVec u m) := rfl
theorem turned_mayS (h u m : Vec) : mayS (turnedV h) (turnedV u) (turnedV m) = mayS h u m := by
  unfold mayS
  rw [turned_may, turned_use, turned_may]
theorem turned_stands (h u m : Vec) : standsV (turnedV h) (turnedV u) (turnedV m) = standsV h u m := by
  unfold standsV
  rw [turned_sum, turned_fits]
theorem turned_score (h u m : Vec) : scoreN (turnedV h) (turnedV u) (turnedV m) = scoreN h u m := by
  unfold scoreN
  rw [turned_stands, turned_sum, turned_fill]
theorem turned_zero : turnedV zeroV = zeroV := rfl
theorem getD_turned (l : List Vec) (i : Nat) : (l.map turnedV).getD i zeroV = turnedV (l.getD i zeroV) := by
  simp only [List.getD, List.getElem?_map]
  cases l[i]? <;> rfl
theorem turned_scAt (hs us : List Vec) (m : Vec) (i : Nat) : scAt (hs.map turnedV) (us.map turnedV) (turnedV m) i = scAt hs us m i := by
  unfold scAt
  rw [getD_turned, getD_turned, turned_score]
theorem turned_stAt (hs us : List Vec) (m : Vec) (i : Nat) : stAt (hs.map turnedV) (us.map turnedV) (turnedV m) i = stAt hs us m i := by
  unfold stAt
  rw [getD_turned, getD_turned, turned_stands]
theorem turned_mayAt (hs us : List Vec) (m : Vec) (i : Nat) : mayAt (hs.map turnedV) (us.map turnedV) (turnedV m) i = mayAt hs us m i := by
  unfold mayAt
  rw [getD_turned, getD_turned, turned_mayS]
theorem turned_scored (hs us : List Vec) (m : Vec) (k : Nat) : scored (hs.map turnedV) (us.map turnedV) (turnedV m) k = scored hs us m k := by
  unfold scored
  congr 1
  funext i
  exact turned_stAt hs us m i
theorem turned_best (hs us : List Vec) (m : Vec) (l : List Nat) : bestF (hs.map turnedV) (us.map turnedV) (turnedV m) l = bestF hs us m l := by
  unfold bestF
  congr 1
  funext p i
  unfold betterP
  rw [turned_scAt]
theorem turned_allS (hs us : List Vec) (m : Vec) : allS (hs.map turnedV) (us.map turnedV) (turnedV m) = allS hs us m := by
  rw [Bool.eq_iff_iff, allS_yes, allS_yes]
  simp only [List.length_map, turned_mayAt]
theorem turned_bestR (hs us : List Vec) (m : Vec) : bestR (hs.map turnedV) (us.map turnedV) (turnedV m) = bestR hs us m := by
  unfold bestR bestV
  rw [turned_allS, List.length_map, turned_scored, turned_best]
end Go.Proofs.Ytbamgoocgmhohaa
