/- The law TicksNear of reevelaw09: the plain part. Conditions: none. -/
import Derived.Test.YtbamgoocgmhohaaTick4
import Derived.Test.YtbamgoocgmhohaaTTick
namespace Go.Proofs.Ytbamgoocgmhohaa
open Go.RowKit

theorem mx_raise (x y : Int) (l : List Int) (h : y ∈ l) (hx : x ≤ y) : mx x l = mx y l := by
  unfold mx
  induction l generalizing x y with
  | nil => cases h
  | cons z l ih =>
    simp only [List.foldl_cons]
    rcases List.mem_cons.1 h with rfl | h
    · rw [show max x y = y by omega, show max y y = y by omega]
    · by_cases hz : y ≤ z
      · rw [show max x z = z by omega, show max y z = z by omega]
      · rw [show max y z = y by omega]
        exact ih _ _ h (by omega)
theorem mn_lower (x y : Int) (l : List Int) (h : y ∈ l) (hx : y ≤ x) : mn x l = mn y l := by
  unfold mn
  induction l generalizing x y with
  | nil => cases h
  | cons z l ih =>
    simp only [List.foldl_cons]
    rcases List.mem_cons.1 h with rfl | h
    · rw [show min x y = y by omega, show min y y = y by omega]
    · by_cases hz : z ≤ y
      · rw [show min x z = z by omega, show min y z = z by omega]
      · rw [show min y z = y by omega]
        exact ih _ _ h (by omega)
theorem apart_from {xs : List Int} (hx : Times xs) : mx (-1) xs - mn 4611686018427387904 xs = apartL xs := by
  have hl : 0 < xs.length := hx.1.1
  have h0 : xs[0] ∈ xs := List.getElem_mem hl
  have hb := hx.2 _ h0
  unfold apartL
  rw [headD_eq xs hl, mx_raise (-1) xs[0] xs h0 (by omega), mn_lower 4611686018427387904 xs[0] xs h0 (by omega)]
theorem tick_more (ts : List Int) (nd y : Int) (j : Nat) (h : j < (tickL ts nd y).length) (h' : j < ts.length) : ts[j] ≤ (tickL ts nd y)[j] := by
  unfold tickL at *
  split at h
  · rename_i he
    simp only [he, if_true, List.getElem_set]
    split
    · rename_i hj
      subst hj
      have hy : ¬ (y < 0 ∨ 17592186044416 < y) := by
        intro hy
        unfold tickE at he
        split at he
        · simp at he
        · simp [hy] at he
      have hg : ts.getD nd.toNat 0 = ts[nd.toNat] := by simp [h']
      omega
    · exact Int.le_refl _
  · rename_i he
    simp only [he, if_false]
    exact Int.le_refl _
/-- What comes of nearness in a step. -/
theorem near_step (ts : List Int) (nd y bound : Int) (far : Bool) (h : far = false → apartL ts ≤ bound) :
    (tickF ts nd y bound far = false → far = false ∧ apartL (tickL ts nd y) ≤ bound) ∧ (far = false → tickF ts nd y bound far = true → bound < apartL (tickL ts nd y)) := by
  unfold tickF
  split
  · cases far <;> simp
  · rename_i he
    have hl : tickL ts nd y = ts := by unfold tickL; rw [if_neg he]
    rw [hl]
    refine ⟨fun hf => ⟨hf, h hf⟩, fun hf hf' => ?_⟩
    rw [hf] at hf'
    cases hf'
end Go.Proofs.Ytbamgoocgmhohaa
