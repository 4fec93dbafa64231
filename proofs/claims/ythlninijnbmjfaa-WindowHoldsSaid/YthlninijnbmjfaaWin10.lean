/- Windows: when it may be done next. Conditions: none. -/
import Derived.Test.YthlninijnbmjfaaWin9
namespace Go.Proofs.Ythlninijnbmjfaa
open Go.RowKit Go.Shelf

theorem sorted_mono {xs : List Int} (h : sortedB xs = true) {i j : Nat} (hij : i ≤ j) (hj : j < xs.length) : xs.getD i 0 ≤ xs.getD j 0 := by
  induction j with
  | zero =>
    obtain rfl : i = 0 := by omega
    exact Int.le_refl _
  | succ j ih =>
    rcases (show i ≤ j ∨ i = j + 1 by omega) with h' | rfl
    · have h1 := ih h' (by omega)
      have h2 := sortedB_yes.1 h (j + 1) (by omega) hj
      rw [Nat.add_sub_cancel] at h2
      omega
    · exact Int.le_refl _
theorem sorted_tail {x : Int} {xs : List Int} (h : sortedB (x :: xs) = true) : sortedB xs = true ∧ ∀ y ∈ xs, x ≤ y := by
  refine ⟨sortedB_yes.2 fun i h0 hi => ?_, fun y hy => ?_⟩
  · have := sortedB_yes.1 h (i + 1) (by omega) (by simpa using hi)
    obtain ⟨j, rfl⟩ : ∃ j, i = j + 1 := ⟨i - 1, by omega⟩
    simpa using this
  · obtain ⟨i, hi, rfl⟩ := List.getElem_of_mem hy
    have := sorted_mono h (i := 0) (j := i + 1) (by omega) (by simpa using hi)
    simpa [List.getD, hi] using this
/-- How many are greater. -/
def over (v : Int) (xs : List Int) : Nat := (xs.filter fun t => decide (v < t)).length
theorem over_le (v : Int) (xs : List Int) : over v xs ≤ xs.length := List.length_filter_le _ _
/-- In a list in order, m are greater if the m-th from behind is. -/
theorem over_iff (v : Int) : ∀ (xs : List Int), sortedB xs = true → ∀ m, 0 < m → (m ≤ over v xs ↔ m ≤ xs.length ∧ v < xs.getD (xs.length - m) 0)
  | [], _, m, hm => by
    have := over_le v []
    simp at this
    simp [this]
    omega
  | x :: xs, h, m, hm => by
    obtain ⟨hs, hx⟩ := sorted_tail h
    have ih := over_iff v xs hs m hm
    have hle := over_le v xs
    by_cases hv : v < x
    · have e : over v (x :: xs) = xs.length + 1 := by
        unfold over
        rw [List.filter_eq_self.2 (fun y hy => by
          rcases List.mem_cons.1 hy with rfl | hy
          · simpa using hv
          · have := hx y hy; simp; omega)]
        rfl
      rw [e, List.length_cons]
      constructor
      · intro h'
        refine ⟨h', ?_⟩
        have hge : x ≤ (x :: xs).getD (xs.length + 1 - m) 0 := by
          have := sorted_mono h (i := 0) (j := xs.length + 1 - m) (by omega) (by simp; omega)
          simpa using this
        omega
      · exact fun h' => h'.1
    · have e : over v (x :: xs) = over v xs := by
        unfold over
        rw [List.filter_cons_of_neg (by simpa using hv)]
      rw [e, List.length_cons]
      rcases (show m ≤ xs.length ∨ m = xs.length + 1 ∨ xs.length + 1 < m by omega) with h' | rfl | h'
      · rw [ih, show xs.length + 1 - m = (xs.length - m) + 1 by omega, List.getD_cons_succ]
        constructor
        · rintro ⟨a, b⟩; exact ⟨by omega, b⟩
        · rintro ⟨a, b⟩; exact ⟨h', b⟩
      · rw [Nat.sub_self, List.getD_cons_zero]
        constructor
        · intro h'; omega
        · rintro ⟨_, b⟩; exact absurd b hv
      · constructor
        · intro h'; omega
        · rintro ⟨a, _⟩; omega
theorem wit_over {wn now : Int} {xs : List Int} (h : inB xs now = true) {t : Int} (ht : now ≤ t) : (wit wn t xs).length = over (t - wn) xs := by
  have h' : inB xs t = true := by
    unfold inB at h ⊢
    rw [List.all_eq_true] at h ⊢
    intro x hx
    have := h x hx
    unfold oddB at this ⊢
    simp only [Bool.not_eq_true', Bool.or_eq_false_iff, decide_eq_false_iff_not] at this ⊢
    omega
  rw [← since_wit h']
  rfl
theorem mayW_parts {b : Budget} {xs : List Int} {now : Int} (h : mayW b xs now = true) : (0 ≤ b.k ∧ b.k ≤ 64) ∧ (1 ≤ b.window ∧ b.window ≤ 4294967296) ∧ (0 ≤ now ∧ now ≤ 4611686018427387904) ∧ sortedB xs = true ∧ inB xs now = true := by
  unfold mayW mayBud timedB at h
  simp only [Bool.and_eq_true, decide_eq_true_eq] at h
  exact ⟨⟨h.1.1, h.1.2.1⟩, ⟨h.1.2.2.1, h.1.2.2.2⟩, h.2.1, h.2.2.1, h.2.2.2⟩
theorem cntW_over {b : Budget} {xs : List Int} {now : Int} (h : mayW b xs now = true) {t : Int} (ht : now ≤ t) (ht2 : t ≤ 4611686018427387904) : cntW xs b.window t = over (t - b.window) xs := by
  obtain ⟨_, h2, h3, _, h5⟩ := mayW_parts h
  unfold cntW
  rw [if_pos (winB_yes.2 ⟨h2.1, h2.2, by omega, ht2⟩), wit_over h5 ht]
/-- The tick of which Next speaks: the last but K - 1. -/
def lastK (b : Budget) (xs : List Int) : Int := xs.getD (xs.length - b.k.toNat) 0
def nextW (b : Budget) (xs : List Int) (now : Int) : Int × Int :=
  if mayW b xs now = true then (if b.k = 0 then (0, 5) else if allowW b xs now = true then (now, 0) else if 4611686018427387904 < lastK b xs + b.window then (0, 5) else (lastK b xs + b.window, 0)) else (0, 2)
/-- Where it may not be done now, the last K are within the window. -/
theorem lastK_in {b : Budget} {xs : List Int} {now : Int} (h : mayW b xs now = true) (hk : b.k ≠ 0) (ha : allowW b xs now = false) : b.k.toNat ≤ xs.length ∧ now - b.window < lastK b xs ∧ 0 ≤ lastK b xs ∧ lastK b xs ≤ now := by
  obtain ⟨h1, h2, h3, h4, h5⟩ := mayW_parts h
  have hc := cntW_over h (Int.le_refl now) h3.2
  unfold allowW at ha
  rw [h, Bool.true_and, decide_eq_false_iff_not, hc] at ha
  have hm := (over_iff (now - b.window) xs h4 b.k.toNat (by omega)).1 (by omega)
  refine ⟨hm.1, hm.2, ?_⟩
  have := inB_yes.1 h5 (xs.length - b.k.toNat) (by omega)
  unfold oddB at this
  simp only [Bool.or_eq_false_iff, decide_eq_false_iff_not] at this
  unfold lastK
  omega
/-- At a later time it may be done if the last but K - 1 is no more within the window. -/
theorem cnt_later {b : Budget} {xs : List Int} {now : Int} (h : mayW b xs now = true) (hk : b.k ≠ 0) (hl : b.k.toNat ≤ xs.length) {t : Int} (ht : now ≤ t) (ht2 : t ≤ 4611686018427387904) : (cntW xs b.window t : Int) < b.k ↔ lastK b xs + b.window ≤ t := by
  obtain ⟨h1, h2, h3, h4, h5⟩ := mayW_parts h
  rw [cntW_over h ht ht2]
  have hm := over_iff (t - b.window) xs h4 b.k.toNat (by omega)
  unfold lastK
  constructor
  · intro h'
    by_cases hc : t - b.window < xs.getD (xs.length - b.k.toNat) 0
    · have := hm.2 ⟨hl, hc⟩
      omega
    · omega
  · intro h'
    by_cases hc : b.k.toNat ≤ over (t - b.window) xs
    · have := (hm.1 hc).2
      omega
    · omega
theorem nextW_bd {b : Budget} {xs : List Int} {now : Int} : True := trivial
/-- What the reference asks of a tick. -/
def okN (b : Budget) (xs : List Int) (now : Int) (x : Int) : Prop := now < x + b.window ∧ x + b.window ≤ 4611686018427387904 ∧ (cntW xs b.window (x + b.window) : Int) < b.k
theorem next_yes {b : Budget} {xs : List Int} {now : Int} (h : mayW b xs now = true) (hk : b.k ≠ 0) (ha : allowW b xs now = false) {i : Nat} (hi : i < xs.length) (ho : okN b xs now (xs.getD i 0)) (hbef : ∀ j, j < i → ¬ okN b xs now (xs.getD j 0)) : nextW b xs now = (xs.getD i 0 + b.window, 0) := by
  obtain ⟨hl, h1, h2, h3⟩ := lastK_in h hk ha
  obtain ⟨p1, p2, p3, p4, p5⟩ := mayW_parts h
  have hc := (cnt_later h hk hl (by have := ho.1; omega) ho.2.1).1 ho.2.2
  have e : lastK b xs = xs.getD i 0 := by
    rcases Nat.lt_or_ge (xs.length - b.k.toNat) i with hj | hj
    · exfalso
      refine hbef _ hj ⟨?_, ?_, ?_⟩
      · unfold lastK at h1; omega
      · have := sorted_mono p4 (i := xs.length - b.k.toNat) (j := i) (by omega) hi
        have := ho.2.1
        omega
      · have hle := sorted_mono p4 (i := xs.length - b.k.toNat) (j := i) (by omega) hi
        have h2' := ho.2.1
        exact (cnt_later h hk hl (by unfold lastK at h1; omega) (by omega)).2 (by unfold lastK; omega)
    · have := sorted_mono p4 (i := i) (j := xs.length - b.k.toNat) hj (by omega)
      unfold lastK at hc ⊢
      omega
  unfold nextW
  rw [if_pos h, if_neg hk, ha, if_neg (by simp), e, if_neg (by have := ho.2.1; omega)]
theorem next_no {b : Budget} {xs : List Int} {now : Int} (h : mayW b xs now = true) (hk : b.k ≠ 0) (ha : allowW b xs now = false) (hno : ∀ j, j < xs.length → ¬ okN b xs now (xs.getD j 0)) : nextW b xs now = (0, 5) := by
  obtain ⟨hl, h1, h2, h3⟩ := lastK_in h hk ha
  obtain ⟨p1, p2, p3, p4, p5⟩ := mayW_parts h
  unfold nextW
  rw [if_pos h, if_neg hk, ha, if_neg (by simp)]
  by_cases hm : 4611686018427387904 < lastK b xs + b.window
  · rw [if_pos hm]
  · exfalso
    refine hno (xs.length - b.k.toNat) (by omega) ⟨?_, ?_, ?_⟩
    · unfold lastK at h1; omega
    · unfold lastK at hm; omega
    · exact (cnt_later h hk hl (by unfold lastK at h1; omega) (by unfold lastK at hm; omega)).2 (by unfold lastK; omega)
end Go.Proofs.Ythlninijnbmjfaa
