/- Windows: whoever does it only where Add lets it, does it at most K times in any Window ticks in a row. Conditions: none. -/
import Derived.Test.YthlninijnbmjfaaWin16
namespace Go.Proofs.Ythlninijnbmjfaa
open Go.RowKit Go.Shelf

theorem sorted_snoc {xs : List Int} {x : Int} (h : sortedB xs = true) (hx : ∀ y ∈ xs, y ≤ x) : sortedB (xs ++ [x]) = true := by
  rw [sortedB_yes] at h ⊢
  intro i h0 hi
  simp only [List.length_append, List.length_singleton] at hi
  rcases (show i < xs.length ∨ i = xs.length by omega) with h' | rfl
  · have := h i h0 h'
    rw [getD_at (by omega), getD_at h'] at this
    rw [getD_at (by simp; omega), getD_at (by simp; omega), List.getElem_append_left (by omega), List.getElem_append_left h']
    exact this
  · rw [getD_at (by simp; omega), getD_at (by simp), List.getElem_append_left (by omega), List.getElem_append_right (by omega)]
    simp only [Nat.sub_self, List.getElem_singleton]
    exact hx _ (List.getElem_mem _)
theorem sorted_filter {xs : List Int} (p : Int → Bool) (h : sortedB xs = true) : sortedB (xs.filter p) = true := by
  induction xs with
  | nil => rfl
  | cons x xs ih =>
    obtain ⟨hs, hx⟩ := sorted_tail h
    by_cases hp : p x = true
    · rw [List.filter_cons_of_pos hp]
      have ih' := ih hs
      rw [sortedB_yes] at ih' ⊢
      intro i h0 hi
      obtain ⟨j, rfl⟩ : ∃ j, i = j + 1 := ⟨i - 1, by omega⟩
      simp only [List.length_cons] at hi
      rw [Nat.add_sub_cancel, List.getD_cons_succ]
      rcases Nat.eq_zero_or_pos j with rfl | hj
      · rw [List.getD_cons_zero, getD_at (by omega)]
        exact hx _ (List.mem_filter.1 (List.getElem_mem _)).1
      · obtain ⟨k, rfl⟩ : ∃ k, j = k + 1 := ⟨j - 1, by omega⟩
        rw [List.getD_cons_succ]
        exact ih' (k + 1) (by omega) (by omega)
    · rw [List.filter_cons_of_neg (by simpa using hp)]
      exact ih hs
/-- A list in order, parted at a bound. -/
theorem sorted_part {xs : List Int} (v : Int) (h : sortedB xs = true) : xs = xs.filter (fun t => !decide (v < t)) ++ xs.filter (fun t => decide (v < t)) := by
  induction xs with
  | nil => rfl
  | cons x xs ih =>
    obtain ⟨hs, hx⟩ := sorted_tail h
    by_cases hv : v < x
    · have e1 : (x :: xs).filter (fun t => !decide (v < t)) = [] := by
        rw [List.filter_eq_nil_iff]
        intro y hy
        have : v < y := by
          rcases List.mem_cons.1 hy with rfl | hy
          · exact hv
          · have := hx y hy; omega
        simp [this]
      have e2 : (x :: xs).filter (fun t => decide (v < t)) = x :: xs := by
        rw [List.filter_eq_self]
        intro y hy
        have : v < y := by
          rcases List.mem_cons.1 hy with rfl | hy
          · exact hv
          · have := hx y hy; omega
        simp [this]
      rw [e1, e2, List.nil_append]
    · rw [List.filter_cons_of_pos (by simp [hv]), List.filter_cons_of_neg (by simp [hv]), List.cons_append, ← ih hs]
/-- What holds from step to step: the ticks that are kept (l), all at which it was done (done), the time. -/
structure Held (b : Budget) (l done : List Int) (now : Int) : Prop where
  may : mayBud b = true
  sorted : sortedB l = true
  inl : ∀ x ∈ l, 0 ≤ x ∧ x ≤ now
  len : (l.length : Int) ≤ b.k
  apart : ∃ d, done = d ++ l ∧ ∀ x ∈ d, 0 ≤ x ∧ x + b.window ≤ now
  far : ∀ i, i + b.k.toNat < done.length → done.getD i 0 + b.window ≤ done.getD (i + b.k.toNat) 0
theorem Held.start {b : Budget} (h : mayBud b = true) : Held b [] [] 0 :=
  ⟨h, rfl, fun _ h => by simp at h, by unfold mayBud at h; simp only [Bool.and_eq_true, decide_eq_true_eq] at h; simp; omega, ⟨[], rfl, fun _ h => by simp at h⟩, fun i h => by simp at h⟩
theorem Held.mayW {b : Budget} {l done : List Int} {now t : Int} (h : Held b l done now) (h0 : 0 ≤ now) (ht : now ≤ t) (ht2 : t ≤ 4611686018427387904) : mayW b l t = true := by
  unfold Go.Proofs.Ythlninijnbmjfaa.mayW timedB
  simp only [Bool.and_eq_true, decide_eq_true_eq]
  refine ⟨h.may, ⟨by omega, ht2⟩, h.sorted, ?_⟩
  unfold inB
  rw [List.all_eq_true]
  intro x hx
  have := h.inl x hx
  unfold oddB
  simp only [Bool.not_eq_true', Bool.or_eq_false_iff, decide_eq_false_iff_not]
  omega
theorem Held.later {b : Budget} {l done : List Int} {now t : Int} (h : Held b l done now) (ht : now ≤ t) : Held b l done t :=
  ⟨h.may, h.sorted, fun x hx => by have := h.inl x hx; omega, h.len, h.apart.imp fun d hd => ⟨hd.1, fun x hx => by have := hd.2 x hx; omega⟩, h.far⟩
theorem Held.step {b : Budget} {l done : List Int} {now t : Int} (h : Held b l done now) (h0 : 0 ≤ now) (ht : now ≤ t) (ht2 : t ≤ 4611686018427387904) (ha : allowW b l t = true) : Held b (wit b.window t l ++ [t]) (done ++ [t]) t := by
  have hm := h.mayW h0 ht ht2
  obtain ⟨m1, m2, m3, m4, m5⟩ := mayW_parts hm
  have hc := cntW_over hm (Int.le_refl t) ht2
  unfold allowW at ha
  rw [hm, Bool.true_and, decide_eq_true_eq, hc] at ha
  have hw : wit b.window t l = l.filter fun x => decide (t - b.window < x) := (since_wit m5).symm
  have hwl : (wit b.window t l).length = over (t - b.window) l := by rw [hw]; rfl
  obtain ⟨d, hd, hd2⟩ := h.apart
  have hsub : ∀ x ∈ wit b.window t l, 0 ≤ x ∧ x ≤ t := fun x hx => by
    rw [hw] at hx
    have := h.inl x (List.mem_filter.1 hx).1
    omega
  refine ⟨h.may, sorted_snoc (by rw [hw]; exact sorted_filter _ h.sorted) (fun y hy => (hsub y hy).2), fun x hx => ?_, ?_, ⟨d ++ l.filter (fun x => !decide (t - b.window < x)), ?_, fun x hx => ?_⟩, fun i hi => ?_⟩
  · rcases List.mem_append.1 hx with hx | hx
    · exact hsub x hx
    · rw [List.mem_singleton.1 hx]; omega
  · rw [List.length_append, List.length_singleton, hwl]
    omega
  · rw [hd, List.append_assoc, List.append_assoc, ← List.append_assoc (l.filter _), hw, ← sorted_part _ h.sorted]
  · rcases List.mem_append.1 hx with hx | hx
    · have := hd2 x hx; omega
    · obtain ⟨q1, q2⟩ := List.mem_filter.1 hx
      have := h.inl x q1
      simp only [Bool.not_eq_true', decide_eq_false_iff_not] at q2
      omega
  · rw [List.length_append, List.length_singleton] at hi
    have hK : 0 < b.k.toNat := by omega
    rcases (show i + b.k.toNat < done.length ∨ i + b.k.toNat = done.length by omega) with h' | h'
    · have := h.far i h'
      rw [getD_at (by omega), getD_at h'] at this
      rw [getD_at (by simp; omega), getD_at (by simp; omega), List.getElem_append_left (by omega), List.getElem_append_left h']
      exact this
    · rw [getD_at (by simp; omega), getD_at (by simp; omega), List.getElem_append_left (by omega), List.getElem_append_right (by omega)]
      simp only [h', Nat.sub_self, List.getElem_singleton]
      by_cases hdl : i < d.length
      · have : done[i]'(by omega) ∈ d := by
          simp only [hd]
          rw [List.getElem_append_left hdl]
          exact List.getElem_mem _
        have := hd2 _ this
        omega
      · have hdn : done.length = d.length + l.length := by rw [hd, List.length_append]
        have e : done[i]'(by omega) = l.getD (l.length - b.k.toNat) 0 := by
          simp only [hd]
          rw [List.getElem_append_right (by omega), getD_at (by omega)]
          congr 1
          omega
        rw [e]
        have := over_iff (t - b.window) l h.sorted b.k.toNat hK
        by_cases hv : t - b.window < l.getD (l.length - b.k.toNat) 0
        · have := this.2 ⟨by omega, hv⟩
          omega
        · omega
end Go.Proofs.Ythlninijnbmjfaa
