/- The law FrameBack: the plain part: frames that are put together, and cut. Conditions: none. -/
import Derived.Test.YthlninijnbmjfaaFr4
namespace Go.Proofs.Ythlninijnbmjfaa

/-- The frames of texts, one behind the other. -/
def framesL : List (List UInt8) → List UInt8
  | [] => []
  | t :: ts => frameL t ++ framesL ts
theorem framesL_append (l m : List (List UInt8)) : framesL (l ++ m) = framesL l ++ framesL m := by
  induction l with
  | nil => rfl
  | cons t ts ih => simp only [List.cons_append, framesL, ih, List.append_assoc]
theorem framesL_one (t : List UInt8) : framesL [t] = frameL t := by simp [framesL]
theorem framesL_snoc (ts : List (List UInt8)) (i : Nat) (h : i < ts.length) : framesL (ts.take (i + 1)) = framesL (ts.take i) ++ frameL ts[i] := by
  rw [List.take_succ_eq_append_getElem h, framesL_append, framesL_one]
/-- Where the first i frames end. -/
def endL (ts : List (List UInt8)) (i : Nat) : Nat := (framesL (ts.take i)).length
theorem endL_zero (ts : List (List UInt8)) : endL ts 0 = 0 := by simp [endL, framesL]
theorem endL_succ (ts : List (List UInt8)) (i : Nat) (h : i < ts.length) : endL ts (i + 1) = endL ts i + (ts[i].length + 8) := by
  unfold endL
  rw [framesL_snoc ts i h, List.length_append, frameL_len]
theorem endL_all (ts : List (List UInt8)) : endL ts ts.length = (framesL ts).length := by unfold endL; rw [List.take_length]
theorem endL_le (ts : List (List UInt8)) (i j : Nat) (hij : i ≤ j) (hj : j ≤ ts.length) : endL ts i ≤ endL ts j := by
  induction j with
  | zero => obtain rfl : i = 0 := by omega
            exact Nat.le_refl _
  | succ j ih =>
    by_cases h : i = j + 1
    · subst h; exact Nat.le_refl _
    · have := ih (by omega) (by omega)
      have := endL_succ ts j (by omega)
      omega
theorem scan_frames : ∀ (ts : List (List UInt8)) (_ : ∀ t ∈ ts, t.length ≤ 65536) (r : List UInt8), scan (framesL ts ++ r) = (ts ++ (scan r).1, (framesL ts).length + (scan r).2.1, (scan r).2.2)
  | [], _, r => by simp [framesL]
  | t :: ts, h, r => by
    obtain ⟨hE, hT, hN⟩ := read_frame t (framesL ts ++ r) (h t (by simp))
    have ih := scan_frames ts (fun x hx => h x (by simp [hx])) r
    have hd : (frameL t ++ (framesL ts ++ r)).drop (t.length + 8) = framesL ts ++ r := by rw [← frameL_len t, List.drop_left]
    show scan (frameL t ++ framesL ts ++ r) = _
    rw [List.append_assoc, scan_go hE, hT, hN, hd, ih]
    simp [framesL, frameL_len, Nat.add_assoc]
theorem scan_whole (ts : List (List UInt8)) (h : ∀ t ∈ ts, t.length ≤ 65536) : scan (framesL ts) = (ts, (framesL ts).length, 0) := by
  have := scan_frames ts h []
  rw [List.append_nil, scan_nil] at this
  simpa using this
/-- How many are whole, as it is found. -/
def wholeL (ts : List (List UInt8)) (cut : Nat) : Nat → Nat
  | 0 => 0
  | i + 1 => if endL ts (i + 1) ≤ cut then i + 1 else wholeL ts cut i
theorem whole_spec (ts : List (List UInt8)) (cut : Nat) : ∀ i, wholeL ts cut i ≤ i ∧ endL ts (wholeL ts cut i) ≤ cut ∧ ∀ j, wholeL ts cut i < j → j ≤ i → cut < endL ts j
  | 0 => ⟨Nat.le_refl _, by rw [show wholeL ts cut 0 = 0 from rfl, endL_zero]; exact Nat.zero_le _, fun j h1 h2 => by rw [show wholeL ts cut 0 = 0 from rfl] at h1; omega⟩
  | i + 1 => by
    obtain ⟨h1, h2, h3⟩ := whole_spec ts cut i
    unfold wholeL
    by_cases h : endL ts (i + 1) ≤ cut
    · rw [if_pos h]
      exact ⟨Nat.le_refl _, h, fun j h4 h5 => by omega⟩
    · rw [if_neg h]
      refine ⟨by omega, h2, fun j h4 h5 => ?_⟩
      by_cases hj : j = i + 1
      · subst hj; omega
      · exact h3 j h4 (by omega)
theorem scan_cut (ts : List (List UInt8)) (h : ∀ t ∈ ts, t.length ≤ 65536) (cut : Nat) (hc : cut ≤ (framesL ts).length) :
    scan ((framesL ts).take cut) = (ts.take (wholeL ts cut ts.length), endL ts (wholeL ts cut ts.length), if endL ts (wholeL ts cut ts.length) = cut then 0 else 40) := by
  obtain ⟨h1, h2, h3⟩ := whole_spec ts cut ts.length
  generalize wholeL ts cut ts.length = m at *
  have e1 : framesL ts = framesL (ts.take m) ++ framesL (ts.drop m) := by rw [← framesL_append, List.take_append_drop]
  have e2 : (framesL ts).take cut = framesL (ts.take m) ++ (framesL (ts.drop m)).take (cut - endL ts m) := by
    rw [e1, List.take_append, List.take_of_length_le h2]; rfl
  have ht : ∀ t ∈ ts.take m, t.length ≤ 65536 := fun t ht => h t (List.mem_of_mem_take ht)
  rw [e2, scan_frames _ ht]
  by_cases hm : endL ts m = cut
  · rw [if_pos hm, show cut - endL ts m = 0 by omega, List.take_zero, scan_nil]
    simp [endL]
  · rw [if_neg hm]
    have hlt : m < ts.length := by
      rcases Nat.lt_or_ge m ts.length with hlt | hge
      · exact hlt
      · obtain rfl : m = ts.length := by omega
        rw [endL_all] at hm h2
        omega
    have h4 := h3 (m + 1) (by omega) (by omega)
    rw [endL_succ ts m hlt] at h4
    have e3 : ts.drop m = ts[m] :: ts.drop (m + 1) := List.drop_eq_getElem_cons hlt
    have hx : ts[m].length ≤ 65536 := h _ (List.getElem_mem hlt)
    rw [e3]
    show ((ts.take m) ++ (scan ((frameL ts[m] ++ framesL (ts.drop (m + 1))).take (cut - endL ts m))).1, _, _) = _
    have e4 : (frameL ts[m] ++ framesL (ts.drop (m + 1))).take (cut - endL ts m) = (frameL ts[m]).take (cut - endL ts m) := List.take_append_of_le_length (by rw [frameL_len]; omega)
    have e5 := read_torn ts[m] (cut - endL ts m) hx (by omega)
    have e6 : scan ((frameL ts[m]).take (cut - endL ts m)) = ([], 0, 40) := by
      rw [scan_stop ?_ (by rw [e5]; decide), e5]
      intro e
      have := congrArg List.length e
      rw [List.length_take, frameL_len] at this
      simp at this
      omega
    simp only [framesL]
    rw [e4, e6]
    simp [endL]
end Go.Proofs.Ythlninijnbmjfaa
