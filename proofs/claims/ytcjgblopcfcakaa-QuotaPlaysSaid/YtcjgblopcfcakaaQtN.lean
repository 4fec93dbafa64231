/- The document's answer for names. Conditions: the strings are within the reach. -/
import Derived.Test.YtcjgblopcfcakaaSpec1
namespace Go.Proofs.Ytcjgblopcfcakaa
open Go.RowKit

/-- The name is right up to a place. -/
def Pre (s : ByteArray) (k : Nat) : Prop := ∀ j (h : j < s.size), j < k → okC s[j].toNat = true ∧ (j = 0 → small s[j].toNat = true)
theorem get_zero {s : ByteArray} (h : 0 < s.size) : s.get! 0 = s[0] := by simp [ByteArray.get!, h]; rfl
theorem name_bad {s : ByteArray} {k : Nat} (hk : k < s.size) (h : okC s[k].toNat = false ∨ (k = 0 ∧ small s[k].toNat = false)) : nameB s = false := by
  unfold nameB
  rcases h with h | ⟨rfl, h⟩
  · have : (s.data.toList.all fun x => okC x.toNat) = false := by
      rw [List.all_eq_false]
      exact ⟨s[k], List.getElem_mem (l := s.data.toList) (n := k) (by simpa using hk), by rw [h]; decide⟩
    rw [this, Bool.and_false]
  · rw [get_zero hk, h]
    simp
theorem name_good {s : ByteArray} (h1 : 1 ≤ s.size) (h2 : s.size ≤ 32) (h : Pre s s.size) : nameB s = true := by
  unfold nameB
  have h0 : 0 < s.size := h1
  rw [get_zero h0, (h 0 h0 h0).2 rfl, decide_eq_true h1, decide_eq_true h2]
  simp only [Bool.true_and]
  rw [List.all_eq_true]
  intro x hx
  obtain ⟨j, hj, rfl⟩ := List.getElem_of_mem hx
  have hj' : j < s.size := by simpa using hj
  exact (h j hj' hj').1
theorem name_short {s : ByteArray} (h : ¬ 1 ≤ s.size ∨ ¬ s.size ≤ 32) : nameB s = false := by
  unfold nameB
  rcases h with h | h
  · rw [decide_eq_false h]; rfl
  · rw [decide_eq_false h]; simp
set_option maxRecDepth 100000 in
set_option maxHeartbeats 8000000 in
theorem ref_Name (s : ByteArray) (w : World) :
    Calls Try.prog 38 #[.string s] w fun e w' => e = .returned (.bool (nameB s)) ∧ w = w' := by
  by_cases h0 : s.size < 1
  · rw [name_short (.inl (by omega))]
    go_enter Try.func38, Try.ntmps38
    go_wp2
    go_ret
    exact ⟨rfl, rfl⟩
  · by_cases h1 : 32 < s.size
    · rw [name_short (.inr (by omega))]
      go_enter Try.func38, Try.ntmps38
      go_wp2
      go_ret
      exact ⟨rfl, rfl⟩
    · have HG := Lib.hid (fun h => name_good (s := s) (by omega) (by omega) h)
      have HBad := Lib.hid (fun k (hk : k < s.size) h => name_bad hk h)
      generalize nameB s = z at *
      go_enter Try.func38, Try.ntmps38
      go_wp2_with fail
      go_loop [3] (fun i => ∃ k : Nat, k ≤ s.size ∧ i = .int .i64 k ∧ Pre s k) (fun i => s.size - (intOf i).toNat)
      case atStart => exact ⟨0, Nat.zero_le _, rfl, fun j _ hj => absurd hj (Nat.not_lt_zero _)⟩
      case round =>
        obtain ⟨k, hk, rfl, hpre⟩ := hrel
        have HP := Lib.hid hpre
        clear hpre
        by_cases hlt : k < s.size
        · have HB := Lib.hid (HBad.out k hlt)
          have HS : Hid (okC s[k].toNat = true → (k = 0 → small s[k].toNat = true) → Pre s (k + 1)) := Lib.hid (fun a b j hj hjk => by
            rcases Nat.lt_or_ge j k with h | h
            · exact HP.out j hj h
            · obtain rfl : j = k := by omega
              exact ⟨a, b⟩)
          obtain ⟨n, hn⟩ : ∃ n, n = s[k].toNat := ⟨_, rfl⟩
          rw [← hn] at HB HS
          have hn' : ((s[k]'hlt).toNat : Int) = (n : Int) := by rw [hn]
          clear hn
          rcases (show (97 ≤ n ∧ n ≤ 122) ∨ (48 ≤ n ∧ n ≤ 57) ∨ n = 46 ∨ n = 95 ∨ n = 45 ∨ n < 45 ∨ n = 47 ∨ (58 ≤ n ∧ n ≤ 94) ∨ n = 96 ∨ 122 < n by omega) with h | h | h | h | h | h | h | h | h | h
          · obtain ⟨ha, hb⟩ := h
            have hP : Hid (Pre s (k + 1)) := Lib.hid (HS.out (by simp [okC, small, ha, hb]) (fun _ => by simp [small, ha, hb]))
            go_wp2
            go_round
            case rel => exact ⟨k + 1, by omega, by go_num, hP.out⟩
            case measure => simp [intOf]; omega
          · have hs0 : small n = false := by simp [small]; omega
            have ho : okC n = true := by simp [okC, small]; omega
            obtain ⟨ha, hb⟩ := h
            by_cases hk0 : k = 0
            · subst hk0
              have hz : Hid (z = false) := Lib.hid (HB.out (.inr ⟨rfl, hs0⟩))
              clear hs0 ho
              go_wp2
              go_ret
              exact ⟨by rw [hz.out]; rfl, rfl⟩
            · have hP : Hid (Pre s (k + 1)) := Lib.hid (HS.out ho (fun e => absurd e hk0))
              clear hs0 ho
              go_wp2
              go_round
              case rel => exact ⟨k + 1, by omega, by go_num, hP.out⟩
              case measure => simp [intOf]; omega
          · have hs0 : small n = false := by simp [small]; omega
            have ho : okC n = true := by simp [okC, small]; omega
            subst h
            by_cases hk0 : k = 0
            · subst hk0
              have hz : Hid (z = false) := Lib.hid (HB.out (.inr ⟨rfl, hs0⟩))
              clear hs0 ho
              go_wp2
              go_ret
              exact ⟨by rw [hz.out]; rfl, rfl⟩
            · have hP : Hid (Pre s (k + 1)) := Lib.hid (HS.out ho (fun e => absurd e hk0))
              clear hs0 ho
              go_wp2
              go_round
              case rel => exact ⟨k + 1, by omega, by go_num, hP.out⟩
              case measure => simp [intOf]; omega
          · have hs0 : small n = false := by simp [small]; omega
            have ho : okC n = true := by simp [okC, small]; omega
            subst h
            by_cases hk0 : k = 0
            · subst hk0
              have hz : Hid (z = false) := Lib.hid (HB.out (.inr ⟨rfl, hs0⟩))
              clear hs0 ho
              go_wp2
              go_ret
              exact ⟨by rw [hz.out]; rfl, rfl⟩
            · have hP : Hid (Pre s (k + 1)) := Lib.hid (HS.out ho (fun e => absurd e hk0))
              clear hs0 ho
              go_wp2
              go_round
              case rel => exact ⟨k + 1, by omega, by go_num, hP.out⟩
              case measure => simp [intOf]; omega
          · have hs0 : small n = false := by simp [small]; omega
            have ho : okC n = true := by simp [okC, small]; omega
            subst h
            by_cases hk0 : k = 0
            · subst hk0
              have hz : Hid (z = false) := Lib.hid (HB.out (.inr ⟨rfl, hs0⟩))
              clear hs0 ho
              go_wp2
              go_ret
              exact ⟨by rw [hz.out]; rfl, rfl⟩
            · have hP : Hid (Pre s (k + 1)) := Lib.hid (HS.out ho (fun e => absurd e hk0))
              clear hs0 ho
              go_wp2
              go_round
              case rel => exact ⟨k + 1, by omega, by go_num, hP.out⟩
              case measure => simp [intOf]; omega
          · have ho : okC n = false := by simp [okC, small]; omega
            have hz : Hid (z = false) := Lib.hid (HB.out (.inl ho))
            have e1 : ((n : Int) == 46) = false := by rw [beq_eq_false_iff_ne]; omega
            have e2 : ((n : Int) == 95) = false := by rw [beq_eq_false_iff_ne]; omega
            have e3 : ((n : Int) == 45) = false := by rw [beq_eq_false_iff_ne]; omega
            clear ho
            by_cases hk0 : k = 0
            · subst hk0
              go_wp2
              all_goals first | (go_ret; exact ⟨by rw [hz.out]; rfl, rfl⟩) | (exfalso; omega) | (exfalso; simp at *; omega)
            · go_wp2
              all_goals first | (go_ret; exact ⟨by rw [hz.out]; rfl, rfl⟩) | (exfalso; omega) | (exfalso; simp at *; omega)
          · have ho : okC n = false := by simp [okC, small]; omega
            have hz : Hid (z = false) := Lib.hid (HB.out (.inl ho))
            have e1 : ((n : Int) == 46) = false := by rw [beq_eq_false_iff_ne]; omega
            have e2 : ((n : Int) == 95) = false := by rw [beq_eq_false_iff_ne]; omega
            have e3 : ((n : Int) == 45) = false := by rw [beq_eq_false_iff_ne]; omega
            clear ho
            by_cases hk0 : k = 0
            · subst hk0
              go_wp2
              all_goals first | (go_ret; exact ⟨by rw [hz.out]; rfl, rfl⟩) | (exfalso; omega) | (exfalso; simp at *; omega)
            · go_wp2
              all_goals first | (go_ret; exact ⟨by rw [hz.out]; rfl, rfl⟩) | (exfalso; omega) | (exfalso; simp at *; omega)
          · obtain ⟨ha, hb⟩ := h
            have ho : okC n = false := by simp [okC, small]; omega
            have hz : Hid (z = false) := Lib.hid (HB.out (.inl ho))
            have e1 : ((n : Int) == 46) = false := by rw [beq_eq_false_iff_ne]; omega
            have e2 : ((n : Int) == 95) = false := by rw [beq_eq_false_iff_ne]; omega
            have e3 : ((n : Int) == 45) = false := by rw [beq_eq_false_iff_ne]; omega
            clear ho
            by_cases hk0 : k = 0
            · subst hk0
              go_wp2
              all_goals first | (go_ret; exact ⟨by rw [hz.out]; rfl, rfl⟩) | (exfalso; omega) | (exfalso; simp at *; omega)
            · go_wp2
              all_goals first | (go_ret; exact ⟨by rw [hz.out]; rfl, rfl⟩) | (exfalso; omega) | (exfalso; simp at *; omega)
          · have ho : okC n = false := by simp [okC, small]; omega
            have hz : Hid (z = false) := Lib.hid (HB.out (.inl ho))
            have e1 : ((n : Int) == 46) = false := by rw [beq_eq_false_iff_ne]; omega
            have e2 : ((n : Int) == 95) = false := by rw [beq_eq_false_iff_ne]; omega
            have e3 : ((n : Int) == 45) = false := by rw [beq_eq_false_iff_ne]; omega
            clear ho
            by_cases hk0 : k = 0
            · subst hk0
              go_wp2
              all_goals first | (go_ret; exact ⟨by rw [hz.out]; rfl, rfl⟩) | (exfalso; omega) | (exfalso; simp at *; omega)
            · go_wp2
              all_goals first | (go_ret; exact ⟨by rw [hz.out]; rfl, rfl⟩) | (exfalso; omega) | (exfalso; simp at *; omega)
          · have ho : okC n = false := by simp [okC, small]; omega
            have hz : Hid (z = false) := Lib.hid (HB.out (.inl ho))
            have e1 : ((n : Int) == 46) = false := by rw [beq_eq_false_iff_ne]; omega
            have e2 : ((n : Int) == 95) = false := by rw [beq_eq_false_iff_ne]; omega
            have e3 : ((n : Int) == 45) = false := by rw [beq_eq_false_iff_ne]; omega
            clear ho
            by_cases hk0 : k = 0
            · subst hk0
              go_wp2
              all_goals first | (go_ret; exact ⟨by rw [hz.out]; rfl, rfl⟩) | (exfalso; omega) | (exfalso; simp at *; omega)
            · go_wp2
              all_goals first | (go_ret; exact ⟨by rw [hz.out]; rfl, rfl⟩) | (exfalso; omega) | (exfalso; simp at *; omega)
        · obtain rfl : k = s.size := by omega
          have hz : Hid (z = true) := Lib.hid (HG.out HP.out)
          go_wp2
          go_ret
          exact ⟨by rw [hz.out]; rfl, rfl⟩
end Go.Proofs.Ytcjgblopcfcakaa
