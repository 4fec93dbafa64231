/- Lists of shares that may be a ledger's; equal lists. Conditions: what comes in is of its kind. -/
import Derived.Test.YtcjgblopcfcakaaQt17c
namespace Go.Proofs.Ytcjgblopcfcakaa
open Go.RowKit Go.MapKept

def okS (s : Share) : Bool := nameB s.user && (bandB s.band && (mayV s.quota && fitsV zeroV s.used))
/-- May a list be a ledger's? -/
def Good (ls : List Share) : Prop := (∀ j (h : j < ls.length), okS ls[j] = true ∧ (0 < j → ∀ h' : j - 1 < ls.length, ltK ls[j - 1].user ls[j - 1].band ls[j] = true)) ∧ ls.length ≤ 64
noncomputable def goodB (ls : List Share) : Bool := @decide (Good ls) (Classical.propDecidable _)
theorem goodB_true {ls : List Share} (h : Good ls) : goodB ls = true := by unfold goodB; exact @decide_eq_true _ (Classical.propDecidable _) h
theorem goodB_false {ls : List Share} (h : ¬ Good ls) : goodB ls = false := by unfold goodB; exact @decide_eq_false _ (Classical.propDecidable _) h
theorem good_of {ls : List Share} (h : goodB ls = true) : Good ls := by unfold goodB at h; exact @of_decide_eq_true _ (Classical.propDecidable _) h
theorem rising_of_chain : ∀ {ls : List Share}, (∀ j (_ : j < ls.length), 0 < j → ∀ h' : j - 1 < ls.length, ltK ls[j - 1].user ls[j - 1].band ls[j] = true) → Rising ls
  | [], _ => List.Pairwise.nil
  | [x], _ => by simp [Rising]
  | x :: y :: l, h => by
    have ih : Rising (y :: l) := rising_of_chain (fun j hj h0 h' => by
      have := h (j + 1) (by simpa using hj) (by omega) (by simp at hj ⊢; omega)
      obtain ⟨k, rfl⟩ : ∃ k, j = k + 1 := ⟨j - 1, by omega⟩
      simpa using this)
    have hxy : ltK x.user x.band y = true := h 1 (by simp) (by omega) (by simp)
    unfold Rising at ih ⊢
    refine List.pairwise_cons.2 ⟨fun z hz => ?_, ih⟩
    rcases List.mem_cons.1 hz with rfl | hz
    · exact hxy
    · exact ltK_trans hxy ((List.pairwise_cons.1 ih).1 z hz)
theorem Good.rising {ls : List Share} (h : Good ls) : Rising ls := rising_of_chain (fun j hj h0 h' => (h.1 j hj).2 h0 h')
theorem Good.good {ls : List Share} (h : Good ls) : ∀ s ∈ ls, mayV s.quota = true ∧ fitsV zeroV s.used = true := fun s hs => by
  obtain ⟨j, hj, rfl⟩ := List.getElem_of_mem hs
  have := (h.1 j hj).1
  unfold okS at this
  simp only [Bool.and_eq_true] at this
  exact ⟨this.2.2.1, this.2.2.2⟩
set_option maxHeartbeats 4000000 in
theorem law_same (A B : Option Addr) (c d : Nat) (xs : List Share) (w : World) (hn : xs.length ≤ 1000000) (hA : SharesIn w A xs) (hB : SharesIn w B xs) :
    Calls Try.prog 20 #[.slice A xs.length c, .slice B xs.length d] w fun e w' => e = .returned (.bool true) ∧ Below w.heap.size w w' := by
  have HA := Lib.hid hA
  have HB := Lib.hid hB
  clear hA hB
  go_enter Try.func20, Try.ntmps20
  go_wp2_with fail
  go_loopw [5] (fun i wr => ∃ k : Nat, i = .int .i64 k ∧ k ≤ xs.length ∧ Below w.heap.size w wr) (fun i _ => xs.length - (intOf i).toNat)
  case atStart => exact ⟨0, rfl, Nat.zero_le _, Below.refl _ _⟩
  case round =>
    obtain ⟨k, rfl, hk, hB⟩ := hrel
    by_cases hlt : k < xs.length
    · obtain ⟨g, off, rfl, hg, hcell⟩ := (HA.out.kept (S := fun c => w.heap.size ≤ c) ⟨hB.os, hB.tape, hB.output, hB.size, fun k hk _ => hB.block k hk⟩ (fun p hp hc => by
        obtain ⟨b, off, rfl, hb, _⟩ := HA.out (by intro e; rw [e] at hlt; simp at hlt)
        cases hp; dsimp only at hc; omega)) (by intro e; rw [e] at hlt; simp at hlt)
      obtain ⟨g2, off2, rfl, hg2, hcell2⟩ := (HB.out.kept (S := fun c => w.heap.size ≤ c) ⟨hB.os, hB.tape, hB.output, hB.size, fun k hk _ => hB.block k hk⟩ (fun p hp hc => by
        obtain ⟨b, off, rfl, hb, _⟩ := HB.out (by intro e; rw [e] at hlt; simp at hlt)
        cases hp; dsimp only at hc; omega)) (by intro e; rw [e] at hlt; simp at hlt)
      obtain ⟨k0, k1, k2, k3, k4, k5, k6, k7⟩ := hcell k hlt
      obtain ⟨j0, j1, j2, j3, j4, j5, j6, j7⟩ := hcell2 k hlt
      clear hcell hcell2 HA HB
      generalize xs[k] = x at *
      obtain ⟨su, sb, ⟨q0, q1, q2⟩, ⟨u0, u1, u2⟩⟩ := x
      dsimp only at *
      go_wp2_with fail
      refine wp_region_ext (by kernel_rfl) (by kernel_rfl) ?_
      repeat (go_big_quiet_step (fail))
      refine wpQuiet_nil ?_
      rintro w2 ⟨x, hx⟩
      have hB2 := Lib.hid (below_to hB (hx ▸ extn_below wr x))
      clear hx k0 k1 k2 k3 k4 k5 k6 k7 j0 j1 j2 j3 j4 j5 j6 j7 hg hg2 hB
      go_wp2_with fail
      go_roundw
      case rel => exact ⟨k + 1, by go_num, hlt, hB2.out⟩
      case measure => simp [intOf]; omega
    · go_wp2_with fail
      go_ret
      exact ⟨rfl, hB⟩
end Go.Proofs.Ytcjgblopcfcakaa
