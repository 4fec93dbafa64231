/- Ledgers that are good stay good; the two ledgers side by side. Conditions: what comes in is of its kind. -/
import Derived.Test.YtcjgblopcfcakaaQt20
namespace Go.Proofs.Ytcjgblopcfcakaa
open Go.RowKit Go.MapKept

theorem good_iff {ls : List Share} : Good ls ↔ (∀ s ∈ ls, okS s = true) ∧ Rising ls ∧ ls.length ≤ 64 := by
  constructor
  · intro h
    refine ⟨fun s hs => ?_, h.rising, h.2⟩
    obtain ⟨j, hj, rfl⟩ := List.getElem_of_mem hs
    exact (h.1 j hj).1
  · rintro ⟨h1, h2, h3⟩
    refine ⟨fun j hj => ⟨h1 _ (List.getElem_mem hj), fun h0 h' => ?_⟩, h3⟩
    exact (List.pairwise_iff_getElem.1 h2) (j - 1) j h' hj (by omega)
theorem upd_mem {L : List Share} {u : ByteArray} {b : Int} {f : Share → Share} {s : Share} (h : s ∈ updS L u b f) : ∃ x ∈ L, s = x ∨ s = f x := by
  unfold updS at h
  obtain ⟨x, hx, e⟩ := List.mem_map.1 h
  refine ⟨x, hx, ?_⟩
  split at e
  · exact Or.inr e.symm
  · exact Or.inl e.symm
theorem good_upd {L : List Share} (h : Good L) (u : ByteArray) (b : Int) (f : Share → Share) (hf : ∀ s, (f s).user = s.user ∧ (f s).band = s.band) (hk : ∀ s ∈ L, okS s = true → okS (f s) = true) : Good (updS L u b f) := by
  obtain ⟨h1, h2, h3⟩ := good_iff.1 h
  refine good_iff.2 ⟨fun s hs => ?_, rising_upd h2 u b f hf, by unfold updS; rw [List.length_map]; exact h3⟩
  obtain ⟨x, hx, rfl | rfl⟩ := upd_mem hs
  · exact h1 _ hx
  · exact hk _ hx (h1 _ hx)
theorem good_on {L : List Share} (h : Good L) (u : ByteArray) (b : Int) (f : Share → Share) (hf : ∀ s, (f s).user = s.user ∧ (f s).band = s.band) (hk : ∀ s ∈ L, okS s = true → okS (f s) = true) : Good (onL L u b f) := by
  unfold onL
  cases getS L u b with
  | none => exact h
  | some s => exact good_upd h u b f hf hk
theorem okS_iff {s : Share} : okS s = true ↔ nameB s.user = true ∧ bandB s.band = true ∧ mayV s.quota = true ∧ fitsV zeroV s.used = true := by
  unfold okS
  simp only [Bool.and_eq_true]
theorem good_set {L : List Share} (h : Good L) (u : ByteArray) (b : Int) (v : Vec) : Good (setL L u b v) := by
  cases h1 : nameB u with
  | false => rw [(set_name h1).2]; exact h
  | true =>
    cases h2 : bandB b with
    | false => rw [(set_band h1 h2).2]; exact h
    | true =>
      cases h3 : mayV v with
      | false => rw [(set_may h1 h2 h3).2]; exact h
      | true =>
        cases hg : getS L u b with
        | some s =>
          rw [(set_some h1 h2 h3 hg).2]
          refine good_upd h u b (setS v) (fun _ => ⟨rfl, rfl⟩) (fun s _ hs => ?_)
          obtain ⟨k1, k2, k3, k4⟩ := okS_iff.1 hs
          exact okS_iff.2 ⟨k1, k2, h3, k4⟩
        | none =>
          by_cases hl : 64 ≤ L.length
          · rw [(set_full h1 h2 h3 hg hl).2]; exact h
          · rw [(set_new h1 h2 h3 hg hl).2]
            obtain ⟨k1, k2, k3⟩ := good_iff.1 h
            refine good_iff.2 ⟨fun s hs => ?_, rising_put k2 (none_kv (isK_iff.2 ⟨rfl, rfl⟩) hg), by rw [(put_perm _ L).length_eq, List.length_cons]; omega⟩
            rcases List.mem_cons.1 ((put_perm _ L).mem_iff.1 hs) with rfl | hs
            · exact okS_iff.2 ⟨h1, h2, h3, by show fitsV zeroV zeroV = true; decide⟩
            · exact k1 _ hs
theorem add_fits {a b : Vec} (h1 : fitsV zeroV a = true) (h2 : fitsV zeroV b = true) : fitsV zeroV (addV a b).1 = true := by
  unfold addV eachV
  split
  · unfold fitsV zeroV at *
    simp only [Bool.and_eq_true, decide_eq_true_eq] at *
    omega
  · show fitsV zeroV zeroV = true; decide
theorem good_take {L : List Share} (h : Good L) (u : ByteArray) (b : Int) (v : Vec) : Good (onL L u b (fun s => takeS s v)) := by
  refine good_on h u b (fun s => takeS s v) (takeS_key v) (fun s _ hs => ?_)
  show okS (takeS s v) = true
  obtain ⟨k1, k2, k3, k4⟩ := okS_iff.1 hs
  unfold takeS
  split
  · rename_i h0
    have hv : fitsV zeroV v = true := by
      unfold takeR at h0
      by_cases f1 : fitsV zeroV v = true
      · exact f1
      · rw [if_neg f1] at h0; cases h0
    exact okS_iff.2 ⟨k1, k2, k3, add_fits k4 hv⟩
  · exact hs
theorem good_give {L : List Share} (h : Good L) (hok : ∀ s ∈ L, s.ok) (u : ByteArray) (b : Int) (v : Vec) : Good (onL L u b (fun s => giveS s v)) := by
  refine good_on h u b (fun s => giveS s v) (giveS_key v) (fun s hm hs => ?_)
  show okS (giveS s v) = true
  obtain ⟨k1, k2, k3, k4⟩ := okS_iff.1 hs
  unfold giveS
  split
  · rename_i h0
    unfold giveR at h0
    by_cases f1 : fitsV zeroV v = true
    · rw [if_pos f1] at h0
      by_cases f2 : fitsV v s.used = true
      · exact okS_iff.2 ⟨k1, k2, k3, (sub_fits (hok s hm).2.2.2 f1 f2).2⟩
      · rw [if_neg f2] at h0; cases h0
    · rw [if_neg f1] at h0; cases h0
  · exact hs

/-! ### The program's ledger and the document's -/
def Both (w0 w : World) (Z : Nat → Prop) (P R : Nat) (L M : List Share) : Prop :=
  ∃ S T : Nat → Prop, Led w P S L ∧ RLed w R T M ∧ (∀ c, S c → ¬ T c) ∧ (∀ c, S c → w0.heap.size ≤ c ∧ c < w.heap.size ∧ ¬ Z c) ∧ (∀ c, T c → w0.heap.size ≤ c ∧ c < w.heap.size ∧ ¬ Z c) ∧ (∀ c, Z c → c < w.heap.size) ∧ Below w0.heap.size w0 w
section
variable {w0 w w' : World} {Z : Nat → Prop} {P R : Nat} {L M : List Share}
theorem Both.below (h : Both w0 w Z P R L M) : Below w0.heap.size w0 w := by
  obtain ⟨S, T, h1, h2, h3, h4, h5, h6, h7⟩ := h
  exact h7
theorem Both.past (h : Both w0 w Z P R L M) (hb : Below w.heap.size w w') : Both w0 w' Z P R L M := by
  obtain ⟨S, T, h1, h2, h3, h4, h5, h6, h7⟩ := h
  exact ⟨S, T, h1.past hb, h2.past hb, h3, fun c hc => ⟨(h4 c hc).1, Nat.lt_of_lt_of_le (h4 c hc).2.1 hb.size, (h4 c hc).2.2⟩, fun c hc => ⟨(h5 c hc).1, Nat.lt_of_lt_of_le (h5 c hc).2.1 hb.size, (h5 c hc).2.2⟩, fun c hc => Nat.lt_of_lt_of_le (h6 c hc) hb.size, below_to h7 hb⟩
/-- A block of the walk's own is kept. -/
theorem Both.own (h : Both w0 w Z P R L M) (hb : Below w.heap.size w w') (hlt : w.heap.size < w'.heap.size) : Both w0 w' (fun c => c = w.heap.size) P R L M := by
  obtain ⟨S, T, h1, h2, h3, h4, h5, h6, h7⟩ := h
  exact ⟨S, T, h1.past hb, h2.past hb, h3, fun c hc => ⟨(h4 c hc).1, Nat.lt_of_lt_of_le (h4 c hc).2.1 hb.size, fun e => by have := (h4 c hc).2.1; omega⟩, fun c hc => ⟨(h5 c hc).1, Nat.lt_of_lt_of_le (h5 c hc).2.1 hb.size, fun e => by have := (h5 c hc).2.1; omega⟩, fun c hc => hc ▸ hlt, below_to h7 hb⟩
theorem Both.drop (h : Both w0 w Z P R L M) : Both w0 w (fun _ => False) P R L M := by
  obtain ⟨S, T, h1, h2, h3, h4, h5, h6, h7⟩ := h
  exact ⟨S, T, h1, h2, h3, fun c hc => ⟨(h4 c hc).1, (h4 c hc).2.1, fun h => h⟩, fun c hc => ⟨(h5 c hc).1, (h5 c hc).2.1, fun h => h⟩, fun c hc => hc.elim, h7⟩
theorem Both.oks (h : Both w0 w Z P R L M) : ∀ s ∈ L, s.ok := by
  obtain ⟨S, T, h1, h2, h3, h4, h5, h6, h7⟩ := h
  exact h1.oks
theorem Both.turnL {S T S' : Nat → Prop} {L' : List Share} (h2 : RLed w R T M) (h3 : ∀ c, S c → ¬ T c) (h4 : ∀ c, S c → w0.heap.size ≤ c ∧ c < w.heap.size ∧ ¬ Z c) (h5 : ∀ c, T c → w0.heap.size ≤ c ∧ c < w.heap.size ∧ ¬ Z c) (h6 : ∀ c, Z c → c < w.heap.size) (h7 : Below w0.heap.size w0 w)
    (k1 : Led w' P S' L') (k2 : ∀ c, S' c → S c ∨ w.heap.size ≤ c) (hO : OnlyS S w w') : Both w0 w' Z P R L' M ∧ OnlyS (fun c => ¬ Z c) w w' := by
  refine ⟨⟨fun c => S' c ∧ c < w'.heap.size, T, k1.tight, h2.kept hO (fun c hc hx => h3 c hx hc), fun c hc hx => ?_, fun c hc => ?_, fun c hc => ⟨(h5 c hc).1, Nat.lt_of_lt_of_le (h5 c hc).2.1 hO.size, (h5 c hc).2.2⟩, fun c hc => Nat.lt_of_lt_of_le (h6 c hc) hO.size, h7.trans (hO.to h7.size (fun c hc => (h4 c hc).1))⟩, hO.mono (fun c hc => Or.inl (h4 c hc).2.2)⟩
  · rcases k2 c hc.1 with h | h
    · exact h3 c h hx
    · have := (h5 c hx).2.1; omega
  · rcases k2 c hc.1 with h | h
    · exact ⟨(h4 c h).1, hc.2, (h4 c h).2.2⟩
    · exact ⟨Nat.le_trans h7.size h, hc.2, fun hz => by have := h6 c hz; omega⟩
theorem Both.turnR {S T T' : Nat → Prop} {M' : List Share} (h1 : Led w P S L) (h3 : ∀ c, S c → ¬ T c) (h4 : ∀ c, S c → w0.heap.size ≤ c ∧ c < w.heap.size ∧ ¬ Z c) (h5 : ∀ c, T c → w0.heap.size ≤ c ∧ c < w.heap.size ∧ ¬ Z c) (h6 : ∀ c, Z c → c < w.heap.size) (h7 : Below w0.heap.size w0 w)
    (k1 : RLed w' R T' M') (k2 : ∀ c, T' c → T c ∨ w.heap.size ≤ c) (hO : OnlyS T w w') : Both w0 w' Z P R L M' ∧ OnlyS (fun c => ¬ Z c) w w' := by
  refine ⟨⟨S, fun c => T' c ∧ c < w'.heap.size, h1.kept hO h3, k1.tight, fun c hx hc => ?_, fun c hc => ⟨(h4 c hc).1, Nat.lt_of_lt_of_le (h4 c hc).2.1 hO.size, (h4 c hc).2.2⟩, fun c hc => ?_, fun c hc => Nat.lt_of_lt_of_le (h6 c hc) hO.size, h7.trans (hO.to h7.size (fun c hc => (h5 c hc).1))⟩, hO.mono (fun c hc => Or.inl (h5 c hc).2.2)⟩
  · rcases k2 c hc.1 with h | h
    · exact h3 c hx h
    · have := (h4 c hx).2.1; omega
  · rcases k2 c hc.1 with h | h
    · exact ⟨(h5 c h).1, hc.2, (h5 c h).2.2⟩
    · exact ⟨Nat.le_trans h7.size h, hc.2, fun hz => by have := h6 c hz; omega⟩
end
section
variable {w0 w : World} {Z : Nat → Prop} {P R : Nat} {L M : List Share} (h : Both w0 w Z P R L M) (u : ByteArray) (b : Int) (v : Vec) (hu : u.size ≤ 9223372036854775807) (hb : U8 b) (hv : v.ok)
include h hu hb hv
theorem both_Set : Calls Try.prog 10 #[ptrV P, .string u, .int .u8 b, v.v] w fun e w' => e = .returned (.int .i64 (setE L u b v)) ∧ Both w0 w' Z P R (setL L u b v) M ∧ OnlyS (fun c => ¬ Z c) w w' := by
  obtain ⟨S, T, h1, h2, h3, h4, h5, h6, h7⟩ := h
  exact (q_Set w P S L h1 u b v hu hb hv).mono fun e w' ⟨he, S', k1, k2, hO⟩ => ⟨he, Both.turnL h2 h3 h4 h5 h6 h7 k1 k2 hO⟩
theorem both_Take : Calls Try.prog 11 #[ptrV P, .string u, .int .u8 b, v.v] w fun e w' => e = .returned (.int .i64 (onE L u b (fun s => takeR s v))) ∧ Both w0 w' Z P R (onL L u b (fun s => takeS s v)) M ∧ OnlyS (fun c => ¬ Z c) w w' := by
  obtain ⟨S, T, h1, h2, h3, h4, h5, h6, h7⟩ := h
  exact (q_Take w P S L h1 u b v hu hb hv).mono fun e w' ⟨he, k1, hO⟩ => ⟨he, Both.turnL h2 h3 h4 h5 h6 h7 k1 (fun c hc => Or.inl hc) hO⟩
theorem both_Give : Calls Try.prog 14 #[ptrV P, .string u, .int .u8 b, v.v] w fun e w' => e = .returned (.int .i64 (onE L u b (fun s => giveR s v))) ∧ Both w0 w' Z P R (onL L u b (fun s => giveS s v)) M ∧ OnlyS (fun c => ¬ Z c) w w' := by
  obtain ⟨S, T, h1, h2, h3, h4, h5, h6, h7⟩ := h
  exact (q_Give w P S L h1 u b v hu hb hv).mono fun e w' ⟨he, k1, hO⟩ => ⟨he, Both.turnL h2 h3 h4 h5 h6 h7 k1 (fun c hc => Or.inl hc) hO⟩
end
section
variable {w0 w : World} {Z : Nat → Prop} {P R : Nat} {L M : List Share}
theorem both_rSet (h : Both w0 w Z P R L M) (u : ByteArray) (b : Int) (v : Vec) (hu : u.size ≤ 9223372036854775807) (hb : U8 b) (hv : v.ok) (hG : Good M) (_hok : ∀ s ∈ M, s.ok) : Calls Try.prog 42 #[ptrV R, .string u, .int .u8 b, v.v] w fun e w' => e = .returned (.int .i64 (setE M u b v)) ∧ Both w0 w' Z P R L (setL M u b v) ∧ OnlyS (fun c => ¬ Z c) w w' := by
  obtain ⟨S, T, h1, h2, h3, h4, h5, h6, h7⟩ := h
  exact (r_Set w R T M h2 hG.2 hG.rising u b v hu hb hv).mono fun e w' ⟨he, S', k1, k2, hO⟩ => ⟨he, Both.turnR h1 h3 h4 h5 h6 h7 k1 k2 hO⟩
theorem both_rTake (h : Both w0 w Z P R L M) (u : ByteArray) (b : Int) (v : Vec) (_hu : u.size ≤ 9223372036854775807) (_hb : U8 b) (hv : v.ok) (hG : Good M) (hok : ∀ s ∈ M, s.ok) : Calls Try.prog 43 #[ptrV R, .string u, .int .u8 b, v.v] w fun e w' => e = .returned (.int .i64 (onE M u b (fun s => takeR s v))) ∧ Both w0 w' Z P R L (onL M u b (fun s => takeS s v)) ∧ OnlyS (fun c => ¬ Z c) w w' := by
  obtain ⟨S, T, h1, h2, h3, h4, h5, h6, h7⟩ := h
  exact (r_Take w R T M h2 hG.2 hG.rising hok u b v hv).mono fun e w' ⟨he, k1, hO⟩ => ⟨he, Both.turnR h1 h3 h4 h5 h6 h7 k1 (fun c hc => Or.inl hc) hO⟩
theorem both_rGive (h : Both w0 w Z P R L M) (u : ByteArray) (b : Int) (v : Vec) (_hu : u.size ≤ 9223372036854775807) (_hb : U8 b) (hv : v.ok) (hG : Good M) (hok : ∀ s ∈ M, s.ok) : Calls Try.prog 44 #[ptrV R, .string u, .int .u8 b, v.v] w fun e w' => e = .returned (.int .i64 (onE M u b (fun s => giveR s v))) ∧ Both w0 w' Z P R L (onL M u b (fun s => giveS s v)) ∧ OnlyS (fun c => ¬ Z c) w w' := by
  obtain ⟨S, T, h1, h2, h3, h4, h5, h6, h7⟩ := h
  exact (r_Give w R T M h2 hG.2 hG.rising hok u b v hv).mono fun e w' ⟨he, k1, hO⟩ => ⟨he, Both.turnR h1 h3 h4 h5 h6 h7 k1 (fun c hc => Or.inl hc) hO⟩
end
section
variable {w0 w : World} {Z : Nat → Prop} {P R : Nat} {L M : List Share} (h : Both w0 w Z P R L M)
include h
theorem both_Left (u : ByteArray) (b : Int) (hu : u.size ≤ 9223372036854775807) (hb : U8 b) : Calls Try.prog 17 #[ptrV P, .string u, .int .u8 b] w fun e w' => e = .returned (.tuple #[(leftL L u b).v, .int .i64 (leftE L u b)]) ∧ Below w.heap.size w w' := by
  obtain ⟨S, T, h1, h2, h3, h4, h5, h6, h7⟩ := h
  exact q_Left w P S L h1 u b hu hb
theorem both_rLeft (hG : Good M) (u : ByteArray) (b : Int) : Calls Try.prog 45 #[ptrV R, .string u, .int .u8 b] w fun e w' => e = .returned (.tuple #[(leftL M u b).v, .int .i64 (leftE M u b)]) ∧ Below w.heap.size w w' := by
  obtain ⟨S, T, h1, h2, h3, h4, h5, h6, h7⟩ := h
  exact r_Left w R T M h2 hG.2 hG.rising hG.good u b
theorem both_Rows : Calls Try.prog 16 #[ptrV P] w fun e w' => (∃ A c, e = .returned (.slice A L.length c) ∧ SharesIn w' A L ∧ ∀ p, A = some p → w.heap.size ≤ p.block) ∧ Below w.heap.size w w' := by
  obtain ⟨S, T, h1, h2, h3, h4, h5, h6, h7⟩ := h
  exact q_Rows w P S L h1
/-- The document's list, where it lies. -/
theorem Both.list : ∃ A cap, Blk w R 48 #[.slice A M.length cap] ∧ SharesIn w A M := by
  obtain ⟨S, T, h1, ⟨v, k1, k2, k3, k4⟩, h3, h4, h5, h6, h7⟩ := h
  obtain ⟨A, cap, rfl, hs, -⟩ := own_shares k2
  exact ⟨A, cap, k1, hs⟩
end
end Go.Proofs.Ytcjgblopcfcakaa
