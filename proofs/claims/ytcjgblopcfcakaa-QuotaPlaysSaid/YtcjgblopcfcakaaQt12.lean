/- The law of layer 17: what a call makes of one share, and of the others; how much a statement plays. Conditions: none. -/
import Derived.Test.YtcjgblopcfcakaaQt10
namespace Go.Proofs.Ytcjgblopcfcakaa
open Go.RowKit Go.MapKept

/-! ### One key among the shares -/
theorem get_upd_same {L : List Share} {u : ByteArray} {b : Int} (f : Share → Share) (hf : ∀ s, (f s).user = s.user ∧ (f s).band = s.band) : getS (updS L u b f) u b = (getS L u b).map f := by
  have hk : ∀ s, isK u b (f s) = isK u b s := fun s => by unfold isK; rw [(hf s).1, (hf s).2]
  induction L with
  | nil => rfl
  | cons x L ih =>
    unfold getS updS at *
    rw [List.map_cons, List.find?_cons, List.find?_cons]
    by_cases h : isK u b x = true
    · rw [if_pos h, hk, h]; rfl
    · rw [if_neg h]
      have h' : isK u b x = false := by simpa using h
      rw [h']
      exact ih
theorem get_upd_other {L : List Share} {u u' : ByteArray} {b b' : Int} (f : Share → Share) (hf : ∀ s, (f s).user = s.user ∧ (f s).band = s.band) (hne : ¬ (u' = u ∧ b' = b)) : getS (updS L u' b' f) u b = getS L u b := by
  have hk : ∀ s, isK u b (f s) = isK u b s := fun s => by unfold isK; rw [(hf s).1, (hf s).2]
  induction L with
  | nil => rfl
  | cons x L ih =>
    unfold getS updS at *
    rw [List.map_cons, List.find?_cons, List.find?_cons]
    by_cases h : isK u' b' x = true
    · have hx : isK u b x = false := by
        cases hq : isK u b x with
        | false => rfl
        | true =>
          have h1 := isK_iff.1 h
          have h2 := isK_iff.1 hq
          exact absurd ⟨h1.1.symm.trans h2.1, h1.2.symm.trans h2.2⟩ hne
      rw [if_pos h, hk, hx]
      exact ih
    · rw [if_neg h]
      cases hq : isK u b x with
      | true => rfl
      | false => exact ih
theorem get_put_same {L : List Share} {s : Share} {u : ByteArray} {b : Int} (hk : isK u b s = true) (hg : getS L u b = none) : getS (putS s L) u b = some s := by
  induction L with
  | nil =>
    show List.find? (isK u b) [s] = _
    rw [List.find?_cons_of_pos hk]
  | cons x L ih =>
    have hx : isK u b x = false := by have := List.find?_eq_none.1 hg x (by simp); simpa using this
    have hg' : getS L u b = none := List.find?_eq_none.2 (fun y hy => List.find?_eq_none.1 hg y (by simp [hy]))
    unfold putS
    split
    · unfold getS; rw [List.find?_cons_of_pos hk]
    · unfold getS at ih ⊢
      rw [List.find?_cons_of_neg (by rw [hx]; decide)]
      exact ih hg'
theorem get_put_other {L : List Share} {s : Share} {u : ByteArray} {b : Int} (hk : isK u b s = false) : getS (putS s L) u b = getS L u b := by
  induction L with
  | nil =>
    show List.find? (isK u b) [s] = _
    rw [List.find?_cons_of_neg (by rw [hk]; decide)]
    rfl
  | cons x L ih =>
    unfold putS
    split
    · unfold getS; rw [List.find?_cons_of_neg (by rw [hk]; decide)]
    · unfold getS at ih ⊢
      rw [List.find?_cons, List.find?_cons, ih]
theorem get_on_same {L : List Share} {u : ByteArray} {b : Int} (f : Share → Share) (hf : ∀ s, (f s).user = s.user ∧ (f s).band = s.band) : getS (onL L u b f) u b = (getS L u b).map f := by
  unfold onL
  cases h : getS L u b with
  | none => simp [h]
  | some s => simp [get_upd_same f hf, h]
theorem get_on_other {L : List Share} {u u' : ByteArray} {b b' : Int} (f : Share → Share) (hf : ∀ s, (f s).user = s.user ∧ (f s).band = s.band) (hne : ¬ (u' = u ∧ b' = b)) : getS (onL L u' b' f) u b = getS L u b := by
  unfold onL
  cases h : getS L u' b' with
  | none => rfl
  | some s => exact get_upd_other f hf hne
theorem get_set_same {L : List Share} {u : ByteArray} {b : Int} {v : Vec} (h0 : setE L u b v = 0) : getS (setL L u b v) u b = some (match getS L u b with | some s => setS v s | none => ⟨u, b, v, zeroV⟩) := by
  unfold setL
  rw [if_pos h0]
  cases h : getS L u b with
  | none => exact get_put_same (isK_iff.2 ⟨rfl, rfl⟩) h
  | some s => simp [get_upd_same (setS v) (fun s => ⟨rfl, rfl⟩), h]
theorem get_set_other {L : List Share} {u u' : ByteArray} {b b' : Int} {v : Vec} (hne : ¬ (u' = u ∧ b' = b)) : getS (setL L u' b' v) u b = getS L u b := by
  unfold setL
  split
  · cases h : getS L u' b' with
    | none => exact get_put_other (by
        cases hq : isK u b (⟨u', b', v, zeroV⟩ : Share) with
        | false => rfl
        | true => exact absurd (isK_iff.1 hq) hne)
    | some s => exact get_upd_other (setS v) (fun s => ⟨rfl, rfl⟩) hne
  · rfl
theorem set_same {L : List Share} {u : ByteArray} {b : Int} {v : Vec} (h0 : setE L u b v ≠ 0) : setL L u b v = L := by unfold setL; rw [if_neg h0]

/-- All shares, and the one of user and band alone. -/
structure Ap (u : ByteArray) (b : Int) (La Lo : List Share) : Prop where
  same : getS La u b = getS Lo u b
  one : Lo = (getS Lo u b).toList
theorem Ap.start (u : ByteArray) (b : Int) : Ap u b [] [] := ⟨rfl, rfl⟩
theorem Ap.few {u : ByteArray} {b : Int} {La Lo : List Share} (h : Ap u b La Lo) : Lo.length ≤ 1 := by
  rw [h.one]
  cases getS Lo u b <;> simp
theorem Ap.isK {u : ByteArray} {b : Int} {Lo : List Share} {s : Share} (h : getS Lo u b = some s) : isK u b s = true := List.find?_some h
theorem Ap.set_mine {u : ByteArray} {b : Int} {La Lo : List Share} (h : Ap u b La Lo) (v : Vec) : (setE La u b v = 6 ∧ Ap u b (setL La u b v) Lo) ∨ (setE La u b v ≠ 6 ∧ setE La u b v = setE Lo u b v ∧ Ap u b (setL La u b v) (setL Lo u b v)) := by
  have hf := h.few
  by_cases h6 : setE La u b v = 6
  · refine Or.inl ⟨h6, ?_⟩
    rw [set_same (by rw [h6]; decide)]
    exact h
  · refine Or.inr ⟨h6, ?_⟩
    have he : setE La u b v = setE Lo u b v := by
      unfold setE at *
      rw [h.same] at h6 ⊢
      cases hg : getS Lo u b with
      | some s => rfl
      | none =>
        simp only [hg] at h6 ⊢
        have e : ¬ 64 ≤ Lo.length := by omega
        have e2 : ¬ 64 ≤ La.length ∨ 64 ≤ La.length := by omega
        rcases e2 with e2 | e2
        · rw [if_neg e, if_neg e2]
        · rw [if_pos e2] at h6 ⊢
          rw [if_neg e]
          by_cases n1 : nameB u = true <;> by_cases n2 : bandB b = true <;> by_cases n3 : mayV v = true <;> simp_all
    refine ⟨he, ?_⟩
    by_cases h0 : setE La u b v = 0
    · refine ⟨by rw [get_set_same h0, get_set_same (he ▸ h0), h.same], ?_⟩
      rw [get_set_same (he ▸ h0)]
      unfold setL
      rw [if_pos (he ▸ h0)]
      cases hg : getS Lo u b with
      | none =>
        have := h.one
        rw [hg] at this
        rw [this]
        rfl
      | some s =>
        have := h.one
        rw [hg] at this
        rw [this]
        show [if Go.Proofs.Ytcjgblopcfcakaa.isK u b s = true then setS v s else s] = _
        rw [if_pos (Ap.isK hg)]
        rfl
    · rw [set_same h0, set_same (fun e => h0 (he.trans e))]
      exact h
theorem Ap.set_other {u u' : ByteArray} {b b' : Int} {La Lo : List Share} (h : Ap u b La Lo) (v : Vec) (hne : ¬ (u' = u ∧ b' = b)) : Ap u b (setL La u' b' v) Lo := ⟨(get_set_other hne).trans h.same, h.one⟩
theorem Ap.on_other {u u' : ByteArray} {b b' : Int} {La Lo : List Share} (h : Ap u b La Lo) (f : Share → Share) (hf : ∀ s, (f s).user = s.user ∧ (f s).band = s.band) (hne : ¬ (u' = u ∧ b' = b)) : Ap u b (onL La u' b' f) Lo := ⟨(get_on_other f hf hne).trans h.same, h.one⟩
theorem Ap.on_mine {u : ByteArray} {b : Int} {La Lo : List Share} (h : Ap u b La Lo) (f : Share → Share) (g : Share → Int) (hf : ∀ s, (f s).user = s.user ∧ (f s).band = s.band) : onE La u b g = onE Lo u b g ∧ Ap u b (onL La u b f) (onL Lo u b f) := by
  refine ⟨by unfold onE; rw [h.same], ⟨by rw [get_on_same f hf, get_on_same f hf, h.same], ?_⟩⟩
  rw [get_on_same f hf]
  unfold onL
  cases hg : getS Lo u b with
  | none =>
    have := h.one
    rw [hg] at this
    exact this
  | some s =>
    have := h.one
    rw [hg] at this
    rw [this]
    show [if Go.Proofs.Ytcjgblopcfcakaa.isK u b s = true then f s else s] = _
    rw [if_pos (Ap.isK hg)]
    rfl
theorem Ap.left {u : ByteArray} {b : Int} {La Lo : List Share} (h : Ap u b La Lo) : leftL La u b = leftL Lo u b ∧ leftE La u b = leftE Lo u b := by
  unfold leftL leftE
  rw [h.same]
  exact ⟨rfl, rfl⟩

/-! ### Two ledgers in memory -/
def Two (w0 w : World) (Pa Po : Nat) (La Lo : List Share) : Prop :=
  ∃ Sa So : Nat → Prop, Led w Pa Sa La ∧ Led w Po So Lo ∧ (∀ c, Sa c → ¬ So c) ∧ (∀ c, Sa c → w0.heap.size ≤ c ∧ c < w.heap.size) ∧ (∀ c, So c → w0.heap.size ≤ c ∧ c < w.heap.size) ∧ Below w0.heap.size w0 w
theorem Two.swap {w0 w : World} {Pa Po : Nat} {La Lo : List Share} (h : Two w0 w Pa Po La Lo) : Two w0 w Po Pa Lo La := by
  obtain ⟨Sa, So, ha, ho, hd, hSa, hSo, hB⟩ := h
  exact ⟨So, Sa, ho, ha, fun c h1 h2 => hd c h2 h1, hSo, hSa, hB⟩
theorem Two.below {w0 w : World} {Pa Po : Nat} {La Lo : List Share} (h : Two w0 w Pa Po La Lo) : Below w0.heap.size w0 w := by
  obtain ⟨Sa, So, ha, ho, hd, hSa, hSo, hB⟩ := h
  exact hB
theorem Two.past {w0 w w' : World} {Pa Po : Nat} {La Lo : List Share} (h : Two w0 w Pa Po La Lo) (hb : Below w.heap.size w w') : Two w0 w' Pa Po La Lo := by
  obtain ⟨Sa, So, ha, ho, hd, hSa, hSo, hB⟩ := h
  exact ⟨Sa, So, ha.past hb, ho.past hb, hd, fun c hc => ⟨(hSa c hc).1, Nat.lt_of_lt_of_le (hSa c hc).2 hb.size⟩, fun c hc => ⟨(hSo c hc).1, Nat.lt_of_lt_of_le (hSo c hc).2 hb.size⟩, below_to hB hb⟩
theorem Two.turned {w0 w w' : World} {Pa Po : Nat} {Lo La' : List Share} {Sa So S' : Nat → Prop} (ho : Led w Po So Lo) (hd : ∀ c, Sa c → ¬ So c) (hSa : ∀ c, Sa c → w0.heap.size ≤ c ∧ c < w.heap.size) (hSo : ∀ c, So c → w0.heap.size ≤ c ∧ c < w.heap.size) (hB : Below w0.heap.size w0 w)
    (h1 : Led w' Pa S' La') (h2 : ∀ c, S' c → Sa c ∨ w.heap.size ≤ c) (hO : OnlyS Sa w w') : Two w0 w' Pa Po La' Lo := by
  refine ⟨fun c => S' c ∧ c < w'.heap.size, So, h1.tight, ho.kept hO (fun c hc hx => hd c hx hc), fun c hc hx => ?_, fun c hc => ?_, fun c hc => ⟨(hSo c hc).1, Nat.lt_of_lt_of_le (hSo c hc).2 hO.size⟩, hB.trans (hO.to hB.size (fun c hc => (hSa c hc).1))⟩
  · rcases h2 c hc.1 with h | h
    · exact hd c h hx
    · have := (hSo c hx).2; omega
  · rcases h2 c hc.1 with h | h
    · exact ⟨(hSa c h).1, hc.2⟩
    · exact ⟨Nat.le_trans hB.size h, hc.2⟩
section
variable {w0 w : World} {Pa Po : Nat} {La Lo : List Share} (h : Two w0 w Pa Po La Lo) (u : ByteArray) (b : Int) (v : Vec) (hu : u.size ≤ 9223372036854775807) (hb : U8 b) (hv : v.ok)
include h hu hb hv
theorem two_Set : Calls Try.prog 10 #[ptrV Pa, .string u, .int .u8 b, v.v] w fun e w' => e = .returned (.int .i64 (setE La u b v)) ∧ Two w0 w' Pa Po (setL La u b v) Lo := by
  obtain ⟨Sa, So, ha, ho, hd, hSa, hSo, hB⟩ := h
  exact (q_Set w Pa Sa La ha u b v hu hb hv).mono fun e w' ⟨he, S', h1, h2, hO⟩ => ⟨he, Two.turned ho hd hSa hSo hB h1 h2 hO⟩
theorem two_Take : Calls Try.prog 11 #[ptrV Pa, .string u, .int .u8 b, v.v] w fun e w' => e = .returned (.int .i64 (onE La u b (fun s => takeR s v))) ∧ Two w0 w' Pa Po (onL La u b (fun s => takeS s v)) Lo := by
  obtain ⟨Sa, So, ha, ho, hd, hSa, hSo, hB⟩ := h
  exact (q_Take w Pa Sa La ha u b v hu hb hv).mono fun e w' ⟨he, h1, hO⟩ => ⟨he, Two.turned ho hd hSa hSo hB h1 (fun c hc => Or.inl hc) hO⟩
theorem two_Give : Calls Try.prog 14 #[ptrV Pa, .string u, .int .u8 b, v.v] w fun e w' => e = .returned (.int .i64 (onE La u b (fun s => giveR s v))) ∧ Two w0 w' Pa Po (onL La u b (fun s => giveS s v)) Lo := by
  obtain ⟨Sa, So, ha, ho, hd, hSa, hSo, hB⟩ := h
  exact (q_Give w Pa Sa La ha u b v hu hb hv).mono fun e w' ⟨he, h1, hO⟩ => ⟨he, Two.turned ho hd hSa hSo hB h1 (fun c hc => Or.inl hc) hO⟩
end
theorem two_Left {w0 w : World} {Pa Po : Nat} {La Lo : List Share} (h : Two w0 w Pa Po La Lo) (u : ByteArray) (b : Int) (hu : u.size ≤ 9223372036854775807) (hb : U8 b) : Calls Try.prog 17 #[ptrV Pa, .string u, .int .u8 b] w fun e w' => e = .returned (.tuple #[(leftL La u b).v, .int .i64 (leftE La u b)]) ∧ Two w0 w' Pa Po La Lo ∧ Below w.heap.size w w' := by
  have h' := h
  obtain ⟨Sa, So, ha, ho, hd, hSa, hSo, hB⟩ := h
  exact (q_Left w Pa Sa La ha u b hu hb).mono fun e w' ⟨he, hb⟩ => ⟨he, h'.past hb, hb⟩
end Go.Proofs.Ytcjgblopcfcakaa
