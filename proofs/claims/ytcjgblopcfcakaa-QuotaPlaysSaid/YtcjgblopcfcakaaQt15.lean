/- The document's ledger: where a share is, or would be; how it lies in memory. Conditions: none. -/
import Derived.Test.YtcjgblopcfcakaaQt12
namespace Go.Proofs.Ytcjgblopcfcakaa
open Go.RowKit Go.MapKept

theorem str_eq (x y : ByteArray) : (x.toList == y.toList) = decide (x = y) := by
  rw [Bool.eq_iff_iff]
  simp only [beq_iff_eq, decide_eq_true_eq]
  exact ⟨data_inj, fun h => by rw [h]⟩

/-! ### Where a share is, or would be -/
def findI : List Share → ByteArray → Int → Nat × Bool
  | [], _, _ => (0, false)
  | x :: L, u, b => if isK u b x = true then (0, true) else if ltK u b x = true then (0, false) else ((findI L u b).1 + 1, (findI L u b).2)
theorem findI_skip {u : ByteArray} {b : Int} : ∀ (k : Nat) (L : List Share), k ≤ L.length → (∀ j (h : j < L.length), j < k → isK u b L[j] = false ∧ ltK u b L[j] = false) → findI L u b = ((findI (L.drop k) u b).1 + k, (findI (L.drop k) u b).2)
  | 0, L, _, _ => by simp
  | k + 1, [], h, _ => by simp at h
  | k + 1, x :: L, h, hs => by
    have h0 := hs 0 (by simp) (by omega)
    simp only [List.getElem_cons_zero] at h0
    have ih := findI_skip k L (by simpa using h) (fun j hj hjk => by have := hs (j + 1) (by simpa using hj) (by omega); rw [List.getElem_cons_succ] at this; exact this)
    show (if isK u b x = true then (0, true) else if ltK u b x = true then (0, false) else ((findI L u b).1 + 1, (findI L u b).2)) = _
    rw [if_neg (by rw [h0.1]; decide), if_neg (by rw [h0.2]; decide), ih]
    simp only [List.drop_succ_cons]
    rw [Nat.add_assoc]
theorem findI_here {u : ByteArray} {b : Int} {k : Nat} {L : List Share} (hk : k < L.length) (hs : ∀ j (h : j < L.length), j < k → isK u b L[j] = false ∧ ltK u b L[j] = false) (h : isK u b L[k] = true) : findI L u b = (k, true) := by
  rw [findI_skip k L (by omega) hs, List.drop_eq_getElem_cons hk]
  show ((if isK u b L[k] = true then (0, true) else _ : Nat × Bool).1 + k, (if isK u b L[k] = true then (0, true) else _ : Nat × Bool).2) = _
  rw [if_pos h]
  simp
theorem findI_before {u : ByteArray} {b : Int} {k : Nat} {L : List Share} (hk : k < L.length) (hs : ∀ j (h : j < L.length), j < k → isK u b L[j] = false ∧ ltK u b L[j] = false) (h1 : isK u b L[k] = false) (h2 : ltK u b L[k] = true) : findI L u b = (k, false) := by
  rw [findI_skip k L (by omega) hs, List.drop_eq_getElem_cons hk]
  show ((if isK u b L[k] = true then (0, true) else if ltK u b L[k] = true then (0, false) else _ : Nat × Bool).1 + k, (if isK u b L[k] = true then (0, true) else if ltK u b L[k] = true then (0, false) else _ : Nat × Bool).2) = _
  rw [if_neg (by rw [h1]; decide), if_pos h2]
  simp
theorem findI_none {u : ByteArray} {b : Int} {L : List Share} (hs : ∀ j (h : j < L.length), isK u b L[j] = false ∧ ltK u b L[j] = false) : findI L u b = (L.length, false) := by
  rw [findI_skip L.length L (Nat.le_refl _) (fun j h _ => hs j h), List.drop_length]
  simp [findI]
theorem findI_le {u : ByteArray} {b : Int} : ∀ L : List Share, (findI L u b).1 ≤ L.length
  | [] => Nat.le_refl _
  | x :: L => by
    have := findI_le (u := u) (b := b) L
    show (if isK u b x = true then (0, true) else if ltK u b x = true then (0, false) else ((findI L u b).1 + 1, (findI L u b).2) : Nat × Bool).1 ≤ _
    split
    · simp
    · split
      · simp
      · simp; omega
theorem lt_all {u : ByteArray} {b : Int} {x : Share} {L : List Share} (hr : Rising (x :: L)) (h : ltK u b x = true) : ∀ y ∈ x :: L, isK u b y = false ∧ ltK u b y = true := by
  have hl : ∀ y ∈ x :: L, ltK u b y = true := fun y hy => by
    rcases List.mem_cons.1 hy with rfl | hy
    · exact h
    · exact ltK_trans (x := ⟨u, b, zeroV, zeroV⟩) h ((List.pairwise_cons.1 hr).1 y hy)
  refine fun y hy => ⟨?_, hl y hy⟩
  cases hq : isK u b y with
  | false => rfl
  | true =>
    obtain ⟨e1, e2⟩ := isK_iff.1 hq
    have := hl y hy
    rw [← e1, ← e2, ltK_irrefl] at this
    cases this
theorem upd_none {u : ByteArray} {b : Int} (f : Share → Share) {L : List Share} (h : ∀ y ∈ L, isK u b y = false) : updS L u b f = L := by
  unfold updS
  conv => rhs; rw [← List.map_id L]
  refine List.map_congr_left fun y hy => ?_
  rw [if_neg (by rw [h y hy]; decide)]; rfl
theorem find_yes {u : ByteArray} {b : Int} (f : Share → Share) : ∀ {L : List Share}, Rising L → (findI L u b).2 = true → ∃ h : (findI L u b).1 < L.length, getS L u b = some L[(findI L u b).1] ∧ updS L u b f = L.set (findI L u b).1 (f L[(findI L u b).1])
  | [], _, h => by cases h
  | x :: L, hr, h => by
    obtain ⟨h1, h2⟩ := List.pairwise_cons.1 hr
    by_cases hk : isK u b x = true
    · have e : findI (x :: L) u b = (0, true) := by unfold findI; rw [if_pos hk]
      have hno : ∀ y ∈ L, isK u b y = false := fun y hy => by
        cases hq : isK u b y with
        | false => rfl
        | true =>
          have := h1 y hy
          obtain ⟨e1, e2⟩ := isK_iff.1 hq
          obtain ⟨e3, e4⟩ := isK_iff.1 hk
          rw [e3, e4, ← e1, ← e2, ltK_irrefl] at this
          cases this
      refine ⟨by rw [e]; simp, ?_, ?_⟩
      · simp only [e, List.getElem_cons_zero]
        unfold getS
        rw [List.find?_cons_of_pos hk]
      · simp only [e, List.getElem_cons_zero, List.set_cons_zero]
        show (if isK u b x = true then f x else x) :: updS L u b f = _
        rw [if_pos hk, upd_none f hno]
    · by_cases hl : ltK u b x = true
      · have e : findI (x :: L) u b = (0, false) := by unfold findI; rw [if_neg hk, if_pos hl]
        rw [e] at h
        cases h
      · have e : findI (x :: L) u b = ((findI L u b).1 + 1, (findI L u b).2) := by conv => lhs; unfold findI; rw [if_neg hk, if_neg hl]
        rw [e] at h
        obtain ⟨hi, hg, hu⟩ := find_yes f h2 h
        refine ⟨by rw [e]; simpa using hi, ?_, ?_⟩
        · simp only [e, List.getElem_cons_succ]
          unfold getS at hg ⊢
          rw [List.find?_cons_of_neg hk]
          exact hg
        · simp only [e, List.getElem_cons_succ, List.set_cons_succ]
          show (if isK u b x = true then f x else x) :: updS L u b f = _
          rw [if_neg hk, hu]
theorem find_no {u : ByteArray} {b : Int} {s : Share} (hs : s.user = u ∧ s.band = b) : ∀ {L : List Share}, Rising L → (findI L u b).2 = false → getS L u b = none ∧ putS s L = L.take (findI L u b).1 ++ s :: L.drop (findI L u b).1
  | [], _, _ => ⟨rfl, rfl⟩
  | x :: L, hr, h => by
    obtain ⟨h1, h2⟩ := List.pairwise_cons.1 hr
    by_cases hk : isK u b x = true
    · have e : findI (x :: L) u b = (0, true) := by unfold findI; rw [if_pos hk]
      rw [e] at h
      cases h
    · by_cases hl : ltK u b x = true
      · have e : findI (x :: L) u b = (0, false) := by unfold findI; rw [if_neg hk, if_pos hl]
        have ha := lt_all hr hl
        refine ⟨List.find?_eq_none.2 (fun y hy => by rw [(ha y hy).1]; decide), ?_⟩
        rw [e]
        unfold putS
        rw [hs.1, hs.2, if_pos hl]
        rfl
      · have e : findI (x :: L) u b = ((findI L u b).1 + 1, (findI L u b).2) := by conv => lhs; unfold findI; rw [if_neg hk, if_neg hl]
        rw [e] at h
        obtain ⟨hg, hp⟩ := find_no hs h2 h
        refine ⟨?_, ?_⟩
        · unfold getS at hg ⊢
          rw [List.find?_cons_of_neg hk]
          exact hg
        · rw [e]
          unfold putS
          rw [hs.1, hs.2, if_neg hl, hp]
          rfl

/-! ### The document's ledger in memory -/
def RLed (w : World) (R : Nat) (S : Nat → Prop) (L : List Share) : Prop :=
  ∃ v, Blk w R 48 #[v] ∧ w.ownsRow 0 39 8 v L.length (flatS L) ∧ S R ∧ ∀ g, v.ownBlock = some g → S g ∧ g ≠ R
section
variable {w w' : World} {R : Nat} {S S' : Nat → Prop} {L : List Share}
theorem own_shares {base : Nat} {v : Value} (h : w.ownsRow base 39 8 v L.length (flatS L)) : ∃ A cap, v = .slice A L.length cap ∧ SharesIn w A L ∧ ∀ p, A = some p → v.ownBlock = some p.block := by
  obtain ⟨_, ⟨rfl, h0⟩ | ⟨g, cap, cur, rfl, hg, hh, hnn, hm, hs, ht⟩⟩ := h
  · refine ⟨none, 0, by rw [h0], ?_, fun p hp => by cases hp⟩
    intro hne
    exact absurd (List.length_eq_zero_iff.1 h0) hne
  · exact ⟨_, _, rfl, shares_of hh ht, fun p hp => by cases hp; rfl⟩
theorem RLed.kept (h : RLed w R S L) (hk : OnlyS S' w w') (hd : ∀ c, S c → ¬ S' c) : RLed w' R S L := by
  obtain ⟨v, h1, h2, h3, h4⟩ := h
  refine ⟨v, hk.blk h1 (hd _ h3), ?_, h3, h4⟩
  refine ⟨h2.1, h2.2.imp id ?_⟩
  rintro ⟨g, cap, cur, hv, hB, hg, r⟩
  refine ⟨g, cap, cur, hv, hB, (hk.block g (Array.getElem?_eq_some_iff.1 hg).1 (hd g (h4 g (by rw [hv]; rfl)).1)).trans hg, r⟩
theorem RLed.past (h : RLed w R S L) (hb : Below w.heap.size w w') : RLed w' R S L := h.kept (S' := fun _ => False) (OnlyS.below hb) (fun _ _ h => h)
theorem RLed.tight (h : RLed w R S L) : RLed w R (fun c => S c ∧ c < w.heap.size) L := by
  obtain ⟨v, h1, h2, h3, h4⟩ := h
  refine ⟨v, h1, h2, ⟨h3, h1.lt⟩, fun g hg => ⟨⟨(h4 g hg).1, ?_⟩, (h4 g hg).2⟩⟩
  exact (h2.lt g hg).2
/-- A share in the row turns. -/
theorem flat_set {xs : List Share} {i : Nat} (hi : i < xs.length) (s : Share) {cur : Array Value} {t : List Value} (ht : cur.toList.take (xs.length * 8) = flatS xs) (hc : ∀ j, t[j]? = if i * 8 ≤ j ∧ j < i * 8 + 8 then (shRow s)[j - i * 8]? else cur.toList[j]?) (hl : xs.length * 8 ≤ t.length) : t.take (xs.length * 8) = flatS (xs.set i s) := by
  apply List.ext_getElem?
  intro j
  by_cases hj : j < xs.length * 8
  · rw [List.getElem?_take_of_lt hj, hc]
    have hq : j / 8 < xs.length := by omega
    have hr : j % 8 < 8 := by omega
    have e := flatS_get (xs.set i s) (j / 8) (j % 8) (by simpa using hq) hr
    rw [show j / 8 * 8 + j % 8 = j by omega] at e
    rw [e]
    by_cases hij : i * 8 ≤ j ∧ j < i * 8 + 8
    · have : i = j / 8 := by omega
      rw [if_pos hij]
      simp only [this, List.getElem_set_self]
      congr 1
      omega
    · have hne : i ≠ j / 8 := by omega
      rw [if_neg hij, List.getElem_set_ne hne]
      have e2 := flatS_get xs (j / 8) (j % 8) hq hr
      rw [show j / 8 * 8 + j % 8 = j by omega, ← ht, List.getElem?_take_of_lt hj] at e2
      exact e2
  · rw [List.getElem?_take_eq_none (by omega), List.getElem?_eq_none (by rw [flatS_len, List.length_set]; omega)]
end
end Go.Proofs.Ytcjgblopcfcakaa
