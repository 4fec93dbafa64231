/- Commands: the plain law of writing and reading. Conditions: none. -/
import Derived.Test.YteglieoeblehpaaCmd13
namespace Go.Proofs.Yteglieoeblehpaa
open Go.RowKit

theorem rJ_enc (j : JobSpec) (r : ByteArray) (h : j.ok) (h1 : lgT j.name = false) (h2 : lgT j.user = false) (h3 : lgT j.alloc = false) :
    gJ (jobB j.name j.user j.band j.count j.limit.cpu j.limit.mem j.limit.disk j.alloc j.budget.k j.budget.window ++ r, 0) = j ∧ nJ (jobB j.name j.user j.band j.count j.limit.cpu j.limit.mem j.limit.disk j.alloc j.budget.k j.budget.window ++ r, 0) = (r, 0) := by
  obtain ⟨_, _, o1, o2, o3, _, o4, o5⟩ := h
  have a1 := fun r => rT_enc j.name r h1
  have a2 := fun r => rT_enc j.user r h2
  have a3 := fun r => rS_enc j.band r o1
  have a4 := fun r => rI_enc j.count r o2
  have a5 := fun r => rV_enc j.limit r o3
  have a6 := fun r => rT_enc j.alloc r h3
  have a7 := fun r => rI_enc j.budget.k r o4
  have a8 := fun r => rI_enc j.budget.window r o5
  unfold gJ nJ jobB
  simp only [ByteArray.append_assoc, a1, a2, a3, a4, a5, a6, a7, a8, and_self]
theorem rA_enc (j : AllocSpec) (r : ByteArray) (h : j.ok) (h1 : lgT j.name = false) (h2 : lgT j.user = false) :
    gA (allocB j.name j.user j.count j.limit.cpu j.limit.mem j.limit.disk ++ r, 0) = j ∧ nA (allocB j.name j.user j.count j.limit.cpu j.limit.mem j.limit.disk ++ r, 0) = (r, 0) := by
  obtain ⟨_, _, o2, o3⟩ := h
  have a1 := fun r => rT_enc j.name r h1
  have a2 := fun r => rT_enc j.user r h2
  have a4 := fun r => rI_enc j.count r o2
  have a5 := fun r => rV_enc j.limit r o3
  unfold gA nA allocB
  simp only [ByteArray.append_assoc, a1, a2, a4, a5, and_self]
theorem rK_enc (j : Task) (r : ByteArray) (h : j.ok) (h1 : lgT j.job = false) :
    gK (encT j.job ++ encI j.n ++ r, 0) = j ∧ nK (encT j.job ++ encI j.n ++ r, 0) = (r, 0) := by
  obtain ⟨_, o2⟩ := h
  have a1 := fun r => rT_enc j.job r h1
  have a4 := fun r => rI_enc j.n r o2
  unfold gK nK
  simp only [ByteArray.append_assoc, a1, a4, and_self]
theorem rdG_enc (k : Nat) (c d : Command) (r : ByteArray) (hc : c.ok) (hb : badG c k = false) : rdG k ((encG c k ++ r, 0), d) = ((r, 0), putG c k d) := by
  obtain ⟨o0, o1, o2, _, o4, o5, o6, o7, o8, _, o10, o11, o12, o13, o14, o15⟩ := hc
  match k with
  | 0 => obtain ⟨a, b⟩ := rT_enc c.user r hb; simp only [rdG, putG, encG, a, b]
  | 1 => obtain ⟨a, b⟩ := rS_enc c.band r o4; simp only [rdG, putG, encG, a, b]
  | 2 => obtain ⟨a, b⟩ := rT_enc c.name r hb; simp only [rdG, putG, encG, a, b]
  | 3 => obtain ⟨a, b⟩ := rK_enc c.task r o11 hb; simp only [rdG, putG, encG, a, b]
  | 4 => obtain ⟨a, b⟩ := rI_enc c.n r o10; simp only [rdG, putG, encG, a, b]
  | 5 => obtain ⟨a, b⟩ := rI_enc c.machine r o6; simp only [rdG, putG, encG, a, b]
  | 6 => obtain ⟨a, b⟩ := rI_enc c.in_ r o12; simp only [rdG, putG, encG, a, b]
  | 7 => obtain ⟨a, b⟩ := rI_enc c.gen r o13; simp only [rdG, putG, encG, a, b]
  | 8 => obtain ⟨a, b⟩ := rS_enc c.why r o14; simp only [rdG, putG, encG, a, b]
  | 9 => obtain ⟨a, b⟩ := rV_enc c.vec r o5; simp only [rdG, putG, encG, a, b]
  | 10 =>
    have hb' : (lgT c.job.name || lgT c.job.user || lgT c.job.alloc) = false := hb
    simp only [Bool.or_eq_false_iff] at hb'
    obtain ⟨a, b⟩ := rJ_enc c.job r o7 hb'.1.1 hb'.1.2 hb'.2; simp only [rdG, putG, encG, a, b]
  | 11 =>
    have hb' : (lgT c.alloc.name || lgT c.alloc.user) = false := hb
    simp only [Bool.or_eq_false_iff] at hb'
    obtain ⟨a, b⟩ := rA_enc c.alloc r o8 hb'.1 hb'.2; simp only [rdG, putG, encG, a, b]
  | k + 12 => obtain ⟨a, b⟩ := rI_enc c.tick r o15; simp only [rdG, putG, encG, a, b]
theorem lgT_no {s : ByteArray} (h : s.size ≤ 64) : lgT s = false := by unfold lgT; simp; omega
theorem rdG_back (k : Nat) (y : RS × Command) (h : (rdG k y).1.2 = 0) : y.1.2 = 0 ∧ y.1.1 = encG (rdG k y).2 k ++ (rdG k y).1.1 := by
  match k with
  | 0 => exact rT_back _ h
  | 1 => exact rS_back _ h
  | 2 => exact rT_back _ h
  | 3 => exact rK_back _ h
  | 4 => exact rI_back _ h
  | 5 => exact rI_back _ h
  | 6 => exact rI_back _ h
  | 7 => exact rI_back _ h
  | 8 => exact rS_back _ h
  | 9 => exact rV_back _ h
  | 10 => exact rJ_back _ h
  | 11 => exact rA_back _ h
  | k + 12 => exact rI_back _ h
theorem rdG_lg (k : Nat) (y : RS × Command) : badG (rdG k y).2 k = false := by
  match k with
  | 0 => exact lgT_no (gT_lg _)
  | 1 => rfl
  | 2 => exact lgT_no (gT_lg _)
  | 3 => exact lgT_no (gT_lg _)
  | 4 => rfl
  | 5 => rfl
  | 6 => rfl
  | 7 => rfl
  | 8 => rfl
  | 9 => rfl
  | 10 =>
    show (lgT (gT _) || lgT (gT _) || lgT (gT _)) = false
    rw [lgT_no (gT_lg _), lgT_no (gT_lg _), lgT_no (gT_lg _)]; rfl
  | 11 =>
    show (lgT (gT _) || lgT (gT _)) = false
    rw [lgT_no (gT_lg _), lgT_no (gT_lg _)]; rfl
  | k + 12 => rfl
theorem gT_ok (x : RS) : (gT x).size ≤ 9223372036854775807 := Nat.le_trans (gT_lg x) (by omega)
theorem rdG_ok (k : Nat) (y : RS × Command) (h : y.2.ok) : (rdG k y).2.ok := by
  obtain ⟨o0, o1, o2, o3, o4, o5, o6, o7, o8, o9, o10, o11, o12, o13, o14, o15⟩ := h
  match k with
  | 0 => exact ⟨o0, o1, o2, gT_ok _, o4, o5, o6, o7, o8, o9, o10, o11, o12, o13, o14, o15⟩
  | 1 => exact ⟨o0, o1, o2, o3, gS_ok _, o5, o6, o7, o8, o9, o10, o11, o12, o13, o14, o15⟩
  | 2 => exact ⟨o0, o1, o2, o3, o4, o5, o6, o7, o8, gT_ok _, o10, o11, o12, o13, o14, o15⟩
  | 3 => exact ⟨o0, o1, o2, o3, o4, o5, o6, o7, o8, o9, o10, ⟨gT_ok _, gI_ok _⟩, o12, o13, o14, o15⟩
  | 4 => exact ⟨o0, o1, o2, o3, o4, o5, o6, o7, o8, o9, gI_ok _, o11, o12, o13, o14, o15⟩
  | 5 => exact ⟨o0, o1, o2, o3, o4, o5, gI_ok _, o7, o8, o9, o10, o11, o12, o13, o14, o15⟩
  | 6 => exact ⟨o0, o1, o2, o3, o4, o5, o6, o7, o8, o9, o10, o11, gI_ok _, o13, o14, o15⟩
  | 7 => exact ⟨o0, o1, o2, o3, o4, o5, o6, o7, o8, o9, o10, o11, o12, gI_ok _, o14, o15⟩
  | 8 => exact ⟨o0, o1, o2, o3, o4, o5, o6, o7, o8, o9, o10, o11, o12, o13, gS_ok _, o15⟩
  | 9 => exact ⟨o0, o1, o2, o3, o4, gV_ok _, o6, o7, o8, o9, o10, o11, o12, o13, o14, o15⟩
  | 10 => exact ⟨o0, o1, o2, o3, o4, o5, o6, ⟨gT_ok _, gT_ok _, gS_ok _, gI_ok _, gV_ok _, gT_ok _, gI_ok _, gI_ok _⟩, o8, o9, o10, o11, o12, o13, o14, o15⟩
  | 11 => exact ⟨o0, o1, o2, o3, o4, o5, o6, o7, ⟨gT_ok _, gT_ok _, gI_ok _, gV_ok _⟩, o9, o10, o11, o12, o13, o14, o15⟩
  | k + 12 => exact ⟨o0, o1, o2, o3, o4, o5, o6, o7, o8, o9, o10, o11, o12, o13, o14, gI_ok _⟩
theorem rdG_head (k : Nat) (y : RS × Command) : (rdG k y).2.kind = y.2.kind ∧ (rdG k y).2.client = y.2.client ∧ (rdG k y).2.seq = y.2.seq := by
  match k with
  | 0 | 1 | 2 | 3 | 4 | 5 | 6 | 7 | 8 | 9 | 10 | 11 | k + 12 => exact ⟨rfl, rfl, rfl⟩
theorem rdG_other (j k : Nat) (hjk : j < k) (hk : k < 13) (y : RS × Command) : encG (rdG k y).2 j = encG y.2 j ∧ badG (rdG k y).2 j = badG y.2 j := by
  rcases (show k = 1 ∨ k = 2 ∨ k = 3 ∨ k = 4 ∨ k = 5 ∨ k = 6 ∨ k = 7 ∨ k = 8 ∨ k = 9 ∨ k = 10 ∨ k = 11 ∨ k = 12 by omega) with rfl | rfl | rfl | rfl | rfl | rfl | rfl | rfl | rfl | rfl | rfl | rfl
  all_goals
    rcases (show j = 0 ∨ j = 1 ∨ j = 2 ∨ j = 3 ∨ j = 4 ∨ j = 5 ∨ j = 6 ∨ j = 7 ∨ j = 8 ∨ j = 9 ∨ j = 10 ∨ j = 11 by omega) with rfl | rfl | rfl | rfl | rfl | rfl | rfl | rfl | rfl | rfl | rfl | rfl
    all_goals first | (exfalso; omega) | exact ⟨rfl, rfl⟩
/-! All fields. -/
theorem outK_add (B : Int) (E : Nat → ByteArray) (o : ByteArray) : ∀ k, outK B E k o = o ++ outK B E k ByteArray.empty
  | 0 => by simp [outK]
  | k + 1 => by
    unfold outK
    rw [outK_add B E o k]
    split
    · rw [ByteArray.append_assoc]
    · rfl
theorem outK_congr (B : Int) (E E' : Nat → ByteArray) (o : ByteArray) : ∀ k, (∀ j, j < k → E j = E' j) → outK B E k o = outK B E' k o
  | 0, _ => rfl
  | k + 1, h => by
    unfold outK
    rw [outK_congr B E E' o k (fun j hj => h j (by omega)), h k (by omega)]
theorem badK_no (B : Int) (G : Nat → Bool) : ∀ k, badK B G k false = false ↔ ∀ j, j < k → selB B j = true → G j = false
  | 0 => ⟨fun _ j hj => absurd hj (Nat.not_lt_zero j), fun _ => rfl⟩
  | k + 1 => by
    have ih := badK_no B G k
    unfold badK
    constructor
    · intro h j hj hs
      split at h
      · rw [Bool.or_eq_false_iff] at h
        by_cases hjk : j = k
        · subst hjk; exact h.2
        · exact ih.1 h.1 j (by omega) hs
      · by_cases hjk : j = k
        · subst hjk; contradiction
        · exact ih.1 h j (by omega) hs
    · intro h
      split
      · rw [ih.2 fun j hj => h j (by omega), h k (by omega) (by assumption)]; rfl
      · exact ih.2 fun j hj => h j (by omega)
theorem rdK_enc (B : Int) (c : Command) (hc : c.ok) (d : Command) : ∀ k, (∀ j, j < k → selB B j = true → badG c j = false) → ∀ r, rdK B k ((outK B (encG c) k ByteArray.empty ++ r, 0), d) = ((r, 0), putK B c k d)
  | 0, _, r => by simp [rdK, outK, putK]
  | k + 1, h, r => by
    unfold rdK outK putK
    split
    · rw [ByteArray.append_assoc, rdK_enc B c hc d k (fun j hj => h j (by omega)), rdG_enc k c _ r hc (h k (by omega) (by assumption))]
    · exact rdK_enc B c hc d k (fun j hj => h j (by omega)) r
theorem rdK_ok (B : Int) (y : RS × Command) (h : y.2.ok) : ∀ k, (rdK B k y).2.ok
  | 0 => h
  | k + 1 => by
    unfold rdK
    split
    · exact rdG_ok k _ (rdK_ok B y h k)
    · exact rdK_ok B y h k
theorem rdK_head (B : Int) (y : RS × Command) : ∀ k, (rdK B k y).2.kind = y.2.kind ∧ (rdK B k y).2.client = y.2.client ∧ (rdK B k y).2.seq = y.2.seq
  | 0 => ⟨rfl, rfl, rfl⟩
  | k + 1 => by
    have ih := rdK_head B y k
    have hg := rdG_head k (rdK B k y)
    unfold rdK
    split
    · exact ⟨hg.1.trans ih.1, hg.2.1.trans ih.2.1, hg.2.2.trans ih.2.2⟩
    · exact ih
theorem rdK_back (B : Int) (y : RS × Command) : ∀ k, k ≤ 13 → (rdK B k y).1.2 = 0 → y.1.2 = 0 ∧ y.1.1 = outK B (encG (rdK B k y).2) k ByteArray.empty ++ (rdK B k y).1.1 ∧ ∀ j, j < k → selB B j = true → badG (rdK B k y).2 j = false
  | 0, _, h => ⟨h, by simp [rdK, outK], fun j hj => absurd hj (Nat.not_lt_zero j)⟩
  | k + 1, hk, h => by
    unfold rdK at h ⊢
    unfold outK
    split at h
    · rename_i hs
      rw [if_pos hs, if_pos hs]
      obtain ⟨a1, a2⟩ := rdG_back k _ h
      obtain ⟨b1, b2, b3⟩ := rdK_back B y k (by omega) a1
      refine ⟨b1, ?_, ?_⟩
      · rw [outK_congr B _ (encG (rdK B k y).2) _ k fun j hj => (rdG_other j k hj (by omega) _).1, ByteArray.append_assoc, ← a2]
        exact b2
      · intro j hj hsj
        by_cases hjk : j = k
        · subst hjk; exact rdG_lg j _
        · rw [(rdG_other j k (by omega) (by omega) _).2]; exact b3 j (by omega) hsj
    · rename_i hs
      rw [if_neg hs, if_neg hs]
      obtain ⟨b1, b2, b3⟩ := rdK_back B y k (by omega) h
      refine ⟨b1, b2, fun j hj hsj => ?_⟩
      by_cases hjk : j = k
      · subst hjk; contradiction
      · exact b3 j (by omega) hsj
theorem rdHead_enc (c : Command) (hc : c.ok) (r : ByteArray) : gS (headB c.kind c.client c.seq ++ r, 0) = c.kind ∧ rdHead (headB c.kind c.client c.seq ++ r, 0) = ((r, 0), baseC c) := by
  obtain ⟨o0, o1, o2, _⟩ := hc
  have a1 := fun r => rS_enc c.kind r o0
  have a2 := fun r => rG_enc c.client r o1
  have a3 := fun r => rG_enc c.seq r o2
  unfold rdHead headB baseC
  cases hq : clientB c.kind
  · simp only [Bool.false_eq_true, if_false, a1, hq, and_self]
  · simp only [if_true, ByteArray.append_assoc, a1, a2, a3, hq, and_self]
theorem encC_eq (c : Command) : encC c = headB c.kind c.client c.seq ++ outK (fieldsOf c.kind) (encG c) 13 ByteArray.empty := outK_add _ _ _ _
/-- What was written is read as what its kind has; what is behind stays. -/
theorem rdAll_enc (c : Command) (hc : c.ok) (hb : badC c = false) (r : ByteArray) : rdAll (encC c ++ r, 0) = ((r, 0), onlyC c) := by
  obtain ⟨a1, a2⟩ := rdHead_enc c hc (outK (fieldsOf c.kind) (encG c) 13 ByteArray.empty ++ r)
  unfold rdAll
  rw [encC_eq, ByteArray.append_assoc, a1, a2]
  exact rdK_enc _ c hc _ 13 ((badK_no _ _ 13).1 hb) r
theorem zeroC_ok : zeroC.ok := by decide
theorem rdHead_ok (x : RS) : (rdHead x).2.ok := by
  obtain ⟨o0, o1, o2, o⟩ := zeroC_ok
  unfold rdHead
  split
  · exact ⟨gS_ok _, gG_ok _, gG_ok _, o⟩
  · exact ⟨gS_ok _, o1, o2, o⟩
theorem rdAll_ok (x : RS) : (rdAll x).2.ok := rdK_ok _ _ (rdHead_ok x) 13
theorem rdHead_kind (x : RS) : (rdHead x).2.kind = gS x := by unfold rdHead; split <;> rfl
theorem rdAll_kind (x : RS) : (rdAll x).2.kind = gS x := ((rdK_head _ _ 13).1).trans (rdHead_kind x)
theorem rdHead_back (x : RS) (h : (rdHead x).1.2 = 0) : x.2 = 0 ∧ x.1 = headB (rdHead x).2.kind (rdHead x).2.client (rdHead x).2.seq ++ (rdHead x).1.1 := by
  unfold rdHead at h ⊢
  unfold headB
  split at h
  · rename_i hq
    rw [if_pos hq]
    dsimp only
    rw [if_pos hq]
    obtain ⟨a1, a2⟩ := rG_back _ h
    obtain ⟨b1, b2⟩ := rG_back _ a1
    obtain ⟨c1, c2⟩ := rS_back _ b1
    refine ⟨c1, ?_⟩
    rw [ByteArray.append_assoc, ByteArray.append_assoc, ← a2, ← b2, ← c2]
  · rename_i hq
    rw [if_neg hq]
    dsimp only
    rw [if_neg hq]
    exact rS_back _ h
/-- What is read is written as itself. -/
theorem rdAll_back (x : RS) (h : (rdAll x).1.2 = 0) : x.2 = 0 ∧ x.1 = encC (rdAll x).2 ++ (rdAll x).1.1 ∧ badC (rdAll x).2 = false := by
  obtain ⟨a1, a2, a3⟩ := rdK_back (fieldsOf (gS x)) (rdHead x) 13 (Nat.le_refl _) h
  obtain ⟨b1, b2⟩ := rdHead_back x a1
  have hk : fieldsOf (rdAll x).2.kind = fieldsOf (gS x) := by rw [rdAll_kind]
  refine ⟨b1, ?_, ?_⟩
  · obtain ⟨c1, c2, c3⟩ := rdK_head (fieldsOf (gS x)) (rdHead x) 13
    rw [encC_eq, hk]
    unfold rdAll
    rw [c1, c2, c3, ByteArray.append_assoc, ← a2]
    exact b2
  · unfold badC
    rw [hk]
    exact (badK_no _ _ 13).2 a3
/-! Which commands may be. -/
def textsC (c : Command) : Bool := !lgT c.user && !lgT c.name && !lgT c.task.job && !lgT c.job.name && !lgT c.job.user && !lgT c.job.alloc && !lgT c.alloc.name && !lgT c.alloc.user
def noneC (c : Command) : Bool := clientB c.kind && (decide (c.client = 0) || decide (c.seq = 0))
def mayC (c : Command) : Bool := kindB c.kind && decide (c = onlyC c) && !noneC c && textsC c
def endB (x : RS) : Bool := decide (endF x.1 x.2 = 0)
def isC (x : RS) : Bool := kindB (rdAll x).2.kind && endB (rdAll x).1
def encOk (c : Command) : Bool := !badC c && isC (encC c, 0) && kindB c.kind && decide ((rdAll (encC c, 0)).2 = c) && !noneC c
theorem endB_iff (x : RS) : endB x = true ↔ x.2 = 0 ∧ x.1 = ByteArray.empty := by
  unfold endB endF
  rw [decide_eq_true_iff]
  constructor
  · intro h
    split at h
    · cases h
    · rename_i hn
      refine ⟨h, ByteArray.size_eq_zero_iff.1 ?_⟩
      omega
  · rintro ⟨h1, h2⟩
    rw [h1, h2, if_neg (by simp)]
theorem putK_head (B : Int) (c d : Command) : ∀ k, (putK B c k d).kind = d.kind ∧ (putK B c k d).client = d.client ∧ (putK B c k d).seq = d.seq
  | 0 => ⟨rfl, rfl, rfl⟩
  | k + 1 => by
    have ih := putK_head B c d k
    have hg : ∀ x : Command, (putG c k x).kind = x.kind ∧ (putG c k x).client = x.client ∧ (putG c k x).seq = x.seq := fun x => by
      match k with
      | 0 | 1 | 2 | 3 | 4 | 5 | 6 | 7 | 8 | 9 | 10 | 11 | k + 12 => exact ⟨rfl, rfl, rfl⟩
    unfold putK
    split
    · exact ⟨(hg _).1.trans ih.1, (hg _).2.1.trans ih.2.1, (hg _).2.2.trans ih.2.2⟩
    · exact ih
theorem onlyC_kind (c : Command) : (onlyC c).kind = c.kind := by
  refine (putK_head _ c _ 13).1.trans ?_
  unfold baseC
  split <;> rfl
theorem putG_texts (c d : Command) (k : Nat) (hd : textsC d = true) (hb : badG c k = false) : textsC (putG c k d) = true := by
  unfold textsC at hd ⊢
  simp only [Bool.and_eq_true, Bool.not_eq_true'] at hd ⊢
  obtain ⟨⟨⟨⟨⟨⟨⟨h1, h2⟩, h3⟩, h4⟩, h5⟩, h6⟩, h7⟩, h8⟩ := hd
  match k with
  | 0 => exact ⟨⟨⟨⟨⟨⟨⟨hb, h2⟩, h3⟩, h4⟩, h5⟩, h6⟩, h7⟩, h8⟩
  | 2 => exact ⟨⟨⟨⟨⟨⟨⟨h1, hb⟩, h3⟩, h4⟩, h5⟩, h6⟩, h7⟩, h8⟩
  | 3 => exact ⟨⟨⟨⟨⟨⟨⟨h1, h2⟩, hb⟩, h4⟩, h5⟩, h6⟩, h7⟩, h8⟩
  | 10 =>
    have hb' : (lgT c.job.name || lgT c.job.user || lgT c.job.alloc) = false := hb
    simp only [Bool.or_eq_false_iff] at hb'
    exact ⟨⟨⟨⟨⟨⟨⟨h1, h2⟩, h3⟩, hb'.1.1⟩, hb'.1.2⟩, hb'.2⟩, h7⟩, h8⟩
  | 11 =>
    have hb' : (lgT c.alloc.name || lgT c.alloc.user) = false := hb
    simp only [Bool.or_eq_false_iff] at hb'
    exact ⟨⟨⟨⟨⟨⟨⟨h1, h2⟩, h3⟩, h4⟩, h5⟩, h6⟩, hb'.1⟩, hb'.2⟩
  | 1 | 4 | 5 | 6 | 7 | 8 | 9 | k + 12 => exact ⟨⟨⟨⟨⟨⟨⟨h1, h2⟩, h3⟩, h4⟩, h5⟩, h6⟩, h7⟩, h8⟩
theorem putK_texts (B : Int) (c d : Command) (hd : textsC d = true) : ∀ k, (∀ j, j < k → selB B j = true → badG c j = false) → textsC (putK B c k d) = true
  | 0, _ => hd
  | k + 1, h => by
    have ih := putK_texts B c d hd k fun j hj => h j (by omega)
    unfold putK
    split
    · exact putG_texts c _ k ih (h k (by omega) (by assumption))
    · exact ih
theorem texts_good (c : Command) (h : textsC c = true) (k : Nat) : badG c k = false := by
  unfold textsC at h
  simp only [Bool.and_eq_true, Bool.not_eq_true'] at h
  obtain ⟨⟨⟨⟨⟨⟨⟨h1, h2⟩, h3⟩, h4⟩, h5⟩, h6⟩, h7⟩, h8⟩ := h
  match k with
  | 0 => exact h1
  | 2 => exact h2
  | 3 => exact h3
  | 10 => show (lgT c.job.name || lgT c.job.user || lgT c.job.alloc) = false; rw [h4, h5, h6]; rfl
  | 11 => show (lgT c.alloc.name || lgT c.alloc.user) = false; rw [h7, h8]; rfl
  | 1 | 4 | 5 | 6 | 7 | 8 | 9 | k + 12 => rfl
theorem only_texts (c : Command) (hb : badC c = false) : textsC (onlyC c) = true := by
  refine putK_texts _ c _ ?_ 13 ((badK_no _ _ 13).1 hb)
  unfold baseC
  split <;> rfl
/-- What Encode asks is what may be. -/
theorem encOk_may (c : Command) (hc : c.ok) : encOk c = mayC c := by
  unfold encOk mayC
  cases hb : badC c
  · have hr := rdAll_enc c hc hb ByteArray.empty
    rw [ByteArray.append_empty] at hr
    have hi : isC (encC c, 0) = kindB c.kind := by
      unfold isC
      rw [hr, (endB_iff _).2 ⟨rfl, rfl⟩, onlyC_kind, Bool.and_true]
    rw [hi, hr]
    have ht := only_texts c hb
    cases kindB c.kind
    · rfl
    · by_cases he : c = onlyC c
      · have h2 : decide (c = onlyC c) = true := decide_eq_true he
        have h3 : decide (onlyC c = c) = true := decide_eq_true he.symm
        have h4 : textsC c = true := by rw [he]; exact ht
        simp only [h2, h3, h4, Bool.not_false, Bool.and_true, Bool.true_and]
      · have h2 : decide (c = onlyC c) = false := decide_eq_false he
        have h3 : decide (onlyC c = c) = false := decide_eq_false (fun h => he h.symm)
        simp only [h2, h3, Bool.and_false, Bool.false_and]
  · have ht : textsC c = false := by
      cases ht : textsC c
      · rfl
      · have := (badK_no (fieldsOf c.kind) (badG c) 13).2 fun j _ _ => texts_good c ht j
        unfold badC at hb
        rw [hb] at this
        cases this
    rw [ht]
    simp
/-- The bytes of a command that may be are read as it. -/
theorem read_enc (c : Command) (hc : c.ok) (hm : mayC c = true) (r : ByteArray) : rdAll (encC c ++ r, 0) = ((r, 0), c) ∧ badC c = false ∧ kindB c.kind = true := by
  unfold mayC at hm
  simp only [Bool.and_eq_true, decide_eq_true_iff] at hm
  obtain ⟨⟨⟨h1, h2⟩, h3⟩, h4⟩ := hm
  have hb : badC c = false := (badK_no _ _ 13).2 fun j _ _ => texts_good c h4 j
  refine ⟨?_, hb, h1⟩
  rw [rdAll_enc c hc hb r, ← h2]
/-- Decode takes what may be. -/
def decOk (s : ByteArray) : Bool := isC (s, 0) && mayC (rdAll (s, 0)).2
theorem decOk_back (s : ByteArray) (h : isC (s, 0) = true) : s = encC (rdAll (s, 0)).2 := by
  unfold isC at h
  rw [Bool.and_eq_true, endB_iff] at h
  obtain ⟨_, h1, h2⟩ := h
  have := (rdAll_back (s, 0) h1).2.1
  rw [h2, ByteArray.append_empty] at this
  exact this
theorem decOk_enc (c : Command) (hc : c.ok) (hm : mayC c = true) (more : ByteArray) : decOk (encC c ++ more) = decide (more = ByteArray.empty) := by
  obtain ⟨a, b, k⟩ := read_enc c hc hm more
  unfold decOk isC
  rw [a, k, hm, Bool.true_and, Bool.and_true]
  by_cases h : more = ByteArray.empty
  · rw [decide_eq_true h]; exact (endB_iff _).2 ⟨rfl, h⟩
  · rw [decide_eq_false h]
    cases he : endB (more, 0)
    · rfl
    · exact absurd ((endB_iff _).1 he).2 h
end Go.Proofs.Yteglieoeblehpaa
