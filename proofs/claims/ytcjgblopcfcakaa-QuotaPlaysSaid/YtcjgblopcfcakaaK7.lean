/- Words of this session, the seventh part: a region that draws its order, in which a block is made and written, too. Conditions: none. -/
import Derived.Test.YtcjgblopcfcakaaK5
namespace Go.Proofs.Ytcjgblopcfcakaa
open Go.RowKit

/-- Cells written one behind the other. -/
def putAll (b : Nat) : World → Nat → List Value → World
  | W, _, [] => W
  | W, i, v :: vs => putAll b (W.setCell ⟨b, i, none⟩ v) (i + 1) vs
theorem putAll_blk {b : Nat} {t : TypeId} : ∀ (vs : List Value) (W : World) (i : Nat) (pre post : List Value), Blk W b t (pre ++ post).toArray → pre.length = i → post.length = vs.length → Blk (putAll b W i vs) b t (pre ++ vs).toArray
  | [], W, i, pre, post, h, hi, hl => by
    have : post = [] := List.length_eq_zero_iff.1 hl
    subst this
    exact h
  | v :: vs, W, i, pre, post, h, hi, hl => by
    match post, hl with
    | p :: post, hl =>
      have h1 : Blk (W.setCell ⟨b, i, none⟩ v) b t ((pre ++ [v]) ++ post).toArray := by
        refine h.put i v ?_
        subst hi
        simp
      have := putAll_blk vs (W.setCell ⟨b, i, none⟩ v) (i + 1) (pre ++ [v]) post h1 (by simp [hi]) (by simpa using hl)
      simpa [putAll] using this
theorem putAll_all {b : Nat} {t : TypeId} {W : World} {z : Array Value} (vs : List Value) (h : Blk W b t z) (hl : z.size = vs.length) : Blk (putAll b W 0 vs) b t vs.toArray := by
  have := putAll_blk vs W 0 [] z.toList (by simpa using h) rfl (by simpa using hl)
  simpa using this
theorem putAll_below {b : Nat} {B : Nat} {w0 : World} (h : B ≤ b) : ∀ (vs : List Value) (W : World) (i : Nat), Below B w0 W → Below B w0 (putAll b W i vs)
  | [], _, _, hb => hb
  | v :: vs, W, i, hb => putAll_below h vs _ _ (hb.setCell (p := ⟨b, i, none⟩) h v)

section
variable {P : Program} {ops : Array Oper} {md : Region.Mode} {w : World} {n0 n : Nat} {σ : Type} {I : σ → World → Prop}

def RunsTo (P : Program) (o : Oper) (a : Act) (W : World) (r : Value) (W' : World) : Prop :=
  (execOp a.eval o).run P W = .ok (.value r) W' ∨ ((execOp a.eval o).run P W = .ok .skip W' ∧ r = undef)

def wpAnyH (P : Program) (md : Region.Mode) (ops : Array Oper) (w : World) (n0 n : Nat) (I : σ → World → Prop) (L : Array Bool → Act → σ → Prop) : Nat → Array Bool → Act → σ → Prop
  | 0, listed, a, s => L listed a s
  | f + 1, listed, a, s => Region.ready md ops listed ≠ [] ∧ ∀ i ∈ Region.ready md ops listed, i < n ∧
      (i < n0 → ∃ oi v, ops[i]? = some oi ∧ YU P ops w oi v a ∧ wpAnyH P md ops w n0 n I L f (listed.setIfInBounds i true) (a.put oi.dst v) s) ∧
      (n0 ≤ i → ∃ oi, ops[i]? = some oi ∧ oi.guard = none ∧ ∀ W, I s W → ∃ r W' s', RunsTo P oi a W r W' ∧ I s' W' ∧ wpAnyH P md ops w n0 n I L f (listed.setIfInBounds i true) (a.put oi.dst r) s')

theorem wpAny_of_H {g : Nat} {L : Array Bool → Act → σ → Prop} {Q' : Exit → Act → World → Prop} (hI : ∀ s W W', I s W → Below W.heap.size W W' → I s W') (hIw : ∀ s W, I s W → Below w.heap.size w W)
    (hL : ∀ listed a s W, I s W → L listed a s → wpAny P md ops Q' g listed a W) :
    ∀ (f : Nat) (listed : Array Bool) (a : Act) (s : σ) (W : World), I s W → wpAnyH P md ops w n0 n I L f listed a s → wpAny P md ops Q' (f + g) listed a W
  | 0, listed, a, s, W, hW, h => by rw [Nat.zero_add]; exact hL _ _ _ _ hW h
  | f + 1, listed, a, s, W, hW, h => by
    rw [show f + 1 + g = (f + g) + 1 by omega]
    refine ⟨fun h0 => absurd h0 h.1, fun i hi => ?_⟩
    obtain ⟨hin, hq, hal⟩ := h.2 i hi
    rcases Nat.lt_or_ge i n0 with hlt | hge
    · obtain ⟨oi, v, ho, hy, hG⟩ := hq hlt
      refine wpOp_of_qOp (C := fun w' => ∃ y : Later (⟨W, hIw s W hW⟩ : Beyond w), w' = extn w y.on) ⟨⟨W, below_self W⟩, rfl⟩ ?_ ((hy ⟨W, hIw s W hW⟩).qOp ho (K := fun a' => a' = a.put oi.dst v) rfl)
      rintro a' w' ⟨y, rfl⟩ rfl
      exact wpAny_of_H hI hIw hL f _ _ _ _ (hI _ _ _ hW y.below) hG
    · obtain ⟨oi, ho, hgd, hall⟩ := hal hge
      obtain ⟨r, W', s', hrun, hI', hG⟩ := hall W hW
      have hw : Region.wanted oi (yielded ops a.tmps) = true := by unfold Region.wanted; rw [hgd]
      unfold wpOp
      simp only [ho, hw, if_true]
      refine .inl ?_
      unfold Oper.wp
      rcases hrun with hrun | ⟨hrun, rfl⟩
      · rw [hrun]
        simp only [Oper.upon]
        exact wpAny_of_H hI hIw hL f _ _ _ _ hI' hG
      · rw [hrun]
        simp only [Oper.upon]
        exact wpAny_of_H hI hIw hL f _ _ _ _ hI' hG

theorem wpAnyH_first {i : Nat} {oi : Oper} {v : Value} {L : Array Bool → Act → σ → Prop} (hi : ops[i]? = some oi) (hsel : ∀ (j : Nat) (o : Oper) cs b, ops[j]? = some o → o.op ≠ .select cs b)
    (hs : Region.sinkB md ops n = true) (hc : Region.chainB md ops n = true) (hn : n < ops.size) (hin : i < n0) (hnn : n0 ≤ n)
    (hdone : ∀ listed a s, L listed a s → ∀ j ∈ Region.ready md ops listed, n ≤ j) :
    ∀ (f : Nat) (listed : Array Bool) (a : Act) (s : σ), HeadInv md ops n listed →
      (∀ j oj, ops[j]? = some oj → j ≠ i → listed.getD j true = false → (∀ e ∈ oj.after, Region.binds md e = true → e.on ≠ i) → oi.apart ops oj = true) →
      i ∈ Region.ready md ops listed → YU P ops w oi v a →
      wpAnyH P md ops w n0 n I L f (listed.setIfInBounds i true) (a.put oi.dst v) s → wpAnyH P md ops w n0 n I L (f + 1) listed a s := by
  intro f
  induction f with
  | zero =>
    intro listed a s inv _ hr hy H
    have hun := (mem_ready.1 hr).1
    refine ⟨fun h => (by rw [h] at hr; cases hr), fun j hj => ?_⟩
    have hjn : j < n := by
      rcases Nat.lt_or_ge j n with h | h
      · exact h
      · exact absurd hj (tail_waits hs hc hn inv _ i rfl (by omega) hun j h)
    by_cases hji : j = i
    · subst hji
      exact ⟨hjn, fun _ => ⟨oi, v, hi, hy, H⟩, fun h => by omega⟩
    · have := hdone _ _ _ H j (ready_mono hj hji)
      omega
  | succ f ih =>
    intro listed a s inv hfree hr hy H
    have hun := (mem_ready.1 hr).1
    refine ⟨fun h => (by rw [h] at hr; cases hr), fun j hj => ?_⟩
    have hjn : j < n := by
      rcases Nat.lt_or_ge j n with h | h
      · exact h
      · exact absurd hj (tail_waits hs hc hn inv _ i rfl (by omega) hun j h)
    by_cases hji : j = i
    · subst hji
      exact ⟨hjn, fun _ => ⟨oi, v, hi, hy, H⟩, fun h => by omega⟩
    · obtain ⟨_, hq, hal⟩ := H.2 j (ready_mono hj hji)
      obtain ⟨hjun, oj, hoj, hall⟩ := mem_ready.1 hj
      have hnot : ∀ e ∈ oj.after, Region.binds md e = true → e.on ≠ i := fun e he hb heq => by
        have h1 := hall e he hb
        rw [heq, getD_both hun] at h1
        cases h1
      have hap := hfree j oj hoj hji hjun hnot
      have h2 := (Oper.apart_spec hap).2.1
      have hfree' : ∀ k ok, ops[k]? = some ok → k ≠ i → (listed.setIfInBounds j true).getD k true = false →
          (∀ e ∈ ok.after, Region.binds md e = true → e.on ≠ i) → oi.apart ops ok = true := fun k ok hk hki hun' hno => by
        refine hfree k ok hk hki ?_ hno
        by_cases hjk : j = k
        · subst hjk; exact hjun
        · rw [getD_set_ne true hjk] at hun'; exact hun'
      refine ⟨hjn, fun hlt => ?_, fun hge => ?_⟩
      · obtain ⟨oj', vj, hoj', hyj, hG⟩ := hq hlt
        obtain rfl := Option.some.inj (hoj.symm.trans hoj')
        refine ⟨oj, vj, hoj, hyj.unput hap (fun cs b => hsel j oj cs b hoj), ?_⟩
        refine ih _ _ s (inv.set hj hjn) hfree' (ready_mono hr (Ne.symm hji)) (hy.put hap (fun cs b => hsel i oi cs b hi)) ?_
        rw [Array.setIfInBounds_comm _ _ (Ne.symm hji), Act.put_comm a v vj h2] at hG
        exact hG
      · obtain ⟨oj', hoj', hgd, hG⟩ := hal hge
        obtain rfl := Option.some.inj (hoj.symm.trans hoj')
        refine ⟨oj, hoj, hgd, fun W hW => ?_⟩
        obtain ⟨r, W', s', hrun, hI', hG⟩ := hG W hW
        refine ⟨r, W', s', ?_, hI', ?_⟩
        · unfold RunsTo at hrun ⊢
          rwa [execOp_put oj (fun cs b => hsel j oj cs b hoj) a oi.dst v (Oper.apart_spec hap).1] at hrun
        · refine ih _ _ _ (inv.set hj hjn) hfree' (ready_mono hr (Ne.symm hji)) (hy.put hap (fun cs b => hsel i oi cs b hi)) ?_
          rw [Array.setIfInBounds_comm _ _ (Ne.symm hji), Act.put_comm a v r h2] at hG
          exact hG

/-- What the operations that work on memory do, one behind the other. -/
def Mem (P : Program) (ops : Array Oper) (I : σ → World → Prop) (Q : Exit → Act → World → Prop) (tl : List Oper) : Nat → Nat → Act → σ → Prop
  | 0, _, a, s => ∀ W, I s W → wpList P ops Q tl a W
  | m + 1, k, a, s => ∃ ok, ops[k]? = some ok ∧ ok.guard = none ∧ ∀ W, I s W → ∃ r W' s', RunsTo P ok a W r W' ∧ I s' W' ∧ Mem P ops I Q tl m (k + 1) (a.put ok.dst r) s'

theorem wpAnyH_lexM {g : Nat} {Q : Exit → Act → World → Prop} {tl : List Oper} (hc : Region.chainB md ops n0 = true) (hn : n < ops.size) :
    ∀ (m k : Nat) (listed : Array Bool) (a : Act) (s : σ), k + m = n → n0 ≤ k → listed.size = ops.size → (∀ i, i < k → listed.getD i true = true) → (∀ i, k ≤ i → i < ops.size → listed.getD i true = false) →
    Region.lexHead md ops g m k listed = true → Mem P ops I Q tl m k a s →
    wpAnyH P md ops w n0 n I (fun listed' a' s' => Region.seqB md ops g n listed' = true ∧ ∀ W, I s' W → wpList P ops Q tl a' W) m listed a s
  | 0, k, listed, a, s, hk, _, _, _, _, hB, h => by
    have : k = n := by simpa using hk
    subst this
    exact ⟨by simpa [Region.lexHead] using hB, h⟩
  | m + 1, k, listed, a, s, hk, hge, hsz, hlo, hhi, hB, h => by
    simp only [Region.lexHead, Bool.and_eq_true] at hB
    obtain ⟨⟨hr, hf⟩, hB'⟩ := hB
    have hkn : k < n := by omega
    have hr' : k ∈ Region.ready md ops listed := by simpa using hr
    refine ⟨fun h => (by rw [h] at hr'; cases hr'), fun j hj => ?_⟩
    obtain ⟨hjun, oj, hoj, hall⟩ := mem_ready.1 hj
    have hjs : j < ops.size := (Array.getElem?_eq_some_iff.1 hoj).1
    have hjk : j = k := by
      rcases Nat.lt_trichotomy j k with h1 | h1 | h1
      · rw [hlo j h1] at hjun; cases hjun
      · exact h1
      · exfalso
        have h2 := List.all_eq_true.1 hc j (List.mem_range.2 hjs)
        simp only [Bool.or_eq_true, decide_eq_true_eq] at h2
        rcases h2 with h2 | h2
        · omega
        · obtain ⟨o', ho', e, he, hb, hon⟩ := Region.waitsFor_spec h2
          have : o' = oj := Option.some.inj (ho'.symm.trans hoj)
          subst this
          have h3 := hall e he hb
          rw [hon, getD_both (hhi (j - 1) (by omega) (by omega))] at h3
          cases h3
    subst hjk
    refine ⟨hkn, fun h => by omega, fun _ => ?_⟩
    obtain ⟨ok, hok, hgd, hrun⟩ := h
    refine ⟨ok, hok, hgd, fun W hW => ?_⟩
    obtain ⟨r, W', s', h1, h2, h3⟩ := hrun W hW
    refine ⟨r, W', s', h1, h2, wpAnyH_lexM hc hn m (j + 1) _ _ _ (by omega) (by omega) (by simp [hsz]) (fun i hi => ?_) (fun i hi hi' => ?_) hB' h3⟩
    · by_cases hij : i = j
      · subst hij; exact getD_set_self hjun
      · rw [getD_set_ne true (Ne.symm hij)]; exact hlo i (by omega)
    · rw [getD_set_ne true (by omega)]; exact hhi i (by omega) hi'
theorem wpAnyH_lexQ {g : Nat} {Q : Exit → Act → World → Prop} {tl : List Oper} {A : Act} {s : σ} (hnn : n0 ≤ n) (hsel : Region.noSelect ops = true) (hs : Region.sinkB md ops n = true) (hc : Region.chainB md ops n = true) (hc0 : Region.chainB md ops n0 = true) (hn : n < ops.size) :
    ∀ (l : List Oper) (k : Nat) (listed : Array Bool) (a : Act), (∀ j, j < l.length → l[j]? = ops[k + j]?) → k + l.length = n0 → HeadInv md ops n listed → (∀ i, i < k → listed.getD i true = true) → (∀ i, k ≤ i → i < ops.size → listed.getD i true = false) → onceB a.tmps.size l = true →
    Region.lexHead md ops g (l.length + (n - n0)) k listed = true → (∀ x : Beyond w, wpQuiet P ops (fun w' => ∃ y : Later x, w' = extn w y.on) (fun a' => a' = A) l a) → Mem P ops I Q tl (n - n0) n0 A s →
    wpAnyH P md ops w n0 n I (fun listed' a' s' => Region.seqB md ops g n listed' = true ∧ ∀ W, I s' W → wpList P ops Q tl a' W) (l.length + (n - n0)) listed a s
  | [], k, listed, a, _, hk, inv, hq, hhi, _, hB, h, hT => by
    have hA : a = A := h ⟨w, below_self w⟩
    have : k = n0 := by simpa using hk
    subst this hA
    simp only [List.length_nil, Nat.zero_add] at hB ⊢
    exact wpAnyH_lexM hc0 hn _ _ _ _ _ (by omega) (Nat.le_refl _) inv.size hq hhi hB hT
  | o :: l, k, listed, a, hl, hk, inv, hq, hhi, ho, hB, h, hT => by
    have h0 : ops[k]? = some o := by simpa using (hl 0 (by simp)).symm
    rw [show (o :: l).length + (n - n0) = (l.length + (n - n0)) + 1 by simp only [List.length_cons]; omega] at hB ⊢
    simp only [Region.lexHead, Bool.and_eq_true] at hB
    obtain ⟨⟨hr, hf⟩, hB'⟩ := hB
    have hkn : k < n0 := by simp only [List.length_cons] at hk; omega
    have hr' : k ∈ Region.ready md ops listed := by simpa using hr
    have hun := (mem_ready.1 hr').1
    simp only [onceB, Bool.and_eq_true] at ho
    obtain ⟨hod, hol⟩ := ho
    obtain ⟨d, hd⟩ : ∃ d, o.dst = some d := by
      cases hd : o.dst with
      | none => rw [hd] at hod; cases hod
      | some d => exact ⟨d, rfl⟩
    rw [hd] at hod
    simp only [Bool.and_eq_true, decide_eq_true_eq] at hod
    have hv : ∀ x : Beyond w, YieldsIn P ops (fun w' => ∃ y : Later x, w' = extn w y.on) o (A.tmps.getD d undef) a ∧ wpQuiet P ops (fun w' => ∃ y : Later x, w' = extn w y.on) (fun a' => a' = A) l (a.put o.dst (A.tmps.getD d undef)) := fun x => by
      have hst : qOp P ops (fun w' => ∃ y : Later x, w' = extn w y.on) k (wpQuiet P ops (fun w' => ∃ y : Later x, w' = extn w y.on) (fun a' => a' = A) l) a := by
        have := h x
        unfold wpQuiet at this
        unfold qOp
        simp only [h0]
        exact this
      obtain ⟨v, hy, hK⟩ := yieldsIn_of_qOp h0 hst
      have hk1 := (keeps l _ hod.2 hK).1
      have : A.tmps.getD d undef = v := by
        rw [Array.getD_eq_getD_getElem?, hk1, hd]
        simp [Act.put, hod.1]
      rw [this]
      exact ⟨hy, hK⟩
    refine wpAnyH_first h0 (Region.noSelect_spec hsel) hs hc hn hkn hnn (fun listed' a' s' hL => seqB_ready hL.1) _ listed a s inv (Region.free_spec h0 hf) hr' (fun x => (hv x).1) ?_
    refine wpAnyH_lexQ hnn hsel hs hc hc0 hn l (k + 1) _ _ (fun j hj => by have := hl (j + 1) (by simp; omega); simpa [Nat.add_assoc, Nat.add_comm 1 j] using this) (by simp only [List.length_cons] at hk; omega) (inv.set hr' (by omega)) (fun i hi => ?_) (fun i hi hi' => by rw [getD_set_ne true (by omega)]; exact hhi i (by omega) hi') (by rw [hd]; simpa [Act.put] using hol) hB' (fun x => (hv x).2) hT
    by_cases hik : i = k
    · subst hik; exact getD_set_self hun
    · rw [getD_set_ne true (Ne.symm hik)]; exact hq i (by omega)

theorem wp_region_mem {id : Nat} {Q : Exit → Act → World → Prop} {a : Act} {w : World} {l : List Oper} (n0 n : Nat) (A : Act) (I : σ → World → Prop) (s : σ) (hm : P.follows .mixedOrders = true) (hB : (Region.lexTailB .any l.toArray n && decide (n0 ≤ n) && onceB a.tmps.size (l.take n0) && Region.chainB .any l.toArray n0) = true)
    (hI : ∀ s W W', I s W → Below W.heap.size W W' → I s W') (hIw : ∀ s W, I s W → Below w.heap.size w W) (h0 : ∀ W, Below w.heap.size w W → I s W)
    (hq : ∀ R : Act → Prop, R A → ∀ x : Beyond w, wpQuiet P l.toArray (fun w' => ∃ y : Later x, w' = extn w y.on) R (l.take n0) a)
    (hT : Mem P l.toArray I Q (l.drop n) (n - n0) n0 A s) : (Code.region id l.toArray true).wp P Q a w := by
  simp only [Bool.and_eq_true, decide_eq_true_eq] at hB
  obtain ⟨⟨⟨hB, hnn⟩, ho⟩, hc0⟩ := hB
  simp only [Region.lexTailB, Bool.and_eq_true, decide_eq_true_eq] at hB
  obtain ⟨⟨⟨⟨hsel, hn⟩, hs⟩, hc⟩, hlex⟩ := hB
  have hn' : n < l.length := by simpa using hn
  have htl : (l.take n0).length = n0 := by simp; omega
  have hdl : (l.drop n).length = l.toArray.size - n := by simp
  have inv0 : HeadInv .any l.toArray n (Array.replicate l.toArray.size false) :=
    ⟨by simp, fun j oj _ hl => (by rw [getD_replicate_false] at hl; cases hl), fun t _ ht => getD_in (by simpa using ht) (getD_replicate_false _ _)⟩
  have H := wpAnyH_lexQ (md := .any) (g := l.toArray.size - n) (tl := l.drop n) (Q := Q) (I := I) (w := w) (s := s) hnn hsel hs hc hc0 hn (l.take n0) 0 _ a (fun j hj => by
    have hj' : j < n0 := by rw [htl] at hj; exact hj
    simp [hj']) (by simpa using htl) inv0 (fun i hi => by omega) (fun i _ hi => getD_in (by simpa using hi) (getD_replicate_false _ _)) ho (by rw [htl, show n0 + (n - n0) = n by omega]; exact hlex) (hq (fun a' => a' = A) rfl) hT
  refine wp_region_any hm ?_
  have := wpAny_of_H (Q' := Q) (g := l.toArray.size - n) hI hIw (fun listed' a' s' W' hW' hL => by
    have := wpAny_of_seq (md := .any) (Q' := Q) (l.drop n) n listed' a' W' (fun j => by simp [List.getElem?_drop]) (by rw [hdl]; exact hL.1) (hL.2 W' hW')
    rwa [hdl] at this) _ _ _ _ { w with drawn := w.drawn + 1 } (h0 _ (Below.drew (Below.refl _ w))) H
  rw [htl, show n0 + (n - n0) + (l.toArray.size - n) = l.toArray.size by omega] at this
  exact this

/-- The block, once it is there, and what lies in it. -/
def Kept (w : World) (t : TypeId) (s : Option (Nat × Array Value)) (W : World) : Prop := Below w.heap.size w W ∧ ∀ b cs, s = some (b, cs) → w.heap.size ≤ b ∧ Blk W b t cs
/-- **A region that draws its order: what only reads, or calls what makes new memory alone (n of them); a block that is made, and written at once; then what comes in one order.** -/
theorem wp_region_stored {id : Nat} {Q : Exit → Act → World → Prop} {a : Act} {w : World} {l : List Oper} (n : Nat) (t : TypeId) (z cs : Array Value) (A : Act) (hm : P.follows .mixedOrders = true) (hB : (Region.lexTailB .any l.toArray (n + 2) && decide (n ≤ n + 2) && onceB a.tmps.size (l.take n) && Region.chainB .any l.toArray n) = true)
    (hq : ∀ R : Act → Prop, R A → ∀ x : Beyond w, wpQuiet P l.toArray (fun w' => ∃ y : Later x, w' = extn w y.on) R (l.take n) a)
    (hmk : ∃ oi, l.toArray[n]? = some oi ∧ oi.guard = none ∧ ∀ (a : Act) (W : World), (execOp a.eval oi).run P W = .ok (.value (ptr W.heap.size)) (W.alloc (.cells z t)))
    (hst : ∀ b, ∃ oi, l.toArray[n + 1]? = some oi ∧ oi.guard = none ∧ oi.dst = none ∧ ∀ W, Blk W b t z → ∃ W', (execOp (A.put ((l.toArray[n]?).bind (·.dst)) (ptr b)).eval oi).run P W = .ok .skip W' ∧ Blk W' b t cs ∧ ∀ B w0, B ≤ b → Below B w0 W → Below B w0 W')
    (hT : ∀ b W, Below w.heap.size w W → w.heap.size ≤ b → Blk W b t cs → wpList P l.toArray Q (l.drop (n + 2)) (A.put ((l.toArray[n]?).bind (·.dst)) (ptr b)) W) : (Code.region id l.toArray true).wp P Q a w := by
  refine wp_region_mem (σ := Option (Nat × Array Value)) n (n + 2) A (Kept w t) none hm hB ?_ (fun s W h => h.1) (fun W h => ⟨h, fun b cs h => by cases h⟩) hq ?_
  · exact fun s W W' h hb => ⟨below_to h.1 hb, fun b cs hs => ⟨(h.2 b cs hs).1, (h.2 b cs hs).2.past hb⟩⟩
  · rw [show n + 2 - n = 2 by omega]
    obtain ⟨oi, hoi, hg, hrun⟩ := hmk
    refine ⟨oi, hoi, hg, fun W hW => ⟨_, _, some (W.heap.size, z), .inl (hrun A W), ⟨below_own hW.1 _, ?_⟩, ?_⟩⟩
    · intro b cs h
      obtain ⟨rfl, rfl⟩ := Prod.mk.inj (Option.some.inj h)
      exact ⟨hW.1.size, Blk.new _ _ _⟩
    · rw [hoi] at hst hT
      obtain ⟨oj, hoj, hgj, hdj, hrunj⟩ := hst W.heap.size
      refine ⟨oj, hoj, hgj, fun W2 hW2 => ?_⟩
      obtain ⟨h1, h2⟩ := hW2.2 _ _ rfl
      obtain ⟨W3, h3, h4, h5⟩ := hrunj W2 h2
      refine ⟨undef, W3, some (W.heap.size, cs), .inr ⟨h3, rfl⟩, ⟨h5 _ _ h1 hW2.1, fun b cs' h => ?_⟩, ?_⟩
      · obtain ⟨rfl, rfl⟩ := Prod.mk.inj (Option.some.inj h)
        exact ⟨h1, h4⟩
      · intro W4 hW4
        obtain ⟨k1, k2⟩ := hW4.2 _ _ rfl
        rw [hdj]
        exact hT _ W4 hW4.1 k1 k2
end
end Go.Proofs.Ytcjgblopcfcakaa
