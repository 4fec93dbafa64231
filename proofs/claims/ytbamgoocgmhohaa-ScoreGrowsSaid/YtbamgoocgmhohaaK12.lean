/- Words of this session: a range over a function whose iterator keeps its place in a variable of its own (block B). Conditions: the loop is no part of another one. -/
import Derived.Test.YtbamgoocgmhohaaK11
namespace Go.Proofs.Ytbamgoocgmhohaa
open Go.RowKit Go.Shelf

/-- Of those blocks that were there only B may have turned. -/
structure Moved (B : Nat) (W W' : World) : Prop where
  os : W'.os = W.os
  tape : W'.tape = W.tape
  output : W'.output = W.output
  size : W.heap.size ≤ W'.heap.size
  block : ∀ k, k < W.heap.size → k ≠ B → W'.heap[k]? = W.heap[k]?
theorem Moved.of {B : Nat} {W W' : World} (h : Below W.heap.size W W') : Moved B W W' := ⟨h.os, h.tape, h.output, h.size, fun k hk _ => h.block k hk⟩
theorem Moved.set_ {B : Nat} {W : World} (i : Nat) (v : Value) : Moved B W (W.setCell ⟨B, i, none⟩ v) := ⟨rfl, rfl, rfl, by simp, fun k _ hne => Below.heap_setCell W ⟨B, i, none⟩ v k (fun e => hne e)⟩
/-- What is said stays said while only B turns. -/
def Bears {β : Type} (B : Nat) (J : β → World → Prop) : Prop := ∀ s W W', J s W → Moved B W W' → J s W'
/-- What is said stays said while the loop's own book-keeping turns. -/
def Puts {β : Type} (D : Nat) (I : β → World → Prop) : Prop := ∀ s W r o o', I s W → D ≤ r → W.heap[r]? = some o → o.isCells = false → I s (W.putObj r o')
theorem Puts.own {β : Type} {D : Nat} {I : β → World → Prop} (h : OwnFrom D I) : Puts D I := fun _ _ _ _ o' hs hD hr ho => h.putObj o' hs hD hr ho
/-- The blocks that the iterator reads lie as they lay. -/
def SameOn (R : Nat → Prop) (W W' : World) : Prop := ∀ k, R k → W'.heap[k]? = W.heap[k]?
theorem SameOn.refl (R : Nat → Prop) (W : World) : SameOn R W W := fun _ _ => rfl
theorem SameOn.trans {R : Nat → Prop} {A B C : World} (h : SameOn R A B) (k : SameOn R B C) : SameOn R A C := fun i hi => (k i hi).trans (h i hi)
theorem SameOn.put {R : Nat → Prop} {D : Nat} {W : World} {r : Nat} (o' : Obj) (hR : ∀ k, R k → k < D) (hD : D ≤ r) : SameOn R W (W.putObj r o') := fun k hk => World.putObj_heap_other (by have := hR k hk; omega)
theorem SameOn.set_ {R : Nat → Prop} {W : World} {b i : Nat} (v : Value) (hb : ¬ R b) : SameOn R W (W.setCell ⟨b, i, none⟩ v) := fun k hk => Below.heap_setCell W ⟨b, i, none⟩ v k (fun e => hb (by subst e; exact hk))
theorem SameOn.below {R : Nat → Prop} {D : Nat} {W W' : World} (hR : ∀ k, R k → k < D) (h : Below D W W') : SameOn R W W' := fun k hk => h.block k (hR k hk)

section
variable {α : Type} {P : Program} {g : Operand} {ps : Array Tmp} {assign body : Code} {Q : Exit → Act → World → Prop} {a : Act} {w : World} {gf : Nat} {lb : Array Value}
set_option maxHeartbeats 1000000 in
theorem wp_rangeW (hg : a.eval g = .func (.func gf) #[] lb) (eg : ∀ args w, (callFunc gf args).run P w = .ok (.enter gf args) w)
    (encs : α → Array Value) (hps : ∀ x, (encs x).size = ps.size) (B : Nat) (hB : B < w.heap.size) (R : Nat → Prop) (hR : ∀ k, R k → k < w.heap.size) (S : List α → World → Prop) (Sp : List α → Prop) (Ok : List α → α → Prop)
    (I : List α → World → Prop) (Ix : Code → List α → World → Prop) (Ax : α → Act → World → Prop)
    (hseq : ∀ (l : Nat) (J Jx : List α → World → Prop) (W1 : World), Below w.heap.size w W1 → Bears B J → Bears B Jx →
      (∀ pre x W, J pre W → Ok pre x → YieldAt Fence.wide 1 P l (encs x) W fun e W' => (e = .returned (.bool true) ∧ J (pre ++ [x]) W' ∧ SameOn R W W') ∨ (e = .returned (.bool false) ∧ Jx (pre ++ [x]) W')) →
      J [] W1 → CallsIn Fence.wide 2 P gf (#[.func (.yield l) #[] #[]] ++ lb) W1 fun e W' => (∃ v, e = .returned v) ∧ ((∃ xs, S xs W' ∧ J xs W') ∨ (∃ pre, Sp pre ∧ Jx pre W')))
    (hI : Bears B I) (hIx : ∀ c, Bears B (Ix c)) (pS : Puts w.heap.size S) (pI : Puts w.heap.size I) (pIx : ∀ c, Puts w.heap.size (Ix c)) (pAx : ∀ x a', Puts w.heap.size (fun (_ : Unit) W => Ax x a' W)) (h0 : I [] w)
    (hassign : ∀ (l : Nat) (pre : List α) (x : α) (W : World) (K : Act → World → Prop), I pre W → Ok pre x → (∀ a' W', KeepsFrom w.heap.size W W' → SameOn R W W' → I pre W' → Ax x a' W' → K a' W') →
      assign.wpIn (Fence.wide.inRound l) 1 P (Exit.then K (fun _ _ _ => False)) { tmps := (ps.zip (encs x)).foldl (fun t (p, v) => t.setIfInBounds p v) a.tmps, defers := [] } W)
    (hbody : ∀ (l : Nat) (pre : List α) (x : α) (a' : Act) (W : World), I pre W → Ax x a' W → Ok pre x → body.wpIn (Fence.wide.inRound l) 1 P (ownPostG w.heap.size (SameOn R) I Ix (pre ++ [x]) W) a' W)
    (hdone : ∀ (D : Nat) (xs : List α) (W : World), w.heap.size ≤ D → S xs W → I xs W → W.heap[D]? = some (.deferred (some [])) → Q .normal { a with defers := { target := .collected D, args := #[] } :: a.defers } W)
    (hstop : ∀ (D : Nat) (c : Code) (pre : List α) (W : World), w.heap.size ≤ D → Sp pre → Ix c pre W → W.heap[D]? = some (.deferred (some [])) → c.wp P Q { a with defers := { target := .collected D, args := #[] } :: a.defers } W) :
    (Code.rangeFunc g ps assign body).wp P Q a w := by
  refine (wpIn_wide (n := 3)).1 (wpIn_rangeFunc fun fn _ => ?_)
  obtain ⟨rc, hrc⟩ : ∃ rc : LoopState → Option Code → Loop, rc = fun st pe => { state := st, pending := pe, fn, tmps := a.tmps, params := ps, assign, body, defers := w.heap.size } := ⟨_, rfl⟩
  obtain ⟨W1, hW1⟩ : ∃ W1, (w.alloc (.deferred (some []))).alloc (.loop (rc .ready none)) = W1 := ⟨_, rfl⟩
  have hb1 : Below w.heap.size w W1 := by rw [← hW1]; go_grown
  have hL1 : W1.heap[w.heap.size + 1]? = some (.loop (rc .ready none)) := by
    have := World.alloc_heap_new (w.alloc (.deferred (some []))) (.loop (rc .ready none))
    rw [World.size_alloc, hW1] at this; exact this
  have hK1 : W1.heap[w.heap.size]? = some (.deferred (some [])) := by
    rw [← hW1]; exact (Below.heap_alloc _ _ _ (by simp)).trans (World.alloc_heap_new w _)
  -- the invariant, and the two blocks of the loop
  have bear : ∀ (I : List α → World → Prop) (st : LoopState) (pe : Option Code), Bears B I → Bears B (fun pre W => I pre W ∧ W.heap[w.heap.size + 1]? = some (.loop (rc st pe)) ∧ W.heap[w.heap.size]? = some (.deferred (some []))) := by
    rintro I st pe hI s W W' ⟨hi, hl, hk⟩ hm
    exact ⟨hI _ _ _ hi hm, (hm.block _ (Array.getElem?_eq_some_iff.1 hl).1 (by omega)).trans hl, (hm.block _ (Array.getElem?_eq_some_iff.1 hk).1 (by omega)).trans hk⟩
  refine ⟨w.heap.size + 1, [{ target := .collected w.heap.size, args := #[] }], W1, { target := .fn (.func gf) lb, args := #[.func (.yield (w.heap.size + 1)) #[] #[]] }, W1, gf,
    #[.func (.yield (w.heap.size + 1)) #[] #[]] ++ lb, W1, ?_, ?_, fun _ _ => trivial, ?_, fun h => (by cases h), ?_⟩
  · rw [← hW1, hrc]; exact run_enterLoop_outer _ _ _ _ _
  · simp only [resolve, hg]
    simp [go_sem]
  · simp [invoke, go_sem, eg]
  refine (hseq (w.heap.size + 1) (fun pre W => I pre W ∧ W.heap[w.heap.size + 1]? = some (.loop (rc .ready none)) ∧ W.heap[w.heap.size]? = some (.deferred (some [])))
    (fun pre W => ∃ c, Ix c pre W ∧ W.heap[w.heap.size + 1]? = some (.loop (rc .done (some c))) ∧ W.heap[w.heap.size]? = some (.deferred (some []))) W1 hb1
    (bear I .ready none hI) (fun s W W' ⟨c, h⟩ hm => ⟨c, bear (Ix c) .done (some c) (hIx c) s W W' h hm⟩) ?round ⟨hI _ _ _ h0 (Moved.of hb1), hL1, hK1⟩).mono ?_
  case round =>
    rintro pre x W ⟨hi, hl, hk⟩ hlen
    have hy := run_yield (P := P) (args := encs x) hl (by rw [hrc]; exact hps x)
    rw [hrc] at hy
    refine ⟨fn, _, assign, body, hy, roundIn_of_wpIn trivial (hassign _ pre x W _ hi hlen fun a' Wa hka hba hia hax => ?_)⟩
    have hla := hka.same _ _ (by omega) hl rfl
    have hda := hka.same _ _ (Nat.le_refl _) hk rfl
    refine ⟨_, run_beginRound hla (by rw [hrc]), ?_⟩
    have hlt := (Array.getElem?_eq_some_iff.1 hla).1
    obtain ⟨V, hV⟩ : ∃ V, V = Wa.putObj (w.heap.size + 1) (.loop { rc .ready none with state := .busy }) := ⟨_, rfl⟩
    have hlV : V.heap[w.heap.size + 1]? = some (.loop { rc .ready none with state := .busy }) := by rw [hV]; exact World.putObj_heap_same hlt
    have hdV : V.heap[w.heap.size]? = some (.deferred (some [])) := by rw [hV]; exact (World.putObj_heap_other (by omega)).trans hda
    have hiV : I pre V := by rw [hV]; exact pI _ _ _ _ _ hia (by omega) hla rfl
    have haV : Ax x a' V := by rw [hV]; exact pAx x a' () _ _ _ _ hax (by omega) hla rfl
    have hbV : SameOn R W V := by rw [hV]; exact hba.trans (SameOn.put _ hR (by omega))
    rw [← hV]
    clear hV hy hla hda hia hax hba hlt
    refine wpIn_mono (hbody _ pre x a' V hiV haV hlen) ?_
    have ends : ∀ (jump : Option Code) (W3 : World), KeepsFrom w.heap.size V W3 → (Instr.endRound (w.heap.size + 1) jump).run P W3 = .ok (.bool jump.isNone) (W3.putObj (w.heap.size + 1) (.loop (rc (if jump.isNone then .ready else .done) jump))) ∧
        W3.heap[w.heap.size + 1]? = some (.loop { rc .ready none with state := .busy }) ∧
        (W3.putObj (w.heap.size + 1) (.loop (rc (if jump.isNone then .ready else .done) jump))).heap[w.heap.size + 1]? = some (.loop (rc (if jump.isNone then .ready else .done) jump)) ∧
        (W3.putObj (w.heap.size + 1) (.loop (rc (if jump.isNone then .ready else .done) jump))).heap[w.heap.size]? = some (.deferred (some [])) := by
      intro jump W3 hk3
      have hl3 := hk3.same _ _ (by omega) hlV rfl
      refine ⟨?_, hl3, World.putObj_heap_same (Array.getElem?_eq_some_iff.1 hl3).1, (World.putObj_heap_other (by omega)).trans (hk3.same _ _ (Nat.le_refl _) hdV rfl)⟩
      have := run_endRound (P := P) jump hl3
      rw [hrc] at this ⊢
      exact this
    have left : ∀ (c : Code) (W3 : World), KeepsFrom w.heap.size V W3 → Ix c (pre ++ [x]) W3 → ∃ v w', (Instr.endRound (w.heap.size + 1) (some c)).run P W3 = .ok v w' ∧ ((Ending.returned v = .returned (.bool true) ∧ (I (pre ++ [x]) w' ∧ w'.heap[w.heap.size + 1]? = some (.loop (rc .ready none)) ∧ w'.heap[w.heap.size]? = some (.deferred (some []))) ∧ SameOn R W w') ∨ (Ending.returned v = .returned (.bool false) ∧ ∃ c, Ix c (pre ++ [x]) w' ∧ w'.heap[w.heap.size + 1]? = some (.loop (rc .done (some c))) ∧ w'.heap[w.heap.size]? = some (.deferred (some [])))) := by
      intro c W3 hk3 hx3
      obtain ⟨hr, hl3, hl4, hk4⟩ := ends (some c) W3 hk3
      exact ⟨_, _, hr, .inr ⟨rfl, c, pIx c _ _ _ _ _ hx3 (by omega) hl3 rfl, hl4, hk4⟩⟩
    rintro e a3 W3 hp
    cases e with
    | normal =>
      obtain ⟨hk3, hb3, hi3⟩ := hp
      obtain ⟨hr, hl3, hl4, hk4⟩ := ends none W3 hk3
      exact ⟨_, _, hr, .inl ⟨rfl, ⟨pI _ _ _ _ _ hi3 (by omega) hl3 rfl, hl4, hk4⟩, (hbV.trans hb3).trans (SameOn.put _ hR (by omega))⟩⟩
    | ret => exact left _ _ hp.1 hp.2
    | exit id => exact left _ _ hp.1 hp.2
    | goto t => exact left _ _ hp.1 hp.2
    | panic ch => exact hp.elim
    | outgrown => exact hp.elim
  rintro e W2 ⟨⟨v, rfl⟩, ⟨xs, hS, hi, hl, hk⟩ | ⟨pre, hSp, c, hi, hl, hk⟩⟩
  · have hr := run_endLoop (P := P) hl (by rw [hrc]; simp)
    rw [hrc] at hr
    exact ⟨none, _, hr, hdone _ xs _ (Nat.le_refl _) (pS _ _ _ _ _ hS (by omega) hl rfl) (pI _ _ _ _ _ hi (by omega) hl rfl) ((World.putObj_heap_other (by omega)).trans hk)⟩
  · have hr := run_endLoop (P := P) hl (by rw [hrc]; simp)
    rw [hrc] at hr
    exact ⟨some c, _, hr, wpIn_wide.2 (hstop _ c pre _ (Nat.le_refl _) hSp (pIx c _ _ _ _ _ hi (by omega) hl rfl) ((World.putObj_heap_other (by omega)).trans hk))⟩
set_option maxHeartbeats 1000000 in
theorem wp_range (hg : a.eval g = .func (.func gf) #[] lb) (eg : ∀ args w, (callFunc gf args).run P w = .ok (.enter gf args) w)
    (encs : α → Array Value) (hps : ∀ x, (encs x).size = ps.size) (B : Nat) (hB : B < w.heap.size) (R : Nat → Prop) (hR : ∀ k, R k → k < w.heap.size) (S Sp : List α → Prop) (Ok : List α → α → Prop)
    (I : List α → World → Prop) (Ix : Code → List α → World → Prop) (Ax : α → Act → World → Prop)
    (hseq : ∀ (l : Nat) (J Jx : List α → World → Prop) (W1 : World), Below w.heap.size w W1 → Bears B J → Bears B Jx →
      (∀ pre x W, J pre W → Ok pre x → YieldAt Fence.wide 1 P l (encs x) W fun e W' => (e = .returned (.bool true) ∧ J (pre ++ [x]) W' ∧ SameOn R W W') ∨ (e = .returned (.bool false) ∧ Jx (pre ++ [x]) W')) →
      J [] W1 → CallsIn Fence.wide 2 P gf (#[.func (.yield l) #[] #[]] ++ lb) W1 fun e W' => (∃ v, e = .returned v) ∧ ((∃ xs, S xs ∧ J xs W') ∨ (∃ pre, Sp pre ∧ Jx pre W')))
    (hI : Bears B I) (hIx : ∀ c, Bears B (Ix c)) (pI : Puts w.heap.size I) (pIx : ∀ c, Puts w.heap.size (Ix c)) (pAx : ∀ x a', Puts w.heap.size (fun (_ : Unit) W => Ax x a' W)) (h0 : I [] w)
    (hassign : ∀ (l : Nat) (pre : List α) (x : α) (W : World) (K : Act → World → Prop), I pre W → Ok pre x → (∀ a' W', KeepsFrom w.heap.size W W' → SameOn R W W' → I pre W' → Ax x a' W' → K a' W') →
      assign.wpIn (Fence.wide.inRound l) 1 P (Exit.then K (fun _ _ _ => False)) { tmps := (ps.zip (encs x)).foldl (fun t (p, v) => t.setIfInBounds p v) a.tmps, defers := [] } W)
    (hbody : ∀ (l : Nat) (pre : List α) (x : α) (a' : Act) (W : World), I pre W → Ax x a' W → Ok pre x → body.wpIn (Fence.wide.inRound l) 1 P (ownPostG w.heap.size (SameOn R) I Ix (pre ++ [x]) W) a' W)
    (hdone : ∀ (D : Nat) (xs : List α) (W : World), w.heap.size ≤ D → S xs → I xs W → W.heap[D]? = some (.deferred (some [])) → Q .normal { a with defers := { target := .collected D, args := #[] } :: a.defers } W)
    (hstop : ∀ (D : Nat) (c : Code) (pre : List α) (W : World), w.heap.size ≤ D → Sp pre → Ix c pre W → W.heap[D]? = some (.deferred (some [])) → c.wp P Q { a with defers := { target := .collected D, args := #[] } :: a.defers } W) :
    (Code.rangeFunc g ps assign body).wp P Q a w :=
  wp_rangeW hg eg encs hps B hB R hR (fun xs _ => S xs) Sp Ok I Ix Ax hseq hI hIx (fun _ _ _ _ _ h _ _ _ => h) pI pIx pAx h0 hassign hbody hdone hstop
end
end Go.Proofs.Ytbamgoocgmhohaa
