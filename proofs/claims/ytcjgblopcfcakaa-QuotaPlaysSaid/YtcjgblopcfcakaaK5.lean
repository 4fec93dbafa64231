/- Words of this session, the fifth part: a region that draws its order, in which blocks are made, too. Conditions: none. -/
import Derived.Test.YtcjgblopcfcakaaK2
namespace Go.Proofs.Ytcjgblopcfcakaa
open Go.RowKit

/-- A world beyond one that is beyond w. -/
structure Later {w : World} (x : Beyond w) where
  to : World
  below : Below x.to.heap.size x.to to
instance {w : World} (x : Beyond w) : Nonempty (Later x) := ⟨⟨x.to, below_self _⟩⟩
def Later.on {w : World} {x : Beyond w} (y : Later x) : Beyond w := ⟨y.to, below_to x.below y.below⟩
/-- A callee's contract, met in such a world. -/
theorem later_of {P : Program} {f : FuncId} {args : Array Value} {w : World} {x : Beyond w} {y : Later x} {v : Value}
    (h : Calls P f args (extn w y.on) fun e w' => e = .returned v ∧ Below (extn w y.on).heap.size (extn w y.on) w') : Calls P f args (extn w y.on) fun e w'' => e = .returned v ∧ ∃ z : Later x, w'' = extn w z.on :=
  h.mono fun _ w'' ⟨he, hb⟩ => ⟨he, ⟨w'', below_to y.below hb⟩, rfl⟩
def upd (s : Nat → Option Nat) (i b : Nat) : Nat → Option Nat := fun k => if k = i then some b else s k
theorem upd_comm (s : Nat → Option Nat) {i j : Nat} (h : i ≠ j) (b c : Nat) : upd (upd s i b) j c = upd (upd s j c) i b := by
  funext k
  unfold upd
  by_cases h1 : k = j
  · subst h1; simp [Ne.symm h]
  · by_cases h2 : k = i
    · subst h2; simp [h]
    · simp [h1, h2]
abbrev ptr (b : Nat) : Value := .pointer (some ⟨b, 0, none⟩)
def Fresh (s : Nat → Option Nat) (b : Nat) : Prop := ∀ i c, s i = some c → c ≠ b
/-- What has been made stands, and what was there. -/
def Made (w : World) (al : Nat → TypeId × Array Value) (s : Nat → Option Nat) (W : World) : Prop := Below w.heap.size w W ∧ ∀ i b, s i = some b → w.heap.size ≤ b ∧ Blk W b (al i).1 (al i).2

theorem Blk.new4 (w : World) (o o' o2 o3 : Obj) (t : TypeId) (cs : Array Value) : Blk (((((w.alloc o).alloc o').alloc o2).alloc o3).alloc (.cells cs t)) (w.heap.size + 1 + 1 + 1 + 1) t cs := by simpa using Blk.new ((((w.alloc o).alloc o').alloc o2).alloc o3) t cs
theorem Blk.off {w : World} {g : Nat} {t : TypeId} {cs : Array Value} (h : Blk w g t cs) {b i : Nat} (hp : g ≠ b) (u : Value) : Blk (w.setCell ⟨b, i, none⟩ u) g t cs := h.far hp u

section
variable {P : Program} {ops : Array Oper} {md : Region.Mode} {w : World} {n0 n : Nat} {al : Nat → TypeId × Array Value}

/-- One value, from wherever. -/
def YU (P : Program) (ops : Array Oper) (w : World) (o : Oper) (v : Value) (a : Act) : Prop := ∀ x : Beyond w, YieldsIn P ops (fun w' => ∃ y : Later x, w' = extn w y.on) o v a

def wpAnyG (P : Program) (md : Region.Mode) (ops : Array Oper) (w : World) (n0 n : Nat) (L : Array Bool → Act → (Nat → Option Nat) → Prop) : Nat → Array Bool → Act → (Nat → Option Nat) → Prop
  | 0, listed, a, s => L listed a s
  | f + 1, listed, a, s => Region.ready md ops listed ≠ [] ∧ ∀ i ∈ Region.ready md ops listed, i < n ∧
      (i < n0 → ∃ oi v, ops[i]? = some oi ∧ YU P ops w oi v a ∧ wpAnyG P md ops w n0 n L f (listed.setIfInBounds i true) (a.put oi.dst v) s) ∧
      (n0 ≤ i → ∃ oi, ops[i]? = some oi ∧ ∀ b, Fresh s b → wpAnyG P md ops w n0 n L f (listed.setIfInBounds i true) (a.put oi.dst (ptr b)) (upd s i b))

/-- What an operation that makes a block does. -/
def Makes (P : Program) (ops : Array Oper) (al : Nat → TypeId × Array Value) (n0 n : Nat) : Prop :=
  ∀ i, n0 ≤ i → i < n → ∃ oi, ops[i]? = some oi ∧ oi.guard = none ∧ ∀ (a : Act) (W : World), (execOp a.eval oi).run P W = .ok (.value (ptr W.heap.size)) (W.alloc (.cells (al i).2 (al i).1))

theorem Made.later {s : Nat → Option Nat} {W W' : World} (h : Made w al s W) (hb : Below W.heap.size W W') : Made w al s W' :=
  ⟨below_to h.1 hb, fun i b hs => ⟨(h.2 i b hs).1, (h.2 i b hs).2.past hb⟩⟩
theorem Made.more {s : Nat → Option Nat} {W : World} (h : Made w al s W) (i : Nat) : Fresh s W.heap.size ∧ Made w al (upd s i W.heap.size) (W.alloc (.cells (al i).2 (al i).1)) := by
  refine ⟨fun j c hj => Nat.ne_of_lt (h.2 j c hj).2.lt, below_own h.1 _, fun j b hj => ?_⟩
  unfold upd at hj
  by_cases hji : j = i
  · rw [if_pos hji] at hj
    obtain rfl := Option.some.inj hj
    subst hji
    exact ⟨h.1.size, Blk.new _ _ _⟩
  · rw [if_neg hji] at hj
    exact ⟨(h.2 j b hj).1, (h.2 j b hj).2.alloc _⟩

theorem wpAny_of_G {g : Nat} {L : Array Bool → Act → (Nat → Option Nat) → Prop} {Q' : Exit → Act → World → Prop} (hmk : Makes P ops al n0 n)
    (hL : ∀ listed a s W, Made w al s W → L listed a s → wpAny P md ops Q' g listed a W) :
    ∀ (f : Nat) (listed : Array Bool) (a : Act) (s : Nat → Option Nat) (W : World), Made w al s W → wpAnyG P md ops w n0 n L f listed a s → wpAny P md ops Q' (f + g) listed a W
  | 0, listed, a, s, W, hW, h => by rw [Nat.zero_add]; exact hL _ _ _ _ hW h
  | f + 1, listed, a, s, W, hW, h => by
    rw [show f + 1 + g = (f + g) + 1 by omega]
    refine ⟨fun h0 => absurd h0 h.1, fun i hi => ?_⟩
    obtain ⟨hin, hq, hal⟩ := h.2 i hi
    rcases Nat.lt_or_ge i n0 with hlt | hge
    · obtain ⟨oi, v, ho, hy, hG⟩ := hq hlt
      refine wpOp_of_qOp (C := fun w' => ∃ y : Later (⟨W, hW.1⟩ : Beyond w), w' = extn w y.on) ⟨⟨W, below_self W⟩, rfl⟩ ?_ ((hy ⟨W, hW.1⟩).qOp ho (K := fun a' => a' = a.put oi.dst v) rfl)
      rintro a' w' ⟨y, rfl⟩ rfl
      exact wpAny_of_G hmk hL f _ _ _ _ (hW.later y.below) hG
    · obtain ⟨oi, ho, hG⟩ := hal hge
      obtain ⟨oi', ho', hgd, hrun⟩ := hmk i hge hin
      obtain rfl := Option.some.inj (ho.symm.trans ho')
      obtain ⟨hfr, hmade⟩ := hW.more i
      have hw : Region.wanted oi (yielded ops a.tmps) = true := by unfold Region.wanted; rw [hgd]
      unfold wpOp
      simp only [ho, hw, if_true]
      refine .inl ?_
      unfold Oper.wp
      rw [hrun]
      simp only [Oper.upon]
      exact wpAny_of_G hmk hL f _ _ _ _ hmade (hG _ hfr)

theorem YU.put {oi oj : Oper} {v u : Value} {a : Act} (hap : oi.apart ops oj = true) (hsi : ∀ cs b, oi.op ≠ .select cs b) (h : YU P ops w oi v a) : YU P ops w oi v (a.put oj.dst u) := by
  obtain ⟨h1, h2, h3⟩ := Oper.apart_spec hap
  exact fun x => (h x).of_same (execOp_put oi hsi a oj.dst u h3) (wanted_put oi a oj.dst u h3)
theorem YU.unput {oi oj : Oper} {v u : Value} {a : Act} (hap : oi.apart ops oj = true) (hsj : ∀ cs b, oj.op ≠ .select cs b) (h : YU P ops w oj v (a.put oi.dst u)) : YU P ops w oj v a := by
  obtain ⟨h1, h2, h3⟩ := Oper.apart_spec hap
  exact fun x => (h x).of_same (execOp_put oj hsj a oi.dst u h1).symm (wanted_put oj a oi.dst u h1).symm

theorem wpAnyG_first {i : Nat} {oi : Oper} {v : Value} {L : Array Bool → Act → (Nat → Option Nat) → Prop} (hi : ops[i]? = some oi) (hsel : ∀ (j : Nat) (o : Oper) cs b, ops[j]? = some o → o.op ≠ .select cs b)
    (hs : Region.sinkB md ops n = true) (hc : Region.chainB md ops n = true) (hn : n < ops.size) (hin : i < n0) (hnn : n0 ≤ n)
    (hdone : ∀ listed a s, L listed a s → ∀ j ∈ Region.ready md ops listed, n ≤ j) :
    ∀ (f : Nat) (listed : Array Bool) (a : Act) (s : Nat → Option Nat), HeadInv md ops n listed →
      (∀ j oj, ops[j]? = some oj → j ≠ i → listed.getD j true = false → (∀ e ∈ oj.after, Region.binds md e = true → e.on ≠ i) → oi.apart ops oj = true) →
      i ∈ Region.ready md ops listed → YU P ops w oi v a →
      wpAnyG P md ops w n0 n L f (listed.setIfInBounds i true) (a.put oi.dst v) s → wpAnyG P md ops w n0 n L (f + 1) listed a s := by
  intro f
  induction f with
  | zero =>
    intro listed a s inv _ hr hy H
    have hun := (mem_ready.1 hr).1
    refine ⟨fun h => (by rw [h] at hr; cases hr), fun j hj => ?_⟩
    have hjn : j < n := by
      rcases Nat.lt_or_ge j n with h | h
      · exact h
      · exact absurd hj (tail_waits hs hc hn inv _ i rfl (by omega) hun j h)
    by_cases hji : j = i
    · subst hji
      exact ⟨hjn, fun _ => ⟨oi, v, hi, hy, H⟩, fun h => by omega⟩
    · have := hdone _ _ _ H j (ready_mono hj hji)
      omega
  | succ f ih =>
    intro listed a s inv hfree hr hy H
    have hun := (mem_ready.1 hr).1
    refine ⟨fun h => (by rw [h] at hr; cases hr), fun j hj => ?_⟩
    have hjn : j < n := by
      rcases Nat.lt_or_ge j n with h | h
      · exact h
      · exact absurd hj (tail_waits hs hc hn inv _ i rfl (by omega) hun j h)
    by_cases hji : j = i
    · subst hji
      exact ⟨hjn, fun _ => ⟨oi, v, hi, hy, H⟩, fun h => by omega⟩
    · obtain ⟨_, hq, hal⟩ := H.2 j (ready_mono hj hji)
      obtain ⟨hjun, oj, hoj, hall⟩ := mem_ready.1 hj
      have hnot : ∀ e ∈ oj.after, Region.binds md e = true → e.on ≠ i := fun e he hb heq => by
        have h1 := hall e he hb
        rw [heq, getD_both hun] at h1
        cases h1
      have hap := hfree j oj hoj hji hjun hnot
      have h2 := (Oper.apart_spec hap).2.1
      have hfree' : ∀ k ok, ops[k]? = some ok → k ≠ i → (listed.setIfInBounds j true).getD k true = false →
          (∀ e ∈ ok.after, Region.binds md e = true → e.on ≠ i) → oi.apart ops ok = true := fun k ok hk hki hun' hno => by
        refine hfree k ok hk hki ?_ hno
        by_cases hjk : j = k
        · subst hjk; exact hjun
        · rw [getD_set_ne true hjk] at hun'; exact hun'
      refine ⟨hjn, fun hlt => ?_, fun hge => ?_⟩
      · obtain ⟨oj', vj, hoj', hyj, hG⟩ := hq hlt
        obtain rfl := Option.some.inj (hoj.symm.trans hoj')
        refine ⟨oj, vj, hoj, hyj.unput hap (fun cs b => hsel j oj cs b hoj), ?_⟩
        refine ih _ _ s (inv.set hj hjn) hfree' (ready_mono hr (Ne.symm hji)) (hy.put hap (fun cs b => hsel i oi cs b hi)) ?_
        rw [Array.setIfInBounds_comm _ _ (Ne.symm hji), Act.put_comm a v vj h2] at hG
        exact hG
      · obtain ⟨oj', hoj', hG⟩ := hal hge
        obtain rfl := Option.some.inj (hoj.symm.trans hoj')
        refine ⟨oj, hoj, fun b hb => ?_⟩
        refine ih _ _ _ (inv.set hj hjn) hfree' (ready_mono hr (Ne.symm hji)) (hy.put hap (fun cs b => hsel i oi cs b hi)) ?_
        have hG := hG b hb
        rw [Array.setIfInBounds_comm _ _ (Ne.symm hji), Act.put_comm a v (ptr b) h2] at hG
        exact hG

theorem getD_set_self {listed : Array Bool} {j : Nat} (h : listed.getD j true = false) : (listed.setIfInBounds j true).getD j true = true := by
  rcases Nat.lt_or_ge j listed.size with h' | h'
  · simp [h']
  · simp [Array.getElem?_eq_none h'] at h
theorem wpAnyG_firstA {i : Nat} {oi : Oper} {L : Array Bool → Act → (Nat → Option Nat) → Prop} (hi : ops[i]? = some oi)
    (hs : Region.sinkB md ops n = true) (hc : Region.chainB md ops n = true) (hn : n < ops.size) (hin : i < n) (hge : n0 ≤ i)
    (hdone : ∀ listed a s, L listed a s → ∀ j ∈ Region.ready md ops listed, n ≤ j) :
    ∀ (f : Nat) (listed : Array Bool) (a : Act) (s : Nat → Option Nat), HeadInv md ops n listed → (∃ B, ∀ k c, s k = some c → c < B) → (∀ k c, s k = some c → listed.getD k true = true) → (∀ k, k < n0 → listed.getD k true = true) →
      (∀ j oj, ops[j]? = some oj → j ≠ i → listed.getD j true = false → (∀ e ∈ oj.after, Region.binds md e = true → e.on ≠ i) → oi.apart ops oj = true) →
      i ∈ Region.ready md ops listed →
      (∀ b, Fresh s b → wpAnyG P md ops w n0 n L f (listed.setIfInBounds i true) (a.put oi.dst (ptr b)) (upd s i b)) → wpAnyG P md ops w n0 n L (f + 1) listed a s := by
  intro f
  induction f with
  | zero =>
    intro listed a s inv hB _ _ _ hr H
    have hun := (mem_ready.1 hr).1
    refine ⟨fun h => (by rw [h] at hr; cases hr), fun j hj => ?_⟩
    have hjn : j < n := by
      rcases Nat.lt_or_ge j n with h | h
      · exact h
      · exact absurd hj (tail_waits hs hc hn inv _ i rfl hin hun j h)
    by_cases hji : j = i
    · subst hji
      exact ⟨hjn, fun h => by omega, fun _ => ⟨oi, hi, H⟩⟩
    · obtain ⟨B, hB⟩ := hB
      have := hdone _ _ _ (H B fun k c hk => Nat.ne_of_lt (hB k c hk)) j (ready_mono hj hji)
      omega
  | succ f ih =>
    intro listed a s inv hB hsl hq hfree hr H
    have hun := (mem_ready.1 hr).1
    refine ⟨fun h => (by rw [h] at hr; cases hr), fun j hj => ?_⟩
    have hjn : j < n := by
      rcases Nat.lt_or_ge j n with h | h
      · exact h
      · exact absurd hj (tail_waits hs hc hn inv _ i rfl hin hun j h)
    by_cases hji : j = i
    · subst hji
      exact ⟨hjn, fun h => by omega, fun _ => ⟨oi, hi, H⟩⟩
    · obtain ⟨hjun, oj, hoj, hall⟩ := mem_ready.1 hj
      have hjge : n0 ≤ j := by
        rcases Nat.lt_or_ge j n0 with h | h
        · rw [hq j h] at hjun; cases hjun
        · exact h
      have hnot : ∀ e ∈ oj.after, Region.binds md e = true → e.on ≠ i := fun e he hb heq => by
        have h1 := hall e he hb
        rw [heq, getD_both hun] at h1
        cases h1
      have hap := hfree j oj hoj hji hjun hnot
      have h2 := (Oper.apart_spec hap).2.1
      have hfree' : ∀ k ok, ops[k]? = some ok → k ≠ i → (listed.setIfInBounds j true).getD k true = false →
          (∀ e ∈ ok.after, Region.binds md e = true → e.on ≠ i) → oi.apart ops ok = true := fun k ok hk hki hun' hno => by
        refine hfree k ok hk hki ?_ hno
        by_cases hjk : j = k
        · subst hjk; exact hjun
        · rw [getD_set_ne true hjk] at hun'; exact hun'
      refine ⟨hjn, fun h => by omega, fun _ => ⟨oj, hoj, fun c hcf => ?_⟩⟩
      refine ih _ _ _ (inv.set hj hjn) ?_ ?_ ?_ hfree' (ready_mono hr (Ne.symm hji)) ?_
      · obtain ⟨B, hB⟩ := hB
        refine ⟨max B (c + 1), fun k d hk => ?_⟩
        unfold upd at hk
        by_cases hkj : k = j
        · rw [if_pos hkj] at hk; obtain rfl := Option.some.inj hk; omega
        · rw [if_neg hkj] at hk; have := hB k d hk; omega
      · intro k d hk
        unfold upd at hk
        by_cases hkj : k = j
        · subst hkj
          exact getD_set_self hjun
        · rw [if_neg hkj] at hk
          rw [getD_set_ne true (Ne.symm hkj)]
          exact hsl k d hk
      · intro k hk
        have := hq k hk
        rw [getD_set_ne true (by omega)]
        exact this
      · intro b hb
        have hbs : Fresh s b := fun k d hk => by
          by_cases hkj : k = j
          · subst hkj
            rw [hsl k d hk] at hjun
            cases hjun
          · exact hb k d (by simp [upd, hkj, hk])
        have hbc : c ≠ b := hb j c (by simp [upd])
        obtain ⟨_, _, hal⟩ := (H b hbs).2 j (ready_mono hj hji)
        obtain ⟨oj', hoj', hG⟩ := hal hjge
        obtain rfl := Option.some.inj (hoj.symm.trans hoj')
        have hG := hG c fun k d hk => by
          unfold upd at hk
          by_cases hki : k = i
          · rw [if_pos hki] at hk; obtain rfl := Option.some.inj hk; exact Ne.symm hbc
          · rw [if_neg hki] at hk; exact hcf k d hk
        rw [Array.setIfInBounds_comm _ _ (Ne.symm hji), Act.put_comm a (ptr b) (ptr c) h2, upd_comm s (Ne.symm hji)] at hG
        exact hG
/-- What follows, once all is made. -/
def Then_ (P : Program) (ops : Array Oper) (w : World) (n : Nat) (al : Nat → TypeId × Array Value) (Q : Exit → Act → World → Prop) (tl : List Oper) : Nat → Nat → Act → (Nat → Option Nat) → Prop
  | 0, _, a, s => ∀ W, Made w al s W → wpList P ops Q tl a W
  | m + 1, k, a, s => ∀ b, Fresh s b → Then_ P ops w n al Q tl m (k + 1) (a.put ((ops[k]?).bind (·.dst)) (ptr b)) (upd s k b)

theorem wpAnyG_lexA {g : Nat} {Q : Exit → Act → World → Prop} {tl : List Oper} (hmk : Makes P ops al n0 n) (hs : Region.sinkB md ops n = true) (hc : Region.chainB md ops n = true) (hn : n < ops.size) :
    ∀ (m k : Nat) (listed : Array Bool) (a : Act) (s : Nat → Option Nat), k + m = n → n0 ≤ k → HeadInv md ops n listed → (∃ B, ∀ k c, s k = some c → c < B) → (∀ i c, s i = some c → listed.getD i true = true) → (∀ i, i < n0 → listed.getD i true = true) →
    Region.lexHead md ops g m k listed = true → Then_ P ops w n al Q tl m k a s →
    wpAnyG P md ops w n0 n (fun listed' a' s' => Region.seqB md ops g n listed' = true ∧ ∀ W, Made w al s' W → wpList P ops Q tl a' W) m listed a s
  | 0, k, listed, a, s, hk, _, _, _, _, _, hB, h => by
    have : k = n := by simpa using hk
    subst this
    exact ⟨by simpa [Region.lexHead] using hB, h⟩
  | m + 1, k, listed, a, s, hk, hge, inv, hbd, hsl, hq, hB, h => by
    simp only [Region.lexHead, Bool.and_eq_true] at hB
    obtain ⟨⟨hr, hf⟩, hB'⟩ := hB
    have hkn : k < n := by omega
    have hr' : k ∈ Region.ready md ops listed := by simpa using hr
    obtain ⟨oi, hoi, _, _⟩ := hmk k hge hkn
    have hun := (mem_ready.1 hr').1
    refine wpAnyG_firstA hoi hs hc hn hkn hge (fun listed' a' s' hL => seqB_ready hL.1) m listed a s inv hbd hsl hq (Region.free_spec hoi hf) hr' fun b hb => ?_
    obtain ⟨B, hB⟩ := hbd
    refine wpAnyG_lexA hmk hs hc hn m (k + 1) _ _ _ (by omega) (by omega) (inv.set hr' hkn) ⟨max B (b + 1), fun i c hi => ?_⟩ (fun i c hi => ?_) (fun i hi => ?_) hB' ?_
    · unfold upd at hi
      by_cases hik : i = k
      · rw [if_pos hik] at hi; obtain rfl := Option.some.inj hi; omega
      · rw [if_neg hik] at hi; have := hB i c hi; omega
    · unfold upd at hi
      by_cases hik : i = k
      · subst hik; exact getD_set_self hun
      · rw [if_neg hik] at hi; rw [getD_set_ne true (Ne.symm hik)]; exact hsl i c hi
    · rw [getD_set_ne true (by omega)]; exact hq i hi
    · have h := h b hb
      rw [hoi] at h
      exact h

/-- Slots that are written once, and are there. -/
def onceB (m : Nat) : List Oper → Bool
  | [] => true
  | o :: l => (match o.dst with | some d => decide (d < m) && l.all fun o' => o'.dst != some d | none => false) && onceB m l
theorem keeps {C : World → Prop} {A : Act} {d : Nat} : ∀ (l : List Oper) (a : Act), (l.all fun o' => o'.dst != some d) = true → wpQuiet P ops C (fun a' => a' = A) l a → A.tmps[d]? = a.tmps[d]? ∧ A.tmps.size = a.tmps.size
  | [], a, _, h => by
    have h : a = A := h
    rw [h]; exact ⟨rfl, rfl⟩
  | o :: l, a, ha, h => by
    simp only [List.all_cons, Bool.and_eq_true] at ha
    obtain ⟨v, hv⟩ : ∃ v, wpQuiet P ops C (fun a' => a' = A) l (a.put o.dst v) := by
      unfold wpQuiet at h
      split at h
      · obtain ⟨v, _, hv⟩ := h; exact ⟨v, hv⟩
      · exact ⟨_, h⟩
    obtain ⟨k1, k2⟩ := keeps l _ ha.2 hv
    rw [k1, k2]
    cases hd : o.dst with
    | none => simp [Act.put]
    | some e =>
      have hne : e ≠ d := by
        have := ha.1
        rw [hd] at this
        simpa using this
      simp [Act.put, Array.getElem?_setIfInBounds, hne]
theorem wpAnyG_lexQ {g : Nat} {Q : Exit → Act → World → Prop} {tl : List Oper} {A : Act} {s : Nat → Option Nat} (hmk : Makes P ops al n0 n) (hnn : n0 ≤ n) (hsel : Region.noSelect ops = true) (hs : Region.sinkB md ops n = true) (hc : Region.chainB md ops n = true) (hn : n < ops.size) (hs0 : ∀ i, s i = none) :
    ∀ (l : List Oper) (k : Nat) (listed : Array Bool) (a : Act), (∀ j, j < l.length → l[j]? = ops[k + j]?) → k + l.length = n0 → HeadInv md ops n listed → (∀ i, i < k → listed.getD i true = true) → onceB a.tmps.size l = true →
    Region.lexHead md ops g (l.length + (n - n0)) k listed = true → (∀ x : Beyond w, wpQuiet P ops (fun w' => ∃ y : Later x, w' = extn w y.on) (fun a' => a' = A) l a) → Then_ P ops w n al Q tl (n - n0) n0 A s →
    wpAnyG P md ops w n0 n (fun listed' a' s' => Region.seqB md ops g n listed' = true ∧ ∀ W, Made w al s' W → wpList P ops Q tl a' W) (l.length + (n - n0)) listed a s
  | [], k, listed, a, _, hk, inv, hq, _, hB, h, hT => by
    have hA : a = A := h ⟨w, below_self w⟩
    have : k = n0 := by simpa using hk
    subst this hA
    simp only [List.length_nil, Nat.zero_add] at hB ⊢
    exact wpAnyG_lexA hmk hs hc hn _ _ _ _ _ (by omega) (Nat.le_refl _) inv ⟨0, fun i c hi => by rw [hs0] at hi; cases hi⟩ (fun i c hi => by rw [hs0] at hi; cases hi) hq hB hT
  | o :: l, k, listed, a, hl, hk, inv, hq, ho, hB, h, hT => by
    have h0 : ops[k]? = some o := by simpa using (hl 0 (by simp)).symm
    rw [show (o :: l).length + (n - n0) = (l.length + (n - n0)) + 1 by simp only [List.length_cons]; omega] at hB ⊢
    simp only [Region.lexHead, Bool.and_eq_true] at hB
    obtain ⟨⟨hr, hf⟩, hB'⟩ := hB
    have hkn : k < n0 := by simp only [List.length_cons] at hk; omega
    have hr' : k ∈ Region.ready md ops listed := by simpa using hr
    have hun := (mem_ready.1 hr').1
    simp only [onceB, Bool.and_eq_true] at ho
    obtain ⟨hod, hol⟩ := ho
    obtain ⟨d, hd⟩ : ∃ d, o.dst = some d := by
      cases hd : o.dst with
      | none => rw [hd] at hod; cases hod
      | some d => exact ⟨d, rfl⟩
    rw [hd] at hod
    simp only [Bool.and_eq_true, decide_eq_true_eq] at hod
    have hv : ∀ x : Beyond w, YieldsIn P ops (fun w' => ∃ y : Later x, w' = extn w y.on) o (A.tmps.getD d undef) a ∧ wpQuiet P ops (fun w' => ∃ y : Later x, w' = extn w y.on) (fun a' => a' = A) l (a.put o.dst (A.tmps.getD d undef)) := fun x => by
      have hst : qOp P ops (fun w' => ∃ y : Later x, w' = extn w y.on) k (wpQuiet P ops (fun w' => ∃ y : Later x, w' = extn w y.on) (fun a' => a' = A) l) a := by
        have := h x
        unfold wpQuiet at this
        unfold qOp
        simp only [h0]
        exact this
      obtain ⟨v, hy, hK⟩ := yieldsIn_of_qOp h0 hst
      have hk1 := (keeps l _ hod.2 hK).1
      have : A.tmps.getD d undef = v := by
        rw [Array.getD_eq_getD_getElem?, hk1, hd]
        simp [Act.put, hod.1]
      rw [this]
      exact ⟨hy, hK⟩
    refine wpAnyG_first h0 (Region.noSelect_spec hsel) hs hc hn hkn hnn (fun listed' a' s' hL => seqB_ready hL.1) _ listed a s inv (Region.free_spec h0 hf) hr' (fun x => (hv x).1) ?_
    refine wpAnyG_lexQ hmk hnn hsel hs hc hn hs0 l (k + 1) _ _ (fun j hj => by have := hl (j + 1) (by simp; omega); simpa [Nat.add_assoc, Nat.add_comm 1 j] using this) (by simp only [List.length_cons] at hk; omega) (inv.set hr' (by omega)) (fun i hi => ?_) (by rw [hd]; simpa [Act.put] using hol) hB' (fun x => (hv x).2) hT
    by_cases hik : i = k
    · subst hik; exact getD_set_self hun
    · rw [getD_set_ne true (Ne.symm hik)]; exact hq i (by omega)

/-- **A region that draws its order: what only reads, or calls what makes new memory alone (n0 of them); then blocks that are made (up to n); then what comes in one order.** -/
theorem wp_region_made {id : Nat} {Q : Exit → Act → World → Prop} {a : Act} {w : World} {l : List Oper} (n0 n : Nat) (al : Nat → TypeId × Array Value) (A : Act) (hm : P.follows .mixedOrders = true) (hB : (Region.lexTailB .any l.toArray n && decide (n0 ≤ n) && onceB a.tmps.size (l.take n0)) = true)
    (hmk : Makes P l.toArray al n0 n) (hq : ∀ R : Act → Prop, R A → ∀ x : Beyond w, wpQuiet P l.toArray (fun w' => ∃ y : Later x, w' = extn w y.on) R (l.take n0) a)
    (hT : Then_ P l.toArray w n al Q (l.drop n) (n - n0) n0 A (fun _ => none)) : (Code.region id l.toArray true).wp P Q a w := by
  simp only [Bool.and_eq_true, decide_eq_true_eq] at hB
  obtain ⟨⟨hB, hnn⟩, ho⟩ := hB
  simp only [Region.lexTailB, Bool.and_eq_true, decide_eq_true_eq] at hB
  obtain ⟨⟨⟨⟨hsel, hn⟩, hs⟩, hc⟩, hlex⟩ := hB
  have hn' : n < l.length := by simpa using hn
  have htl : (l.take n0).length = n0 := by simp; omega
  have hdl : (l.drop n).length = l.toArray.size - n := by simp
  have inv0 : HeadInv .any l.toArray n (Array.replicate l.toArray.size false) :=
    ⟨by simp, fun j oj _ hl => (by rw [getD_replicate_false] at hl; cases hl), fun t _ ht => getD_in (by simpa using ht) (getD_replicate_false _ _)⟩
  have H := wpAnyG_lexQ (md := .any) (g := l.toArray.size - n) (tl := l.drop n) (Q := Q) hmk hnn hsel hs hc hn (fun _ => rfl) (l.take n0) 0 _ a (fun j hj => by
    have hj' : j < n0 := by rw [htl] at hj; exact hj
    simp [hj']) (by simpa using htl) inv0 (fun i hi => by omega) ho (by rw [htl, show n0 + (n - n0) = n by omega]; exact hlex) (hq (fun a' => a' = A) rfl) hT
  refine wp_region_any hm ?_
  have h0 : Made w al (fun _ => none) { w with drawn := w.drawn + 1 } := ⟨Below.drew (Below.refl _ w), fun i b h => by cases h⟩
  have := wpAny_of_G (Q' := Q) (g := l.toArray.size - n) hmk (fun listed' a' s' W' hW' hL => by
    have := wpAny_of_seq (md := .any) (Q' := Q) (l.drop n) n listed' a' W' (fun j => by simp [List.getElem?_drop]) (by rw [hdl]; exact hL.1) (hL.2 W' hW')
    rwa [hdl] at this) _ _ _ _ _ h0 H
  rw [htl, show n0 + (n - n0) + (l.toArray.size - n) = l.toArray.size by omega] at this
  exact this
/-- One block is made. -/
theorem wp_region_made1 {id : Nat} {Q : Exit → Act → World → Prop} {a : Act} {w : World} {l : List Oper} (n : Nat) (t : TypeId) (z : Array Value) (A : Act) (hm : P.follows .mixedOrders = true) (hB : (Region.lexTailB .any l.toArray (n + 1) && decide (n ≤ n + 1) && onceB a.tmps.size (l.take n)) = true)
    (hmk : Makes P l.toArray (fun _ => (t, z)) n (n + 1)) (hq : ∀ R : Act → Prop, R A → ∀ x : Beyond w, wpQuiet P l.toArray (fun w' => ∃ y : Later x, w' = extn w y.on) R (l.take n) a)
    (hT : ∀ b W, Below w.heap.size w W → w.heap.size ≤ b → Blk W b t z → wpList P l.toArray Q (l.drop (n + 1)) (A.put ((l.toArray[n]?).bind (·.dst)) (ptr b)) W) : (Code.region id l.toArray true).wp P Q a w := by
  refine wp_region_made n (n + 1) _ A hm hB hmk hq ?_
  rw [show n + 1 - n = 1 by omega]
  intro b _ W hW
  have := hW.2 n b (by simp [upd])
  exact hT b W hW.1 this.1 this.2
/-- Two blocks are made. -/
theorem wp_region_made2 {id : Nat} {Q : Exit → Act → World → Prop} {a : Act} {w : World} {l : List Oper} (n : Nat) (t : TypeId) (z : Array Value) (t' : TypeId) (z' : Array Value) (A : Act) (hm : P.follows .mixedOrders = true) (hB : (Region.lexTailB .any l.toArray (n + 2) && decide (n ≤ n + 2) && onceB a.tmps.size (l.take n)) = true)
    (hmk : Makes P l.toArray (fun i => if i = n then (t, z) else (t', z')) n (n + 2)) (hq : ∀ R : Act → Prop, R A → ∀ x : Beyond w, wpQuiet P l.toArray (fun w' => ∃ y : Later x, w' = extn w y.on) R (l.take n) a)
    (hT : ∀ b b' W, Below w.heap.size w W → w.heap.size ≤ b → w.heap.size ≤ b' → b ≠ b' → Blk W b t z → Blk W b' t' z' → wpList P l.toArray Q (l.drop (n + 2)) ((A.put ((l.toArray[n]?).bind (·.dst)) (ptr b)).put ((l.toArray[n + 1]?).bind (·.dst)) (ptr b')) W) : (Code.region id l.toArray true).wp P Q a w := by
  refine wp_region_made n (n + 2) _ A hm hB hmk hq ?_
  rw [show n + 2 - n = 2 by omega]
  intro b _ b' hb' W hW
  have h1 := hW.2 n b (by simp [upd])
  have h2 := hW.2 (n + 1) b' (by simp [upd])
  simp only [if_pos] at h1
  simp only [show (n + 1 = n) = False by simp, if_false] at h2
  exact hT b b' W hW.1 h1.1 h2.1 (hb' n b (by simp [upd])) h1.2 h2.2
end
end Go.Proofs.Ytcjgblopcfcakaa
