/- Plain facts on the steps of reclaim: what is held lies between the goal and the limit, and comes to the goal. Conditions: none. -/
import Derived.Test.YtbamgoocgmhohaaRec5
namespace Go.Proofs.Ytbamgoocgmhohaa
open Go.RowKit

theorem stepW_calm (hold calm : Int) (ev g : Vec) (ge : Int) (f1 f2 : Bool) (m d : Vec) : 0 ≤ (stepW hold calm ev g ge f1 f2 m d).1.calm ∧ (stepW hold calm ev g ge f1 f2 m d).1.calm ≤ 1024 := by
  have hk : 0 ≤ (if m = ev then min (calm + 1) 1024 else 1) ∧ (if m = ev then min (calm + 1) 1024 else 1) ≤ 1024 ∨ ¬ (0 ≤ calm) := by
    by_cases h : 0 ≤ calm
    · left; split <;> omega
    · exact .inr h
  unfold stepW
  by_cases h : ge = 0 ∧ f1 = true ∧ f2 = true ∧ 0 ≤ calm ∧ calm ≤ 1024
  · rw [if_pos h]
    by_cases hm : m = g
    · rw [if_pos hm]; exact ⟨by show (0 : Int) ≤ 0; decide, by show (0 : Int) ≤ 1024; decide⟩
    · rw [if_neg hm]
      rcases hk with hk | hk
      · dsimp only
        generalize (if m = ev then min (calm + 1) 1024 else 1) = k at *
        by_cases hf : hold < k ∨ k = hold ∧ hold = 1024
        · rw [if_pos hf]; exact hk
        · rw [if_neg hf]; exact hk
      · exact absurd h.2.2.2.1 hk
  · rw [if_neg h]; exact ⟨by show (0 : Int) ≤ 0; decide, by show (0 : Int) ≤ 1024; decide⟩
theorem stepR_calm (c : Conf) (l : Vec) (e : Est) (x : Vec) : I64 (stepR c l e x).1.calm := by
  have := stepW_calm c.hold e.calm e.value (goalR c l x).1 (goalR c l x).2 (fitsV zeroV e.value) (fitsV e.value l) (maxV e.value (goalR c l x).1) (pickV (fallI c.slow) (maxV e.value (goalR c l x).1) (goalR c l x).1)
  unfold stepR I64
  omega
theorem fitsV_iff {a b : Vec} : fitsV a b = true ↔ a.cpu ≤ b.cpu ∧ a.mem ≤ b.mem ∧ a.disk ≤ b.disk := by
  unfold fitsV
  simp only [Bool.and_eq_true, decide_eq_true_eq]
/-- What an estimate must be, where the limit may be. -/
def Held (limit : Vec) (e : Est) : Prop := fitsV zeroV e.value = true ∧ fitsV e.value limit = true ∧ 0 ≤ e.calm ∧ e.calm ≤ 1024
/-- What a step does. -/
theorem step_spec {c : Conf} {limit usage : Vec} {e : Est} (h1 : mayConf c = true) (h2 : mayV limit = true) (h3 : mayV usage = true) (hh : Held limit e) :
    stepR c limit e usage = (if maxV e.value (goalV c limit usage) = goalV c limit usage then (⟨goalV c limit usage, 0⟩, 0) else
      let k := if maxV e.value (goalV c limit usage) = e.value then min (e.calm + 1) 1024 else 1
      if c.hold < k ∨ (k = c.hold ∧ c.hold = 1024) then (⟨pickV (fallI c.slow) (maxV e.value (goalV c limit usage)) (goalV c limit usage), k⟩, 0) else (⟨maxV e.value (goalV c limit usage), k⟩, 0)) := by
  obtain ⟨f1, f2, k1, k2⟩ := hh
  rcases goalR_cases c limit usage with ⟨_, _, _, h4⟩ | h4
  · unfold stepR
    rw [h4, f1, f2]
    unfold stepW
    rw [if_pos ⟨rfl, rfl, rfl, k1, k2⟩]
    by_cases hm : maxV e.value (goalV c limit usage) = goalV c limit usage
    · rw [if_pos hm, if_pos hm, hm]
    · rw [if_neg hm, if_neg hm]
  · unfold goalR at h4
    rw [h1, h2, h3] at h4
    have := congrArg Prod.snd h4
    simp at this
theorem step_none {c : Conf} {limit usage : Vec} (e : Est) (h : (goalR c limit usage).2 ≠ 0) : stepR c limit e usage = (⟨zeroV, 0⟩, 2) ∧ goalR c limit usage = (zeroV, 2) := by
  rcases goalR_cases c limit usage with ⟨_, _, _, h4⟩ | h4
  · rw [h4] at h; exact absurd rfl h
  · refine ⟨?_, h4⟩
    unfold stepR stepW
    rw [h4, if_neg (by simp)]
theorem goal_some {c : Conf} {limit usage : Vec} (h : (goalR c limit usage).2 = 0) : mayConf c = true ∧ mayV limit = true ∧ mayV usage = true ∧ goalR c limit usage = (goalV c limit usage, 0) := by
  rcases goalR_cases c limit usage with h4 | h4
  · exact h4
  · rw [h4] at h; cases h
theorem fall_bd {s x g : Int} (hs : 0 ≤ s ∧ s ≤ 16) (h : g ≤ x) : g ≤ fallI s x g ∧ fallI s x g ≤ x := by
  obtain ⟨p0, p1⟩ := two_pow_bd hs
  obtain ⟨q0, q1, q2, q3⟩ := part_bd p0 (show 0 ≤ x - g by omega)
  obtain ⟨r0, r1⟩ := ceil_part p0 (show 0 ≤ x - g by omega)
  have rr : 0 ≤ (x - g + 2 ^ s.toNat - 1) / 2 ^ s.toNat ∧ (x - g + 2 ^ s.toNat - 1) / 2 ^ s.toNat ≤ x - g := by
    by_cases h : (x - g) / 2 ^ s.toNat * 2 ^ s.toNat = x - g
    · rw [r0 h]; omega
    · rw [r1 h]
      refine ⟨by omega, ?_⟩
      have h1 : (x - g) / 2 ^ s.toNat < x - g := by
        rcases Int.lt_or_le ((x - g) / 2 ^ s.toNat) (x - g) with h' | h'
        · exact h'
        · exfalso
          have e1 : (x - g) / 2 ^ s.toNat = x - g := by omega
          rw [e1] at h q2 q3
          have : (x - g) * 1 ≤ (x - g) * 2 ^ s.toNat := Int.mul_le_mul_of_nonneg_left p0 (by omega)
          omega
      omega
  unfold fallI
  omega
/-- What a step leaves, where it is done. -/
theorem step_keeps {c : Conf} {limit usage : Vec} {e : Est} (h1 : mayConf c = true) (h2 : mayV limit = true) (h3 : mayV usage = true) (hh : Held limit e) :
    (stepR c limit e usage).2 = 0 ∧ Held limit (stepR c limit e usage).1 ∧ fitsV (goalV c limit usage) (stepR c limit e usage).1.value = true ∧ fitsV (stepR c limit e usage).1.value (maxV e.value (goalV c limit usage)) = true := by
  have hcalm := stepW_calm c.hold e.calm e.value (goalR c limit usage).1 (goalR c limit usage).2 (fitsV zeroV e.value) (fitsV e.value limit) (maxV e.value (goalR c limit usage).1) (pickV (fallI c.slow) (maxV e.value (goalR c limit usage).1) (goalR c limit usage).1)
  change 0 ≤ (stepR c limit e usage).1.calm ∧ (stepR c limit e usage).1.calm ≤ 1024 at hcalm
  obtain ⟨k1, _, k3⟩ := mayConf_spec h1
  obtain ⟨l1, l2, l3⟩ := mayV_spec h2
  obtain ⟨u1, u2, u3⟩ := mayV_spec h3
  have g1 := goalI_bd k1 u1 l1
  have g2 := goalI_bd k1 u2 l2
  have g3 := goalI_bd k1 u3 l3
  have hs := step_spec h1 h2 h3 hh
  obtain ⟨f1, f2, _, _⟩ := hh
  rw [fitsV_iff] at f1 f2
  obtain ⟨f10, f11, f12⟩ := f1
  obtain ⟨f20, f21, f22⟩ := f2
  have key : (stepR c limit e usage).2 = 0 ∧ ((stepR c limit e usage).1.value = goalV c limit usage ∨ (stepR c limit e usage).1.value = maxV e.value (goalV c limit usage) ∨ (stepR c limit e usage).1.value = pickV (fallI c.slow) (maxV e.value (goalV c limit usage)) (goalV c limit usage)) := by
    rw [hs]
    by_cases hm : maxV e.value (goalV c limit usage) = goalV c limit usage
    · rw [if_pos hm]; exact ⟨rfl, .inl rfl⟩
    · rw [if_neg hm]
      dsimp only
      generalize (if maxV e.value (goalV c limit usage) = e.value then min (e.calm + 1) 1024 else 1) = k
      by_cases hf : c.hold < k ∨ k = c.hold ∧ c.hold = 1024
      · rw [if_pos hf]; exact ⟨rfl, .inr (.inr rfl)⟩
      · rw [if_neg hf]; exact ⟨rfl, .inr (.inl rfl)⟩
  obtain ⟨z, hv⟩ := key
  refine ⟨z, ?_⟩
  unfold Held
  generalize (stepR c limit e usage).1 = r at *
  have q1 := fall_bd k3 (show (goalV c limit usage).cpu ≤ (maxV e.value (goalV c limit usage)).cpu by unfold maxV pickV; dsimp only; omega)
  have q2 := fall_bd k3 (show (goalV c limit usage).mem ≤ (maxV e.value (goalV c limit usage)).mem by unfold maxV pickV; dsimp only; omega)
  have q3 := fall_bd k3 (show (goalV c limit usage).disk ≤ (maxV e.value (goalV c limit usage)).disk by unfold maxV pickV; dsimp only; omega)
  simp only [fitsV_iff]
  unfold goalV at *
  unfold maxV at *
  unfold pickV at *
  unfold zeroV at *
  dsimp only at *
  rcases hv with hv | hv | hv <;> rw [hv] <;> dsimp only <;> omega
theorem goal_min {c : Conf} {limit usage : Vec} (h1 : mayConf c = true) (h2 : mayV limit = true) (h3 : mayV usage = true) : fitsV (minV usage limit) (goalV c limit usage) = true := by
  obtain ⟨k1, _, _⟩ := mayConf_spec h1
  obtain ⟨l1, l2, l3⟩ := mayV_spec h2
  obtain ⟨u1, u2, u3⟩ := mayV_spec h3
  have b1 : ∀ m u l : Int, 0 ≤ m ∧ m ≤ 400 → 0 ≤ u → min u l ≤ goalI m u l := by
    intro m u l hm hu
    have h2 : u * 100 ≤ u * (100 + m) := Int.mul_le_mul_of_nonneg_left (by omega) hu
    unfold goalI
    omega
  rw [fitsV_iff]
  unfold minV goalV pickV
  dsimp only
  exact ⟨b1 _ _ _ k1 u1.1, b1 _ _ _ k1 u2.1, b1 _ _ _ k1 u3.1⟩
theorem held_begin {limit : Vec} (h : mayV limit = true) : Held limit ⟨limit, 0⟩ := by
  obtain ⟨l1, l2, l3⟩ := mayV_spec h
  unfold Held
  rw [fitsV_iff, fitsV_iff]
  unfold zeroV
  dsimp only
  omega
theorem fits_trans {a b d : Vec} (h : fitsV a b = true) (k : fitsV b d = true) : fitsV a d = true := by
  rw [fitsV_iff] at *
  omega

/-! ### How it comes to the goal -/
def fN (p D : Nat) : Nat := D - (D + p - 1) / p
def fIter (p : Nat) : Nat → Nat → Nat
  | 0, D => D
  | n + 1, D => fIter p n (fN p D)
theorem fIter_add (p : Nat) : ∀ m n D, fIter p (m + n) D = fIter p n (fIter p m D)
  | 0, n, D => by rw [Nat.zero_add]; rfl
  | m + 1, n, D => by rw [Nat.add_right_comm]; exact fIter_add p m n (fN p D)
theorem ceilN {p : Nat} (hp : 0 < p) (D : Nat) : D ≤ p * ((D + p - 1) / p) ∧ (D + p - 1) / p ≤ D := by
  have h1 := Nat.div_add_mod (D + p - 1) p
  have h2 := Nat.mod_lt (D + p - 1) hp
  refine ⟨by omega, ?_⟩
  rw [Nat.div_le_iff_le_mul_add_pred hp]
  have : D * 1 ≤ p * D := by rw [Nat.mul_comm]; exact Nat.mul_le_mul_right D hp
  omega
theorem fN_le {p : Nat} (D : Nat) : fN p D ≤ D := Nat.sub_le _ _
theorem fIter_le {p : Nat} : ∀ n D, fIter p n D ≤ D
  | 0, _ => Nat.le_refl _
  | n + 1, D => Nat.le_trans (fIter_le n _) (fN_le D)
/-- p falls make half of it. -/
theorem fIter_half {p : Nat} (hp : 0 < p) (D : Nat) : ∀ t E, E ≤ D → fIter p t E ≤ D / 2 ∨ 2 * (p * fIter p t E) + t * (D + 1) ≤ 2 * (p * E)
  | 0, E, _ => .inr (by simp [fIter])
  | t + 1, E, hE => by
    show fIter p t (fN p E) ≤ D / 2 ∨ 2 * (p * fIter p t (fN p E)) + (t + 1) * (D + 1) ≤ _
    by_cases h : E ≤ D / 2
    · exact .inl (Nat.le_trans (Nat.le_trans (fIter_le t _) (fN_le E)) h)
    · obtain ⟨c1, c2⟩ := ceilN hp E
      rcases fIter_half hp D t (fN p E) (Nat.le_trans (fN_le E) hE) with k | k
      · exact .inl k
      · refine .inr ?_
        have e : p * fN p E + p * ((E + p - 1) / p) = p * E := by
          rw [← Nat.mul_add]
          congr 1
          unfold fN
          omega
        rw [show (t + 1) * (D + 1) = t * (D + 1) + (D + 1) from Nat.succ_mul t (D + 1)]
        have key : ∀ X Y U V Z : Nat, 2 * X + Y ≤ 2 * U → U + Z = V → E ≤ Z → 2 * X + (Y + (D + 1)) ≤ 2 * V := by intro X Y U V Z a b c; omega
        exact key _ _ _ _ _ k e c1
theorem fIter_p {p : Nat} (hp : 0 < p) (D : Nat) : fIter p p D ≤ D / 2 := by
  rcases fIter_half hp D p D (Nat.le_refl _) with h | h
  · exact h
  · have e : p * (D + 1) = p * D + p := Nat.mul_succ p D
    have k : 2 * (p * fIter p p D) + p ≤ p * D := by omega
    have k' : p * (2 * fIter p p D + 1) ≤ p * D := by rw [Nat.mul_add, Nat.mul_left_comm]; omega
    have := Nat.le_of_mul_le_mul_left k' hp
    omega
theorem fIter_mono {p : Nat} : ∀ (n : Nat) {D : Nat}, D = 0 → fIter p n D = 0 := fun n {D} h => Nat.le_zero.1 (h ▸ fIter_le n D)
theorem fIter_pow {p : Nat} (hp : 0 < p) : ∀ (k : Nat) (D : Nat), fIter p (k * p) D ≤ D / 2 ^ k
  | 0, D => by simp [fIter]
  | k + 1, D => by
    rw [Nat.succ_mul, Nat.add_comm, fIter_add]
    refine Nat.le_trans (fIter_pow hp k _) ?_
    rw [Nat.pow_succ, Nat.mul_comm, ← Nat.div_div_eq_div_mul]
    exact Nat.div_le_div_right (fIter_p hp D)
theorem fIter_all {p : Nat} (hp : 0 < p) {D : Nat} (h : D ≤ 1099511627776) : fIter p (42 * p) D = 0 := by
  have := fIter_pow hp 42 D
  rw [Nat.div_eq_of_lt (by omega)] at this
  omega
theorem fall_nat {s x g : Int} (hs : 0 ≤ s ∧ s ≤ 16) (h : g ≤ x) : (fallI s x g - g).toNat = fN (2 ^ s.toNat) (x - g).toNat := by
  obtain ⟨p0, p1⟩ := two_pow_bd hs
  have hb := fall_bd hs h
  obtain ⟨D, hD⟩ : ∃ D : Nat, x - g = D := ⟨(x - g).toNat, by omega⟩
  have e2 : (2 : Int) ^ s.toNat = ((2 ^ s.toNat : Nat) : Int) := (Int.natCast_pow 2 s.toNat).symm
  have hp : 1 ≤ 2 ^ s.toNat := by have := p0; rw [e2] at this; omega
  unfold fallI at *
  rw [hD, e2] at hb
  rw [hD, e2]
  unfold fN
  have e3 : ((D : Int) + ((2 ^ s.toNat : Nat) : Int) - 1) / ((2 ^ s.toNat : Nat) : Int) = ((D + 2 ^ s.toNat - 1) / 2 ^ s.toNat : Nat) := by
    rw [Int.natCast_ediv]
    congr 1
    omega
  rw [e3] at hb
  rw [e3, Int.toNat_natCast]
  generalize (D + 2 ^ s.toNat - 1) / 2 ^ s.toNat = q at *
  omega
/-- What is still to come: nothing, or so many steps. -/
def Coming (c : Conf) (g v : Vec) (calm : Int) (left : Nat) : Prop := v = g ∨ ∃ N : Nat, (min c.hold 1023 - calm).toNat + N ≤ left ∧
  fIter (2 ^ c.slow.toNat) N (v.cpu - g.cpu).toNat = 0 ∧ fIter (2 ^ c.slow.toNat) N (v.mem - g.mem).toNat = 0 ∧ fIter (2 ^ c.slow.toNat) N (v.disk - g.disk).toNat = 0
theorem max_of_fits {v g : Vec} (h : fitsV g v = true) : maxV v g = v := by
  rw [fitsV_iff] at h
  unfold maxV pickV
  obtain ⟨v0, v1, v2⟩ := v
  simp only [Vec.mk.injEq]
  dsimp only at h
  omega
/-- One step nearer. -/
theorem come_step {c : Conf} {limit usage : Vec} {e : Est} {left : Nat} (h1 : mayConf c = true) (h2 : mayV limit = true) (h3 : mayV usage = true) (hh : Held limit e) (hg : fitsV (goalV c limit usage) e.value = true)
    (hc : Coming c (goalV c limit usage) e.value e.calm (left + 1)) :
    Coming c (goalV c limit usage) (stepR c limit e usage).1.value (stepR c limit e usage).1.calm left ∧ fitsV (stepR c limit e usage).1.value e.value = true ∧ (e.value = goalV c limit usage → (stepR c limit e usage).1 = ⟨goalV c limit usage, 0⟩) := by
  have hk := step_keeps h1 h2 h3 hh
  have hs := step_spec h1 h2 h3 hh
  have hm := max_of_fits hg
  rw [hm] at hs hk
  obtain ⟨_, ⟨ho0, ho1⟩, k3⟩ := mayConf_spec h1
  obtain ⟨_, _, ca0, ca1⟩ := hh
  refine ⟨?_, hk.2.2.2, fun he => by rw [hs, if_pos he]⟩
  by_cases he : e.value = goalV c limit usage
  · rw [hs, if_pos he]; exact .inl rfl
  · rw [if_neg he, if_pos rfl] at hs
    rcases hc with hc | ⟨N, hl, n0, n1, n2⟩
    · exact absurd hc he
    · dsimp only at hs
      rw [fitsV_iff] at hg
      obtain ⟨g0, g1, g2⟩ := hg
      split at hs
      · rename_i hf
        have hw : (min c.hold 1023 - e.calm).toNat = 0 := by omega
        rw [hs]
        refine .inr ?_
        obtain ⟨M, rfl⟩ : ∃ M, N = M + 1 := by
          rcases N with _ | M
          · exfalso
            apply he
            unfold fIter at n0 n1 n2
            generalize goalV c limit usage = g at *
            obtain ⟨a0, a1, a2⟩ := g
            generalize e.value = v at *
            obtain ⟨v0, v1, v2⟩ := v
            dsimp only at *
            simp only [Vec.mk.injEq]
            omega
          · exact ⟨M, rfl⟩
        refine ⟨M, by dsimp only; omega, ?_, ?_, ?_⟩
        · show fIter _ M (fallI c.slow _ _ - _).toNat = 0
          rw [fall_nat k3 g0]; exact n0
        · show fIter _ M (fallI c.slow _ _ - _).toNat = 0
          rw [fall_nat k3 g1]; exact n1
        · show fIter _ M (fallI c.slow _ _ - _).toNat = 0
          rw [fall_nat k3 g2]; exact n2
      · rename_i hf
        rw [hs]
        exact .inr ⟨N, by dsimp only; omega, n0, n1, n2⟩
theorem come_begin {c : Conf} {limit usage : Vec} {e : Est} (h1 : mayConf c = true) (h2 : mayV limit = true) (hh : Held limit e) (hgl : fitsV zeroV (goalV c limit usage) = true) :
    Coming c (goalV c limit usage) e.value e.calm (c.hold + 42 * 2 ^ c.slow.toNat).toNat := by
  obtain ⟨_, ⟨ho0, ho1⟩, k3⟩ := mayConf_spec h1
  obtain ⟨l1, l2, l3⟩ := mayV_spec h2
  obtain ⟨_, f2, ca0, ca1⟩ := hh
  rw [fitsV_iff] at f2 hgl
  unfold zeroV at hgl
  obtain ⟨a0, a1, a2⟩ := f2
  obtain ⟨b0, b1, b2⟩ := hgl
  dsimp only at *
  have hp : 0 < 2 ^ c.slow.toNat := Nat.pow_pos (by decide)
  have e2 : (2 : Int) ^ c.slow.toNat = ((2 ^ c.slow.toNat : Nat) : Int) := (Int.natCast_pow 2 c.slow.toNat).symm
  refine .inr ⟨42 * 2 ^ c.slow.toNat, by rw [e2]; omega, fIter_all hp (by omega), fIter_all hp (by omega), fIter_all hp (by omega)⟩
theorem come_end {c : Conf} {g v : Vec} {calm : Int} (hg : fitsV g v = true) (h : Coming c g v calm 0) : v = g := by
  rcases h with h | ⟨N, hl, n0, n1, n2⟩
  · exact h
  · obtain rfl : N = 0 := by omega
    rw [fitsV_iff] at hg
    unfold fIter at n0 n1 n2
    obtain ⟨a0, a1, a2⟩ := g
    obtain ⟨v0, v1, v2⟩ := v
    dsimp only at *
    simp only [Vec.mk.injEq]
    omega
theorem goal_zero {c : Conf} {limit usage : Vec} (h1 : mayConf c = true) (h2 : mayV limit = true) (h3 : mayV usage = true) : fitsV zeroV (goalV c limit usage) = true := by
  obtain ⟨k1, _, _⟩ := mayConf_spec h1
  obtain ⟨l1, l2, l3⟩ := mayV_spec h2
  obtain ⟨u1, u2, u3⟩ := mayV_spec h3
  rw [fitsV_iff]
  unfold zeroV goalV pickV
  dsimp only
  exact ⟨(goalI_bd k1 u1 l1).1, (goalI_bd k1 u2 l2).1, (goalI_bd k1 u3 l3).1⟩
end Go.Proofs.Ytbamgoocgmhohaa
