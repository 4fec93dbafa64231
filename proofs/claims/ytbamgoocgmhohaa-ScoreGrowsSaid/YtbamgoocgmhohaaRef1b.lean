/- The contracts of the document's answer for vecs (reeveref01), the second half. Conditions: the numbers are of their kinds. -/
import Derived.Test.YtbamgoocgmhohaaRef1
namespace Go.Proofs.Ytbamgoocgmhohaa
open Go.RowKit

theorem mid_add {a b : Int} (ha : I64 a) (hb : I64 b) : Mid (a + b) := by obtain ⟨_, _⟩ := ha; obtain ⟨_, _⟩ := hb; constructor <;> omega
theorem mid_sub {a b : Int} (ha : I64 a) (hb : I64 b) : Mid (a + -b) := by obtain ⟨_, _⟩ := ha; obtain ⟨_, _⟩ := hb; constructor <;> omega
theorem mid_neg {a : Int} (ha : Mid a) : Mid (-a) := by obtain ⟨_, _⟩ := ha; constructor <;> omega
def boxT (x n : Int) : Int := if fits (x * n) then x * n else 0
theorem box_yes {x n : Int} (h : fits (x * n) = true) : wrap64 (x * n) = boxT x n := by simp [boxT, h, fits_wrap h]
theorem box_no {x n : Int} (h : fits (x * n) = false) : 0 = boxT x n := by simp [boxT, h]
theorem quo_back0 (x n : Int) (hx0 : -9223372036854775808 ≤ x) (hx1 : x ≤ 9223372036854775807) (hn0 : -9223372036854775808 ≤ n) (hn1 : n ≤ 9223372036854775807) (h1 : n ≠ 0) :
    (wrap64 ((wrap64 (x * n)).tdiv n) = x ∧ ¬ (x = -9223372036854775808 ∧ n = -1) ∧ ¬ (n = -9223372036854775808 ∧ x = -1)) ↔ (-9223372036854775808 ≤ x * n ∧ x * n ≤ 9223372036854775807) := by
  constructor
  · rintro ⟨hq, hc, -⟩
    have hp : ∃ p, wrap64 (x * n) = p := ⟨_, rfl⟩
    obtain ⟨p, hp⟩ := hp
    rw [hp] at hq
    have hr : ∃ z, x * n = z := ⟨_, rfl⟩
    obtain ⟨z, hz⟩ := hr
    rw [hz] at hp ⊢
    have e := Int.mul_tdiv_add_tmod p n
    have hm := Int.natAbs_tmod p n
    have hlt : p.natAbs % n.natAbs < n.natAbs := Nat.mod_lt _ (by omega)
    have hd : (p.tdiv n).natAbs = p.natAbs / n.natAbs := Int.natAbs_tdiv p n
    have hle : p.natAbs / n.natAbs ≤ p.natAbs := Nat.div_le_self _ _
    have hq' : p.tdiv n = x := by
      generalize p.tdiv n = t at *
      by_cases ht : t ≤ 9223372036854775807
      · unfold wrap64 at hq hp; omega
      · exfalso
        have ht' : t = 9223372036854775808 := by unfold wrap64 at hp; omega
        have hx : x = -9223372036854775808 := by unfold wrap64 at hq; omega
        have hn : n.natAbs = 1 := by
          have : p.natAbs = 9223372036854775808 := by unfold wrap64 at hp; omega
          rw [this, ht'] at hd
          have h9 : n.natAbs ≤ 1 := by
            rcases Nat.lt_or_ge 1 n.natAbs with h | h
            · have := Nat.div_lt_self (n := 9223372036854775808) (by omega) h
              omega
            · exact h
          omega
        have : n = 1 ∨ n = -1 := by omega
        rcases this with rfl | rfl
        · have : p = t := by rw [ht'] at e ⊢; omega
          unfold wrap64 at hp; omega
        · exact hc ⟨hx, rfl⟩
    rw [hq', Int.mul_comm n x, hz] at e
    generalize p.tmod n = r at *
    unfold wrap64 at hp
    omega
  · rintro ⟨h, h'⟩
    have hp : wrap64 (x * n) = x * n := by unfold wrap64; omega
    rw [hp, Int.mul_tdiv_cancel _ h1]
    refine ⟨by unfold wrap64; omega, ?_, ?_⟩
    · rintro ⟨rfl, rfl⟩; omega
    · rintro ⟨rfl, rfl⟩; omega
theorem quo_back (x n : Int) (hx : I64 x) (hn : I64 n) (h1 : n ≠ 0) : (wrap64 ((wrap64 (x * n)).tdiv n) = x ∧ ¬ (x = -9223372036854775808 ∧ n = -1) ∧ ¬ (n = -9223372036854775808 ∧ x = -1)) ↔ fits (x * n) = true := by
  unfold fits
  rw [decide_eq_true_eq]
  exact quo_back0 x n hx.1 hx.2 hn.1 hn.2 h1
theorem box_cut (x n : Int) : boxT x n = cut (x * n) := rfl
set_option maxHeartbeats 400000 in
theorem ref_Fits (a b : Vec) (w : World) :
    Calls Try.prog 19 #[a.v, b.v] w fun e w' => e = .returned (.bool (fitsV a b)) ∧ Below w.heap.size w w' := by
  obtain ⟨a0, a1, a2⟩ := a
  obtain ⟨b0, b1, b2⟩ := b
  unfold fitsV
  by_cases h0 : a0 ≤ b0 <;> by_cases h1 : a1 ≤ b1
  all_goals
    go_enter Try.func19, Try.ntmps19
    go_wp2
    go_returns
    exact ⟨by first | (simp [*]; done) | (simp [*]; intros; omega), by go_grown⟩

def mayV (a : Vec) : Bool := decide (0 ≤ a.cpu) && (decide (a.cpu ≤ 1099511627776) && (decide (0 ≤ a.mem) && (decide (a.mem ≤ 1099511627776) && (decide (0 ≤ a.disk) && decide (a.disk ≤ 1099511627776)))))
set_option maxHeartbeats 1000000 in
theorem ref_May (a : Vec) (w : World) :
    Calls Try.prog 38 #[a.v] w fun e w' => e = .returned (.bool (mayV a)) ∧ Below w.heap.size w w' := by
  obtain ⟨a0, a1, a2⟩ := a
  unfold mayV
  go_enter Try.func38, Try.ntmps38
  go_wp2
  all_goals
    go_returns
    exact ⟨by first | (simp [*]; done) | (simp [*]; intros; omega), by go_grown⟩

attribute [local go_sem] kmax2 kmin2 kmax_two kmin_two
set_option maxHeartbeats 400000 in
theorem ref_Max (a b : Vec) (w : World) :
    Calls Try.prog 52 #[a.v, b.v] w fun e w' => e = .returned (maxV a b).v ∧ Below w.heap.size w w' := by
  obtain ⟨a0, a1, a2⟩ := a
  obtain ⟨b0, b1, b2⟩ := b
  go_enter Try.func52, Try.ntmps52
  go_wp2
  go_returns
  exact ⟨rfl, by go_grown⟩
set_option maxHeartbeats 400000 in
theorem ref_Min (a b : Vec) (w : World) :
    Calls Try.prog 20 #[a.v, b.v] w fun e w' => e = .returned (minV a b).v ∧ Below w.heap.size w w' := by
  obtain ⟨a0, a1, a2⟩ := a
  obtain ⟨b0, b1, b2⟩ := b
  go_enter Try.func20, Try.ntmps20
  go_wp2
  go_returns
  exact ⟨rfl, by go_grown⟩
set_option maxHeartbeats 1000000 in
theorem vec_May (a : Vec) (w : World) :
    Calls Try.prog 54 #[a.v] w fun e w' => e = .returned (.bool (mayV a)) ∧ Below w.heap.size w w' := by
  have e : mayV a = (fitsV zeroV a && fitsV a ⟨1099511627776, 1099511627776, 1099511627776⟩) := by
    unfold mayV fitsV zeroV
    rw [Bool.eq_iff_iff]
    simp only [Bool.and_eq_true, decide_eq_true_eq]
    omega
  obtain ⟨a0, a1, a2⟩ := a
  have c1 : ∀ w, Calls Try.prog 48 #[.agg #[.int .i64 0, .int .i64 0, .int .i64 0], .agg #[.int .i64 a0, .int .i64 a1, .int .i64 a2]] w fun e w' => e = .returned (.bool (fitsV zeroV ⟨a0, a1, a2⟩)) ∧ Below w.heap.size w w' := fun w => vec_Fits zeroV ⟨a0, a1, a2⟩ w
  have c2 : ∀ w, Calls Try.prog 48 #[.agg #[.int .i64 a0, .int .i64 a1, .int .i64 a2], .agg #[.int .i64 1099511627776, .int .i64 1099511627776, .int .i64 1099511627776]] w fun e w' => e = .returned (.bool (fitsV ⟨a0, a1, a2⟩ ⟨1099511627776, 1099511627776, 1099511627776⟩)) ∧ Below w.heap.size w w' := fun w => vec_Fits ⟨a0, a1, a2⟩ ⟨1099511627776, 1099511627776, 1099511627776⟩ w
  rw [e]
  generalize fitsV zeroV ⟨a0, a1, a2⟩ = f1 at *
  generalize fitsV ⟨a0, a1, a2⟩ ⟨1099511627776, 1099511627776, 1099511627776⟩ = f2 at *
  clear e
  have C1 := Lib.hid c1
  have C2 := Lib.hid c2
  clear c1 c2
  cases f1
  · go_enter Try.func54, Try.ntmps54
    go_wp2_with fail
    refine (C1.out _).mono ?_
    rintro e w1 ⟨rfl, hb1⟩
    have hB : Below w.heap.size w w1 := below_to (by go_grown) hb1
    obtain ⟨hc1, hf1, -, -, hb1⟩ := after_call hb1
    go_wp2_with fail
    go_ret
    exact ⟨rfl, hB⟩
  · go_enter Try.func54, Try.ntmps54
    go_wp2_with fail
    refine (C1.out _).mono ?_
    rintro e w1 ⟨rfl, hb1⟩
    obtain ⟨hc1, hf1, -, -, hb1⟩ := after_call hb1
    go_wp2_with fail
    refine (C2.out _).mono ?_
    rintro e w2 ⟨rfl, hb2⟩
    obtain ⟨hc2, hf2, -, -, hb2⟩ := more_call hb1 hb2
    have hB : Below w.heap.size w w2 := below_to (by go_grown) hb2
    go_wp2_with fail
    go_ret
    exact ⟨by simp, hB⟩

end Go.Proofs.Ytbamgoocgmhohaa
