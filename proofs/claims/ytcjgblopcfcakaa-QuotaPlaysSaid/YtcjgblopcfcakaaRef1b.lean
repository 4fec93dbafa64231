/- The contracts of the document's answer for vecs (reeveref01), the second half. Conditions: the numbers are of their kinds. -/
import Derived.Test.YtcjgblopcfcakaaRef1
namespace Go.Proofs.Ytcjgblopcfcakaa
open Go.RowKit

theorem mid_add {a b : Int} (ha : I64 a) (hb : I64 b) : Mid (a + b) := by obtain ⟨_, _⟩ := ha; obtain ⟨_, _⟩ := hb; constructor <;> omega
theorem mid_sub {a b : Int} (ha : I64 a) (hb : I64 b) : Mid (a + -b) := by obtain ⟨_, _⟩ := ha; obtain ⟨_, _⟩ := hb; constructor <;> omega
theorem mid_neg {a : Int} (ha : Mid a) : Mid (-a) := by obtain ⟨_, _⟩ := ha; constructor <;> omega
set_option maxHeartbeats 2000000 in
theorem ref_Add (a b : Vec) (ha : a.ok) (hb : b.ok) (w : World) :
    Calls Try.prog 62 #[a.v, b.v] w fun e w' => e = .returned (.tuple #[(addV a b).1.v, .int .i64 (addV a b).2]) ∧ Below w.heap.size w w' := by
  obtain ⟨a0, a1, a2⟩ := a
  obtain ⟨b0, b1, b2⟩ := b
  have hr : addV ⟨a0, a1, a2⟩ ⟨b0, b1, b2⟩ = threeV (a0 + b0) (a1 + b1) (a2 + b2) := rfl
  rw [hr]
  obtain ⟨xa0, xa1, xa2⟩ := ha
  obtain ⟨xb0, xb1, xb2⟩ := hb
  have m0 := mid_add xa0 xb0
  have m1 := mid_add xa1 xb1
  have m2 := mid_add xa2 xb2
  have ya0 := Mid.of xa0
  have ya1 := Mid.of xa1
  have ya2 := Mid.of xa2
  have yb0 := Mid.of xb0
  have yb1 := Mid.of xb1
  have yb2 := Mid.of xb2
  have c := fun w => ref_three (a0 + b0) (a1 + b1) (a2 + b2) m0 m1 m2 w
  generalize threeV (a0 + b0) (a1 + b1) (a2 + b2) = r at c ⊢
  obtain ⟨⟨r0, r1, r2⟩, r3⟩ := r
  have C := Lib.hid c
  clear c hr
  go_enter Try.func62, Try.ntmps62
  go_wp2
  refine wp_region_ext_tail 24 (by kernel_rfl) (by kernel_rfl) ?_
  simp only [List.take_succ_cons, List.take_zero, List.drop_succ_cons, List.drop_zero]
  repeat (go_big_quiet_step ((first | (go_at_call 78; with_reducible refine ext_of (ref_Of _ ?_ _); with_reducible assumption) | (go_at_call 79; with_reducible refine ext_of (ref_WAdd _ _ ?_ ?_ _) <;> with_reducible assumption) | (go_at_call 77; exact ext_of (C.out _)))))
  refine wpQuiet_nil ?_
  intro w1 hx
  have hB : Below w.heap.size w w1 := below_to (by go_grown) (after_region hx).2.2.2.2
  obtain ⟨hc1, hf1, -, -, -⟩ := after_region hx
  clear hx
  go_wp2
  refine bodyPost_ret (v := .tuple #[.agg #[.int .i64 r0, .int .i64 r1, .int .i64 r2], .int .i64 r3]) (by simp [results, Try.results62, go_sem, hc1]) rfl ?_
  exact ⟨rfl, by go_grown⟩
set_option maxHeartbeats 2000000 in
theorem ref_Sub (a b : Vec) (ha : a.ok) (hb : b.ok) (w : World) :
    Calls Try.prog 63 #[a.v, b.v] w fun e w' => e = .returned (.tuple #[(subV a b).1.v, .int .i64 (subV a b).2]) ∧ Below w.heap.size w w' := by
  obtain ⟨a0, a1, a2⟩ := a
  obtain ⟨b0, b1, b2⟩ := b
  have hr : subV ⟨a0, a1, a2⟩ ⟨b0, b1, b2⟩ = threeV (a0 + -b0) (a1 + -b1) (a2 + -b2) := by simp only [subV, eachV, threeV, Int.sub_eq_add_neg]
  rw [hr]
  obtain ⟨xa0, xa1, xa2⟩ := ha
  obtain ⟨xb0, xb1, xb2⟩ := hb
  have m0 := mid_sub xa0 xb0
  have m1 := mid_sub xa1 xb1
  have m2 := mid_sub xa2 xb2
  have ya0 := Mid.of xa0
  have ya1 := Mid.of xa1
  have ya2 := Mid.of xa2
  have yb0 := Mid.of xb0
  have yb1 := Mid.of xb1
  have yb2 := Mid.of xb2
  have yn0 := mid_neg yb0
  have yn1 := mid_neg yb1
  have yn2 := mid_neg yb2
  have c := fun w => ref_three (a0 + -b0) (a1 + -b1) (a2 + -b2) m0 m1 m2 w
  generalize threeV (a0 + -b0) (a1 + -b1) (a2 + -b2) = r at c ⊢
  obtain ⟨⟨r0, r1, r2⟩, r3⟩ := r
  have C := Lib.hid c
  clear c hr
  go_enter Try.func63, Try.ntmps63
  go_wp2
  refine wp_region_ext_tail 27 (by kernel_rfl) (by kernel_rfl) ?_
  simp only [List.take_succ_cons, List.take_zero, List.drop_succ_cons, List.drop_zero]
  repeat (go_big_quiet_step ((first | (go_at_call 80; with_reducible refine ext_of (ref_Minus _ ?_ _); with_reducible assumption) | (go_at_call 78; with_reducible refine ext_of (ref_Of _ ?_ _); with_reducible assumption) | (go_at_call 79; with_reducible refine ext_of (ref_WAdd _ _ ?_ ?_ _) <;> with_reducible assumption) | (go_at_call 77; exact ext_of (C.out _)))))
  refine wpQuiet_nil ?_
  intro w1 hx
  have hB : Below w.heap.size w w1 := below_to (by go_grown) (after_region hx).2.2.2.2
  obtain ⟨hc1, hf1, -, -, -⟩ := after_region hx
  clear hx
  go_wp2
  refine bodyPost_ret (v := .tuple #[.agg #[.int .i64 r0, .int .i64 r1, .int .i64 r2], .int .i64 r3]) (by simp [results, Try.results63, go_sem, hc1]) rfl ?_
  exact ⟨rfl, by go_grown⟩

def boxT (x n : Int) : Int := if fits (x * n) then x * n else 0
theorem box_yes {x n : Int} (h : fits (x * n) = true) : wrap64 (x * n) = boxT x n := by simp [boxT, h, fits_wrap h]
theorem box_no {x n : Int} (h : fits (x * n) = false) : 0 = boxT x n := by simp [boxT, h]
theorem quo_back0 (x n : Int) (hx0 : -9223372036854775808 ≤ x) (hx1 : x ≤ 9223372036854775807) (hn0 : -9223372036854775808 ≤ n) (hn1 : n ≤ 9223372036854775807) (h1 : n ≠ 0) :
    (wrap64 ((wrap64 (x * n)).tdiv n) = x ∧ ¬ (x = -9223372036854775808 ∧ n = -1) ∧ ¬ (n = -9223372036854775808 ∧ x = -1)) ↔ (-9223372036854775808 ≤ x * n ∧ x * n ≤ 9223372036854775807) := by
  constructor
  · rintro ⟨hq, hc, -⟩
    have hp : ∃ p, wrap64 (x * n) = p := ⟨_, rfl⟩
    obtain ⟨p, hp⟩ := hp
    rw [hp] at hq
    have hr : ∃ z, x * n = z := ⟨_, rfl⟩
    obtain ⟨z, hz⟩ := hr
    rw [hz] at hp ⊢
    have e := Int.mul_tdiv_add_tmod p n
    have hm := Int.natAbs_tmod p n
    have hlt : p.natAbs % n.natAbs < n.natAbs := Nat.mod_lt _ (by omega)
    have hd : (p.tdiv n).natAbs = p.natAbs / n.natAbs := Int.natAbs_tdiv p n
    have hle : p.natAbs / n.natAbs ≤ p.natAbs := Nat.div_le_self _ _
    have hq' : p.tdiv n = x := by
      generalize p.tdiv n = t at *
      by_cases ht : t ≤ 9223372036854775807
      · unfold wrap64 at hq hp; omega
      · exfalso
        have ht' : t = 9223372036854775808 := by unfold wrap64 at hp; omega
        have hx : x = -9223372036854775808 := by unfold wrap64 at hq; omega
        have hn : n.natAbs = 1 := by
          have : p.natAbs = 9223372036854775808 := by unfold wrap64 at hp; omega
          rw [this, ht'] at hd
          have h9 : n.natAbs ≤ 1 := by
            rcases Nat.lt_or_ge 1 n.natAbs with h | h
            · have := Nat.div_lt_self (n := 9223372036854775808) (by omega) h
              omega
            · exact h
          omega
        have : n = 1 ∨ n = -1 := by omega
        rcases this with rfl | rfl
        · have : p = t := by rw [ht'] at e ⊢; omega
          unfold wrap64 at hp; omega
        · exact hc ⟨hx, rfl⟩
    rw [hq', Int.mul_comm n x, hz] at e
    generalize p.tmod n = r at *
    unfold wrap64 at hp
    omega
  · rintro ⟨h, h'⟩
    have hp : wrap64 (x * n) = x * n := by unfold wrap64; omega
    rw [hp, Int.mul_tdiv_cancel _ h1]
    refine ⟨by unfold wrap64; omega, ?_, ?_⟩
    · rintro ⟨rfl, rfl⟩; omega
    · rintro ⟨rfl, rfl⟩; omega
theorem quo_back (x n : Int) (hx : I64 x) (hn : I64 n) (h1 : n ≠ 0) : (wrap64 ((wrap64 (x * n)).tdiv n) = x ∧ ¬ (x = -9223372036854775808 ∧ n = -1) ∧ ¬ (n = -9223372036854775808 ∧ x = -1)) ↔ fits (x * n) = true := by
  unfold fits
  rw [decide_eq_true_eq]
  exact quo_back0 x n hx.1 hx.2 hn.1 hn.2 h1
theorem box_cut (x n : Int) : boxT x n = cut (x * n) := rfl
set_option maxHeartbeats 400000 in
theorem ref_Fits (a b : Vec) (w : World) :
    Calls Try.prog 60 #[a.v, b.v] w fun e w' => e = .returned (.bool (fitsV a b)) ∧ Below w.heap.size w w' := by
  obtain ⟨a0, a1, a2⟩ := a
  obtain ⟨b0, b1, b2⟩ := b
  unfold fitsV
  by_cases h0 : a0 ≤ b0 <;> by_cases h1 : a1 ≤ b1
  all_goals
    go_enter Try.func60, Try.ntmps60
    go_wp2
    go_returns
    exact ⟨by first | (simp [*]; done) | (simp [*]; intros; omega), by go_grown⟩

def mayV (a : Vec) : Bool := decide (0 ≤ a.cpu) && (decide (a.cpu ≤ 1099511627776) && (decide (0 ≤ a.mem) && (decide (a.mem ≤ 1099511627776) && (decide (0 ≤ a.disk) && decide (a.disk ≤ 1099511627776)))))
set_option maxHeartbeats 1000000 in
theorem ref_May (a : Vec) (w : World) :
    Calls Try.prog 39 #[a.v] w fun e w' => e = .returned (.bool (mayV a)) ∧ Below w.heap.size w w' := by
  obtain ⟨a0, a1, a2⟩ := a
  unfold mayV
  go_enter Try.func39, Try.ntmps39
  go_wp2
  all_goals
    go_returns
    exact ⟨by first | (simp [*]; done) | (simp [*]; intros; omega), by go_grown⟩

attribute [local go_sem] kmax2 kmin2 kmax_two kmin_two
set_option maxHeartbeats 1000000 in
theorem vec_May (a : Vec) (w : World) :
    Calls Try.prog 26 #[a.v] w fun e w' => e = .returned (.bool (mayV a)) ∧ Below w.heap.size w w' := by
  have e : mayV a = (fitsV zeroV a && fitsV a ⟨1099511627776, 1099511627776, 1099511627776⟩) := by
    unfold mayV fitsV zeroV
    rw [Bool.eq_iff_iff]
    simp only [Bool.and_eq_true, decide_eq_true_eq]
    omega
  obtain ⟨a0, a1, a2⟩ := a
  have c1 : ∀ w, Calls Try.prog 13 #[.agg #[.int .i64 0, .int .i64 0, .int .i64 0], .agg #[.int .i64 a0, .int .i64 a1, .int .i64 a2]] w fun e w' => e = .returned (.bool (fitsV zeroV ⟨a0, a1, a2⟩)) ∧ Below w.heap.size w w' := fun w => vec_Fits zeroV ⟨a0, a1, a2⟩ w
  have c2 : ∀ w, Calls Try.prog 13 #[.agg #[.int .i64 a0, .int .i64 a1, .int .i64 a2], .agg #[.int .i64 1099511627776, .int .i64 1099511627776, .int .i64 1099511627776]] w fun e w' => e = .returned (.bool (fitsV ⟨a0, a1, a2⟩ ⟨1099511627776, 1099511627776, 1099511627776⟩)) ∧ Below w.heap.size w w' := fun w => vec_Fits ⟨a0, a1, a2⟩ ⟨1099511627776, 1099511627776, 1099511627776⟩ w
  rw [e]
  generalize fitsV zeroV ⟨a0, a1, a2⟩ = f1 at *
  generalize fitsV ⟨a0, a1, a2⟩ ⟨1099511627776, 1099511627776, 1099511627776⟩ = f2 at *
  clear e
  have C1 := Lib.hid c1
  have C2 := Lib.hid c2
  clear c1 c2
  cases f1
  · go_enter Try.func26, Try.ntmps26
    go_wp2_with fail
    refine (C1.out _).mono ?_
    rintro e w1 ⟨rfl, hb1⟩
    have hB : Below w.heap.size w w1 := below_to (by go_grown) hb1
    obtain ⟨hc1, hf1, -, -, hb1⟩ := after_call hb1
    go_wp2_with fail
    go_ret
    exact ⟨rfl, hB⟩
  · go_enter Try.func26, Try.ntmps26
    go_wp2_with fail
    refine (C1.out _).mono ?_
    rintro e w1 ⟨rfl, hb1⟩
    obtain ⟨hc1, hf1, -, -, hb1⟩ := after_call hb1
    go_wp2_with fail
    refine (C2.out _).mono ?_
    rintro e w2 ⟨rfl, hb2⟩
    obtain ⟨hc2, hf2, -, -, hb2⟩ := more_call hb1 hb2
    have hB : Below w.heap.size w w2 := below_to (by go_grown) hb2
    go_wp2_with fail
    go_ret
    exact ⟨by simp, hB⟩

end Go.Proofs.Ytcjgblopcfcakaa
