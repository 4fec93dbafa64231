/- The contracts of the document's answer for vecs (reeveref01), the second half. Conditions: the numbers are of their kinds. -/
import Derived.Test.YthlninijnbmjfaaRef1
namespace Go.Proofs.Ythlninijnbmjfaa
open Go.RowKit

theorem mid_add {a b : Int} (ha : I64 a) (hb : I64 b) : Mid (a + b) := by obtain ⟨_, _⟩ := ha; obtain ⟨_, _⟩ := hb; constructor <;> omega
theorem mid_sub {a b : Int} (ha : I64 a) (hb : I64 b) : Mid (a + -b) := by obtain ⟨_, _⟩ := ha; obtain ⟨_, _⟩ := hb; constructor <;> omega
theorem mid_neg {a : Int} (ha : Mid a) : Mid (-a) := by obtain ⟨_, _⟩ := ha; constructor <;> omega
def boxT (x n : Int) : Int := if fits (x * n) then x * n else 0
theorem box_yes {x n : Int} (h : fits (x * n) = true) : wrap64 (x * n) = boxT x n := by simp [boxT, h, fits_wrap h]
theorem box_no {x n : Int} (h : fits (x * n) = false) : 0 = boxT x n := by simp [boxT, h]
theorem quo_back0 (x n : Int) (hx0 : -9223372036854775808 ≤ x) (hx1 : x ≤ 9223372036854775807) (hn0 : -9223372036854775808 ≤ n) (hn1 : n ≤ 9223372036854775807) (h1 : n ≠ 0) :
    (wrap64 ((wrap64 (x * n)).tdiv n) = x ∧ ¬ (x = -9223372036854775808 ∧ n = -1) ∧ ¬ (n = -9223372036854775808 ∧ x = -1)) ↔ (-9223372036854775808 ≤ x * n ∧ x * n ≤ 9223372036854775807) := by
  constructor
  · rintro ⟨hq, hc, -⟩
    have hp : ∃ p, wrap64 (x * n) = p := ⟨_, rfl⟩
    obtain ⟨p, hp⟩ := hp
    rw [hp] at hq
    have hr : ∃ z, x * n = z := ⟨_, rfl⟩
    obtain ⟨z, hz⟩ := hr
    rw [hz] at hp ⊢
    have e := Int.mul_tdiv_add_tmod p n
    have hm := Int.natAbs_tmod p n
    have hlt : p.natAbs % n.natAbs < n.natAbs := Nat.mod_lt _ (by omega)
    have hd : (p.tdiv n).natAbs = p.natAbs / n.natAbs := Int.natAbs_tdiv p n
    have hle : p.natAbs / n.natAbs ≤ p.natAbs := Nat.div_le_self _ _
    have hq' : p.tdiv n = x := by
      generalize p.tdiv n = t at *
      by_cases ht : t ≤ 9223372036854775807
      · unfold wrap64 at hq hp; omega
      · exfalso
        have ht' : t = 9223372036854775808 := by unfold wrap64 at hp; omega
        have hx : x = -9223372036854775808 := by unfold wrap64 at hq; omega
        have hn : n.natAbs = 1 := by
          have : p.natAbs = 9223372036854775808 := by unfold wrap64 at hp; omega
          rw [this, ht'] at hd
          have h9 : n.natAbs ≤ 1 := by
            rcases Nat.lt_or_ge 1 n.natAbs with h | h
            · have := Nat.div_lt_self (n := 9223372036854775808) (by omega) h
              omega
            · exact h
          omega
        have : n = 1 ∨ n = -1 := by omega
        rcases this with rfl | rfl
        · have : p = t := by rw [ht'] at e ⊢; omega
          unfold wrap64 at hp; omega
        · exact hc ⟨hx, rfl⟩
    rw [hq', Int.mul_comm n x, hz] at e
    generalize p.tmod n = r at *
    unfold wrap64 at hp
    omega
  · rintro ⟨h, h'⟩
    have hp : wrap64 (x * n) = x * n := by unfold wrap64; omega
    rw [hp, Int.mul_tdiv_cancel _ h1]
    refine ⟨by unfold wrap64; omega, ?_, ?_⟩
    · rintro ⟨rfl, rfl⟩; omega
    · rintro ⟨rfl, rfl⟩; omega
theorem quo_back (x n : Int) (hx : I64 x) (hn : I64 n) (h1 : n ≠ 0) : (wrap64 ((wrap64 (x * n)).tdiv n) = x ∧ ¬ (x = -9223372036854775808 ∧ n = -1) ∧ ¬ (n = -9223372036854775808 ∧ x = -1)) ↔ fits (x * n) = true := by
  unfold fits
  rw [decide_eq_true_eq]
  exact quo_back0 x n hx.1 hx.2 hn.1 hn.2 h1
set_option maxHeartbeats 1000000 in
theorem ref_times (x n : Int) (hx : I64 x) (hn : I64 n) (w : World) :
    Calls Try.prog 85 #[.int .i64 x, .int .i64 n] w fun e w' => e = .returned (.tuple #[.int .i64 (boxT x n), .bool (fits (x * n))]) ∧ Below w.heap.size w w' := by
  by_cases h0 : x = 0
  · subst h0
    have hf : fits 0 = true := by decide
    have hb : boxT 0 n = 0 := by simp [boxT]
    have H := Lib.hid hf
    have HB := Lib.hid hb
    clear hf hb
    go_enter Try.func85, Try.ntmps85
    go_wp2
    go_ret2
    exact ⟨by simp [H.out, HB.out], below_self w⟩
  · by_cases h1 : n = 0
    · subst h1
      have hf : fits 0 = true := by decide
      have hb : boxT x 0 = 0 := by simp [boxT]
      have H := Lib.hid hf
      have HB := Lib.hid hb
      have h0b : (x == 0) = false := by simpa using h0
      clear hf hb
      go_enter Try.func85, Try.ntmps85
      go_wp2
      go_ret2
      exact ⟨by simp [H.out, HB.out], below_self w⟩
    · have q := Lib.hid (quo_back x n hx hn h1)
      have h0b : (x == 0) = false := by simpa using h0
      have h1b : (n == 0) = false := by simpa using h1
      clear hx hn
      by_cases hq : wrap64 ((wrap64 (x * n)).tdiv n) = x
      · cases b1 : (x == -9223372036854775808)
        · cases b3 : (n == -9223372036854775808)
          · have hf := Lib.hid (show fits (x * n) = true from q.out.1 ⟨hq, fun h => by simp [h.1] at b1, fun h => by simp [h.1] at b3⟩)
            have hb := Lib.hid (show wrap64 (x * n) = boxT x n from box_yes hf.out)
            clear q
            try have hqb : (wrap64 ((wrap64 (x * n)).tdiv n) != x) = false := by simp [hq]
            clear hq
            go_enter Try.func85, Try.ntmps85
            go_wp2
            go_ret2
            exact ⟨by simp [hf.out, hb.out], below_self w⟩
          · cases b4 : (x == -1)
            · have hf := Lib.hid (show fits (x * n) = true from q.out.1 ⟨hq, fun h => by simp [h.1] at b1, fun h => by simp [h.2] at b4⟩)
              have hb := Lib.hid (show wrap64 (x * n) = boxT x n from box_yes hf.out)
              clear q
              try have hqb : (wrap64 ((wrap64 (x * n)).tdiv n) != x) = false := by simp [hq]
              clear hq
              go_enter Try.func85, Try.ntmps85
              go_wp2
              go_ret2
              exact ⟨by simp [hf.out, hb.out], below_self w⟩
            · have hf := Lib.hid (show fits (x * n) = false from Bool.eq_false_iff.2 fun h => (q.out.2 h).2.2 ⟨by simpa using b3, by simpa using b4⟩)
              have hb := Lib.hid (show 0 = boxT x n from box_no hf.out)
              clear q
              try have hqb : (wrap64 ((wrap64 (x * n)).tdiv n) != x) = false := by simp [hq]
              clear hq
              go_enter Try.func85, Try.ntmps85
              go_wp2
              go_ret2
              exact ⟨by simp [hf.out, ← hb.out], below_self w⟩
        · cases b2 : (n == -1)
          · have b4 : (x == -1) = false := by
              have : x = -9223372036854775808 := by simpa using b1
              rw [this]
              decide
            cases b3 : (n == -9223372036854775808)
            · have hf := Lib.hid (show fits (x * n) = true from q.out.1 ⟨hq, fun h => by simp [h.2] at b2, fun h => by simp [h.2] at b4⟩)
              have hb := Lib.hid (show wrap64 (x * n) = boxT x n from box_yes hf.out)
              clear q
              try have hqb : (wrap64 ((wrap64 (x * n)).tdiv n) != x) = false := by simp [hq]
              clear hq
              go_enter Try.func85, Try.ntmps85
              go_wp2
              go_ret2
              exact ⟨by simp [hf.out, hb.out], below_self w⟩
            · have hf := Lib.hid (show fits (x * n) = true from q.out.1 ⟨hq, fun h => by simp [h.2] at b2, fun h => by simp [h.2] at b4⟩)
              have hb := Lib.hid (show wrap64 (x * n) = boxT x n from box_yes hf.out)
              clear q
              try have hqb : (wrap64 ((wrap64 (x * n)).tdiv n) != x) = false := by simp [hq]
              clear hq
              go_enter Try.func85, Try.ntmps85
              go_wp2
              go_ret2
              exact ⟨by simp [hf.out, hb.out], below_self w⟩
          · have b3 : (n == -9223372036854775808) = false := by
              have : n = -1 := by simpa using b2
              rw [this]
              decide
            have hf := Lib.hid (show fits (x * n) = false from Bool.eq_false_iff.2 fun h => (q.out.2 h).2.1 ⟨by simpa using b1, by simpa using b2⟩)
            have hb := Lib.hid (show 0 = boxT x n from box_no hf.out)
            clear q
            try have hqb : (wrap64 ((wrap64 (x * n)).tdiv n) != x) = false := by simp [hq]
            clear hq
            go_enter Try.func85, Try.ntmps85
            go_wp2
            go_ret2
            exact ⟨by simp [hf.out, ← hb.out], below_self w⟩
      · have hf := Lib.hid (show fits (x * n) = false from Bool.eq_false_iff.2 fun h => hq (q.out.2 h).1)
        have hb := Lib.hid (show 0 = boxT x n from box_no hf.out)
        clear q
        try have hqb : (wrap64 ((wrap64 (x * n)).tdiv n) != x) = true := by simp [hq]
        clear hq
        go_enter Try.func85, Try.ntmps85
        go_wp2
        go_ret2
        exact ⟨by simp [hf.out, ← hb.out], below_self w⟩

theorem box_cut (x n : Int) : boxT x n = cut (x * n) := rfl
set_option maxHeartbeats 1000000 in
theorem ref_Times (a : Vec) (n : Int) (ha : a.ok) (hn : I64 n) (w : World) :
    Calls Try.prog 62 #[a.v, .int .i64 n] w fun e w' => e = .returned (.tuple #[(timesV a n).1.v, .int .i64 (timesV a n).2]) ∧ Below w.heap.size w w' := by
  obtain ⟨a0, a1, a2⟩ := a
  have hr : timesV ⟨a0, a1, a2⟩ n = threeV (a0 * n) (a1 * n) (a2 * n) := rfl
  rw [hr]
  have c0 := ref_times a0 n ha.1 hn
  have c1 := ref_times a1 n ha.2.1 hn
  have c2 := ref_times a2 n ha.2.2 hn
  rw [box_cut] at c0 c1 c2
  clear ha hn hr
  generalize a0 * n = z0 at *
  generalize a1 * n = z1 at *
  generalize a2 * n = z2 at *
  have C0 := Lib.hid c0
  have C1 := Lib.hid c1
  have C2 := Lib.hid c2
  clear c0 c1 c2
  go_enter Try.func62, Try.ntmps62
  go_wp2_with fail
  refine (C0.out _).mono ?_
  rintro e w1 ⟨rfl, hb1⟩
  obtain ⟨hc1, hf1, -, -, hb1⟩ := after_call hb1
  go_wp2_with fail
  refine (C1.out _).mono ?_
  rintro e w2 ⟨rfl, hb2⟩
  obtain ⟨hc2, hf2, -, -, hb2⟩ := more_call hb1 hb2
  clear hc1 hf1 hb1
  go_wp2_with fail
  refine (C2.out _).mono ?_
  rintro e w3 ⟨rfl, hb3⟩
  obtain ⟨hc3, hf3, -, -, hb3⟩ := more_call hb2 hb3
  have hB : Below w.heap.size w w3 := below_to (by go_grown) hb3
  clear hc2 hf2 hb2 hb3
  by_cases H : fits z0 = true ∧ fits z1 = true ∧ fits z2 = true
  · obtain ⟨h0, h1, h2⟩ := H
    have e0 := Lib.hid (cut_fits h0)
    have e1 := Lib.hid (cut_fits h1)
    have e2 := Lib.hid (cut_fits h2)
    go_wp2
    refine bodyPost_ret (v := .tuple #[.agg #[.int .i64 z0, .int .i64 z1, .int .i64 z2], .int .i64 0]) (by simp [results, Try.results62, go_sem, hc3, e0.out, e1.out, e2.out]) rfl ?_
    exact ⟨by simp [threeV, h0, h1, h2], by go_grown⟩
  · cases h0 : fits z0 with
    | false =>
      go_wp2
      refine bodyPost_ret (v := .tuple #[.agg #[.int .i64 0, .int .i64 0, .int .i64 0], .int .i64 9]) (by simp [results, Try.results62, go_sem, hc3]) rfl ?_
      exact ⟨by simp [threeV, h0, zeroV], by go_grown⟩
    | true =>
      cases h1 : fits z1 with
      | false =>
        go_wp2
        refine bodyPost_ret (v := .tuple #[.agg #[.int .i64 0, .int .i64 0, .int .i64 0], .int .i64 9]) (by simp [results, Try.results62, go_sem, hc3]) rfl ?_
        exact ⟨by simp [threeV, h0, h1, zeroV], by go_grown⟩
      | true =>
        have h2 : fits z2 = false := by simpa [h0, h1] using H
        go_wp2
        refine bodyPost_ret (v := .tuple #[.agg #[.int .i64 0, .int .i64 0, .int .i64 0], .int .i64 9]) (by simp [results, Try.results62, go_sem, hc3]) rfl ?_
        exact ⟨by simp [threeV, h0, h1, h2, zeroV], by go_grown⟩

def mayV (a : Vec) : Bool := decide (0 ≤ a.cpu) && (decide (a.cpu ≤ 1099511627776) && (decide (0 ≤ a.mem) && (decide (a.mem ≤ 1099511627776) && (decide (0 ≤ a.disk) && decide (a.disk ≤ 1099511627776)))))
set_option maxHeartbeats 1000000 in
theorem ref_May (a : Vec) (w : World) :
    Calls Try.prog 89 #[a.v] w fun e w' => e = .returned (.bool (mayV a)) ∧ Below w.heap.size w w' := by
  obtain ⟨a0, a1, a2⟩ := a
  unfold mayV
  go_enter Try.func89, Try.ntmps89
  go_wp2
  all_goals
    go_returns
    exact ⟨by first | (simp [*]; done) | (simp [*]; intros; omega), by go_grown⟩

attribute [local go_sem] kmax2 kmin2 kmax_two kmin_two
set_option maxHeartbeats 1000000 in
theorem vec_May (a : Vec) (w : World) :
    Calls Try.prog 88 #[a.v] w fun e w' => e = .returned (.bool (mayV a)) ∧ Below w.heap.size w w' := by
  have e : mayV a = (fitsV zeroV a && fitsV a ⟨1099511627776, 1099511627776, 1099511627776⟩) := by
    unfold mayV fitsV zeroV
    rw [Bool.eq_iff_iff]
    simp only [Bool.and_eq_true, decide_eq_true_eq]
    omega
  obtain ⟨a0, a1, a2⟩ := a
  have c1 : ∀ w, Calls Try.prog 44 #[.agg #[.int .i64 0, .int .i64 0, .int .i64 0], .agg #[.int .i64 a0, .int .i64 a1, .int .i64 a2]] w fun e w' => e = .returned (.bool (fitsV zeroV ⟨a0, a1, a2⟩)) ∧ Below w.heap.size w w' := fun w => vec_Fits zeroV ⟨a0, a1, a2⟩ w
  have c2 : ∀ w, Calls Try.prog 44 #[.agg #[.int .i64 a0, .int .i64 a1, .int .i64 a2], .agg #[.int .i64 1099511627776, .int .i64 1099511627776, .int .i64 1099511627776]] w fun e w' => e = .returned (.bool (fitsV ⟨a0, a1, a2⟩ ⟨1099511627776, 1099511627776, 1099511627776⟩)) ∧ Below w.heap.size w w' := fun w => vec_Fits ⟨a0, a1, a2⟩ ⟨1099511627776, 1099511627776, 1099511627776⟩ w
  rw [e]
  generalize fitsV zeroV ⟨a0, a1, a2⟩ = f1 at *
  generalize fitsV ⟨a0, a1, a2⟩ ⟨1099511627776, 1099511627776, 1099511627776⟩ = f2 at *
  clear e
  have C1 := Lib.hid c1
  have C2 := Lib.hid c2
  clear c1 c2
  cases f1
  · go_enter Try.func88, Try.ntmps88
    go_wp2_with fail
    refine (C1.out _).mono ?_
    rintro e w1 ⟨rfl, hb1⟩
    have hB : Below w.heap.size w w1 := below_to (by go_grown) hb1
    obtain ⟨hc1, hf1, -, -, hb1⟩ := after_call hb1
    go_wp2_with fail
    go_ret
    exact ⟨rfl, hB⟩
  · go_enter Try.func88, Try.ntmps88
    go_wp2_with fail
    refine (C1.out _).mono ?_
    rintro e w1 ⟨rfl, hb1⟩
    obtain ⟨hc1, hf1, -, -, hb1⟩ := after_call hb1
    go_wp2_with fail
    refine (C2.out _).mono ?_
    rintro e w2 ⟨rfl, hb2⟩
    obtain ⟨hc2, hf2, -, -, hb2⟩ := more_call hb1 hb2
    have hB : Below w.heap.size w w2 := below_to (by go_grown) hb2
    go_wp2_with fail
    go_ret
    exact ⟨by simp, hB⟩

end Go.Proofs.Ythlninijnbmjfaa
