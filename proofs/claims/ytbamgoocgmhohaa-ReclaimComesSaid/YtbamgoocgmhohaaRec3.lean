/- The contracts of package reclaim, its third part: steps; and the document's answer for them (reeveref19). Conditions: the numbers are of their kinds. -/
import Derived.Test.YtbamgoocgmhohaaRec2
namespace Go.Proofs.Ytbamgoocgmhohaa
open Go.RowKit

theorem mayConf_spec {c : Conf} (h : mayConf c = true) : (0 ≤ c.margin ∧ c.margin ≤ 400) ∧ (0 ≤ c.hold ∧ c.hold ≤ 1024) ∧ (0 ≤ c.slow ∧ c.slow ≤ 16) := by
  unfold mayConf inB at h
  simp only [Bool.and_eq_true, decide_eq_true_eq] at h
  exact h
theorem mayV_spec {a : Vec} (h : mayV a = true) : (0 ≤ a.cpu ∧ a.cpu ≤ 1099511627776) ∧ (0 ≤ a.mem ∧ a.mem ≤ 1099511627776) ∧ (0 ≤ a.disk ∧ a.disk ≤ 1099511627776) := by
  unfold mayV at h
  simp only [Bool.and_eq_true, decide_eq_true_eq] at h
  exact ⟨⟨h.1, h.2.1⟩, ⟨h.2.2.1, h.2.2.2.1⟩, h.2.2.2.2⟩
set_option maxHeartbeats 1000000 in
theorem rec_Goal (c : Conf) (limit usage : Vec) (w : World) :
    Calls Try.prog 18 #[c.v, limit.v, usage.v] w fun e w' => e = .returned (.tuple #[(goalR c limit usage).1.v, .int .i64 (goalR c limit usage).2]) ∧ Below w.heap.size w w' := by
  have c1 := rec_May c
  have c2 := vec_May limit
  have c3 := vec_May usage
  have c4 : mayConf c = true → mayV limit = true → mayV usage = true → ∀ W, Blk W w.heap.size 23 c.cs → Calls Try.prog 50 #[usage.v, limit.v, .func (.func 55) #[] #[.pointer (some ⟨w.heap.size, 0, none⟩)]] W fun e w' => e = .returned (goalV c limit usage).v ∧ Below W.heap.size W w' := fun h1 h2 h3 W hW => by
    obtain ⟨k1, _, _⟩ := mayConf_spec h1
    obtain ⟨l1, l2, l3⟩ := mayV_spec h2
    obtain ⟨u1, u2, u3⟩ := mayV_spec h3
    exact rec_each 55 _ c.cs Goes (goalI c.margin) (fun x y hx W' hb => rec_Goal1 _ _ _ _ k1 x y hx W' hb) enters_Goal1 usage limit ⟨u1, l1⟩ ⟨u2, l2⟩ ⟨u3, l3⟩ W hW
  unfold goalR
  generalize mayConf c = b1 at *
  generalize mayV limit = b2 at *
  generalize mayV usage = b3 at *
  generalize goalV c limit usage = g at *
  obtain ⟨g0, g1, g2⟩ := g
  obtain ⟨m, h, s⟩ := c
  obtain ⟨l0, l1, l2⟩ := limit
  obtain ⟨u0, u1, u2⟩ := usage
  have C1 := Lib.hid c1
  have C2 := Lib.hid c2
  have C3 := Lib.hid c3
  have C4 := Lib.hid c4
  clear c1 c2 c3 c4
  cases b1
  · go_enter Try.func18, Try.ntmps18
    go_wp2_with fail
    refine (C1.out _).mono ?_
    rintro e w1 ⟨rfl, hb1⟩
    have hB : Below w.heap.size w w1 := below_to (by go_grown) hb1
    obtain ⟨hc1, hf1, -, -, hb1⟩ := after_call hb1
    go_wp2_with fail
    refine bodyPost_ret (v := .tuple #[.agg #[.int .i64 0, .int .i64 0, .int .i64 0], .int .i64 2]) (by simp [results, Try.results18, go_sem, hc1]) rfl ?_
    exact ⟨rfl, by go_grown⟩
  · cases b2
    · go_enter Try.func18, Try.ntmps18
      go_wp2_with fail
      refine (C1.out _).mono ?_
      rintro e w1 ⟨rfl, hb1⟩
      obtain ⟨hc1, hf1, -, -, hb1⟩ := after_call hb1
      go_wp2_with fail
      refine (C2.out _).mono ?_
      rintro e w2 ⟨rfl, hb2⟩
      obtain ⟨hc2, hf2, -, -, hb2⟩ := more_call hb1 hb2
      clear hc1 hf1 hb1
      have hB : Below w.heap.size w w2 := below_to (by go_grown) hb2
      go_wp2_with fail
      refine bodyPost_ret (v := .tuple #[.agg #[.int .i64 0, .int .i64 0, .int .i64 0], .int .i64 2]) (by simp [results, Try.results18, go_sem, hc2]) rfl ?_
      exact ⟨rfl, by go_grown⟩
    · cases b3
      · go_enter Try.func18, Try.ntmps18
        go_wp2_with fail
        refine (C1.out _).mono ?_
        rintro e w1 ⟨rfl, hb1⟩
        obtain ⟨hc1, hf1, -, -, hb1⟩ := after_call hb1
        go_wp2_with fail
        refine (C2.out _).mono ?_
        rintro e w2 ⟨rfl, hb2⟩
        obtain ⟨hc2, hf2, -, -, hb2⟩ := more_call hb1 hb2
        clear hc1 hf1 hb1
        go_wp2_with fail
        refine (C3.out _).mono ?_
        rintro e w3 ⟨rfl, hb3⟩
        obtain ⟨hc3, hf3, -, -, hb3⟩ := more_call hb2 hb3
        clear hc2 hf2 hb2
        have hB : Below w.heap.size w w3 := below_to (by go_grown) hb3
        go_wp2_with fail
        refine bodyPost_ret (v := .tuple #[.agg #[.int .i64 0, .int .i64 0, .int .i64 0], .int .i64 2]) (by simp [results, Try.results18, go_sem, hc3]) rfl ?_
        exact ⟨rfl, by go_grown⟩
      · go_enter Try.func18, Try.ntmps18
        go_wp2_with fail
        refine (C1.out _).mono ?_
        rintro e w1 ⟨rfl, hb1⟩
        obtain ⟨hc1, hf1, -, -, hb1⟩ := after_call hb1
        go_wp2_with fail
        refine (C2.out _).mono ?_
        rintro e w2 ⟨rfl, hb2⟩
        obtain ⟨hc2, hf2, -, -, hb2⟩ := more_call hb1 hb2
        clear hc1 hf1 hb1
        go_wp2_with fail
        refine (C3.out _).mono ?_
        rintro e w3 ⟨rfl, hb3⟩
        have hC := ((((Blk.new w 23 #[.int .i64 m, .int .i64 h, .int .i64 s]).alloc (.cells #[.int .i64 l0, .int .i64 l1, .int .i64 l2] 25)).alloc (.cells #[.int .i64 u0, .int .i64 u1, .int .i64 u2] 25)).alloc (.cells #[.int .i64 0, .int .i64 0, .int .i64 0] 25)).past (below_to hb2 hb3)
        obtain ⟨hc3, hf3, -, -, hb3⟩ := more_call hb2 hb3
        clear hc2 hf2 hb2
        go_wp2_with fail
        refine (C4.out (by trivial) (by trivial) (by trivial) _ hC).mono ?_
        rintro e w4 ⟨rfl, hb4⟩
        obtain ⟨hc4, hf4, -, -, hb4⟩ := more_call hb3 hb4
        clear hc3 hf3 hb3
        have hB : Below w.heap.size w w4 := below_to (by go_grown) hb4
        go_wp2_with fail
        refine bodyPost_ret (v := .tuple #[.agg #[.int .i64 g0, .int .i64 g1, .int .i64 g2], .int .i64 0]) (by simp [results, Try.results18, go_sem, hc4]) rfl ?_
        exact ⟨rfl, by go_grown⟩

/-! ### Falling -/
theorem two_pow_bd {s : Int} (h : 0 ≤ s ∧ s ≤ 16) : 1 ≤ (2 : Int) ^ s.toNat ∧ (2 : Int) ^ s.toNat ≤ 65536 := by
  obtain ⟨k, hk, rfl⟩ : ∃ k : Nat, k ≤ 16 ∧ s = k := ⟨s.toNat, by omega, by omega⟩
  rw [Int.toNat_natCast]
  have : ∀ k : Fin 17, 1 ≤ (2 : Int) ^ k.1 ∧ (2 : Int) ^ k.1 ≤ 65536 := by decide
  exact this ⟨k, by omega⟩
theorem ceil_part {m p : Int} (hp : 1 ≤ p) (hm : 0 ≤ m) : (m / p * p = m → (m + p - 1) / p = m / p) ∧ (m / p * p ≠ m → (m + p - 1) / p = m / p + 1) := by
  have h0 := Int.emod_add_mul_ediv m p
  have h1 := Int.emod_nonneg m (show p ≠ 0 by omega)
  have h2 := Int.emod_lt_of_pos m (show 0 < p by omega)
  have e : m + p - 1 = (m % p + p - 1) + p * (m / p) := by omega
  have e2 : (m + p - 1) / p = (m % p + p - 1) / p + m / p := by rw [e, Int.add_mul_ediv_left _ _ (by omega)]
  rw [Int.mul_comm p] at h0
  refine ⟨fun h => ?_, fun h => ?_⟩
  · rw [e2, show m % p = 0 by omega, Int.ediv_eq_zero_of_lt (by omega) (by omega)]; omega
  · rw [e2, show m % p + p - 1 = (m % p - 1) + p * 1 by omega, Int.add_mul_ediv_left _ _ (by omega), Int.ediv_eq_zero_of_lt (by omega) (by omega)]; omega
theorem part_bd {m p : Int} (hp : 1 ≤ p) (hm : 0 ≤ m) : 0 ≤ m / p ∧ m / p ≤ m ∧ 0 ≤ m / p * p ∧ m / p * p ≤ m := by
  have h0 := Int.emod_add_mul_ediv m p
  have h1 := Int.emod_nonneg m (show p ≠ 0 by omega)
  rw [Int.mul_comm p] at h0
  have h3 : 0 ≤ m / p := Int.ediv_nonneg hm (by omega)
  have h4 : m / p * 1 ≤ m / p * p := Int.mul_le_mul_of_nonneg_left hp h3
  omega
set_option maxHeartbeats 400000 in
theorem rec_Step1 (cb : Nat) (m h s : Int) (hs : 0 ≤ s ∧ s ≤ 16) (x y : Int) (hx : Down x y) (W : World) (hb : Blk W cb 23 #[.int .i64 m, .int .i64 h, .int .i64 s]) :
    Calls Try.prog 51 #[.int .i64 x, .int .i64 y, .pointer (some ⟨cb, 0, none⟩)] W fun e w' => e = .returned (.int .i64 (fallI s x y)) ∧ Below W.heap.size W w' := by
  obtain ⟨x0, x1, x2⟩ := hx
  obtain ⟨p0, p1⟩ := two_pow_bd hs
  obtain ⟨q0, q1, q2, q3⟩ := part_bd p0 (show 0 ≤ x - y by omega)
  obtain ⟨r0, r1⟩ := ceil_part p0 (show 0 ≤ x - y by omega)
  obtain ⟨s0, s1⟩ := hs
  obtain ⟨bc, bf, bl⟩ := hb.facts
  have hw : wrap64 ((x - y) / 2 ^ s.toNat * 2 ^ s.toNat) = (x - y) / 2 ^ s.toNat * 2 ^ s.toNat := wrap64_id (by constructor <;> omega)
  clear hb p0 p1
  unfold fallI
  by_cases hq : (x - y) / 2 ^ s.toNat * 2 ^ s.toNat = x - y
  · have R := Lib.hid (r0 hq)
    have hq' : ((x - y) / 2 ^ s.toNat * 2 ^ s.toNat == x - y) = true := by simpa using hq
    clear r0 r1 q2 q3 hq
    go_enter Try.func51, Try.ntmps51
    go_wp2
    go_ret
    exact ⟨by rw [R.out]; rfl, below_self W⟩
  · have R := Lib.hid (r1 hq)
    have hq' : ((x - y) / 2 ^ s.toNat * 2 ^ s.toNat == x - y) = false := by simpa using hq
    clear r0 r1 q2 q3 hq
    go_enter Try.func51, Try.ntmps51
    go_wp2
    go_ret
    exact ⟨by rw [R.out]; rfl, below_self W⟩
def stepW (hold calm : Int) (ev g : Vec) (ge : Int) (f1 f2 : Bool) (m d : Vec) : Est × Int :=
  if ge = 0 ∧ f1 = true ∧ f2 = true ∧ 0 ≤ calm ∧ calm ≤ 1024 then
    if m = g then (⟨m, 0⟩, 0) else
      let k := if m = ev then min (calm + 1) 1024 else 1
      if hold < k ∨ (k = hold ∧ hold = 1024) then (⟨d, k⟩, 0) else (⟨m, k⟩, 0)
  else (⟨zeroV, 0⟩, 2)
theorem stepW_same {hold calm : Int} {ev g m d : Vec} (h1 : 0 ≤ calm) (h2 : calm ≤ 1024) (h : m = g) : stepW hold calm ev g 0 true true m d = (⟨m, 0⟩, 0) := by
  unfold stepW
  rw [if_pos ⟨rfl, rfl, rfl, h1, h2⟩, if_pos h]
theorem stepW_fall {hold calm : Int} {ev g m d : Vec} (k : Int) (h1 : 0 ≤ calm) (h2 : calm ≤ 1024) (h : m ≠ g) (hk : (if m = ev then min (calm + 1) 1024 else 1) = k) (h3 : hold < k ∨ (k = hold ∧ hold = 1024)) : stepW hold calm ev g 0 true true m d = (⟨d, k⟩, 0) := by
  unfold stepW
  rw [if_pos ⟨rfl, rfl, rfl, h1, h2⟩, if_neg h]
  simp only [hk]
  rw [if_pos h3]
theorem stepW_stay {hold calm : Int} {ev g m d : Vec} (k : Int) (h1 : 0 ≤ calm) (h2 : calm ≤ 1024) (h : m ≠ g) (hk : (if m = ev then min (calm + 1) 1024 else 1) = k) (h3 : ¬ (hold < k ∨ (k = hold ∧ hold = 1024))) : stepW hold calm ev g 0 true true m d = (⟨m, k⟩, 0) := by
  unfold stepW
  rw [if_pos ⟨rfl, rfl, rfl, h1, h2⟩, if_neg h]
  simp only [hk]
  rw [if_neg h3]
def stepR (c : Conf) (limit : Vec) (e : Est) (usage : Vec) : Est × Int :=
  stepW c.hold e.calm e.value (goalR c limit usage).1 (goalR c limit usage).2 (fitsV zeroV e.value) (fitsV e.value limit) (maxV e.value (goalR c limit usage).1) (pickV (fallI c.slow) (maxV e.value (goalR c limit usage).1) (goalR c limit usage).1)
theorem goalR_cases (c : Conf) (limit usage : Vec) : (mayConf c = true ∧ mayV limit = true ∧ mayV usage = true ∧ goalR c limit usage = (goalV c limit usage, 0)) ∨ goalR c limit usage = (zeroV, 2) := by
  unfold goalR
  by_cases h : (mayConf c && (mayV limit && mayV usage)) = true
  · rw [if_pos h]; simp only [Bool.and_eq_true] at h; exact .inl ⟨h.1, h.2.1, h.2.2, rfl⟩
  · rw [if_neg h]; exact .inr rfl
theorem goalI_bd {m u l : Int} (hm : 0 ≤ m ∧ m ≤ 400) (hu : 0 ≤ u ∧ u ≤ 1099511627776) (hl : 0 ≤ l ∧ l ≤ 1099511627776) : 0 ≤ goalI m u l ∧ goalI m u l ≤ l ∧ (u ≤ l → u ≤ goalI m u l) := by
  have h := goal_bd hm hu
  have h2 : u * 100 ≤ u * (100 + m) := Int.mul_le_mul_of_nonneg_left (by omega) hu.1
  unfold goalI
  omega
/-- What the numbers of a step are, where it is done. -/
theorem step_downs {c : Conf} {limit usage ev : Vec} (h1 : mayConf c = true) (h2 : mayV limit = true) (h3 : mayV usage = true) (f1 : fitsV zeroV ev = true) (f2 : fitsV ev limit = true) :
    ev.ok ∧ (goalV c limit usage).ok ∧ Down (maxV ev (goalV c limit usage)).cpu (goalV c limit usage).cpu ∧ Down (maxV ev (goalV c limit usage)).mem (goalV c limit usage).mem ∧ Down (maxV ev (goalV c limit usage)).disk (goalV c limit usage).disk := by
  obtain ⟨k1, _, _⟩ := mayConf_spec h1
  obtain ⟨l1, l2, l3⟩ := mayV_spec h2
  obtain ⟨u1, u2, u3⟩ := mayV_spec h3
  have g1 := goalI_bd k1 u1 l1
  have g2 := goalI_bd k1 u2 l2
  have g3 := goalI_bd k1 u3 l3
  unfold fitsV zeroV at f1
  unfold fitsV at f2
  simp only [Bool.and_eq_true, decide_eq_true_eq] at f1 f2
  unfold maxV goalV pickV Vec.ok I64 Down
  dsimp only
  refine ⟨⟨⟨by omega, by omega⟩, ⟨by omega, by omega⟩, by omega, by omega⟩, ⟨⟨by omega, by omega⟩, ⟨by omega, by omega⟩, by omega, by omega⟩, ⟨by omega, by omega, by omega⟩, ⟨by omega, by omega, by omega⟩, by omega, by omega, by omega⟩
end Go.Proofs.Ytbamgoocgmhohaa
