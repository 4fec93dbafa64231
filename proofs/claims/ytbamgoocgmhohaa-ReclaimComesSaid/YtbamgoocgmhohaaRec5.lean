/- The contracts of reeveref19, and of reclaim.Steps. Conditions: the numbers are of their kinds. -/
import Derived.Test.YtbamgoocgmhohaaRec3
namespace Go.Proofs.Ytbamgoocgmhohaa
open Go.RowKit

set_option maxHeartbeats 1000000 in
theorem ref_May19 (c : Conf) (w : World) :
    Calls Try.prog 23 #[c.v] w fun e w' => e = .returned (.bool (mayConf c)) ∧ Below w.heap.size w w' := by
  obtain ⟨m, h, s⟩ := c
  unfold mayConf inB
  go_enter Try.func23, Try.ntmps23
  go_wp2
  all_goals
    go_returns
    exact ⟨by first | (simp [*]; done) | (simp [*]; intros; omega), by go_grown⟩
def stepsI (c : Conf) : Int := if mayConf c then c.hold + 42 * 2 ^ c.slow.toNat else 0
set_option maxHeartbeats 1000000 in
theorem rec_Steps (c : Conf) (w : World) :
    Calls Try.prog 24 #[c.v] w fun e w' => e = .returned (.int .i64 (stepsI c)) ∧ Below w.heap.size w w' := by
  have c1 := rec_May c
  have hs := @mayConf_spec c
  unfold stepsI
  generalize mayConf c = b at *
  obtain ⟨m, h, s⟩ := c
  have C1 := Lib.hid c1
  clear c1
  cases b
  · clear hs
    go_enter Try.func24, Try.ntmps24
    go_wp2_with fail
    refine (C1.out _).mono ?_
    rintro e w1 ⟨rfl, hb1⟩; dsimp only
    have hB : Below w.heap.size w w1 := below_to (by go_grown) hb1
    obtain ⟨hc1, hf1, -, -, hb1⟩ := after_call hb1
    go_wp2_with fail
    go_ret
    exact ⟨rfl, hB⟩
  · obtain ⟨_, ⟨h0, h1⟩, hs⟩ := hs rfl
    obtain ⟨p0, p1⟩ := two_pow_bd hs
    obtain ⟨s0, s1⟩ := hs
    dsimp only at *
    have W := Lib.hid (show wrap64 (42 * 2 ^ s.toNat) = 42 * 2 ^ s.toNat from wrap64_id (by constructor <;> omega))
    have W2 := Lib.hid (show wrap64 (h + 42 * 2 ^ s.toNat) = h + 42 * 2 ^ s.toNat from wrap64_id (by constructor <;> omega))
    clear p0 p1
    go_enter Try.func24, Try.ntmps24
    go_wp2_with fail
    refine (C1.out _).mono ?_
    rintro e w1 ⟨rfl, hb1⟩; dsimp only
    have hB : Below w.heap.size w w1 := below_to (by go_grown) hb1
    obtain ⟨hc1, hf1, hce1, hfe1, hb1⟩ := after_call hb1
    go_wp2_with fail
    have W' := W.out
    have W2' := W2.out
    refine wp_region_ext (by kernel_rfl) (by kernel_rfl) ?_
    repeat (go_big_quiet_step (fail))
    refine wpQuiet_nil ?_
    intro w2 hx
    obtain ⟨x, rfl⟩ := hx
    go_wp2_with fail
    go_ret
    exact ⟨by first | rfl | simp [W.out, W2.out], below_to hB (extn_below _ x)⟩
set_option maxHeartbeats 1000000 in
theorem ref_Steps (c : Conf) (w : World) :
    Calls Try.prog 25 #[c.v] w fun e w' => e = .returned (.int .i64 (stepsI c)) ∧ Below w.heap.size w w' := by
  have c1 := ref_May19 c
  have hs := @mayConf_spec c
  unfold stepsI
  generalize mayConf c = b at *
  obtain ⟨m, h, s⟩ := c
  have C1 := Lib.hid c1
  clear c1
  cases b
  · clear hs
    go_enter Try.func25, Try.ntmps25
    go_wp2_with fail
    refine (C1.out _).mono ?_
    rintro e w1 ⟨rfl, hb1⟩; dsimp only
    have hB : Below w.heap.size w w1 := below_to (by go_grown) hb1
    obtain ⟨hc1, hf1, -, -, hb1⟩ := after_call hb1
    go_wp2_with fail
    go_ret
    exact ⟨rfl, hB⟩
  · obtain ⟨_, ⟨h0, h1⟩, hs⟩ := hs rfl
    obtain ⟨p0, p1⟩ := two_pow_bd hs
    obtain ⟨s0, s1⟩ := hs
    dsimp only at *
    have W := Lib.hid (show wrap64 (42 * 2 ^ s.toNat) = 42 * 2 ^ s.toNat from wrap64_id (by constructor <;> omega))
    have W2 := Lib.hid (show wrap64 (h + 42 * 2 ^ s.toNat) = h + 42 * 2 ^ s.toNat from wrap64_id (by constructor <;> omega))
    clear p0 p1
    go_enter Try.func25, Try.ntmps25
    go_wp2_with fail
    refine (C1.out _).mono ?_
    rintro e w1 ⟨rfl, hb1⟩; dsimp only
    have hB : Below w.heap.size w w1 := below_to (by go_grown) hb1
    obtain ⟨hc1, hf1, -, -, hb1⟩ := after_call hb1
    go_wp2_with fail
    go_ret
    exact ⟨by simp [W.out, W2.out], by go_grown⟩
set_option maxHeartbeats 1000000 in
theorem ref_fall (x g s : Int) (hx : Down x g) (hs : 0 ≤ s ∧ s ≤ 16) (w : World) :
    Calls Try.prog 53 #[.int .i64 x, .int .i64 g, .int .i64 s] w fun e w' => e = .returned (.int .i64 (fallI s x g)) ∧ Below w.heap.size w w' := by
  obtain ⟨x0, x1, x2⟩ := hx
  obtain ⟨p0, p1⟩ := two_pow_bd hs
  obtain ⟨q0, q1, q2, q3⟩ := part_bd p0 (show 0 ≤ x - g by omega)
  obtain ⟨r0, r1⟩ := ceil_part p0 (show 0 ≤ x - g by omega)
  have rr : 0 ≤ (x - g + 2 ^ s.toNat - 1) / 2 ^ s.toNat ∧ (x - g + 2 ^ s.toNat - 1) / 2 ^ s.toNat ≤ x - g + 1 := by
    by_cases h : (x - g) / 2 ^ s.toNat * 2 ^ s.toNat = x - g
    · rw [r0 h]; omega
    · rw [r1 h]; omega
  have W := Lib.hid (show wrap64 (2 ^ s.toNat) = 2 ^ s.toNat from wrap64_id (by constructor <;> omega))
  have hq : (x - g + 2 ^ s.toNat - 1).tdiv (2 ^ s.toNat) = (x - g + 2 ^ s.toNat - 1) / 2 ^ s.toNat := Int.tdiv_eq_ediv_of_nonneg (by omega)
  obtain ⟨s0, s1⟩ := hs
  have hne : (2 : Int) ^ s.toNat ≠ 0 := by omega
  clear q0 q1 q2 q3 r0 r1
  unfold fallI
  go_enter Try.func53, Try.ntmps53
  go_wp2
  go_ret
  exact ⟨by simp [W.out, hq], by go_grown⟩

set_option maxHeartbeats 1000000 in
theorem ref_Goal (c : Conf) (limit usage : Vec) (w : World) :
    Calls Try.prog 21 #[c.v, limit.v, usage.v] w fun e w' => e = .returned (.tuple #[(goalR c limit usage).1.v, .int .i64 (goalR c limit usage).2]) ∧ Below w.heap.size w w' := by
  have c1 := ref_May19 c
  have c2 := ref_May limit
  have c3 := ref_May usage
  have c4 : mayConf c = true → mayV limit = true → mayV usage = true → ∀ W, Calls Try.prog 56 #[c.v, .int .i64 limit.cpu, .int .i64 usage.cpu] W fun e w' => e = .returned (.int .i64 (goalV c limit usage).cpu) ∧ Below W.heap.size W w' := fun h1 h2 h3 W => ref_goal c limit.cpu usage.cpu (mayConf_spec h1).1 ⟨(mayV_spec h3).1, (mayV_spec h2).1⟩ W
  have c5 : mayConf c = true → mayV limit = true → mayV usage = true → ∀ W, Calls Try.prog 56 #[c.v, .int .i64 limit.mem, .int .i64 usage.mem] W fun e w' => e = .returned (.int .i64 (goalV c limit usage).mem) ∧ Below W.heap.size W w' := fun h1 h2 h3 W => ref_goal c limit.mem usage.mem (mayConf_spec h1).1 ⟨(mayV_spec h3).2.1, (mayV_spec h2).2.1⟩ W
  have c6 : mayConf c = true → mayV limit = true → mayV usage = true → ∀ W, Calls Try.prog 56 #[c.v, .int .i64 limit.disk, .int .i64 usage.disk] W fun e w' => e = .returned (.int .i64 (goalV c limit usage).disk) ∧ Below W.heap.size W w' := fun h1 h2 h3 W => ref_goal c limit.disk usage.disk (mayConf_spec h1).1 ⟨(mayV_spec h3).2.2, (mayV_spec h2).2.2⟩ W
  unfold goalR
  generalize mayConf c = b1 at *
  generalize mayV limit = b2 at *
  generalize mayV usage = b3 at *
  generalize goalV c limit usage = g at *
  obtain ⟨g0, g1, g2⟩ := g
  obtain ⟨m, h, s⟩ := c
  obtain ⟨l0, l1, l2⟩ := limit
  obtain ⟨u0, u1, u2⟩ := usage
  dsimp only at c4 c5 c6
  have C1 := Lib.hid c1
  have C2 := Lib.hid c2
  have C3 := Lib.hid c3
  have C4 := Lib.hid c4
  have C5 := Lib.hid c5
  have C6 := Lib.hid c6
  clear c1 c2 c3 c4 c5 c6
  go_enter Try.func21, Try.ntmps21
  go_wp2_with fail
  refine (C1.out _).mono ?_
  rintro e w1 ⟨rfl, hb1⟩; dsimp only
  obtain ⟨hc1, hf1, hce1, hfe1, hb1⟩ := after_call hb1
  cases b1
  · have hB : Below w.heap.size w w1 := below_to (by go_grown) hb1
    go_wp2_with fail
    refine bodyPost_ret (v := .tuple #[.agg #[.int .i64 0, .int .i64 0, .int .i64 0], .int .i64 2]) (by simp [results, Try.results21, go_sem, hc1]) rfl ?_
    exact ⟨rfl, by go_grown⟩
  · go_wp2_with fail
    refine (C2.out _).mono ?_
    rintro e w2 ⟨rfl, hb2⟩; dsimp only
    obtain ⟨hc2, hf2, hce2, hfe2, hb2⟩ := more_call hb1 hb2
    clear hc1 hf1 hce1 hfe1 hb1
    cases b2
    · have hB : Below w.heap.size w w2 := below_to (by go_grown) hb2
      go_wp2_with fail
      refine bodyPost_ret (v := .tuple #[.agg #[.int .i64 0, .int .i64 0, .int .i64 0], .int .i64 2]) (by simp [results, Try.results21, go_sem, hc2]) rfl ?_
      exact ⟨rfl, by go_grown⟩
    · go_wp2_with fail
      refine (C3.out _).mono ?_
      rintro e w3 ⟨rfl, hb3⟩; dsimp only
      obtain ⟨hc3, hf3, hce3, hfe3, hb3⟩ := more_call hb2 hb3
      clear hc2 hf2 hce2 hfe2 hb2
      have hB : Below w.heap.size w w3 := below_to (by go_grown) hb3
      cases b3
      · go_wp2_with fail
        refine bodyPost_ret (v := .tuple #[.agg #[.int .i64 0, .int .i64 0, .int .i64 0], .int .i64 2]) (by simp [results, Try.results21, go_sem, hc3]) rfl ?_
        exact ⟨rfl, by go_grown⟩
      · go_wp2_with fail
        have D4 := C4.out (by trivial) (by trivial) (by trivial)
        have D5 := C5.out (by trivial) (by trivial) (by trivial)
        have D6 := C6.out (by trivial) (by trivial) (by trivial)
        have E4 := Lib.hid D4
        have E5 := Lib.hid D5
        have E6 := Lib.hid D6
        clear D4 D5 D6
        refine wp_region_ext_tail 19 (by kernel_rfl) (by kernel_rfl) ?_
        simp only [List.take_succ_cons, List.take_zero, List.drop_succ_cons, List.drop_zero]
        repeat (go_big_quiet_step ((go_at_call 56; first | with_reducible exact ext_of (E4.out _) | with_reducible exact ext_of (E5.out _) | with_reducible exact ext_of (E6.out _))))
        refine wpQuiet_nil ?_
        intro w4 hx
        obtain ⟨hc4, hf4, hce4, hfe4, hb4⟩ := more_region hb3 hx
        obtain ⟨x, rfl⟩ := hx
        have hB2 := below_to hB (extn_below _ x)
        clear hc3 hf3 hce3 hfe3 hb3
        go_wp2_with fail
        refine bodyPost_ret (v := .tuple #[.agg #[.int .i64 g0, .int .i64 g1, .int .i64 g2], .int .i64 0]) (by simp [results, Try.results21, go_sem, hc4]) rfl ?_
        exact ⟨rfl, by go_grown⟩
end Go.Proofs.Ytbamgoocgmhohaa
