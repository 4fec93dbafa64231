/- The contracts of package reclaim, its second half: goals and steps; and the document's answer for them (reeveref19). Conditions: the numbers are of their kinds. -/
import Derived.Test.YtbamgoocgmhohaaRec
namespace Go.Proofs.Ytbamgoocgmhohaa
open Go.RowKit

theorem enters_May1 (args : Array Value) (w : World) : (callFunc 57 args).run Try.prog w = .ok (.enter 57 args) w := enters_of Try.func57 (by kernel_rfl) rfl args w
theorem enters_Goal1 (args : Array Value) (w : World) : (callFunc 55 args).run Try.prog w = .ok (.enter 55 args) w := enters_of Try.func55 (by kernel_rfl) rfl args w
theorem enters_Step1 (args : Array Value) (w : World) : (callFunc 51 args).run Try.prog w = .ok (.enter 51 args) w := enters_of Try.func51 (by kernel_rfl) rfl args w

set_option maxHeartbeats 1000000 in
theorem rec_May (c : Conf) (w : World) :
    Calls Try.prog 22 #[c.v] w fun e w' => e = .returned (.bool (mayConf c)) ∧ Below w.heap.size w w' := by
  obtain ⟨m, h, s⟩ := c
  have c1 := rec_May1 m 400
  have c2 := rec_May1 h 1024
  have c3 := rec_May1 s 16
  unfold mayConf
  dsimp only
  generalize inB m 400 = b1 at *
  generalize inB h 1024 = b2 at *
  generalize inB s 16 = b3 at *
  have C1 := Lib.hid c1
  have C2 := Lib.hid c2
  have C3 := Lib.hid c3
  clear c1 c2 c3
  have en := enters_May1
  cases b1
  · go_enter Try.func22, Try.ntmps22
    go_wp2_with fail
    refine (C1.out _).mono ?_
    rintro e w1 ⟨rfl, hb1⟩
    have hB : Below w.heap.size w w1 := below_to (by go_grown) hb1
    obtain ⟨hc1, hf1, -, -, hb1⟩ := after_call hb1
    go_wp2_with fail
    go_ret
    exact ⟨rfl, hB⟩
  · cases b2
    · go_enter Try.func22, Try.ntmps22
      go_wp2_with fail
      refine (C1.out _).mono ?_
      rintro e w1 ⟨rfl, hb1⟩
      obtain ⟨hc1, hf1, -, -, hb1⟩ := after_call hb1
      go_wp2_with fail
      refine (C2.out _).mono ?_
      rintro e w2 ⟨rfl, hb2⟩
      obtain ⟨hc2, hf2, -, -, hb2⟩ := more_call hb1 hb2
      have hB : Below w.heap.size w w2 := below_to (by go_grown) hb2
      go_wp2_with fail
      go_ret
      exact ⟨rfl, hB⟩
    · go_enter Try.func22, Try.ntmps22
      go_wp2_with fail
      refine (C1.out _).mono ?_
      rintro e w1 ⟨rfl, hb1⟩
      obtain ⟨hc1, hf1, -, -, hb1⟩ := after_call hb1
      go_wp2_with fail
      refine (C2.out _).mono ?_
      rintro e w2 ⟨rfl, hb2⟩
      obtain ⟨hc2, hf2, -, -, hb2⟩ := more_call hb1 hb2
      go_wp2_with fail
      refine (C3.out _).mono ?_
      rintro e w3 ⟨rfl, hb3⟩
      obtain ⟨hc3, hf3, -, -, hb3⟩ := more_call hb2 hb3
      have hB : Below w.heap.size w w3 := below_to (by go_grown) hb3
      go_wp2_with fail
      go_ret
      exact ⟨by simp, hB⟩

attribute [local go_sem] kmax2 kmin2 kmax_two kmin_two
theorem goal_bd {m u : Int} (hm : 0 ≤ m ∧ m ≤ 400) (hu : 0 ≤ u ∧ u ≤ 1099511627776) : 0 ≤ u * (100 + m) ∧ u * (100 + m) ≤ 549755813888000 := by
  refine ⟨Int.mul_nonneg (by omega) (by omega), ?_⟩
  have := Int.mul_le_mul (a := u) (b := 100 + m) (c := 1099511627776) (d := 500) (by omega) (by omega) (by omega) (by omega)
  omega
theorem quo100 {p : Int} (h : 0 ≤ p) : (p + 99).tdiv 100 = (p + 99) / 100 := Int.tdiv_eq_ediv_of_nonneg (by omega)
set_option maxHeartbeats 400000 in
theorem rec_Goal1 (cb : Nat) (m h s : Int) (hm : 0 ≤ m ∧ m ≤ 400) (x y : Int) (hx : Goes x y) (W : World) (hb : Blk W cb 23 #[.int .i64 m, .int .i64 h, .int .i64 s]) :
    Calls Try.prog 55 #[.int .i64 x, .int .i64 y, .pointer (some ⟨cb, 0, none⟩)] W fun e w' => e = .returned (.int .i64 (goalI m x y)) ∧ Below W.heap.size W w' := by
  obtain ⟨⟨x0, x1⟩, y0, y1⟩ := hx
  obtain ⟨p0, p1⟩ := goal_bd hm ⟨x0, x1⟩
  have q := quo100 p0
  obtain ⟨m0, m1⟩ := hm
  obtain ⟨bc, bf, bl⟩ := hb.facts
  clear hb
  unfold goalI
  go_enter Try.func55, Try.ntmps55
  go_wp2
  go_ret
  exact ⟨by first | rfl | (rw [q]), below_self W⟩
set_option maxHeartbeats 400000 in
theorem ref_goal (c : Conf) (l u : Int) (hm : 0 ≤ c.margin ∧ c.margin ≤ 400) (hx : Goes u l) (w : World) :
    Calls Try.prog 56 #[c.v, .int .i64 l, .int .i64 u] w fun e w' => e = .returned (.int .i64 (goalI c.margin u l)) ∧ Below w.heap.size w w' := by
  obtain ⟨m, h, s⟩ := c
  obtain ⟨⟨x0, x1⟩, y0, y1⟩ := hx
  obtain ⟨p0, p1⟩ := goal_bd hm ⟨x0, x1⟩
  dsimp only at hm p0 p1
  have q := quo100 p0
  obtain ⟨m0, m1⟩ := hm
  unfold goalI
  go_enter Try.func56, Try.ntmps56
  go_wp2
  go_ret
  exact ⟨by first | rfl | (rw [q]), by go_grown⟩
end Go.Proofs.Ytbamgoocgmhohaa
