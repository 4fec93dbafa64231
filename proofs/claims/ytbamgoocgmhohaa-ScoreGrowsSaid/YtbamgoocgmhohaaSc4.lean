/- Scores: the known run, and small parts of the statements, walked. Conditions: none. -/
import Derived.Test.YtbamgoocgmhohaaSc3b
namespace Go.Proofs.Ytbamgoocgmhohaa
open Go.RowKit

set_option maxHeartbeats 400000 in
theorem may20 (x y z : Vec) (w : World) : Calls Try.prog 42 #[x.v, y.v, z.v] w fun e w' => e = .returned (.bool (mayS x y z)) ∧ Below w.heap.size w w' := by
  have c1 := fun w => ref_May x w
  have c2 := fun w => rs_MayUse y w
  have c3 := fun w => ref_May z w
  unfold mayS
  generalize mayV x = p at *
  generalize mayUseV y = q at *
  generalize mayV z = r at *
  obtain ⟨x0, x1, x2⟩ := x
  obtain ⟨y0, y1, y2⟩ := y
  obtain ⟨z0, z1, z2⟩ := z
  dsimp only [Vec.v] at c1 c2 c3
  have C1 := Lib.hid c1
  have C2 := Lib.hid c2
  have C3 := Lib.hid c3
  clear c1 c2 c3
  have E1 := ((Blk.new w 25 #[.int .i64 x0, .int .i64 x1, .int .i64 x2]).alloc (.cells #[.int .i64 y0, .int .i64 y1, .int .i64 y2] 25)).alloc (.cells #[.int .i64 z0, .int .i64 z1, .int .i64 z2] 25)
  have E2 := (Blk.new1 w (.cells #[.int .i64 x0, .int .i64 x1, .int .i64 x2] 25) 25 #[.int .i64 y0, .int .i64 y1, .int .i64 y2]).alloc (.cells #[.int .i64 z0, .int .i64 z1, .int .i64 z2] 25)
  have E3 := Blk.new ((w.alloc (.cells #[.int .i64 x0, .int .i64 x1, .int .i64 x2] 25)).alloc (.cells #[.int .i64 y0, .int .i64 y1, .int .i64 y2] 25)) 25 #[.int .i64 z0, .int .i64 z1, .int .i64 z2]
  simp only [World.size_alloc] at E3
  cases p
  · go_enter Try.func42, Try.ntmps42
    go_wp2_with fail
    refine (C1.out _).mono ?_
    rintro e w1 ⟨rfl, hb1⟩; dsimp only
    have hB : Below w.heap.size w w1 := below_to (by go_grown) hb1
    go_wp2_with fail
    go_ret
    exact ⟨rfl, hB⟩
  cases q
  · go_enter Try.func42, Try.ntmps42
    go_wp2_with fail
    refine (C1.out _).mono ?_
    rintro e w1 ⟨rfl, hb1⟩; dsimp only
    have hB : Below w.heap.size w w1 := below_to (by go_grown) hb1
    have G2 := E2.past hb1
    obtain ⟨g1, g2, -⟩ := G2.facts
    clear E1 E2 E3 hb1
    go_wp2_with fail
    refine (C2.out _).mono ?_
    rintro e w2 ⟨rfl, hb2⟩; dsimp only
    replace hB := below_to hB hb2
    go_wp2_with fail
    go_ret
    exact ⟨rfl, hB⟩
  · go_enter Try.func42, Try.ntmps42
    go_wp2_with fail
    refine (C1.out _).mono ?_
    rintro e w1 ⟨rfl, hb1⟩; dsimp only
    have hB : Below w.heap.size w w1 := below_to (by go_grown) hb1
    have G2 := E2.past hb1
    have G3 := E3.past hb1
    obtain ⟨g1, g2, -⟩ := G2.facts
    clear E1 E2 E3 hb1
    go_wp2_with fail
    refine (C2.out _).mono ?_
    rintro e w2 ⟨rfl, hb2⟩; dsimp only
    replace hB := below_to hB hb2
    replace G3 := G3.past hb2
    obtain ⟨h1, h2, -⟩ := G3.facts
    clear G2 g1 g2 hb2
    go_wp2_with fail
    refine (C3.out _).mono ?_
    rintro e w3 ⟨rfl, hb3⟩; dsimp only
    replace hB := below_to hB hb3
    go_wp2_with fail
    go_ret
    exact ⟨by simp, hB⟩
def turnedV (a : Vec) : Vec := ⟨a.disk, a.cpu, a.mem⟩
set_option maxHeartbeats 400000 in
theorem turned20 (x : Vec) (w : World) : Calls Try.prog 46 #[x.v] w fun e w' => e = .returned (turnedV x).v ∧ Below w.heap.size w w' := by
  obtain ⟨x0, x1, x2⟩ := x
  unfold turnedV
  go_enter Try.func46, Try.ntmps46
  go_wp2
  go_returns
  exact ⟨rfl, by go_grown⟩
set_option maxHeartbeats 1000000 in
theorem works20 (w : World) : Calls Try.prog 36 #[] w fun e w' => e = .returned (.bool true) ∧ Below w.heap.size w w' := by
  have c1 := Lib.hid (fun w => sc_Fill ⟨10, 10, 0⟩ ⟨5, 0, 0⟩ w)
  rw [show (mayV ⟨10, 10, 0⟩ && mayUseV ⟨5, 0, 0⟩) = true by decide, if_pos rfl, show fillN ⟨10, 10, 0⟩ ⟨5, 0, 0⟩ = 1500 by decide] at c1
  have c2 := Lib.hid (fun A B ca cb w ha hb => sc_Best A B 2 2 ca cb [⟨10, 10, 10⟩, ⟨10, 10, 10⟩] [⟨0, 0, 0⟩, ⟨5, 5, 5⟩] ⟨1, 1, 1⟩ rfl rfl (by decide) (by decide) (by intro x hx; simp at hx; rcases hx with rfl | rfl <;> decide) (by intro x hx; simp at hx; rcases hx with rfl | rfl <;> decide) (by decide) w ha hb)
  rw [show bestR [⟨10, 10, 10⟩, ⟨10, 10, 10⟩] [⟨0, 0, 0⟩, ⟨5, 5, 5⟩] ⟨1, 1, 1⟩ = .tuple #[.int .i64 1, .bool true, .int .i64 0] by
    unfold bestR
    rw [if_pos (by decide), show bestV [⟨10, 10, 10⟩, ⟨10, 10, 10⟩] [⟨0, 0, 0⟩, ⟨5, 5, 5⟩] ⟨1, 1, 1⟩ = (1800, 1) by decide]
    rfl] at c2
  have c3 := Lib.hid (fun w => sc_Score ⟨10, 10, 10⟩ ⟨5, 5, 5⟩ ⟨1, 1, 1⟩ (by decide) (by decide) (by decide) w)
  rw [show mayS ⟨10, 10, 10⟩ ⟨5, 5, 5⟩ ⟨1, 1, 1⟩ = true by decide, if_pos rfl, show scoreN ⟨10, 10, 10⟩ ⟨5, 5, 5⟩ ⟨1, 1, 1⟩ = 1800 by decide, show standsV ⟨10, 10, 10⟩ ⟨5, 5, 5⟩ ⟨1, 1, 1⟩ = true by decide] at c3
  go_enter Try.func36, Try.ntmps36
  go_wp2_with fail
  refine (c1.out _).mono ?_
  rintro e w1 ⟨rfl, hb1⟩; dsimp only
  have hB : Below w.heap.size w w1 := below_to (by go_grown) hb1
  have E2 := Blk.new ((w.alloc (.cells #[.int .i64 10, .int .i64 10, .int .i64 10] 25)).alloc (.cells #[.int .i64 5, .int .i64 5, .int .i64 5] 25)) 25 #[.int .i64 1, .int .i64 1, .int .i64 1]
  simp only [World.size_alloc] at E2
  have D0 := (((Blk.new w 25 #[.int .i64 10, .int .i64 10, .int .i64 10]).alloc (.cells #[.int .i64 5, .int .i64 5, .int .i64 5] 25)).alloc (.cells #[.int .i64 1, .int .i64 1, .int .i64 1] 25)).past hb1
  have D1 := ((Blk.new1 w (.cells #[.int .i64 10, .int .i64 10, .int .i64 10] 25) 25 #[.int .i64 5, .int .i64 5, .int .i64 5]).alloc (.cells #[.int .i64 1, .int .i64 1, .int .i64 1] 25)).past hb1
  have D2 := E2.past hb1
  clear E2 hb1 c1
  obtain ⟨q0, q0', q0''⟩ := D0.facts
  obtain ⟨q1, q1', q1''⟩ := D1.facts
  obtain ⟨q2, q2', q2''⟩ := D2.facts
  go_wp2_with fail
  refine (c2.out _ _ _ _ _ ?_ ?_).mono ?_
  · intro _
    refine ⟨_, _, rfl, by first | (simp; done) | (simp; omega), ?_⟩
    intro i hi
    simp only [List.length_cons, List.length_nil] at hi
    match i, hi with
    | 0, _ => exact ⟨by simp [go_sem], by simp [go_sem], by simp [go_sem]⟩
    | 1, _ => exact ⟨by simp [go_sem], by simp [go_sem], by simp [go_sem]⟩
  · intro _
    refine ⟨_, _, rfl, by first | (simp; done) | (simp; omega), ?_⟩
    intro i hi
    simp only [List.length_cons, List.length_nil] at hi
    match i, hi with
    | 0, _ => exact ⟨by simp [go_sem], by simp [go_sem], by simp [go_sem]⟩
    | 1, _ => exact ⟨by simp [go_sem], by simp [go_sem], by simp [go_sem]⟩
  rintro e w2 ⟨rfl, hb2⟩; dsimp only
  replace hB := below_to (below_own (below_own hB _) _) hb2
  replace D0 := ((D0.alloc _).alloc _).past hb2
  replace D1 := ((D1.alloc _).alloc _).past hb2
  replace D2 := ((D2.alloc _).alloc _).past hb2
  clear q0 q0' q0'' q1 q1' q1'' q2 q2' q2'' hb2 c2
  obtain ⟨q0, q0', q0''⟩ := D0.facts
  obtain ⟨q1, q1', q1''⟩ := D1.facts
  obtain ⟨q2, q2', q2''⟩ := D2.facts
  go_wp2_with fail
  refine (c3.out _).mono ?_
  rintro e w3 ⟨rfl, hb3⟩; dsimp only
  replace hB := below_to hB hb3
  clear q0 q0' q0'' q1 q1' q1'' q2 q2' q2'' c3 D0 D1 D2 hb3
  go_wp2_with fail
  go_ret
  exact ⟨rfl, hB⟩
end Go.Proofs.Ytbamgoocgmhohaa
