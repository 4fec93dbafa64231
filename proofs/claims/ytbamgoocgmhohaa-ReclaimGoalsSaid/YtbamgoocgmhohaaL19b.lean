/- The law ReclaimGoals of reevelaw19, walked. Conditions: the numbers are of their kinds. -/
import Derived.Test.YtbamgoocgmhohaaL19
namespace Go.Proofs.Ytbamgoocgmhohaa
open Go.RowKit

set_option maxRecDepth 100000 in
set_option maxHeartbeats 4000000 in
theorem ReclaimGoals_walk (c : Conf) (hc : c.ok) (limit : Vec) (hl : limit.ok) (usage : Vec) (hu : usage.ok) (w : World) :
    Calls Try.prog 5 #[c.v, limit.v, usage.v] w fun e w' => e = .returned (.bool true) ∧ Below w.heap.size w w' := by
  have c1 := rec_Goal c limit usage
  have c2 := ref_Goal c limit usage
  have c3 := rec_May c
  have c4 := ref_May19 c
  have c5 := rec_Steps c
  have c6 := ref_Steps c
  have c7 := rec_Begin limit
  have al := Lib.hid alive19
  generalize goalR c limit usage = g at *
  generalize mayConf c = b at *
  generalize stepsI c = z at *
  obtain ⟨⟨g0, g1, g2⟩, ge⟩ := g
  obtain ⟨mg, ho, sl⟩ := c
  obtain ⟨l0, l1, l2⟩ := limit
  obtain ⟨u0, u1, u2⟩ := usage
  have C1 := Lib.hid c1
  have C2 := Lib.hid c2
  have C3 := Lib.hid c3
  have C4 := Lib.hid c4
  have C5 := Lib.hid c5
  have C6 := Lib.hid c6
  have C7 := Lib.hid c7
  clear c1 c2 c3 c4 c5 c6 c7 hc hl hu
  have q1 := eql_vec
  have q2 := eql_est
  have q3 : ∀ a : Vec, eqV a a = true := fun a => decide_eq_true rfl
  have q4 := eqE_self
  go_enter Try.func5, Try.ntmps5
  go_wp2_with fail
  refine (C1.out _).mono ?_
  rintro r w1 ⟨rfl, hb⟩; dsimp only
  have B0 := (((Blk.new w 23 #[.int .i64 mg, .int .i64 ho, .int .i64 sl]).alloc _).alloc _).past hb
  have B1 := ((Blk.new1 w _ 25 #[.int .i64 l0, .int .i64 l1, .int .i64 l2]).alloc _).past hb
  have B2 := (Blk.new2 w _ _ 25 #[.int .i64 u0, .int .i64 u1, .int .i64 u2]).past hb
  have hB : Below w.heap.size w w1 := below_to (by go_grown) hb
  clear hb
  obtain ⟨B0c, B0f, B0l⟩ := B0.facts
  obtain ⟨B1c, B1f, B1l⟩ := B1.facts
  obtain ⟨B2c, B2f, B2l⟩ := B2.facts
  go_wp2_with fail
  refine (C2.out _).mono ?_
  rintro r w2 ⟨rfl, hb⟩; dsimp only
  clear B0c B0f B0l B1c B1f B1l B2c B2f B2l B2
  have G := (Blk.new w1 25 #[.int .i64 g0, .int .i64 g1, .int .i64 g2]).past hb
  replace B0 := (B0.alloc _).past hb
  replace B1 := (B1.alloc _).past hb
  replace hB := below_to (below_own hB _) hb
  clear hb
  obtain ⟨B0c, B0f, B0l⟩ := B0.facts
  obtain ⟨B1c, B1f, B1l⟩ := B1.facts
  obtain ⟨Gc, Gf, Gl⟩ := G.facts
  go_wp2_with fail
  refine wp_region_ext (by kernel_rfl) (by kernel_rfl) ?_
  repeat (go_big_quiet_step ((first | (go_at_call 22; with_reducible exact ext_of (C3.out _)) | (go_at_call 23; with_reducible exact ext_of (C4.out _)) | (go_at_call 24; with_reducible exact ext_of (C5.out _)) | (go_at_call 25; with_reducible exact ext_of (C6.out _)) | (go_at_call 17; with_reducible exact ext_of (C7.out _)) | (go_at_call 14; exact ext_of (al.out _)))))
  refine wpQuiet_nil ?_
  intro w9 hx
  obtain ⟨x, rfl⟩ := hx
  go_wp2_with fail
  go_ret
  exact ⟨by first | rfl | simp, below_to (below_own hB _) (extn_below _ x)⟩
end Go.Proofs.Ytbamgoocgmhohaa
