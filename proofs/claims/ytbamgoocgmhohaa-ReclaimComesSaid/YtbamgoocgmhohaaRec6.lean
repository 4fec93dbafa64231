/- The contract of reeveref19.Step. Conditions: the numbers are of their kinds. -/
import Derived.Test.YtbamgoocgmhohaaRec5
import Derived.Test.YtbamgoocgmhohaaEqE
namespace Go.Proofs.Ytbamgoocgmhohaa
open Go.RowKit

set_option maxRecDepth 100000 in
set_option maxHeartbeats 20000000 in
theorem ref_Step (c : Conf) (limit : Vec) (e : Est) (usage : Vec) (hh : I64 c.hold) (hk : I64 e.calm) (w : World) :
    Calls Try.prog 16 #[c.v, limit.v, e.v, usage.v] w fun r w' => r = .returned (.tuple #[(stepR c limit e usage).1.v, .int .i64 (stepR c limit e usage).2]) ∧ Below w.heap.size w w' := by
  have c1 := ref_Goal c limit usage
  have c2 := ref_Fits zeroV e.value
  have c3 := ref_Fits e.value limit
  have c4 := ref_Max e.value (goalR c limit usage).1
  have dd : (goalR c limit usage).2 = 0 → fitsV zeroV e.value = true → fitsV e.value limit = true → (0 ≤ c.slow ∧ c.slow ≤ 16) ∧ Down (maxV e.value (goalR c limit usage).1).cpu (goalR c limit usage).1.cpu ∧ Down (maxV e.value (goalR c limit usage).1).mem (goalR c limit usage).1.mem ∧ Down (maxV e.value (goalR c limit usage).1).disk (goalR c limit usage).1.disk := fun h f1 f2 => by
    rcases goalR_cases c limit usage with ⟨h1, h2, h3, h4⟩ | h4
    · rw [h4]; obtain ⟨_, _, d1, d2, d3⟩ := step_downs h1 h2 h3 f1 f2; exact ⟨(mayConf_spec h1).2.2, d1, d2, d3⟩
    · rw [h4] at h; cases h
  have c5 : (goalR c limit usage).2 = 0 → fitsV zeroV e.value = true → fitsV e.value limit = true → ∀ W, Calls Try.prog 53 #[.int .i64 (maxV e.value (goalR c limit usage).1).cpu, .int .i64 (goalR c limit usage).1.cpu, .int .i64 c.slow] W fun r w' => r = .returned (.int .i64 (pickV (fallI c.slow) (maxV e.value (goalR c limit usage).1) (goalR c limit usage).1).cpu) ∧ Below W.heap.size W w' := fun h f1 f2 W => ref_fall _ _ _ (dd h f1 f2).2.1 (dd h f1 f2).1 W
  have c6 : (goalR c limit usage).2 = 0 → fitsV zeroV e.value = true → fitsV e.value limit = true → ∀ W, Calls Try.prog 53 #[.int .i64 (maxV e.value (goalR c limit usage).1).mem, .int .i64 (goalR c limit usage).1.mem, .int .i64 c.slow] W fun r w' => r = .returned (.int .i64 (pickV (fallI c.slow) (maxV e.value (goalR c limit usage).1) (goalR c limit usage).1).mem) ∧ Below W.heap.size W w' := fun h f1 f2 W => ref_fall _ _ _ (dd h f1 f2).2.2.1 (dd h f1 f2).1 W
  have c7 : (goalR c limit usage).2 = 0 → fitsV zeroV e.value = true → fitsV e.value limit = true → ∀ W, Calls Try.prog 53 #[.int .i64 (maxV e.value (goalR c limit usage).1).disk, .int .i64 (goalR c limit usage).1.disk, .int .i64 c.slow] W fun r w' => r = .returned (.int .i64 (pickV (fallI c.slow) (maxV e.value (goalR c limit usage).1) (goalR c limit usage).1).disk) ∧ Below W.heap.size W w' := fun h f1 f2 W => ref_fall _ _ _ (dd h f1 f2).2.2.2 (dd h f1 f2).1 W
  clear dd
  unfold stepR
  generalize goalR c limit usage = g at *
  generalize fitsV zeroV e.value = f1 at *
  generalize fitsV e.value limit = f2 at *
  generalize pickV (fallI c.slow) (maxV e.value g.1) g.1 = d at *
  generalize maxV e.value g.1 = m at *
  obtain ⟨⟨g0, g1, g2⟩, ge⟩ := g
  obtain ⟨m0, m1, m2⟩ := m
  obtain ⟨d0, d1, d2⟩ := d
  obtain ⟨mg, ho, sl⟩ := c
  obtain ⟨l0, l1, l2⟩ := limit
  obtain ⟨⟨e0, e1, e2⟩, k⟩ := e
  obtain ⟨u0, u1, u2⟩ := usage
  obtain ⟨hh0, hh1⟩ := hh
  obtain ⟨hk0, hk1⟩ := hk
  dsimp only at c5 c6 c7
  have C1 := Lib.hid c1
  have C2 := Lib.hid c2
  have C3 := Lib.hid c3
  have C4 := Lib.hid c4
  have C5 := Lib.hid c5
  have C6 := Lib.hid c6
  have C7 := Lib.hid c7
  clear c1 c2 c3 c4 c5 c6 c7
  go_enter Try.func16, Try.ntmps16
  go_wp2_with fail
  refine (C1.out _).mono ?_
  rintro r w1 ⟨rfl, hb⟩; dsimp only
  have B0 := (((((Blk.new w 23 #[.int .i64 mg, .int .i64 ho, .int .i64 sl]).alloc _).alloc _).alloc _).alloc _).past hb
  have B1 := ((((Blk.new1 w _ 25 #[.int .i64 l0, .int .i64 l1, .int .i64 l2]).alloc _).alloc _).alloc _).past hb
  have B2 := (((Blk.new2 w _ _ 27 #[.int .i64 e0, .int .i64 e1, .int .i64 e2, .int .i64 k]).alloc _).alloc _).past hb
  have B4 := (Blk.new4 w _ _ _ _ 27 #[.int .i64 0, .int .i64 0, .int .i64 0, .int .i64 0]).past hb
  have hB : Below w.heap.size w w1 := below_to (by go_grown) hb
  clear hb
  obtain ⟨B0c, B0f, B0l⟩ := B0.facts
  obtain ⟨B1c, B1f, B1l⟩ := B1.facts
  obtain ⟨B2c, B2f, B2l⟩ := B2.facts
  obtain ⟨B4c, B4f, B4l⟩ := B4.facts
  by_cases hge : ge = 0
  · subst hge
    go_wp2_with fail
    refine (C2.out _).mono ?_
    rintro r w2 ⟨rfl, hb⟩; dsimp only
    clear B0c B0f B0l B1c B1f B1l B2c B2f B2l B4c B4f B4l
    replace B0 := (B0.alloc _).past hb
    replace B1 := (B1.alloc _).past hb
    replace B2 := (B2.alloc _).past hb
    replace B4 := (B4.alloc _).past hb
    have G := (Blk.new w1 25 #[.int .i64 g0, .int .i64 g1, .int .i64 g2]).past hb
    replace hB := below_to (below_own hB _) hb
    clear hb
    obtain ⟨B0c, B0f, B0l⟩ := B0.facts
    obtain ⟨B1c, B1f, B1l⟩ := B1.facts
    obtain ⟨B2c, B2f, B2l⟩ := B2.facts
    obtain ⟨B4c, B4f, B4l⟩ := B4.facts
    obtain ⟨Gc, Gf, Gl⟩ := G.facts
    cases f1
    · go_wp2_with fail
      refine bodyPost_ret (v := .tuple #[.agg #[.int .i64 0, .int .i64 0, .int .i64 0, .int .i64 0], .int .i64 2]) (by simp [results, Try.results16, go_sem, B4c, B4l]) rfl ?_
      exact ⟨by rw [stepW, if_neg (by simp)]; rfl, by go_grown⟩
    · go_wp2_with fail
      refine (C3.out _).mono ?_
      rintro r w3 ⟨rfl, hb⟩; dsimp only
      clear B0c B0f B0l B1c B1f B1l B2c B2f B2l B4c B4f B4l Gc Gf Gl
      replace B0 := B0.past hb
      replace B2 := B2.past hb
      replace B4 := B4.past hb
      replace G := G.past hb
      replace hB := below_to hB hb
      clear hb B1
      obtain ⟨B0c, B0f, B0l⟩ := B0.facts
      obtain ⟨B2c, B2f, B2l⟩ := B2.facts
      obtain ⟨B4c, B4f, B4l⟩ := B4.facts
      obtain ⟨Gc, Gf, Gl⟩ := G.facts
      cases f2
      · go_wp2_with fail
        refine bodyPost_ret (v := .tuple #[.agg #[.int .i64 0, .int .i64 0, .int .i64 0, .int .i64 0], .int .i64 2]) (by simp [results, Try.results16, go_sem, B4c, B4l]) rfl ?_
        exact ⟨by rw [stepW, if_neg (by simp)]; rfl, by go_grown⟩
      · by_cases hk2 : 0 ≤ k
        · by_cases hk3 : k ≤ 1024
          · go_wp2_with fail
            refine (C4.out _).mono ?_
            rintro r w4 ⟨rfl, hb⟩; dsimp only
            clear B0c B0f B0l B2c B2f B2l B4c B4f B4l Gc Gf Gl
            replace B0 := B0.past hb
            replace B2 := B2.past hb
            replace B4 := B4.past hb
            replace G := G.past hb
            replace hB := below_to hB hb
            clear hb C1 C2 C3 C4
            have N5 : w.heap.size ≤ w.heap.size + 1 + 1 + 1 + 1 := by omega
            generalize w.heap.size + 1 + 1 + 1 + 1 = b4 at *
            generalize w.heap.size + 1 + 1 = b2 at *
            generalize w1.heap.size = bg at *
            obtain ⟨B0c, B0f, B0l⟩ := B0.facts
            obtain ⟨B2c, B2f, B2l⟩ := B2.facts
            obtain ⟨B4c, B4f, B4l⟩ := B4.facts
            obtain ⟨Gc, Gf, Gl⟩ := G.facts
            have q1 := eql_vec
            have q2 := neq_vec
            cases hq : eqV ⟨m0, m1, m2⟩ ⟨g0, g1, g2⟩
            · have P1 := Lib.hid (eqV_false hq)
              have kq : ∀ ats ty, Builtin.min_ ats ty #[.int .i64 (k + 1), .int .i64 1024] = pure (.int .i64 (min (k + 1) 1024)) := fun ats ty => by rw [kmin_two, kmin2]; rfl
              have q0 : 1 ≤ min (k + 1) 1024 := by omega
              have q3 : min (k + 1) 1024 ≤ 1024 := by omega
              have kp : ∃ q, min (k + 1) 1024 = q := ⟨_, rfl⟩
              obtain ⟨q, hqe⟩ := kp
              rw [hqe] at q0 q3
              simp only [hqe] at kq
              cases hr : eqV ⟨m0, m1, m2⟩ ⟨e0, e1, e2⟩
              · have P3 := Lib.hid (show (if (⟨m0, m1, m2⟩ : Vec) = ⟨e0, e1, e2⟩ then min (k + 1) 1024 else 1) = 1 from if_neg (eqV_false hr))
                clear hqe
                by_cases ho1 : ho < 1
                · go_wp2_with fail
                  have D5 := C5.out (by trivial) (by trivial) (by trivial)
                  have D6 := C6.out (by trivial) (by trivial) (by trivial)
                  have D7 := C7.out (by trivial) (by trivial) (by trivial)
                  have E5 := Lib.hid D5
                  have E6 := Lib.hid D6
                  have E7 := Lib.hid D7
                  clear D5 D6 D7
                  refine wp_region_ext_tail 22 (by kernel_rfl) (by kernel_rfl) ?_
                  simp only [List.take_succ_cons, List.take_zero, List.drop_succ_cons, List.drop_zero]
                  repeat (go_big_quiet_step ((go_at_call 53; first | with_reducible exact ext_of (E5.out _) | with_reducible exact ext_of (E6.out _) | with_reducible exact ext_of (E7.out _))))
                  refine wpQuiet_nil ?_
                  intro w5 hx
                  obtain ⟨x, rfl⟩ := hx
                  have N6 : w.heap.size ≤ w4.heap.size := hB.size
                  have N7 := Nat.ne_of_lt B4l
                  clear B0c B0f B0l B2c B2f B2l B4c B4f B4l Gc Gf Gl E5 E6 E7 q1 q2
                  refine ops_world (fun W => Blk W b4 27 #[.int .i64 0, .int .i64 0, .int .i64 0, .int .i64 0] ∧ Blk W w4.heap.size 25 #[.int .i64 m0, .int .i64 m1, .int .i64 m2] ∧ Below w.heap.size w W) ⟨(B4.alloc _).past (extn_below _ x), (Blk.new w4 _ _).past (extn_below _ x), below_to (below_own hB _) (extn_below _ x)⟩ ?_
                  clear B0 B2 B4 G hB x
                  generalize w4.heap.size = bm at *
                  rintro w5 ⟨B4, M, hB⟩
                  obtain ⟨B4c, B4f, B4l⟩ := B4.facts
                  obtain ⟨Mc, Mf, Ml⟩ := M.facts
                  go_wp2_with fail
                  refine bodyPost_ret (v := .tuple #[.agg #[.int .i64 d0, .int .i64 d1, .int .i64 d2, .int .i64 (1)], .int .i64 0]) (by simp [results, Try.results16, go_sem, B4c, Mc]) rfl ?_
                  exact ⟨by rw [stepW_fall _ hk2 hk3 P1.out P3.out (.inl ho1)], by go_grown⟩
                · go_wp2_with fail
                  refine bodyPost_ret (v := .tuple #[.agg #[.int .i64 m0, .int .i64 m1, .int .i64 m2, .int .i64 (1)], .int .i64 0]) (by simp [results, Try.results16, go_sem, B4c, B4l]) rfl ?_
                  exact ⟨by rw [stepW_stay _ hk2 hk3 P1.out P3.out (by omega)], by go_grown⟩
              · have P3 := Lib.hid (show (if (⟨m0, m1, m2⟩ : Vec) = ⟨e0, e1, e2⟩ then min (k + 1) 1024 else 1) = q by rw [← hqe]; exact if_pos (eqV_true hr))
                clear hqe
                by_cases ho1 : ho < q
                · go_wp2_with fail
                  have D5 := C5.out (by trivial) (by trivial) (by trivial)
                  have D6 := C6.out (by trivial) (by trivial) (by trivial)
                  have D7 := C7.out (by trivial) (by trivial) (by trivial)
                  have E5 := Lib.hid D5
                  have E6 := Lib.hid D6
                  have E7 := Lib.hid D7
                  clear D5 D6 D7
                  refine wp_region_ext_tail 22 (by kernel_rfl) (by kernel_rfl) ?_
                  simp only [List.take_succ_cons, List.take_zero, List.drop_succ_cons, List.drop_zero]
                  repeat (go_big_quiet_step ((go_at_call 53; first | with_reducible exact ext_of (E5.out _) | with_reducible exact ext_of (E6.out _) | with_reducible exact ext_of (E7.out _))))
                  refine wpQuiet_nil ?_
                  intro w5 hx
                  obtain ⟨x, rfl⟩ := hx
                  have N6 : w.heap.size ≤ w4.heap.size := hB.size
                  have N7 := Nat.ne_of_lt B4l
                  clear B0c B0f B0l B2c B2f B2l B4c B4f B4l Gc Gf Gl E5 E6 E7 q1 q2
                  refine ops_world (fun W => Blk W b4 27 #[.int .i64 0, .int .i64 0, .int .i64 0, .int .i64 0] ∧ Blk W w4.heap.size 25 #[.int .i64 m0, .int .i64 m1, .int .i64 m2] ∧ Below w.heap.size w W) ⟨(B4.alloc _).past (extn_below _ x), (Blk.new w4 _ _).past (extn_below _ x), below_to (below_own hB _) (extn_below _ x)⟩ ?_
                  clear B0 B2 B4 G hB x
                  generalize w4.heap.size = bm at *
                  rintro w5 ⟨B4, M, hB⟩
                  obtain ⟨B4c, B4f, B4l⟩ := B4.facts
                  obtain ⟨Mc, Mf, Ml⟩ := M.facts
                  go_wp2_with fail
                  refine bodyPost_ret (v := .tuple #[.agg #[.int .i64 d0, .int .i64 d1, .int .i64 d2, .int .i64 (q)], .int .i64 0]) (by simp [results, Try.results16, go_sem, B4c, Mc]) rfl ?_
                  exact ⟨by rw [stepW_fall _ hk2 hk3 P1.out P3.out (.inl ho1)], by go_grown⟩
                · by_cases ho2 : q = 1024
                  · subst ho2
                    by_cases ho4 : ho = 1024
                    · subst ho4
                      go_wp2_with fail
                      have D5 := C5.out (by trivial) (by trivial) (by trivial)
                      have D6 := C6.out (by trivial) (by trivial) (by trivial)
                      have D7 := C7.out (by trivial) (by trivial) (by trivial)
                      have E5 := Lib.hid D5
                      have E6 := Lib.hid D6
                      have E7 := Lib.hid D7
                      clear D5 D6 D7
                      refine wp_region_ext_tail 22 (by kernel_rfl) (by kernel_rfl) ?_
                      simp only [List.take_succ_cons, List.take_zero, List.drop_succ_cons, List.drop_zero]
                      repeat (go_big_quiet_step ((go_at_call 53; first | with_reducible exact ext_of (E5.out _) | with_reducible exact ext_of (E6.out _) | with_reducible exact ext_of (E7.out _))))
                      refine wpQuiet_nil ?_
                      intro w5 hx
                      obtain ⟨x, rfl⟩ := hx
                      have N6 : w.heap.size ≤ w4.heap.size := hB.size
                      have N7 := Nat.ne_of_lt B4l
                      clear B0c B0f B0l B2c B2f B2l B4c B4f B4l Gc Gf Gl E5 E6 E7 q1 q2
                      refine ops_world (fun W => Blk W b4 27 #[.int .i64 0, .int .i64 0, .int .i64 0, .int .i64 0] ∧ Blk W w4.heap.size 25 #[.int .i64 m0, .int .i64 m1, .int .i64 m2] ∧ Below w.heap.size w W) ⟨(B4.alloc _).past (extn_below _ x), (Blk.new w4 _ _).past (extn_below _ x), below_to (below_own hB _) (extn_below _ x)⟩ ?_
                      clear B0 B2 B4 G hB x
                      generalize w4.heap.size = bm at *
                      rintro w5 ⟨B4, M, hB⟩
                      obtain ⟨B4c, B4f, B4l⟩ := B4.facts
                      obtain ⟨Mc, Mf, Ml⟩ := M.facts
                      go_wp2_with fail
                      refine bodyPost_ret (v := .tuple #[.agg #[.int .i64 d0, .int .i64 d1, .int .i64 d2, .int .i64 (1024)], .int .i64 0]) (by simp [results, Try.results16, go_sem, B4c, Mc]) rfl ?_
                      exact ⟨by rw [stepW_fall _ hk2 hk3 P1.out P3.out (.inr ⟨rfl, rfl⟩)], by go_grown⟩
                    · have ho5 : (ho == 1024) = false := by simpa using ho4
                      go_wp2_with fail
                      refine bodyPost_ret (v := .tuple #[.agg #[.int .i64 m0, .int .i64 m1, .int .i64 m2, .int .i64 (1024)], .int .i64 0]) (by simp [results, Try.results16, go_sem, B4c, B4l]) rfl ?_
                      exact ⟨by rw [stepW_stay _ hk2 hk3 P1.out P3.out (by omega)], by go_grown⟩
                  · have ho3 : (q == 1024) = false := by simpa using ho2
                    go_wp2_with fail
                    refine bodyPost_ret (v := .tuple #[.agg #[.int .i64 m0, .int .i64 m1, .int .i64 m2, .int .i64 (q)], .int .i64 0]) (by simp [results, Try.results16, go_sem, B4c, B4l]) rfl ?_
                    exact ⟨by rw [stepW_stay _ hk2 hk3 P1.out P3.out (by omega)], by go_grown⟩
            · have P1 := Lib.hid (eqV_true hq)
              go_wp2_with fail
              refine bodyPost_ret (v := .tuple #[.agg #[.int .i64 m0, .int .i64 m1, .int .i64 m2, .int .i64 0], .int .i64 0]) (by simp [results, Try.results16, go_sem, B4c, B4l]) rfl ?_
              exact ⟨by rw [stepW_same hk2 hk3 P1.out], by go_grown⟩
          · go_wp2_with fail
            refine bodyPost_ret (v := .tuple #[.agg #[.int .i64 0, .int .i64 0, .int .i64 0, .int .i64 0], .int .i64 2]) (by simp [results, Try.results16, go_sem, B4c, B4l]) rfl ?_
            exact ⟨by rw [stepW, if_neg (by omega)]; rfl, by go_grown⟩
        · go_wp2_with fail
          refine bodyPost_ret (v := .tuple #[.agg #[.int .i64 0, .int .i64 0, .int .i64 0, .int .i64 0], .int .i64 2]) (by simp [results, Try.results16, go_sem, B4c, B4l]) rfl ?_
          exact ⟨by rw [stepW, if_neg (by omega)]; rfl, by go_grown⟩
  · have hge' : (ge == 0) = false := by simpa using hge
    go_wp2_with fail
    refine bodyPost_ret (v := .tuple #[.agg #[.int .i64 0, .int .i64 0, .int .i64 0, .int .i64 0], .int .i64 2]) (by simp [results, Try.results16, go_sem, B4c, B4l]) rfl ?_
    exact ⟨by rw [stepW, if_neg (by omega)]; rfl, by go_grown⟩
end Go.Proofs.Ytbamgoocgmhohaa
