/- The contracts of package reclaim, its fourth part: steps. Conditions: the numbers are of their kinds. -/
import Derived.Test.YtbamgoocgmhohaaRec3
import Derived.Test.YtbamgoocgmhohaaEqE
import Derived.Test.YtbamgoocgmhohaaK6
namespace Go.Proofs.Ytbamgoocgmhohaa
open Go.RowKit

set_option maxRecDepth 100000 in
set_option maxHeartbeats 20000000 in
theorem rec_Step (c : Conf) (limit : Vec) (e : Est) (usage : Vec) (hh : I64 c.hold) (hk : I64 e.calm) (w : World) :
    Calls Try.prog 15 #[c.v, limit.v, e.v, usage.v] w fun r w' => r = .returned (.tuple #[(stepR c limit e usage).1.v, .int .i64 (stepR c limit e usage).2]) ∧ Below w.heap.size w w' := by
  have c1 := rec_Goal c limit usage
  have c2 := vec_Fits zeroV e.value
  have c3 := vec_Fits e.value limit
  have c4 : (goalR c limit usage).2 = 0 → fitsV zeroV e.value = true → fitsV e.value limit = true → ∀ W, Calls Try.prog 49 #[e.value.v, (goalR c limit usage).1.v] W fun r w' => r = .returned (maxV e.value (goalR c limit usage).1).v ∧ Below W.heap.size W w' := fun h f1 f2 W => by
    rcases goalR_cases c limit usage with ⟨h1, h2, h3, h4⟩ | h4
    · rw [h4]; obtain ⟨o1, o2, _⟩ := step_downs h1 h2 h3 f1 f2; exact vec_Max _ _ o1 o2 W
    · rw [h4] at h; cases h
  have c5 : (goalR c limit usage).2 = 0 → fitsV zeroV e.value = true → fitsV e.value limit = true → ∀ cb W, Blk W cb 23 c.cs → Calls Try.prog 50 #[(maxV e.value (goalR c limit usage).1).v, (goalR c limit usage).1.v, .func (.func 51) #[] #[.pointer (some ⟨cb, 0, none⟩)]] W fun r w' => r = .returned (pickV (fallI c.slow) (maxV e.value (goalR c limit usage).1) (goalR c limit usage).1).v ∧ Below W.heap.size W w' := fun h f1 f2 cb W hW => by
    rcases goalR_cases c limit usage with ⟨h1, h2, h3, h4⟩ | h4
    · rw [h4]; obtain ⟨_, _, d1, d2, d3⟩ := step_downs h1 h2 h3 f1 f2; obtain ⟨_, _, k3⟩ := mayConf_spec h1
      exact rec_each 51 cb c.cs Down (fallI c.slow) (fun x y hx W' hb => rec_Step1 _ _ _ _ k3 x y hx W' hb) enters_Step1 _ _ d1 d2 d3 W hW
    · rw [h4] at h; cases h
  unfold stepR
  generalize goalR c limit usage = g at *
  generalize fitsV zeroV e.value = f1 at *
  generalize fitsV e.value limit = f2 at *
  generalize pickV (fallI c.slow) (maxV e.value g.1) g.1 = d at *
  generalize maxV e.value g.1 = m at *
  obtain ⟨⟨g0, g1, g2⟩, ge⟩ := g
  obtain ⟨m0, m1, m2⟩ := m
  obtain ⟨d0, d1, d2⟩ := d
  obtain ⟨mg, ho, sl⟩ := c
  obtain ⟨l0, l1, l2⟩ := limit
  obtain ⟨⟨e0, e1, e2⟩, k⟩ := e
  obtain ⟨u0, u1, u2⟩ := usage
  obtain ⟨hh0, hh1⟩ := hh
  obtain ⟨hk0, hk1⟩ := hk
  have C1 := Lib.hid c1
  have C2 := Lib.hid c2
  have C3 := Lib.hid c3
  have C4 := Lib.hid c4
  have C5 := Lib.hid c5
  clear c1 c2 c3 c4 c5
  go_enter Try.func15, Try.ntmps15
  go_wp2_with fail
  refine (C1.out _).mono ?_
  rintro r w1 ⟨rfl, hb⟩; dsimp only
  have B0 := (((((Blk.new w 23 #[.int .i64 mg, .int .i64 ho, .int .i64 sl]).alloc _).alloc _).alloc _).alloc _).past hb
  have B1 := ((((Blk.new1 w _ 25 #[.int .i64 l0, .int .i64 l1, .int .i64 l2]).alloc _).alloc _).alloc _).past hb
  have B2 := (((Blk.new2 w _ _ 27 #[.int .i64 e0, .int .i64 e1, .int .i64 e2, .int .i64 k]).alloc _).alloc _).past hb
  have B4 := (Blk.new4 w _ _ _ _ 27 #[.int .i64 0, .int .i64 0, .int .i64 0, .int .i64 0]).past hb
  have hB : Below w.heap.size w w1 := below_to (by go_grown) hb
  have L1 : w.heap.size + 1 + 1 + 1 + 1 + 1 ≤ w1.heap.size := by have := hb.size; simpa using this
  clear hb
  obtain ⟨B0c, B0f, B0l⟩ := B0.facts
  obtain ⟨B1c, B1f, B1l⟩ := B1.facts
  obtain ⟨B2c, B2f, B2l⟩ := B2.facts
  obtain ⟨B4c, B4f, B4l⟩ := B4.facts
  by_cases hge : ge = 0
  · subst hge
    go_wp2_with fail
    refine (C2.out _).mono ?_
    rintro r w2 ⟨rfl, hb⟩; dsimp only
    clear B0c B0f B0l B1c B1f B1l B2c B2f B2l B4c B4f B4l
    replace B0 := (B0.alloc _).past hb
    replace B1 := (B1.alloc _).past hb
    replace B2 := (B2.alloc _).past hb
    replace B4 := (B4.alloc _).past hb
    have G := (Blk.new w1 25 #[.int .i64 g0, .int .i64 g1, .int .i64 g2]).past hb
    replace hB := below_to (below_own hB _) hb
    have L2 : w1.heap.size + 1 ≤ w2.heap.size := by have := hb.size; simpa using this
    clear hb
    obtain ⟨B0c, B0f, B0l⟩ := B0.facts
    obtain ⟨B1c, B1f, B1l⟩ := B1.facts
    obtain ⟨B2c, B2f, B2l⟩ := B2.facts
    obtain ⟨B4c, B4f, B4l⟩ := B4.facts
    obtain ⟨Gc, Gf, Gl⟩ := G.facts
    cases f1
    · go_wp2_with fail
      refine bodyPost_ret (v := .tuple #[.agg #[.int .i64 0, .int .i64 0, .int .i64 0, .int .i64 0], .int .i64 2]) (by simp [results, Try.results15, go_sem, B4c]) rfl ?_
      exact ⟨by rw [stepW, if_neg (by simp)]; rfl, by go_grown⟩
    · go_wp2_with fail
      refine (C3.out _).mono ?_
      rintro r w3 ⟨rfl, hb⟩; dsimp only
      clear B0c B0f B0l B1c B1f B1l B2c B2f B2l B4c B4f B4l Gc Gf Gl
      replace B0 := B0.past hb
      replace B1 := B1.past hb
      replace B2 := B2.past hb
      replace B4 := B4.past hb
      replace G := G.past hb
      replace hB := below_to hB hb
      have L3 : w2.heap.size ≤ w3.heap.size := hb.size
      clear hb
      obtain ⟨B0c, B0f, B0l⟩ := B0.facts
      obtain ⟨B1c, B1f, B1l⟩ := B1.facts
      obtain ⟨B2c, B2f, B2l⟩ := B2.facts
      obtain ⟨B4c, B4f, B4l⟩ := B4.facts
      obtain ⟨Gc, Gf, Gl⟩ := G.facts
      cases f2
      · go_wp2_with fail
        refine bodyPost_ret (v := .tuple #[.agg #[.int .i64 0, .int .i64 0, .int .i64 0, .int .i64 0], .int .i64 2]) (by simp [results, Try.results15, go_sem, B4c]) rfl ?_
        exact ⟨by rw [stepW, if_neg (by simp)]; rfl, by go_grown⟩
      · by_cases hk2 : 0 ≤ k
        · by_cases hk3 : k ≤ 1024
          · go_wp2_with fail
            refine (C4.out (by trivial) (by trivial) (by trivial) _).mono ?_
            rintro r w4 ⟨rfl, hb⟩; dsimp only
            clear B0c B0f B0l B1c B1f B1l B2c B2f B2l B4c B4f B4l Gc Gf Gl
            replace B0 := (B0.alloc _).past hb
            replace B2 := (B2.alloc _).past hb
            replace B4 := (B4.alloc _).past hb
            replace G := (G.alloc _).past hb
            have S := (Blk.new w3 25 #[.int .i64 e0, .int .i64 e1, .int .i64 e2]).past hb
            replace hB := below_to (below_own hB _) hb
            have L4 : w3.heap.size + 1 ≤ w4.heap.size := by have := hb.size; simpa using this
            clear hb B1
            obtain ⟨B0c, B0f, B0l⟩ := B0.facts
            obtain ⟨B2c, B2f, B2l⟩ := B2.facts
            obtain ⟨B4c, B4f, B4l⟩ := B4.facts
            obtain ⟨Gc, Gf, Gl⟩ := G.facts
            obtain ⟨Sc, Sf, Sl⟩ := S.facts
            clear C1 C2 C3 C4
            have N1 : w1.heap.size ≠ w.heap.size + 1 + 1 := by omega
            have N2 : w3.heap.size ≠ w.heap.size + 1 + 1 := by omega
            have N3 : w.heap.size ≠ w.heap.size + 1 + 1 := by omega
            have N4 : w.heap.size + 1 + 1 + 1 + 1 ≠ w.heap.size + 1 + 1 := by omega
            have N5 : w.heap.size ≤ w.heap.size + 1 + 1 := by omega
            have N6 : w.heap.size ≤ w.heap.size + 1 + 1 + 1 + 1 := by omega
            clear L1 L2 L3 L4 B0c B0f B0l B2c B2f B2l B4c B4f B4l Gc Gf Gl Sc Sf Sl
            generalize w.heap.size + 1 + 1 + 1 + 1 = b4 at *
            generalize w.heap.size + 1 + 1 = b2 at *
            generalize w.heap.size + 1 = b1 at *
            generalize w1.heap.size = bg at *
            generalize w3.heap.size = bs at *
            obtain ⟨B0c, B0f, B0l⟩ := B0.facts
            obtain ⟨B2c, B2f, B2l⟩ := B2.facts
            obtain ⟨B4c, B4f, B4l⟩ := B4.facts
            obtain ⟨Gc, Gf, Gl⟩ := G.facts
            obtain ⟨Sc, Sf, Sl⟩ := S.facts
            have q1 := eql_vec
            have q2 := neq_vec
            go_wp2_with (refine ops_at 59 rfl (fun W => Blk W b2 27 #[.int .i64 m0, .int .i64 m1, .int .i64 m2, .int .i64 k] ∧ Blk W w.heap.size 23 #[.int .i64 mg, .int .i64 ho, .int .i64 sl] ∧ Blk W b4 27 #[.int .i64 0, .int .i64 0, .int .i64 0, .int .i64 0] ∧ Blk W bg 25 #[.int .i64 g0, .int .i64 g1, .int .i64 g2] ∧ Blk W bs 25 #[.int .i64 e0, .int .i64 e1, .int .i64 e2] ∧ Below w.heap.size w W) ?_ ?_)
            · exact Lib.hid ⟨((B2.put 0 _ rfl).put 1 _ rfl).put 2 _ rfl, ((B0.off N3 _).off N3 _).off N3 _, ((B4.off N4 _).off N4 _).off N4 _, ((G.off N1 _).off N1 _).off N1 _, ((S.off N2 _).off N2 _).off N2 _, ((hB.setCell N5 _).setCell N5 _).setCell N5 _⟩
            refine Lib.hid ?_
            clear B0c B0f B0l B2c B2f B2l B4c B4f B4l Gc Gf Gl Sc Sf Sl B0 B2 B4 G S hB
            rintro w4 ⟨B2, B0, B4, G, S, hB⟩
            obtain ⟨B0c, B0f, B0l⟩ := B0.facts
            obtain ⟨B2c, B2f, B2l⟩ := B2.facts
            obtain ⟨B4c, B4f, B4l⟩ := B4.facts
            obtain ⟨Gc, Gf, Gl⟩ := G.facts
            obtain ⟨Sc, Sf, Sl⟩ := S.facts
            cases hq : eqV ⟨m0, m1, m2⟩ ⟨g0, g1, g2⟩
            · have P1 := Lib.hid (eqV_false hq)
              cases hr : eqV ⟨m0, m1, m2⟩ ⟨e0, e1, e2⟩
              · have P2 := Lib.hid (show (if (⟨m0, m1, m2⟩ : Vec) = ⟨e0, e1, e2⟩ then min (k + 1) 1024 else 1) = 1 from if_neg (eqV_false hr))
                by_cases ho1 : ho < 1
                · go_wp2_with fail
                  refine (C5.out (by trivial) (by trivial) (by trivial) _ _ (B0.off N3 _)).mono ?_
                  rintro r w5 ⟨rfl, hb⟩; dsimp only
                  clear B0c B0f B0l B2c B2f B2l B4c B4f B4l Gc Gf Gl Sc Sf Sl
                  replace B2 := (B2.put 3 _ rfl).past hb
                  replace B4 := (B4.off N4 _).past hb
                  replace hB : Below w.heap.size w w5 := below_to (hB.setCell N5 _) hb
                  clear hb B0 G S
                  obtain ⟨B2c, B2f, B2l⟩ := B2.facts
                  obtain ⟨B4c, B4f, B4l⟩ := B4.facts
                  go_wp2_with fail
                  refine bodyPost_ret (v := .tuple #[.agg #[.int .i64 d0, .int .i64 d1, .int .i64 d2, .int .i64 (1)], .int .i64 0]) (by simp [results, Try.results15, go_sem, B4c]) rfl ?_
                  exact ⟨by rw [stepW_fall 1 hk2 hk3 P1.out P2.out (.inl ho1)], by go_grown⟩
                · by_cases ho2 : ho = 1
                  · subst ho2
                    go_wp2_with fail
                    refine bodyPost_ret (v := .tuple #[.agg #[.int .i64 m0, .int .i64 m1, .int .i64 m2, .int .i64 (1)], .int .i64 0]) (by simp [results, Try.results15, go_sem, B4c]) rfl ?_
                    exact ⟨by rw [stepW_stay 1 hk2 hk3 P1.out P2.out (by omega)], by go_grown⟩
                  · have ho3 : ((1 : Int) == ho) = false := by simpa using fun h => ho2 h.symm
                    go_wp2_with fail
                    refine bodyPost_ret (v := .tuple #[.agg #[.int .i64 m0, .int .i64 m1, .int .i64 m2, .int .i64 (1)], .int .i64 0]) (by simp [results, Try.results15, go_sem, B4c]) rfl ?_
                    exact ⟨by rw [stepW_stay 1 hk2 hk3 P1.out P2.out (by omega)], by go_grown⟩
              · have P2 := Lib.hid (show (if (⟨m0, m1, m2⟩ : Vec) = ⟨e0, e1, e2⟩ then min (k + 1) 1024 else 1) = min (k + 1) 1024 from if_pos (eqV_true hr))
                have kq : ∀ ats ty, Builtin.min_ ats ty #[.int .i64 (k + 1), .int .i64 1024] = pure (.int .i64 (min (k + 1) 1024)) := fun ats ty => by rw [kmin_two, kmin2]; rfl
                have q0 : 1 ≤ min (k + 1) 1024 := by omega
                have q3 : min (k + 1) 1024 ≤ 1024 := by omega
                have kp : ∃ q, min (k + 1) 1024 = q := ⟨_, rfl⟩
                obtain ⟨q, hqe⟩ := kp
                rw [hqe] at P2 q0 q3
                simp only [hqe] at kq
                have P3 := Lib.hid (show (if (⟨m0, m1, m2⟩ : Vec) = ⟨e0, e1, e2⟩ then min (k + 1) 1024 else 1) = q by rw [hqe]; exact P2.out)
                clear P2 hqe
                by_cases ho1 : ho < q
                · go_wp2_with fail
                  refine (C5.out (by trivial) (by trivial) (by trivial) _ _ (B0.off N3 _)).mono ?_
                  rintro r w5 ⟨rfl, hb⟩; dsimp only
                  clear B0c B0f B0l B2c B2f B2l B4c B4f B4l Gc Gf Gl Sc Sf Sl
                  replace B2 := (B2.put 3 _ rfl).past hb
                  replace B4 := (B4.off N4 _).past hb
                  replace hB : Below w.heap.size w w5 := below_to (hB.setCell N5 _) hb
                  clear hb B0 G S
                  obtain ⟨B2c, B2f, B2l⟩ := B2.facts
                  obtain ⟨B4c, B4f, B4l⟩ := B4.facts
                  go_wp2_with fail
                  refine bodyPost_ret (v := .tuple #[.agg #[.int .i64 d0, .int .i64 d1, .int .i64 d2, .int .i64 (q)], .int .i64 0]) (by simp [results, Try.results15, go_sem, B4c]) rfl ?_
                  exact ⟨by rw [stepW_fall _ hk2 hk3 P1.out P3.out (.inl ho1)], by go_grown⟩
                · by_cases ho2 : q = ho
                  · subst ho2
                    by_cases ho4 : q = 1024
                    · subst ho4
                      go_wp2_with fail
                      refine (C5.out (by trivial) (by trivial) (by trivial) _ _ (B0.off N3 _)).mono ?_
                      rintro r w5 ⟨rfl, hb⟩; dsimp only
                      clear B0c B0f B0l B2c B2f B2l B4c B4f B4l Gc Gf Gl Sc Sf Sl
                      replace B2 := (B2.put 3 _ rfl).past hb
                      replace B4 := (B4.off N4 _).past hb
                      replace hB : Below w.heap.size w w5 := below_to (hB.setCell N5 _) hb
                      clear hb B0 G S
                      obtain ⟨B2c, B2f, B2l⟩ := B2.facts
                      obtain ⟨B4c, B4f, B4l⟩ := B4.facts
                      go_wp2_with fail
                      refine bodyPost_ret (v := .tuple #[.agg #[.int .i64 d0, .int .i64 d1, .int .i64 d2, .int .i64 (1024)], .int .i64 0]) (by simp [results, Try.results15, go_sem, B4c]) rfl ?_
                      exact ⟨by rw [stepW_fall _ hk2 hk3 P1.out P3.out (.inr ⟨rfl, rfl⟩)], by go_grown⟩
                    · have ho5 : (q == 1024) = false := by simpa using ho4
                      go_wp2_with fail
                      refine bodyPost_ret (v := .tuple #[.agg #[.int .i64 m0, .int .i64 m1, .int .i64 m2, .int .i64 (q)], .int .i64 0]) (by simp [results, Try.results15, go_sem, B4c]) rfl ?_
                      exact ⟨by rw [stepW_stay _ hk2 hk3 P1.out P3.out (by omega)], by go_grown⟩
                  · have ho3 : (q == ho) = false := by simpa using ho2
                    go_wp2_with fail
                    refine bodyPost_ret (v := .tuple #[.agg #[.int .i64 m0, .int .i64 m1, .int .i64 m2, .int .i64 (q)], .int .i64 0]) (by simp [results, Try.results15, go_sem, B4c]) rfl ?_
                    exact ⟨by rw [stepW_stay _ hk2 hk3 P1.out P3.out (by omega)], by go_grown⟩
            · have P1 := Lib.hid (eqV_true hq)
              go_wp2_with fail
              refine bodyPost_ret (v := .tuple #[.agg #[.int .i64 m0, .int .i64 m1, .int .i64 m2, .int .i64 (0)], .int .i64 0]) (by simp [results, Try.results15, go_sem, B4c]) rfl ?_
              exact ⟨by rw [stepW_same hk2 hk3 P1.out], by go_grown⟩
          · go_wp2_with fail
            refine bodyPost_ret (v := .tuple #[.agg #[.int .i64 0, .int .i64 0, .int .i64 0, .int .i64 0], .int .i64 2]) (by simp [results, Try.results15, go_sem, B4c]) rfl ?_
            exact ⟨by rw [stepW, if_neg (by omega)]; rfl, by go_grown⟩
        · go_wp2_with fail
          refine bodyPost_ret (v := .tuple #[.agg #[.int .i64 0, .int .i64 0, .int .i64 0, .int .i64 0], .int .i64 2]) (by simp [results, Try.results15, go_sem, B4c]) rfl ?_
          exact ⟨by rw [stepW, if_neg (by omega)]; rfl, by go_grown⟩
  · have hge' : (ge == 0) = false := by simpa using hge
    go_wp2_with fail
    refine bodyPost_ret (v := .tuple #[.agg #[.int .i64 0, .int .i64 0, .int .i64 0, .int .i64 0], .int .i64 2]) (by simp [results, Try.results15, go_sem, B4c, B4l]) rfl ?_
    exact ⟨by rw [stepW, if_neg (by omega)]; rfl, by go_grown⟩
end Go.Proofs.Ytbamgoocgmhohaa
