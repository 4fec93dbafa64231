/- The law ReclaimComes of reevelaw19, walked. Conditions: the numbers are of their kinds. -/
import Derived.Test.YtbamgoocgmhohaaL19c
namespace Go.Proofs.Ytbamgoocgmhohaa
open Go.RowKit

theorem step_held {c : Conf} {limit usage : Vec} {e : Est} (h : (stepR c limit e usage).2 = 0) : Held limit e := by
  unfold stepR stepW at h
  by_cases hc : (goalR c limit usage).2 = 0 ∧ fitsV zeroV e.value = true ∧ fitsV e.value limit = true ∧ 0 ≤ e.calm ∧ e.calm ≤ 1024
  · exact hc.2
  · rw [if_neg hc] at h; cases h
theorem stepsI_of {c : Conf} (h : mayConf c = true) (hs : c.slow ≤ 5) : ∃ N : Nat, stepsI c = N ∧ N ≤ 4096 ∧ N = (c.hold + 42 * 2 ^ c.slow.toNat).toNat := by
  obtain ⟨_, ⟨ho0, ho1⟩, k3⟩ := mayConf_spec h
  have hp : (2 : Int) ^ c.slow.toNat ≤ 32 ∧ 1 ≤ (2 : Int) ^ c.slow.toNat := by
    obtain ⟨n, hn⟩ : ∃ n : Nat, c.slow = n := ⟨c.slow.toNat, by omega⟩
    rw [hn] at hs ⊢
    rw [Int.toNat_natCast]
    have : n ≤ 5 := by omega
    rcases (show n = 0 ∨ n = 1 ∨ n = 2 ∨ n = 3 ∨ n = 4 ∨ n = 5 by omega) with rfl | rfl | rfl | rfl | rfl | rfl <;> decide
  unfold stepsI
  rw [if_pos h]
  exact ⟨_, by omega, by omega, rfl⟩
set_option maxRecDepth 100000 in
set_option maxHeartbeats 8000000 in
theorem ReclaimComes_walk (c : Conf) (hc : c.ok) (limit : Vec) (hl : limit.ok) (e : Est) (he : e.ok) (usage : Vec) (hu : usage.ok) (w : World) :
    Calls Try.prog 6 #[c.v, limit.v, e.v, usage.v] w fun r w' => r = .returned (.bool true) ∧ Below w.heap.size w w' := by
  have al := Lib.hid alive19
  obtain ⟨_, hh, hsl⟩ := hc
  obtain ⟨_, hk⟩ := he
  clear hl hu
  by_cases hbig : 5 < c.slow
  · clear hh hk
    obtain ⟨mg, ho, sl⟩ := c
    obtain ⟨l0, l1, l2⟩ := limit
    obtain ⟨⟨e0, e1, e2⟩, ec⟩ := e
    obtain ⟨u0, u1, u2⟩ := usage
    dsimp only at hbig
    go_enter Try.func6, Try.ntmps6
    go_wp2_with fail
    refine (al.out _).mono ?_
    rintro r w1 ⟨rfl, hb1⟩; dsimp only
    have hB : Below w.heap.size w w1 := below_to (by go_grown) hb1
    go_wp2_with fail
    go_ret
    exact ⟨rfl, hB⟩
  · have c1 := rec_Goal c limit usage
    have c2 := rec_Step c limit e usage hh hk
    have c3 := rec_Steps c
    by_cases hg : (goalR c limit usage).2 = 0 ∧ (stepR c limit e usage).2 = 0
    · obtain ⟨hg1, hg2⟩ := hg
      obtain ⟨h1, h2, h3, h4⟩ := goal_some hg1
      have hheld := step_held hg2
      obtain ⟨p1, p2, p3, p4⟩ := step_keeps h1 h2 h3 hheld
      obtain ⟨N, hN, hN2, hN3⟩ := stepsI_of h1 (by omega)
      have hcome := come_begin (e := (stepR c limit e usage).1) h1 h2 p2 (goal_zero h1 h2 h3)
      rw [← hN3] at hcome
      have hstep := Lib.hid (fun x (hx : Held limit x) (hf : fitsV (goalV c limit usage) x.value = true) left hc => And.intro (step_keeps h1 h2 h3 hx) (come_step (left := left) h1 h2 h3 hx hf hc))
      have hend := Lib.hid (fun v calm (hf : fitsV (goalV c limit usage) v = true) h => come_end (c := c) (calm := calm) hf h)
      have cS := Lib.hid (fun x (hx : I64 x.calm) => rec_Step c limit x usage hh hx)
      have HC := Lib.hid (show ∀ x, I64 (stepR c limit x usage).1.calm from fun x => stepR_calm c limit x usage)
      have HP := Lib.hid hcome
      have HD := Lib.hid p2
      have HF := Lib.hid p3
      have HK := Lib.hid (stepR_calm c limit e usage)
      rw [h4] at c1
      rw [hN] at c3
      rw [p1] at c2
      clear hg1 hg2 h1 h2 h3 h4 p1 p2 p3 p4 hcome hN hN3 hheld hh hk hsl
      obtain ⟨mg, ho, sl⟩ := c
      generalize hgv : goalV ⟨mg, ho, sl⟩ limit usage = g at *
      clear hgv
      generalize (stepR ⟨mg, ho, sl⟩ limit e usage).1 = s at *
      obtain ⟨g0, g1, g2⟩ := g
      obtain ⟨⟨s0, s1, s2⟩, s3⟩ := s
      obtain ⟨l0, l1, l2⟩ := limit
      obtain ⟨⟨e0, e1, e2⟩, ec⟩ := e
      obtain ⟨u0, u1, u2⟩ := usage
      dsimp only at hbig
      have C1 := Lib.hid c1
      have C2 := Lib.hid c2
      have C3 := Lib.hid c3
      clear c1 c2 c3
      go_enter Try.func6, Try.ntmps6
      go_wp2_with fail
      refine (C1.out _).mono ?_
      rintro r w1 ⟨rfl, hb⟩; dsimp only
      have hC := ((((Blk.new w 23 #[.int .i64 mg, .int .i64 ho, .int .i64 sl]).alloc _).alloc _).alloc _).past hb
      have hL := (((Blk.new1 w _ 25 #[.int .i64 l0, .int .i64 l1, .int .i64 l2]).alloc _).alloc _).past hb
      have hE := ((Blk.new2 w _ _ 27 #[.int .i64 e0, .int .i64 e1, .int .i64 e2, .int .i64 ec]).alloc _).past hb
      have hU := (Blk.new3 w _ _ _ 25 #[.int .i64 u0, .int .i64 u1, .int .i64 u2]).past hb
      have hB : Below w.heap.size w w1 := below_to (by go_grown) hb
      clear hb
      obtain ⟨Cc, Cf, Cl⟩ := hC.facts
      obtain ⟨Lc, Lf, Ll⟩ := hL.facts
      obtain ⟨Ec, Ef, El⟩ := hE.facts
      obtain ⟨Uc, Uf, Ul⟩ := hU.facts
      go_wp2_with fail
      refine (C2.out _).mono ?_
      rintro r w2 ⟨rfl, hb⟩; dsimp only
      clear Cc Cf Cl Lc Lf Ll Ec Ef El Uc Uf Ul
      have hG := (Blk.new w1 25 #[.int .i64 g0, .int .i64 g1, .int .i64 g2]).past hb
      have n1 := hU.lt
      replace hC := (hC.alloc _).past hb
      replace hL := (hL.alloc _).past hb
      replace hU := (hU.alloc _).past hb
      replace hB := below_to (below_own hB _) hb
      clear hb hE
      obtain ⟨Cc, Cf, Cl⟩ := hC.facts
      go_wp2_with fail
      refine (C3.out _).mono ?_
      rintro r w3 ⟨rfl, hb⟩; dsimp only
      clear Cc Cf Cl
      have hX := (Blk.new w2 27 #[.int .i64 s0, .int .i64 s1, .int .i64 s2, .int .i64 s3]).past hb
      have n2 := hG.lt
      replace hC := (hC.alloc _).past hb
      replace hL := (hL.alloc _).past hb
      replace hU := (hU.alloc _).past hb
      replace hG := (hG.alloc _).past hb
      replace hB := below_to (below_own hB _) hb
      clear hb
      go_wp2_with fail
      generalize w2.heap.size = bx at *
      generalize w1.heap.size = bg at *
      clear C1 C2 C3 w1 w2
      have HL := Lib.hid n1
      have HL2 := Lib.hid n2
      clear n1 n2
      refine wp_world (fun W => Blk W w.heap.size 23 #[.int .i64 mg, .int .i64 ho, .int .i64 sl] ∧ Blk W (w.heap.size + 1) 25 #[.int .i64 l0, .int .i64 l1, .int .i64 l2] ∧ Blk W (w.heap.size + 1 + 1 + 1) 25 #[.int .i64 u0, .int .i64 u1, .int .i64 u2] ∧ Blk W bg 25 #[.int .i64 g0, .int .i64 g1, .int .i64 g2] ∧ Blk W bx 27 #[.int .i64 s0, .int .i64 s1, .int .i64 s2, .int .i64 s3] ∧ Below w.heap.size w W) ⟨hC, hL, hU, hG, hX, hB⟩ ?_
      clear hC hL hU hG hX hB
      rintro W ⟨hC, hL, hU, hG, hX, hB⟩
      go_loopw [14] (fun i wr => ∃ (k : Nat) (x : Est), k ≤ N ∧ i = .int .i64 k ∧ (I64 x.calm ∧ Held ⟨l0, l1, l2⟩ x ∧ fitsV ⟨g0, g1, g2⟩ x.value = true ∧ Coming ⟨mg, ho, sl⟩ ⟨g0, g1, g2⟩ x.value x.calm (N - k)) ∧ Blk wr w.heap.size 23 #[.int .i64 mg, .int .i64 ho, .int .i64 sl] ∧ Blk wr (w.heap.size + 1) 25 #[.int .i64 l0, .int .i64 l1, .int .i64 l2] ∧ Blk wr (w.heap.size + 1 + 1 + 1) 25 #[.int .i64 u0, .int .i64 u1, .int .i64 u2] ∧ Blk wr bg 25 #[.int .i64 g0, .int .i64 g1, .int .i64 g2] ∧ Blk wr bx 27 x.cs ∧ Below w.heap.size w wr) (fun i _ => N - (intOf i).toNat)
      case atStart => exact ⟨0, ⟨⟨s0, s1, s2⟩, s3⟩, Nat.zero_le _, rfl, ⟨HK.out, HD.out, HF.out, HP.out⟩, hC, hL, hU, hG, hX, hB⟩
      case round =>
        clear hC hL hU hG hX hB HK HD HF HP
        obtain ⟨k, x, hk, rfl, hI, hC, hL, hU, hG, hX, hB⟩ := hrel
        have HI := Lib.hid hI
        clear hI
        by_cases hlt : k < N
        · obtain ⟨i1, i2, i3, i4⟩ := HI.out
          have h := hstep.out x i2 i3 (N - (k + 1)) (by rw [show N - (k + 1) + 1 = N - k by omega]; exact i4)
          obtain ⟨⟨p1, p2, p3, p4⟩, q1, q2, q3⟩ := h
          have c1 := cS.out x i1
          have HN := Lib.hid (And.intro (HC.out x) (And.intro p2 (And.intro p3 q1)))
          have c2 := ref_Fits (stepR ⟨mg, ho, sl⟩ ⟨l0, l1, l2⟩ x ⟨u0, u1, u2⟩).1.value x.value
          have c3 := ref_Fits ⟨g0, g1, g2⟩ (stepR ⟨mg, ho, sl⟩ ⟨l0, l1, l2⟩ x ⟨u0, u1, u2⟩).1.value
          rw [q2] at c2
          rw [p3] at c3
          rw [p1] at c1
          clear i1 i2 i3 i4 p1 p2 p3 p4 q1 q2
          generalize (stepR ⟨mg, ho, sl⟩ ⟨l0, l1, l2⟩ x ⟨u0, u1, u2⟩).1 = y at *
          obtain ⟨⟨x0, x1, x2⟩, x3⟩ := x
          obtain ⟨⟨y0, y1, y2⟩, y3⟩ := y
          have C1 := Lib.hid c1
          have C2 := Lib.hid c2
          have C3 := Lib.hid c3
          have Q3 := Lib.hid q3
          clear c1 c2 c3 q3
          have n1 := HL.out
          have n2 := HL2.out
          obtain ⟨Cc, Cf, Cl⟩ := hC.facts
          obtain ⟨Lc, Lf, Ll⟩ := hL.facts
          obtain ⟨Uc, Uf, Ul⟩ := hU.facts
          obtain ⟨Xc, Xf, Xl⟩ := hX.facts
          go_wp2_with fail
          refine (C1.out _).mono ?_
          rintro r w1 ⟨rfl, hb⟩; dsimp only
          clear Cc Cf Cl Lc Lf Ll Uc Uf Ul Xc Xf Xl
          have n3 := hX.lt
          replace n3 : bx < w1.heap.size := Nat.lt_of_lt_of_le n3 hb.size
          replace hC := hC.past hb
          replace hL := hL.past hb
          replace hU := hU.past hb
          replace hG := hG.past hb
          replace hX := hX.past hb
          replace hB := below_to hB hb
          clear hb
          have hbxs : bx ≠ w1.heap.size := by omega
          have hbgs : bg ≠ w1.heap.size := by omega
          obtain ⟨Gc, Gf, Gl⟩ := hG.facts
          obtain ⟨Xc, Xf, Xl⟩ := hX.facts
          go_wp2_with fail
          refine (C2.out _).mono ?_
          rintro r w2 ⟨rfl, hb⟩; dsimp only
          clear Gc Gf Gl Xc Xf Xl
          have hY := (Blk.new w1 27 #[.int .i64 y0, .int .i64 y1, .int .i64 y2, .int .i64 y3]).past hb
          replace hC := (hC.alloc _).past hb
          replace hL := (hL.alloc _).past hb
          replace hU := (hU.alloc _).past hb
          replace hG := (hG.alloc _).past hb
          replace hX := (hX.alloc _).past hb
          replace hB := below_to (below_own hB _) hb
          clear hb
          obtain ⟨Gc, Gf, Gl⟩ := hG.facts
          obtain ⟨Yc, Yf, Yl⟩ := hY.facts
          go_wp2_with fail
          refine (C3.out _).mono ?_
          rintro r w3 ⟨rfl, hb⟩; dsimp only
          clear Gc Gf Gl Yc Yf Yl
          replace hC := hC.past hb
          replace hL := hL.past hb
          replace hU := hU.past hb
          replace hG := hG.past hb
          replace hX := hX.past hb
          replace hY := hY.past hb
          replace hB := below_to hB hb
          clear hb C1 C2 C3
          obtain ⟨Gc, Gf, Gl⟩ := hG.facts
          obtain ⟨Xc, Xf, Xl⟩ := hX.facts
          obtain ⟨Yc, Yf, Yl⟩ := hY.facts
          have q1 := eql_vec
          have q2 := neq_est
          have h0 : w.heap.size ≠ bx := by omega
          have h1 : w.heap.size + 1 ≠ bx := by omega
          have h2 : w.heap.size + 1 + 1 + 1 ≠ bx := by omega
          have h3 : bg ≠ bx := by omega
          have hr : Est.mk ⟨x0, x1, x2⟩ x3 = ⟨⟨g0, g1, g2⟩, x3⟩ → (eqE ⟨⟨y0, y1, y2⟩, y3⟩ ⟨⟨g0, g1, g2⟩, 0⟩) = true := fun e => decide_eq_true (Q3.out (by simpa using e))
          cases hq : eqV ⟨x0, x1, x2⟩ ⟨g0, g1, g2⟩ with
          | true =>
            have hr2 := hr (by have := eqV_true hq; rw [this])
            clear hr
            go_wp2_with fail
            go_roundw
            case rel => exact ⟨k + 1, ⟨⟨y0, y1, y2⟩, y3⟩, by omega, by go_num, HN.out, (((hC.off h0 _).off h0 _).off h0 _).off h0 _, (((hL.off h1 _).off h1 _).off h1 _).off h1 _, (((hU.off h2 _).off h2 _).off h2 _).off h2 _, (((hG.off h3 _).off h3 _).off h3 _).off h3 _, (((hX.put 0 _ rfl).put 1 _ rfl).put 2 _ rfl).put 3 _ rfl, by go_grown⟩
            case measure => simp [intOf]; omega
          | false =>
            clear hr
            go_wp2_with fail
            go_roundw
            case rel => exact ⟨k + 1, ⟨⟨y0, y1, y2⟩, y3⟩, by omega, by go_num, HN.out, (((hC.off h0 _).off h0 _).off h0 _).off h0 _, (((hL.off h1 _).off h1 _).off h1 _).off h1 _, (((hU.off h2 _).off h2 _).off h2 _).off h2 _, (((hG.off h3 _).off h3 _).off h3 _).off h3 _, (((hX.put 0 _ rfl).put 1 _ rfl).put 2 _ rfl).put 3 _ rfl, by go_grown⟩
            case measure => simp [intOf]; omega
        · obtain rfl : k = N := by omega
          obtain ⟨i1, i2, i3, i4⟩ := HI.out
          rw [Nat.sub_self] at i4
          have hv := hend.out _ _ i3 i4
          clear i1 i2 i3 i4
          obtain ⟨⟨x0, x1, x2⟩, x3⟩ := x
          dsimp only at hv
          simp only [Vec.mk.injEq] at hv
          obtain ⟨rfl, rfl, rfl⟩ := hv
          obtain ⟨Gc, Gf, Gl⟩ := hG.facts
          obtain ⟨Xc, Xf, Xl⟩ := hX.facts
          have q1 := eql_vec
          have q3 := eqV_self
          go_wp2_with fail
          refine (al.out _).mono ?_
          rintro r w1 ⟨rfl, hb1⟩; dsimp only
          replace hB := below_to hB hb1
          go_wp2_with fail
          go_ret
          exact ⟨rfl, hB⟩
    · obtain ⟨mg, ho, sl⟩ := c
      have hd : ((goalR ⟨mg, ho, sl⟩ limit usage).2 != 0) = true ∨ ((goalR ⟨mg, ho, sl⟩ limit usage).2 = 0 ∧ ((stepR ⟨mg, ho, sl⟩ limit e usage).2 != 0) = true) := by
        by_cases h : (goalR ⟨mg, ho, sl⟩ limit usage).2 = 0
        · exact .inr ⟨h, by simpa using fun h' => hg ⟨h, h'⟩⟩
        · exact .inl (by simpa using h)
      clear hg c3
      generalize goalR ⟨mg, ho, sl⟩ limit usage = g at *
      generalize stepR ⟨mg, ho, sl⟩ limit e usage = s at *
      obtain ⟨⟨g0, g1, g2⟩, gf⟩ := g
      obtain ⟨⟨⟨s0, s1, s2⟩, s3⟩, sf⟩ := s
      obtain ⟨l0, l1, l2⟩ := limit
      obtain ⟨⟨e0, e1, e2⟩, ec⟩ := e
      obtain ⟨u0, u1, u2⟩ := usage
      dsimp only at hbig hd
      have C1 := Lib.hid c1
      have C2 := Lib.hid c2
      clear c1 c2 hsl hh hk
      go_enter Try.func6, Try.ntmps6
      go_wp2_with fail
      refine (C1.out _).mono ?_
      rintro r w1 ⟨rfl, hb⟩; dsimp only
      have hC := ((((Blk.new w 23 #[.int .i64 mg, .int .i64 ho, .int .i64 sl]).alloc _).alloc _).alloc _).past hb
      have hL := (((Blk.new1 w _ 25 #[.int .i64 l0, .int .i64 l1, .int .i64 l2]).alloc _).alloc _).past hb
      have hE := ((Blk.new2 w _ _ 27 #[.int .i64 e0, .int .i64 e1, .int .i64 e2, .int .i64 ec]).alloc _).past hb
      have hU := (Blk.new3 w _ _ _ 25 #[.int .i64 u0, .int .i64 u1, .int .i64 u2]).past hb
      have hB : Below w.heap.size w w1 := below_to (by go_grown) hb
      clear hb
      obtain ⟨Cc, Cf, Cl⟩ := hC.facts
      obtain ⟨Lc, Lf, Ll⟩ := hL.facts
      obtain ⟨Ec, Ef, El⟩ := hE.facts
      obtain ⟨Uc, Uf, Ul⟩ := hU.facts
      go_wp2_with fail
      refine (C2.out _).mono ?_
      rintro r w2 ⟨rfl, hb⟩; dsimp only
      clear Cc Cf Cl Lc Lf Ll Ec Ef El Uc Uf Ul
      replace hB := below_to (below_own hB _) hb
      clear hb hC hL hE hU
      rcases hd with hd | ⟨rfl, hd⟩
      all_goals
        go_wp2_with fail
        refine (al.out _).mono ?_
        rintro r w3 ⟨rfl, hb⟩; dsimp only
        replace hB := below_to (below_own hB _) hb
        go_wp2_with fail
        go_ret
        exact ⟨rfl, hB⟩
end Go.Proofs.Ytbamgoocgmhohaa
