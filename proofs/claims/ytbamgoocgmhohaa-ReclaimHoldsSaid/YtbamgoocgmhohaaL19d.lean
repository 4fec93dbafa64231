/- The law ReclaimHolds of reevelaw19, walked. Conditions: the numbers are of their kinds. -/
import Derived.Test.YtbamgoocgmhohaaL19c
namespace Go.Proofs.Ytbamgoocgmhohaa
open Go.RowKit

set_option maxRecDepth 100000 in
set_option maxHeartbeats 8000000 in
theorem ReclaimHolds_walk (c : Conf) (hc : c.ok) (limit : Vec) (hl : limit.ok) (A : Option Addr) (n cp : Nat) (xs : List Vec) (hx : xs.length = n) (hn : n * 24 ≤ 140737488351232) (hok : ∀ x ∈ xs, x.ok) {w : World} (hr : VecsIn w A xs) :
    Calls Try.prog 4 #[c.v, limit.v, .slice A n cp] w fun r w' => r = .returned (.bool true) ∧ Below w.heap.size w w' := by
  have al := Lib.hid alive19
  obtain ⟨_, hh, _⟩ := hc
  clear hl hok
  subst hx
  by_cases hbig : 4096 < xs.length
  · clear hh hr
    obtain ⟨mg, ho, sl⟩ := c
    obtain ⟨l0, l1, l2⟩ := limit
    have hb : (4096 : Int) < xs.length := by omega
    go_enter Try.func4, Try.ntmps4
    go_wp2_with fail
    refine (al.out _).mono ?_
    rintro r w1 ⟨rfl, hb1⟩; dsimp only
    have hB : Below w.heap.size w w1 := below_to (by go_grown) hb1
    go_wp2_with fail
    go_ret
    exact ⟨rfl, hB⟩
  · have hb : ¬ (4096 : Int) < xs.length := by omega
    have HR := Lib.hid hr
    have HH := Lib.hid hh
    clear hr hh
    have cb := Lib.hid (rec_Begin limit)
    go_enter Try.func4, Try.ntmps4
    go_wp2_with fail
    refine (cb.out _).mono ?_
    rintro r w1 ⟨rfl, hb1⟩; dsimp only
    have hC := ((Blk.new w 23 c.cs).alloc (.cells limit.cs 25)).past hb1
    have hL := (Blk.new1 w (.cells c.cs 23) 25 limit.cs).past hb1
    have hB : Below w.heap.size w w1 := below_to (by go_grown) hb1
    clear hb1
    go_wp2_with fail
    have hbe : w.heap.size + 1 < w1.heap.size := hL.lt
    replace hC := hC.alloc (.cells (Est.cs ⟨limit, 0⟩) 27)
    replace hL := hL.alloc (.cells (Est.cs ⟨limit, 0⟩) 27)
    have hE := Blk.new w1 27 (Est.cs ⟨limit, 0⟩)
    replace hB := below_own hB (.cells (Est.cs ⟨limit, 0⟩) 27)
    refine wp_world (fun W => Blk W w.heap.size 23 c.cs ∧ Blk W (w.heap.size + 1) 25 limit.cs ∧ Blk W w1.heap.size 27 (Est.cs ⟨limit, 0⟩) ∧ Below w.heap.size w W) ⟨hC, hL, hE, hB⟩ ?_
    clear hC hL hE hB
    generalize w1.heap.size = be at *
    clear w1
    rintro W ⟨hC, hL, hE, hB⟩
    go_loopw [8] (fun i wr => ∃ (k : Nat) (e : Est), k ≤ xs.length ∧ i = .int .i64 k ∧ I64 e.calm ∧ (mayV limit = true → Held limit e) ∧ Blk wr w.heap.size 23 c.cs ∧ Blk wr (w.heap.size + 1) 25 limit.cs ∧ Blk wr be 27 e.cs ∧ Below w.heap.size w wr) (fun i _ => xs.length - (intOf i).toNat)
    case atStart => exact ⟨0, ⟨limit, 0⟩, Nat.zero_le _, rfl, ⟨by show (-9223372036854775808 : Int) ≤ 0; decide, by show (0 : Int) ≤ 9223372036854775807; decide⟩, held_begin, hC, hL, hE, hB⟩
    case round =>
      clear hC hL hE hB cb
      obtain ⟨k, e, hk, rfl, hcalm, hheld, hC, hL, hE, hB⟩ := hrel
      have HK := Lib.hid hcalm
      have HD := Lib.hid hheld
      clear hcalm hheld
      by_cases hlt : k < xs.length
      · obtain ⟨b, off, rfl, hbA, hcell⟩ := HR.out (by intro e; rw [e] at hlt; simp at hlt)
        obtain ⟨k0, k1, k2⟩ := hcell k hlt
        have j0 := (hB.cell (p := ⟨b, off + k * 3, none⟩) hbA).trans k0
        have j1 := (hB.cell (p := ⟨b, off + k * 3 + 1, none⟩) hbA).trans k1
        have j2 := (hB.cell (p := ⟨b, off + k * 3 + 2, none⟩) hbA).trans k2
        clear k0 k1 k2 hcell
        have hN := hE.lt
        have hbr : b < wr.heap.size := by omega
        have hbe2 : be ≠ b := by omega
        have HC2 := Lib.hid (stepR_calm c limit e xs[k])
        have c1 := rec_Step c limit e xs[k] HH.out HK.out
        have c2 := rec_Goal c limit xs[k]
        generalize xs[k] = x at *
        by_cases hg : (goalR c limit x).2 = 0
        · obtain ⟨h1, h2, h3, h4⟩ := goal_some hg
          obtain ⟨p1, p2, p3, p4⟩ := step_keeps h1 h2 h3 (HD.out h2)
          have p5 := fits_trans (goal_min h1 h2 h3) p3
          have HD2 := Lib.hid p2
          have p6 := p2.2.1
          have c3 := ref_Min x limit
          have c4 := ref_Fits (minV x limit) (stepR c limit e x).1.value
          have c5 := ref_Fits (stepR c limit e x).1.value limit
          have c6 := ref_Fits (goalV c limit x) (stepR c limit e x).1.value
          rw [h4] at c2
          rw [p5] at c4
          rw [p6] at c5
          rw [p3] at c6
          rw [p1] at c1
          clear hg h1 h2 h3 h4 p1 p2 p3 p4 p5 p6
          generalize (stepR c limit e x).1 = s at *
          generalize goalV c limit x = g at *
          generalize minV x limit = m at *
          obtain ⟨⟨s0, s1, s2⟩, s3⟩ := s
          obtain ⟨g0, g1, g2⟩ := g
          obtain ⟨m0, m1, m2⟩ := m
          obtain ⟨x0, x1, x2⟩ := x
          obtain ⟨⟨e0, e1, e2⟩, ec⟩ := e
          obtain ⟨mg, ho, sl⟩ := c
          obtain ⟨l0, l1, l2⟩ := limit
          have C1 := Lib.hid c1
          have C2 := Lib.hid c2
          have C3 := Lib.hid c3
          have C4 := Lib.hid c4
          have C5 := Lib.hid c5
          have C6 := Lib.hid c6
          clear c1 c2 c3 c4 c5 c6
          dsimp only at j0 j1 j2
          obtain ⟨Cc, Cf, Cl⟩ := hC.facts
          obtain ⟨Lc, Lf, Ll⟩ := hL.facts
          obtain ⟨Ec, Ef, El⟩ := hE.facts
          go_wp2_with fail
          apply wp_region_stored 11 27 #[.int .i64 0, .int .i64 0, .int .i64 0, .int .i64 0] #[.int .i64 s0, .int .i64 s1, .int .i64 s2, .int .i64 s3]
          case hm => kernel_rfl
          case hB => kernel_rfl
          case hmk => exact ⟨_, rfl, rfl, fun a W => by kernel_rfl⟩
          case hq =>
            intro R hR x
            simp only [List.take_succ_cons, List.take_zero]
            repeat (go_big_quiet_step ((go_at_call 15; with_reducible exact later_of (C1.out _))))
            exact wpQuiet_nil hR
          case hst =>
            intro b
            refine ⟨_, rfl, rfl, rfl, fun W hX => ⟨putAll b W 0 [.int .i64 s0, .int .i64 s1, .int .i64 s2, .int .i64 s3], ?_, putAll_all _ hX rfl, fun B w0 h hb => putAll_below h _ _ _ hb⟩⟩
            obtain ⟨Xc, Xf, Xl⟩ := hX.facts
            simp [go_sem, putAll, execOp, Act.put, Act.eval, Xc, Xf, Xl]
          simp only [List.drop_succ_cons, List.drop_zero, List.getElem?_toArray, List.getElem?_cons_succ, List.getElem?_cons_zero, Option.bind_some, Act.put, List.setIfInBounds_toArray, List.set_cons_succ, List.set_cons_zero]
          intro g W hBB hs hX
          clear Cc Cf Cl Lc Lf Ll Ec Ef El C1
          replace hC := hC.past hBB
          replace hL := hL.past hBB
          replace hE := hE.past hBB
          replace hB := below_to hB hBB
          replace j0 := (hBB.cell (p := ⟨b, off + k * 3, none⟩) hbr).trans j0
          replace j1 := (hBB.cell (p := ⟨b, off + k * 3 + 1, none⟩) hbr).trans j1
          replace j2 := (hBB.cell (p := ⟨b, off + k * 3 + 2, none⟩) hbr).trans j2
          replace hbr : b < W.heap.size := Nat.lt_of_lt_of_le hbr hBB.size
          have hgE : be < g := Nat.lt_of_lt_of_le hN hs
          clear hBB hs hN
          obtain ⟨Cc, Cf, Cl⟩ := hC.facts
          obtain ⟨Lc, Lf, Ll⟩ := hL.facts
          go_wp2_with fail
          apply wp_region_stored 10 25 #[.int .i64 0, .int .i64 0, .int .i64 0] #[.int .i64 g0, .int .i64 g1, .int .i64 g2]
          case hm => kernel_rfl
          case hB => kernel_rfl
          case hmk => exact ⟨_, rfl, rfl, fun a W => by kernel_rfl⟩
          case hq =>
            intro R hR x
            simp only [List.take_succ_cons, List.take_zero]
            repeat (go_big_quiet_step ((go_at_call 18; with_reducible exact later_of (C2.out _))))
            exact wpQuiet_nil hR
          case hst =>
            intro b
            refine ⟨_, rfl, rfl, rfl, fun W hX => ⟨putAll b W 0 [.int .i64 g0, .int .i64 g1, .int .i64 g2], ?_, putAll_all _ hX rfl, fun B w0 h hb => putAll_below h _ _ _ hb⟩⟩
            obtain ⟨Xc, Xf, Xl⟩ := hX.facts
            simp [go_sem, putAll, execOp, Act.put, Act.eval, Xc, Xf, Xl]
          simp only [List.drop_succ_cons, List.drop_zero, List.getElem?_toArray, List.getElem?_cons_succ, List.getElem?_cons_zero, Option.bind_some, Act.put, List.setIfInBounds_toArray, List.set_cons_succ, List.set_cons_zero]
          intro g' W2 hBB hs hX2
          clear Cc Cf Cl Lc Lf Ll C2
          replace hC := hC.past hBB
          replace hL := hL.past hBB
          replace hE := hE.past hBB
          replace hX := hX.past hBB
          replace hB := below_to hB hBB
          replace j0 := (hBB.cell (p := ⟨b, off + k * 3, none⟩) hbr).trans j0
          replace j1 := (hBB.cell (p := ⟨b, off + k * 3 + 1, none⟩) hbr).trans j1
          replace j2 := (hBB.cell (p := ⟨b, off + k * 3 + 2, none⟩) hbr).trans j2
          replace hbr : b < W2.heap.size := Nat.lt_of_lt_of_le hbr hBB.size
          clear hBB hs
          obtain ⟨Xc, Xf, Xl⟩ := hX.facts
          obtain ⟨Yc, Yf, Yl⟩ := hX2.facts
          obtain ⟨Lc, Lf, Ll⟩ := hL.facts
          go_wp2_with fail
          refine wp_region_ext (by kernel_rfl) (by kernel_rfl) ?_
          repeat (go_big_quiet_step ((first | (go_at_call 20; with_reducible exact ext_of (C3.out _)) | (go_at_call 19; first | with_reducible exact ext_of (C4.out _) | with_reducible exact ext_of (C5.out _) | with_reducible exact ext_of (C6.out _)))))
          refine wpQuiet_nil ?_
          intro w3 hx
          obtain ⟨x, rfl⟩ := hx
          clear Xc Xf Xl Yc Yf Yl Lc Lf Ll j0 j1 j2 hbr
          replace hC := hC.past (extn_below _ x)
          replace hL := hL.past (extn_below _ x)
          replace hE := hE.past (extn_below _ x)
          replace hX := hX.past (extn_below _ x)
          replace hB := below_to hB (extn_below _ x)
          generalize extn W2 x = w3 at *
          obtain ⟨Xc, Xf, Xl⟩ := hX.facts
          obtain ⟨Ec, Ef, El⟩ := hE.facts
          have h0 : w.heap.size ≠ be := by omega
          have h1 : w.heap.size + 1 ≠ be := by omega
          go_wp2
          go_roundw
          case rel => exact ⟨k + 1, ⟨⟨s0, s1, s2⟩, s3⟩, by omega, by go_num, HC2.out, fun _ => HD2.out, (((hC.off h0 _).off h0 _).off h0 _).off h0 _, (((hL.off h1 _).off h1 _).off h1 _).off h1 _, (((hE.put 0 _ rfl).put 1 _ rfl).put 2 _ rfl).put 3 _ rfl, by go_grown⟩
          case measure => simp [intOf]; omega
        · obtain ⟨h1, h2⟩ := step_none e hg
          rw [h1] at c1
          rw [h2] at c2
          clear hg h1 h2 HC2
          obtain ⟨x0, x1, x2⟩ := x
          obtain ⟨⟨e0, e1, e2⟩, ec⟩ := e
          obtain ⟨mg, ho, sl⟩ := c
          obtain ⟨l0, l1, l2⟩ := limit
          have C1 := Lib.hid c1
          have C2 := Lib.hid c2
          clear c1 c2
          dsimp only at j0 j1 j2
          obtain ⟨Cc, Cf, Cl⟩ := hC.facts
          obtain ⟨Lc, Lf, Ll⟩ := hL.facts
          obtain ⟨Ec, Ef, El⟩ := hE.facts
          go_wp2_with fail
          apply wp_region_stored 11 27 #[.int .i64 0, .int .i64 0, .int .i64 0, .int .i64 0] #[.int .i64 zeroV.cpu, .int .i64 zeroV.mem, .int .i64 zeroV.disk, .int .i64 0]
          case hm => kernel_rfl
          case hB => kernel_rfl
          case hmk => exact ⟨_, rfl, rfl, fun a W => by kernel_rfl⟩
          case hq =>
            intro R hR x
            simp only [List.take_succ_cons, List.take_zero]
            repeat (go_big_quiet_step ((go_at_call 15; with_reducible exact later_of (C1.out _))))
            exact wpQuiet_nil hR
          case hst =>
            intro b
            refine ⟨_, rfl, rfl, rfl, fun W hX => ⟨putAll b W 0 [.int .i64 zeroV.cpu, .int .i64 zeroV.mem, .int .i64 zeroV.disk, .int .i64 0], ?_, putAll_all _ hX rfl, fun B w0 h hb => putAll_below h _ _ _ hb⟩⟩
            obtain ⟨Xc, Xf, Xl⟩ := hX.facts
            simp [go_sem, putAll, execOp, Act.put, Act.eval, Xc, Xf, Xl]
          simp only [List.drop_succ_cons, List.drop_zero, List.getElem?_toArray, List.getElem?_cons_succ, List.getElem?_cons_zero, Option.bind_some, Act.put, List.setIfInBounds_toArray, List.set_cons_succ, List.set_cons_zero]
          intro g W hBB hs hX
          clear Cc Cf Cl Lc Lf Ll Ec Ef El C1 hX
          replace hC := hC.past hBB
          replace hL := hL.past hBB
          replace hE := hE.past hBB
          replace hB := below_to hB hBB
          replace j0 := (hBB.cell (p := ⟨b, off + k * 3, none⟩) hbr).trans j0
          replace j1 := (hBB.cell (p := ⟨b, off + k * 3 + 1, none⟩) hbr).trans j1
          replace j2 := (hBB.cell (p := ⟨b, off + k * 3 + 2, none⟩) hbr).trans j2
          replace hbr : b < W.heap.size := Nat.lt_of_lt_of_le hbr hBB.size
          clear hBB hs hN
          obtain ⟨Cc, Cf, Cl⟩ := hC.facts
          obtain ⟨Lc, Lf, Ll⟩ := hL.facts
          go_wp2_with fail
          apply wp_region_stored 10 25 #[.int .i64 0, .int .i64 0, .int .i64 0] #[.int .i64 zeroV.cpu, .int .i64 zeroV.mem, .int .i64 zeroV.disk]
          case hm => kernel_rfl
          case hB => kernel_rfl
          case hmk => exact ⟨_, rfl, rfl, fun a W => by kernel_rfl⟩
          case hq =>
            intro R hR x
            simp only [List.take_succ_cons, List.take_zero]
            repeat (go_big_quiet_step ((go_at_call 18; with_reducible exact later_of (C2.out _))))
            exact wpQuiet_nil hR
          case hst =>
            intro b
            refine ⟨_, rfl, rfl, rfl, fun W hX => ⟨putAll b W 0 [.int .i64 zeroV.cpu, .int .i64 zeroV.mem, .int .i64 zeroV.disk], ?_, putAll_all _ hX rfl, fun B w0 h hb => putAll_below h _ _ _ hb⟩⟩
            obtain ⟨Xc, Xf, Xl⟩ := hX.facts
            simp [go_sem, putAll, execOp, Act.put, Act.eval, Xc, Xf, Xl]
          simp only [List.drop_succ_cons, List.drop_zero, List.getElem?_toArray, List.getElem?_cons_succ, List.getElem?_cons_zero, Option.bind_some, Act.put, List.setIfInBounds_toArray, List.set_cons_succ, List.set_cons_zero]
          intro g' W2 hBB hs hX2
          clear Cc Cf Cl Lc Lf Ll C2 j0 j1 j2 hbr
          replace hC := hC.past hBB
          replace hL := hL.past hBB
          replace hE := hE.past hBB
          replace hB := below_to hB hBB
          clear hBB hs
          go_wp2
          go_roundw
          case rel => exact ⟨k + 1, ⟨⟨e0, e1, e2⟩, ec⟩, by omega, by go_num, HK.out, HD.out, hC, hL, hE, hB⟩
          case measure => simp [intOf]; omega
      · obtain rfl : k = xs.length := by omega
        go_wp2_with fail
        refine (al.out _).mono ?_
        rintro r w1 ⟨rfl, hb1⟩; dsimp only
        replace hB := below_to hB hb1
        go_wp2_with fail
        go_ret
        exact ⟨rfl, hB⟩
end Go.Proofs.Ytbamgoocgmhohaa
