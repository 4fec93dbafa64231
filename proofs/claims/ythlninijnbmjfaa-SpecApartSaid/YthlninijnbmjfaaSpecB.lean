/- The law SpecApart of reevelaw16, walked. Conditions: the numbers are of their kinds. -/
import Derived.Test.YthlninijnbmjfaaSpecA
import Derived.Deep.DeepCutAuto
namespace Go.Proofs.Ythlninijnbmjfaa
open Go.RowKit

/-- A mixture so far: what is at block n is a job that may be; what is at block m is the second job. -/
def Mix (w : World) (m n : Nat) (b : JobSpec) (wx : World) : Prop := ∃ c : JobSpec, goodB c ∧ Blk wx n 68 c.cs ∧ Blk wx m 68 b.cs ∧ Below w.heap.size w wx
set_option maxRecDepth 100000 in
set_option maxHeartbeats 4000000 in
theorem SpecApart_walk (a : JobSpec) (ha : a.ok) (b : JobSpec) (hb : b.ok) (mix : Int) (_hm : U8 mix) (w : World) : Calls Try.prog 12 #[a.v, b.v, .int .u8 mix] w fun e w' => e = .returned (.bool true) ∧ Below w.heap.size w w' := by
  have AL := Lib.hid alive16
  have C1 := Lib.hid (spec_Job a)
  have C2 := Lib.hid (spec_Job b)
  have G1 : Hid (jobI a = 0 → goodB a) := Lib.hid (goodB_of ha)
  have G2 : Hid (jobI b = 0 → goodB b) := Lib.hid (goodB_of hb)
  generalize jobI a = z1 at *
  generalize jobI b = z2 at *
  obtain ⟨an, au, ab, ac, ⟨a0, a1, a2⟩, aa, ⟨ak, aw⟩⟩ := a
  obtain ⟨bn, bu, bb, bc, ⟨b0, b1, b2⟩, ba, ⟨bk, bw⟩⟩ := b
  have h1 : an.size ≤ 9223372036854775807 := ha.1
  have h2 : au.size ≤ 9223372036854775807 := ha.2.1
  have h3 : aa.size ≤ 9223372036854775807 := ha.2.2.2.2.2.1
  have h4 : bn.size ≤ 9223372036854775807 := hb.1
  have h5 : bu.size ≤ 9223372036854775807 := hb.2.1
  have h6 : ba.size ≤ 9223372036854775807 := hb.2.2.2.2.2.1
  have CL := Lib.hid (fun (g cp : Nat) (w : World) (h : Blk w g 9 #[.string an, .string au, .string aa, .string bn, .string bu, .string ba]) => law_long g 6 cp [an, au, aa, bn, bu, ba] w rfl (by decide) h.lt (by intro s hs; simp only [List.mem_cons, List.not_mem_nil, or_false] at hs; rcases hs with rfl | rfl | rfl | rfl | rfl | rfl <;> assumption) (fun i hi => (h.cell i).trans (by match i, hi with | 0, _ => rfl | 1, _ => rfl | 2, _ => rfl | 3, _ => rfl | 4, _ => rfl | 5, _ => rfl)))
  generalize decide (4096 < lenSum [an, au, aa, bn, bu, ba]) = lb at *
  clear h1 h2 h3 h4 h5 h6 ha hb
  go_enter Try.func12, Try.ntmps12
  go_wp2_with fail
  have L := Blk.new2 w (.cells #[.string an, .string au, .int .u8 ab, .int .i64 ac, .int .i64 a0, .int .i64 a1, .int .i64 a2, .string aa, .int .i64 ak, .int .i64 aw] 68) (.cells #[.string bn, .string bu, .int .u8 bb, .int .i64 bc, .int .i64 b0, .int .i64 b1, .int .i64 b2, .string ba, .int .i64 bk, .int .i64 bw] 68) 9 #[.string an, .string au, .string aa, .string bn, .string bu, .string ba]
  refine (CL.out _ _ _ L).mono ?_
  rintro r w1 ⟨rfl, rfl⟩; dsimp only
  have A := ((Blk.new w 68 #[.string an, .string au, .int .u8 ab, .int .i64 ac, .int .i64 a0, .int .i64 a1, .int .i64 a2, .string aa, .int .i64 ak, .int .i64 aw]).alloc (.cells #[.string bn, .string bu, .int .u8 bb, .int .i64 bc, .int .i64 b0, .int .i64 b1, .int .i64 b2, .string ba, .int .i64 bk, .int .i64 bw] 68)).alloc (.cells #[.string an, .string au, .string aa, .string bn, .string bu, .string ba] 9)
  have B := (Blk.new1 w (.cells #[.string an, .string au, .int .u8 ab, .int .i64 ac, .int .i64 a0, .int .i64 a1, .int .i64 a2, .string aa, .int .i64 ak, .int .i64 aw] 68) 68 #[.string bn, .string bu, .int .u8 bb, .int .i64 bc, .int .i64 b0, .int .i64 b1, .int .i64 b2, .string ba, .int .i64 bk, .int .i64 bw]).alloc (.cells #[.string an, .string au, .string aa, .string bn, .string bu, .string ba] 9)
  have hB : Below w.heap.size w (((w.alloc (.cells #[.string an, .string au, .int .u8 ab, .int .i64 ac, .int .i64 a0, .int .i64 a1, .int .i64 a2, .string aa, .int .i64 ak, .int .i64 aw] 68)).alloc (.cells #[.string bn, .string bu, .int .u8 bb, .int .i64 bc, .int .i64 b0, .int .i64 b1, .int .i64 b2, .string ba, .int .i64 bk, .int .i64 bw] 68)).alloc (.cells #[.string an, .string au, .string aa, .string bn, .string bu, .string ba] 9)) := by go_grown
  clear L CL
  obtain ⟨w1, hw1⟩ : ∃ w1, w1 = (((w.alloc (.cells #[.string an, .string au, .int .u8 ab, .int .i64 ac, .int .i64 a0, .int .i64 a1, .int .i64 a2, .string aa, .int .i64 ak, .int .i64 aw] 68)).alloc (.cells #[.string bn, .string bu, .int .u8 bb, .int .i64 bc, .int .i64 b0, .int .i64 b1, .int .i64 b2, .string ba, .int .i64 bk, .int .i64 bw] 68)).alloc (.cells #[.string an, .string au, .string aa, .string bn, .string bu, .string ba] 9)) := ⟨_, rfl⟩
  rw [← hw1] at A B hB ⊢
  clear hw1
  obtain ⟨Ac, Af, Al⟩ := A.facts
  cases lb with
  | true =>
    go_wp2_with fail
    refine (AL.out _).mono ?_
    rintro r w2 ⟨rfl, hb⟩; dsimp only
    replace hB : Below w.heap.size w w2 := below_to hB hb
    clear hb A Ac Af Al B
    go_wp2_with fail
    go_ret
    exact ⟨rfl, hB⟩
  | false =>
    go_wp2_with fail
    refine (C1.out _).mono ?_
    rintro r w2 ⟨rfl, hb⟩; dsimp only
    replace hB : Below w.heap.size w w2 := below_to hB hb
    replace A := A.past hb
    replace B := B.past hb
    clear hb Ac Af Al
    by_cases hz : z1 = 0
    · subst hz
      obtain ⟨Bc, Bf, Bl⟩ := B.facts
      go_wp2_with fail
      refine (C2.out _).mono ?_
      rintro r w3 ⟨rfl, hb⟩; dsimp only
      replace hB : Below w.heap.size w w3 := below_to hB hb
      replace A := A.past hb
      replace B := B.past hb
      clear hb Bc Bf Bl
      by_cases hz : z2 = 0
      · subst hz
        replace G1 := Lib.hid (G1.out (by first | rfl | trivial))
        replace G2 := Lib.hid (G2.out (by first | rfl | trivial))
        obtain ⟨Ac, Af, Al⟩ := A.facts
        go_upto_if 38 with (fail)
        have hn3 : w.heap.size + 1 < w3.heap.size := B.lt
        have hn4 : w.heap.size ≤ w3.heap.size := by omega
        have hM : Hid (Mix w (w.heap.size + 1) w3.heap.size ⟨bn, bu, bb, bc, ⟨b0, b1, b2⟩, ba, ⟨bk, bw⟩⟩ (w3.alloc (.cells #[.string an, .string au, .int .u8 ab, .int .i64 ac, .int .i64 a0, .int .i64 a1, .int .i64 a2, .string aa, .int .i64 ak, .int .i64 aw] 68))) := Lib.hid ⟨⟨an, au, ab, ac, ⟨a0, a1, a2⟩, aa, ⟨ak, aw⟩⟩, G1.out, Blk.new _ _ _, B.alloc _, below_own hB _⟩
        clear Ac Af Al A B hB G1
        obtain ⟨w4, hw4⟩ : ∃ w4, w4 = (w3.alloc (.cells #[.string an, .string au, .int .u8 ab, .int .i64 ac, .int .i64 a0, .int .i64 a1, .int .i64 a2, .string aa, .int .i64 ak, .int .i64 aw] 68)) := ⟨_, rfl⟩
        rw [← hw4] at hM ⊢
        clear hw4
        obtain ⟨n3, hn⟩ : ∃ n3, n3 = w3.heap.size := ⟨_, rfl⟩
        rw [← hn] at hM hn3 hn4 ⊢
        clear hn
        have hne : w.heap.size + 1 ≠ n3 := by omega
        clear hn3
        go_cut [] (fun wx => Hid (Mix w (w.heap.size + 1) n3 ⟨bn, bu, bb, bc, ⟨b0, b1, b2⟩, ba, ⟨bk, bw⟩⟩ wx))
        case first =>
          obtain ⟨⟨cn, cu, cb, cc, ⟨c0, c1, c2⟩, ca, ⟨ck, cw⟩⟩, hg', hC, hD, hE⟩ := hM.out
          have hg := Lib.hid hg'
          have hC' := Lib.hid hC
          have hD' := Lib.hid hD
          have hE' := Lib.hid hE
          clear hg' hM
          obtain ⟨Cc, Cf, Cl⟩ := hC.facts
          obtain ⟨Dc, Df, Dl⟩ := hD.facts
          clear hC hD hE
          go_wp2_with fail
          · go_meet
            exact Lib.hid ⟨⟨bn, bu, cb, cc, ⟨c0, c1, c2⟩, ca, ⟨ck, cw⟩⟩, ⟨G2.out.1, G2.out.2.1, hg.out.2.2.1, hg.out.2.2.2.1, hg.out.2.2.2.2.1, hg.out.2.2.2.2.2.1, hg.out.2.2.2.2.2.2.1, hg.out.2.2.2.2.2.2.2.1, hg.out.2.2.2.2.2.2.2.2⟩, ((hC'.out.put 0 _ rfl).put 1 _ rfl), ((hD'.out.far (p := ⟨n3, 0, none⟩) hne _).far (p := ⟨n3, 1, none⟩) hne _), ((hE'.out.setCell (p := ⟨n3, 0, none⟩) hn4 _).setCell (p := ⟨n3, 1, none⟩) hn4 _)⟩
          · go_meet
            exact Lib.hid ⟨⟨cn, cu, cb, cc, ⟨c0, c1, c2⟩, ca, ⟨ck, cw⟩⟩, hg.out, hC'.out, hD'.out, hE'.out⟩
        replace hM := hcut
        clear hcut
        go_upto_if 47 with (fail)
        go_cut [] (fun wx => Hid (Mix w (w.heap.size + 1) n3 ⟨bn, bu, bb, bc, ⟨b0, b1, b2⟩, ba, ⟨bk, bw⟩⟩ wx))
        case first =>
          obtain ⟨⟨cn, cu, cb, cc, ⟨c0, c1, c2⟩, ca, ⟨ck, cw⟩⟩, hg', hC, hD, hE⟩ := hM.out
          have hg := Lib.hid hg'
          have hC' := Lib.hid hC
          have hD' := Lib.hid hD
          have hE' := Lib.hid hE
          clear hg' hM
          obtain ⟨Cc, Cf, Cl⟩ := hC.facts
          obtain ⟨Dc, Df, Dl⟩ := hD.facts
          clear hC hD hE
          go_wp2_with fail
          · go_meet
            exact Lib.hid ⟨⟨cn, cu, bb, cc, ⟨c0, c1, c2⟩, ca, ⟨ck, cw⟩⟩, ⟨hg.out.1, hg.out.2.1, hg.out.2.2.1, G2.out.2.2.2.1, hg.out.2.2.2.2.1, hg.out.2.2.2.2.2.1, hg.out.2.2.2.2.2.2.1, hg.out.2.2.2.2.2.2.2.1, hg.out.2.2.2.2.2.2.2.2⟩, (hC'.out.put 2 _ rfl), (hD'.out.far (p := ⟨n3, 2, none⟩) hne _), (hE'.out.setCell (p := ⟨n3, 2, none⟩) hn4 _)⟩
          · go_meet
            exact Lib.hid ⟨⟨cn, cu, cb, cc, ⟨c0, c1, c2⟩, ca, ⟨ck, cw⟩⟩, hg.out, hC'.out, hD'.out, hE'.out⟩
        replace hM := hcut
        clear hcut
        go_upto_if 53 with (fail)
        go_cut [] (fun wx => Hid (Mix w (w.heap.size + 1) n3 ⟨bn, bu, bb, bc, ⟨b0, b1, b2⟩, ba, ⟨bk, bw⟩⟩ wx))
        case first =>
          obtain ⟨⟨cn, cu, cb, cc, ⟨c0, c1, c2⟩, ca, ⟨ck, cw⟩⟩, hg', hC, hD, hE⟩ := hM.out
          have hg := Lib.hid hg'
          have hC' := Lib.hid hC
          have hD' := Lib.hid hD
          have hE' := Lib.hid hE
          clear hg' hM
          obtain ⟨Cc, Cf, Cl⟩ := hC.facts
          obtain ⟨Dc, Df, Dl⟩ := hD.facts
          clear hC hD hE
          go_wp2_with fail
          · go_meet
            exact Lib.hid ⟨⟨cn, cu, cb, bc, ⟨c0, c1, c2⟩, ca, ⟨ck, cw⟩⟩, ⟨hg.out.1, hg.out.2.1, hg.out.2.2.1, hg.out.2.2.2.1, G2.out.2.2.2.2.1, hg.out.2.2.2.2.2.1, hg.out.2.2.2.2.2.2.1, hg.out.2.2.2.2.2.2.2.1, G2.out.2.2.2.2.2.2.2.2⟩, (hC'.out.put 3 _ rfl), (hD'.out.far (p := ⟨n3, 3, none⟩) hne _), (hE'.out.setCell (p := ⟨n3, 3, none⟩) hn4 _)⟩
          · go_meet
            exact Lib.hid ⟨⟨cn, cu, cb, cc, ⟨c0, c1, c2⟩, ca, ⟨ck, cw⟩⟩, hg.out, hC'.out, hD'.out, hE'.out⟩
        replace hM := hcut
        clear hcut
        go_upto_if 59 with (fail)
        go_cut [] (fun wx => Hid (Mix w (w.heap.size + 1) n3 ⟨bn, bu, bb, bc, ⟨b0, b1, b2⟩, ba, ⟨bk, bw⟩⟩ wx))
        case first =>
          obtain ⟨⟨cn, cu, cb, cc, ⟨c0, c1, c2⟩, ca, ⟨ck, cw⟩⟩, hg', hC, hD, hE⟩ := hM.out
          have hg := Lib.hid hg'
          have hC' := Lib.hid hC
          have hD' := Lib.hid hD
          have hE' := Lib.hid hE
          clear hg' hM
          obtain ⟨Cc, Cf, Cl⟩ := hC.facts
          obtain ⟨Dc, Df, Dl⟩ := hD.facts
          clear hC hD hE
          go_wp2_with fail
          · go_meet
            exact Lib.hid ⟨⟨cn, cu, cb, cc, ⟨b0, b1, b2⟩, ca, ⟨ck, cw⟩⟩, ⟨hg.out.1, hg.out.2.1, hg.out.2.2.1, hg.out.2.2.2.1, hg.out.2.2.2.2.1, G2.out.2.2.2.2.2.1, hg.out.2.2.2.2.2.2.1, G2.out.2.2.2.2.2.2.2.1, hg.out.2.2.2.2.2.2.2.2⟩, (((hC'.out.put 4 _ rfl).put 5 _ rfl).put 6 _ rfl), (((hD'.out.far (p := ⟨n3, 4, none⟩) hne _).far (p := ⟨n3, 5, none⟩) hne _).far (p := ⟨n3, 6, none⟩) hne _), (((hE'.out.setCell (p := ⟨n3, 4, none⟩) hn4 _).setCell (p := ⟨n3, 5, none⟩) hn4 _).setCell (p := ⟨n3, 6, none⟩) hn4 _)⟩
          · go_meet
            exact Lib.hid ⟨⟨cn, cu, cb, cc, ⟨c0, c1, c2⟩, ca, ⟨ck, cw⟩⟩, hg.out, hC'.out, hD'.out, hE'.out⟩
        replace hM := hcut
        clear hcut
        go_upto_if 65 with (fail)
        go_cut [] (fun wx => Hid (Mix w (w.heap.size + 1) n3 ⟨bn, bu, bb, bc, ⟨b0, b1, b2⟩, ba, ⟨bk, bw⟩⟩ wx))
        case first =>
          obtain ⟨⟨cn, cu, cb, cc, ⟨c0, c1, c2⟩, ca, ⟨ck, cw⟩⟩, hg', hC, hD, hE⟩ := hM.out
          have hg := Lib.hid hg'
          have hC' := Lib.hid hC
          have hD' := Lib.hid hD
          have hE' := Lib.hid hE
          clear hg' hM
          obtain ⟨Cc, Cf, Cl⟩ := hC.facts
          obtain ⟨Dc, Df, Dl⟩ := hD.facts
          clear hC hD hE
          go_wp2_with fail
          · go_meet
            exact Lib.hid ⟨⟨cn, cu, cb, cc, ⟨c0, c1, c2⟩, ca, ⟨bk, bw⟩⟩, ⟨hg.out.1, hg.out.2.1, hg.out.2.2.1, hg.out.2.2.2.1, hg.out.2.2.2.2.1, hg.out.2.2.2.2.2.1, G2.out.2.2.2.2.2.2.1, hg.out.2.2.2.2.2.2.2.1, hg.out.2.2.2.2.2.2.2.2⟩, ((hC'.out.put 8 _ rfl).put 9 _ rfl), ((hD'.out.far (p := ⟨n3, 8, none⟩) hne _).far (p := ⟨n3, 9, none⟩) hne _), ((hE'.out.setCell (p := ⟨n3, 8, none⟩) hn4 _).setCell (p := ⟨n3, 9, none⟩) hn4 _)⟩
          · go_meet
            exact Lib.hid ⟨⟨cn, cu, cb, cc, ⟨c0, c1, c2⟩, ca, ⟨ck, cw⟩⟩, hg.out, hC'.out, hD'.out, hE'.out⟩
        replace hM := hcut
        clear hcut
        go_upto_if 71 with (fail)
        go_cut [] (fun wx => Hid (Mix w (w.heap.size + 1) n3 ⟨bn, bu, bb, bc, ⟨b0, b1, b2⟩, ba, ⟨bk, bw⟩⟩ wx))
        case first =>
          obtain ⟨⟨cn, cu, cb, cc, ⟨c0, c1, c2⟩, ca, ⟨ck, cw⟩⟩, hg', hC, hD, hE⟩ := hM.out
          have hg := Lib.hid hg'
          have hC' := Lib.hid hC
          have hD' := Lib.hid hD
          have hE' := Lib.hid hE
          clear hg' hM
          obtain ⟨Cc, Cf, Cl⟩ := hC.facts
          obtain ⟨Dc, Df, Dl⟩ := hD.facts
          clear hC hD hE
          go_wp2_with fail
          · go_meet
            exact Lib.hid ⟨⟨cn, cu, cb, cc, ⟨c0, c1, c2⟩, ba, ⟨ck, cw⟩⟩, ⟨hg.out.1, hg.out.2.1, G2.out.2.2.1, hg.out.2.2.2.1, hg.out.2.2.2.2.1, hg.out.2.2.2.2.2.1, hg.out.2.2.2.2.2.2.1, hg.out.2.2.2.2.2.2.2.1, hg.out.2.2.2.2.2.2.2.2⟩, (hC'.out.put 7 _ rfl), (hD'.out.far (p := ⟨n3, 7, none⟩) hne _), (hE'.out.setCell (p := ⟨n3, 7, none⟩) hn4 _)⟩
          · go_meet
            exact Lib.hid ⟨⟨cn, cu, cb, cc, ⟨c0, c1, c2⟩, ca, ⟨ck, cw⟩⟩, hg.out, hC'.out, hD'.out, hE'.out⟩
        replace hM := hcut
        clear hcut
        obtain ⟨c, hg, hC, _, hB⟩ := hM.out
        clear hM G2
        obtain ⟨t, ht, hf1, hf2, hf3⟩ := apart_wants hg.2.2.2.2.2.1 hg.2.2.2.2.1
        have c3 := spec_Total c hg.2.2.2.2.2.2.2.1 hg.2.2.2.2.2.2.2.2
        have c4 := spec_Job c
        rw [goodB_job hg] at c3 c4
        rw [show allR 0 c.limit c.count = (t, 0) by unfold allR; rw [if_pos rfl, ht]] at c3
        clear ht hg
        have c5 := vec_Fits ⟨0, 0, 0⟩ t
        have c6 := vec_Fits t ⟨70368744177664, 70368744177664, 70368744177664⟩
        rw [hf1] at c5
        rw [hf2] at c6
        clear hf1 hf2
        obtain ⟨cn, cu, cb, cc, ⟨c0, c1, c2⟩, ca, ⟨ck, cw⟩⟩ := c
        obtain ⟨t0, t1, t2⟩ := t
        have C3 := Lib.hid c3
        have C4 := Lib.hid c4
        have C5 := Lib.hid c5
        have C6 := Lib.hid c6
        clear c3 c4 c5 c6
        have q1 := neq_vec
        obtain ⟨Cc, Cf, Cl⟩ := hC.facts
        go_wp2_with fail
        refine (C3.out _).mono ?_
        rintro r w5 ⟨rfl, hb⟩; dsimp only
        replace hC := hC.past hb
        replace hB : Below w.heap.size w w5 := below_to hB hb
        clear hb Cc Cf Cl
        obtain ⟨Cc, Cf, Cl⟩ := hC.facts
        go_wp2_with fail
        refine (C4.out _).mono ?_
        rintro r w6 ⟨rfl, hb⟩; dsimp only
        have hT := (Blk.new w5 66 #[.int .i64 t0, .int .i64 t1, .int .i64 t2]).past hb
        replace hB : Below w.heap.size w w6 := below_to (below_own hB _) hb
        clear hb Cc Cf Cl hC
        obtain ⟨Tc, Tf, Tl⟩ := hT.facts
        go_wp2_with fail
        refine (C5.out _).mono ?_
        rintro r w7 ⟨rfl, hb⟩; dsimp only
        replace hB : Below w.heap.size w w7 := below_to hB hb
        replace hT := hT.past hb
        clear hb Tc Tf Tl
        obtain ⟨Tc, Tf, Tl⟩ := hT.facts
        go_wp2_with fail
        refine (C6.out _).mono ?_
        rintro r w8 ⟨rfl, hb⟩; dsimp only
        replace hB : Below w.heap.size w w8 := below_to hB hb
        replace hT := hT.past hb
        clear hb Tc Tf Tl
        obtain ⟨Tc, Tf, Tl⟩ := hT.facts
        go_wp2_with fail
        refine (AL.out _).mono ?_
        rintro r w9 ⟨rfl, hb⟩; dsimp only
        replace hB : Below w.heap.size w w9 := below_to hB hb
        clear hb Tc Tf Tl hT
        go_wp2_with fail
        go_ret
        exact ⟨rfl, hB⟩
      · have h0' : (z2 == 0) = false := by simpa using hz
        have h0'' : (z2 != 0) = true := by rw [bne, h0']; rfl
        clear hz
        go_wp2_with fail
        refine (AL.out _).mono ?_
        rintro r w4 ⟨rfl, hb⟩; dsimp only
        replace hB : Below w.heap.size w w4 := below_to hB hb
        clear hb A B
        go_wp2_with fail
        go_ret
        exact ⟨rfl, hB⟩
    · have h0' : (z1 == 0) = false := by simpa using hz
      have h0'' : (z1 != 0) = true := by rw [bne, h0']; rfl
      clear hz
      go_wp2_with fail
      refine (AL.out _).mono ?_
      rintro r w3 ⟨rfl, hb⟩; dsimp only
      replace hB : Below w.heap.size w w3 := below_to hB hb
      clear hb A B
      go_wp2_with fail
      go_ret
      exact ⟨rfl, hB⟩
end Go.Proofs.Ythlninijnbmjfaa
