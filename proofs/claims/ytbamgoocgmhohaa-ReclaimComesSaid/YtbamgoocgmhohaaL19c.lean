/- The law ReclaimSteps of reevelaw19, walked. Conditions: the numbers are of their kinds. -/
import Derived.Test.YtbamgoocgmhohaaL19
import Derived.Test.YtbamgoocgmhohaaL19p
import Derived.Test.YtbamgoocgmhohaaRec6
namespace Go.Proofs.Ytbamgoocgmhohaa
open Go.RowKit

theorem vecs_past {w w' : World} {A : Option Addr} {xs : List Vec} (h : VecsIn w A xs) (hb : Below w.heap.size w w') : VecsIn w' A xs := fun hne => by
  obtain ⟨b, off, hA, hlt, hc⟩ := h hne
  refine ⟨b, off, hA, Nat.lt_of_lt_of_le hlt hb.size, fun i hi => ?_⟩
  obtain ⟨h0, h1, h2⟩ := hc i hi
  exact ⟨(hb.cell hlt).trans h0, (hb.cell hlt).trans h1, (hb.cell hlt).trans h2⟩
abbrev Est.cs (e : Est) : Array Value := #[.int .i64 e.value.cpu, .int .i64 e.value.mem, .int .i64 e.value.disk, .int .i64 e.calm]
abbrev Vec.cs (a : Vec) : Array Value := #[.int .i64 a.cpu, .int .i64 a.mem, .int .i64 a.disk]
set_option maxRecDepth 100000 in
set_option maxHeartbeats 8000000 in
theorem ReclaimSteps_walk (c : Conf) (hc : c.ok) (limit : Vec) (hl : limit.ok) (e : Est) (he : e.ok) (A : Option Addr) (n cp : Nat) (xs : List Vec) (hx : xs.length = n) (hn : n * 24 ≤ 140737488351232) (hok : ∀ x ∈ xs, x.ok) {w : World} (hr : VecsIn w A xs) :
    Calls Try.prog 3 #[c.v, limit.v, e.v, .slice A n cp] w fun r w' => r = .returned (.bool true) ∧ Below w.heap.size w w' := by
  have al := Lib.hid alive19
  obtain ⟨_, hh, _⟩ := hc
  obtain ⟨_, hk⟩ := he
  clear hl hok
  subst hx
  by_cases hbig : 4096 < xs.length
  · clear hh hk hr
    obtain ⟨mg, ho, sl⟩ := c
    obtain ⟨l0, l1, l2⟩ := limit
    obtain ⟨⟨e0, e1, e2⟩, ec⟩ := e
    have hb : (4096 : Int) < xs.length := by omega
    go_enter Try.func3, Try.ntmps3
    go_wp2_with fail
    refine (al.out _).mono ?_
    rintro r w1 ⟨rfl, hb1⟩; dsimp only
    have hB : Below w.heap.size w w1 := below_to (by go_grown) hb1
    go_wp2_with fail
    go_ret
    exact ⟨rfl, hB⟩
  · have hb : ¬ (4096 : Int) < xs.length := by omega
    have HR := Lib.hid hr
    clear hr
    have HH := Lib.hid hh
    have HK := Lib.hid hk
    clear hh hk
    go_enter Try.func3, Try.ntmps3
    go_wp2_with fail
    refine wp_world (fun W => Blk W w.heap.size 23 c.cs ∧ Blk W (w.heap.size + 1) 25 limit.cs ∧ Blk W (w.heap.size + 1 + 1) 27 e.cs ∧ Below w.heap.size w W) ⟨((Blk.new _ _ _).alloc _).alloc _, (Blk.new1 _ _ _ _).alloc _, Blk.new2 _ _ _ _ _, by go_grown⟩ ?_
    rintro W ⟨hC, hL, hE, hB⟩
    go_loopw [9] (fun i wr => ∃ (k : Nat) (e : Est), k ≤ xs.length ∧ i = .int .i64 k ∧ I64 e.calm ∧ Blk wr w.heap.size 23 c.cs ∧ Blk wr (w.heap.size + 1) 25 limit.cs ∧ Blk wr (w.heap.size + 1 + 1) 27 e.cs ∧ Below w.heap.size w wr) (fun i _ => xs.length - (intOf i).toNat)
    case atStart => exact ⟨0, e, Nat.zero_le _, rfl, HK.out, hC, hL, hE, hB⟩
    case round =>
      clear hC hL hE hB HK
      obtain ⟨k, e, hk, rfl, hcalm, hC, hL, hE, hB⟩ := hrel
      have HK := Lib.hid hcalm
      clear hcalm
      by_cases hlt : k < xs.length
      · obtain ⟨b, off, rfl, hbA, hcell⟩ := HR.out (by intro e; rw [e] at hlt; simp at hlt)
        obtain ⟨k0, k1, k2⟩ := hcell k hlt
        have j0 := (hB.cell (p := ⟨b, off + k * 3, none⟩) hbA).trans k0
        have j1 := (hB.cell (p := ⟨b, off + k * 3 + 1, none⟩) hbA).trans k1
        have j2 := (hB.cell (p := ⟨b, off + k * 3 + 2, none⟩) hbA).trans k2
        clear k0 k1 k2 hcell
        have hN := hE.lt
        have hbr : b < wr.heap.size := by omega
        have HC2 := Lib.hid (stepR_calm c limit e xs[k])
        have c1 := rec_Step c limit e xs[k] HH.out HK.out
        have c2 := ref_Step c limit e xs[k] HH.out HK.out
        generalize stepR c limit e xs[k] = s at *
        generalize xs[k] = x at *
        obtain ⟨⟨⟨s0, s1, s2⟩, s3⟩, sf⟩ := s
        obtain ⟨x0, x1, x2⟩ := x
        obtain ⟨⟨e0, e1, e2⟩, ec⟩ := e
        obtain ⟨mg, ho, sl⟩ := c
        obtain ⟨l0, l1, l2⟩ := limit
        have C1 := Lib.hid c1
        have C2 := Lib.hid c2
        clear c1 c2
        dsimp only at j0 j1 j2
        obtain ⟨Cc, Cf, Cl⟩ := hC.facts
        obtain ⟨Lc, Lf, Ll⟩ := hL.facts
        obtain ⟨Ec, Ef, El⟩ := hE.facts
        have hbe : w.heap.size + 1 + 1 ≠ b := by omega
        go_wp2_with fail
        apply wp_region_stored 11 27 #[.int .i64 0, .int .i64 0, .int .i64 0, .int .i64 0] #[.int .i64 s0, .int .i64 s1, .int .i64 s2, .int .i64 s3]
        case hm => kernel_rfl
        case hB => kernel_rfl
        case hmk => exact ⟨_, rfl, rfl, fun a W => by kernel_rfl⟩
        case hq =>
          intro R hR x
          simp only [List.take_succ_cons, List.take_zero]
          repeat (go_big_quiet_step ((go_at_call 15; with_reducible exact later_of (C1.out _))))
          exact wpQuiet_nil hR
        case hst =>
          intro b
          refine ⟨_, rfl, rfl, rfl, fun W hX => ⟨putAll b W 0 [.int .i64 s0, .int .i64 s1, .int .i64 s2, .int .i64 s3], ?_, putAll_all _ hX rfl, fun B w0 h hb => putAll_below h _ _ _ hb⟩⟩
          obtain ⟨Xc, Xf, Xl⟩ := hX.facts
          simp [go_sem, putAll, execOp, Act.put, Act.eval, Xc, Xf, Xl]
        simp only [List.drop_succ_cons, List.drop_zero, List.getElem?_toArray, List.getElem?_cons_succ, List.getElem?_cons_zero, Option.bind_some, Act.put, List.setIfInBounds_toArray, List.set_cons_succ, List.set_cons_zero]
        intro g W hBB hs hX
        clear Cc Cf Cl Lc Lf Ll Ec Ef El C1
        replace hC := hC.past hBB
        replace hL := hL.past hBB
        replace hE := hE.past hBB
        replace hB := below_to hB hBB
        replace j0 := (hBB.cell (p := ⟨b, off + k * 3, none⟩) hbr).trans j0
        replace j1 := (hBB.cell (p := ⟨b, off + k * 3 + 1, none⟩) hbr).trans j1
        replace j2 := (hBB.cell (p := ⟨b, off + k * 3 + 2, none⟩) hbr).trans j2
        have hbW : b < W.heap.size := Nat.lt_of_lt_of_le hbr hBB.size
        have hgE : w.heap.size + 1 + 1 < g := Nat.lt_of_lt_of_le hN hs
        clear hBB hs hN hbr
        obtain ⟨Cc, Cf, Cl⟩ := hC.facts
        obtain ⟨Lc, Lf, Ll⟩ := hL.facts
        obtain ⟨Ec, Ef, El⟩ := hE.facts
        go_wp2_with fail
        apply wp_region_stored 11 27 #[.int .i64 0, .int .i64 0, .int .i64 0, .int .i64 0] #[.int .i64 s0, .int .i64 s1, .int .i64 s2, .int .i64 s3]
        case hm => kernel_rfl
        case hB => kernel_rfl
        case hmk => exact ⟨_, rfl, rfl, fun a W => by kernel_rfl⟩
        case hq =>
          intro R hR x
          simp only [List.take_succ_cons, List.take_zero]
          repeat (go_big_quiet_step ((go_at_call 16; with_reducible exact later_of (C2.out _))))
          exact wpQuiet_nil hR
        case hst =>
          intro b
          refine ⟨_, rfl, rfl, rfl, fun W hX => ⟨putAll b W 0 [.int .i64 s0, .int .i64 s1, .int .i64 s2, .int .i64 s3], ?_, putAll_all _ hX rfl, fun B w0 h hb => putAll_below h _ _ _ hb⟩⟩
          obtain ⟨Xc, Xf, Xl⟩ := hX.facts
          simp [go_sem, putAll, execOp, Act.put, Act.eval, Xc, Xf, Xl]
        simp only [List.drop_succ_cons, List.drop_zero, List.getElem?_toArray, List.getElem?_cons_succ, List.getElem?_cons_zero, Option.bind_some, Act.put, List.setIfInBounds_toArray, List.set_cons_succ, List.set_cons_zero]
        intro g2 W2 hBB hs hX2
        clear Cc Cf Cl Lc Lf Ll Ec Ef El C2 j0 j1 j2 hbW
        replace hC := hC.past hBB
        replace hL := hL.past hBB
        replace hE := hE.past hBB
        replace hX := hX.past hBB
        replace hB := below_to hB hBB
        clear hBB hs
        obtain ⟨Xc, Xf, Xl⟩ := hX.facts
        obtain ⟨Yc, Yf, Yl⟩ := hX2.facts
        obtain ⟨Ec, Ef, El⟩ := hE.facts
        have q1 := neq_est
        have q2 : ∀ a : Est, eqE a a = true := fun a => decide_eq_true rfl
        by_cases hsf : sf = 0
        · subst hsf
          have h0 : w.heap.size ≠ w.heap.size + 1 + 1 := by omega
          have h1 : w.heap.size + 1 ≠ w.heap.size + 1 + 1 := by omega
          go_wp2
          go_roundw
          case rel => exact ⟨k + 1, ⟨⟨s0, s1, s2⟩, s3⟩, by omega, by go_num, HC2.out, (((hC.off h0 _).off h0 _).off h0 _).off h0 _, (((hL.off h1 _).off h1 _).off h1 _).off h1 _, (((hE.put 0 _ rfl).put 1 _ rfl).put 2 _ rfl).put 3 _ rfl, by go_grown⟩
          case measure => simp [intOf]; omega
        · have hsf' : (sf == 0) = false := by simpa using hsf
          go_wp2
          go_roundw
          case rel => exact ⟨k + 1, ⟨⟨e0, e1, e2⟩, ec⟩, by omega, by go_num, HK.out, hC, hL, hE, hB⟩
          case measure => simp [intOf]; omega
      · obtain rfl : k = xs.length := by omega
        go_wp2_with fail
        refine (al.out _).mono ?_
        rintro r w1 ⟨rfl, hb1⟩; dsimp only
        replace hB := below_to hB hb1
        go_wp2_with fail
        go_ret
        exact ⟨rfl, hB⟩
end Go.Proofs.Ytbamgoocgmhohaa
