/- The known run of reevelaw19. Conditions: none. -/
import Derived.Test.YtbamgoocgmhohaaRec4
import Derived.Test.YtbamgoocgmhohaaRec6
import Derived.Test.YtbamgoocgmhohaaK7
namespace Go.Proofs.Ytbamgoocgmhohaa
open Go.RowKit

set_option maxHeartbeats 400000 in
theorem law_all (n : Int) (w : World) :
    Calls Try.prog 47 #[.int .i64 n] w fun e w' => e = .returned (.agg #[.int .i64 n, .int .i64 n, .int .i64 n]) ∧ Below w.heap.size w w' := by
  go_enter Try.func47, Try.ntmps47
  go_wp2
  go_returns
  exact ⟨rfl, by go_grown⟩
theorem eqE_self (a : Est) : eqE a a = true := decide_eq_true rfl
def E19 : Nat → Array Value
  | 0 => #[.int .i64 100, .int .i64 100, .int .i64 100, .int .i64 0]
  | 1 => #[.int .i64 100, .int .i64 100, .int .i64 100, .int .i64 1]
  | 2 => #[.int .i64 100, .int .i64 100, .int .i64 100, .int .i64 2]
  | 3 => #[.int .i64 77, .int .i64 77, .int .i64 77, .int .i64 3]
  | _ => #[.int .i64 66, .int .i64 66, .int .i64 66, .int .i64 4]
def W19 : Array Value := #[.int .i64 100, .int .i64 100, .int .i64 100, .int .i64 1, .int .i64 100, .int .i64 100, .int .i64 100, .int .i64 2, .int .i64 77, .int .i64 77, .int .i64 77, .int .i64 3, .int .i64 66, .int .i64 66, .int .i64 66, .int .i64 4]
set_option maxRecDepth 100000 in
set_option maxHeartbeats 4000000 in
theorem alive19 (w : World) : Calls Try.prog 14 #[] w fun e w' => e = .returned (.bool true) ∧ Below w.heap.size w w' := by
  have cB := Lib.hid (rec_Begin ⟨100, 100, 100⟩)
  have cM := fun W => rec_May ⟨10, 2, 1⟩ W
  rw [show mayConf ⟨10, 2, 1⟩ = true by decide] at cM
  have CM := Lib.hid cM
  clear cM
  have q1 := neq_est
  have q2 := eqE_self
  go_enter Try.func14, Try.ntmps14
  go_wp2_with fail
  refine (law_all _ _).mono ?_
  rintro r w1 ⟨rfl, hb⟩; dsimp only
  have hC := (Blk.new w 23 #[.int .i64 10, .int .i64 2, .int .i64 1]).past hb
  have hB : Below w.heap.size w w1 := below_to (by go_grown) hb
  clear hb
  obtain ⟨Cc, Cf, Cl⟩ := hC.facts
  go_wp2_with fail
  refine (cB.out _).mono ?_
  rintro r w2 ⟨rfl, hb⟩; dsimp only
  clear Cc Cf Cl
  replace hC := hC.past hb
  replace hB := below_to hB hb
  clear hb
  obtain ⟨Cc, Cf, Cl⟩ := hC.facts
  go_wp2_with fail
  refine wp_region_ext (by kernel_rfl) (by kernel_rfl) ?_
  repeat (go_big_quiet_step ((first | (go_at_call 47; exact ext_of (law_all _ _)) | (go_at_call 22; with_reducible exact ext_of (CM.out _)))))
  refine wpQuiet_nil ?_
  intro w3 hx
  obtain ⟨x, rfl⟩ := hx
  clear Cc Cf Cl
  have hC0 := hC
  replace hC := (hC.alloc (.cells #[.int .i64 100, .int .i64 100, .int .i64 100, .int .i64 0] 27)).past (extn_below _ x)
  have hE := (Blk.new w2 27 #[.int .i64 100, .int .i64 100, .int .i64 100, .int .i64 0]).past (extn_below _ x)
  have hN : w.heap.size < w2.heap.size := hC0.lt
  replace hB := below_to (below_own hB _) (extn_below _ x)
  generalize extn (w2.alloc (.cells #[.int .i64 100, .int .i64 100, .int .i64 100, .int .i64 0] 27)) x = w3 at *
  clear hC0
  generalize w2.heap.size = be at *
  go_wp2_with fail
  refine (law_all _ _).mono ?_
  rintro r w4 ⟨rfl, hb⟩; dsimp only
  replace hC := hC.past hb
  replace hE := hE.past hb
  replace hB := below_to hB hb
  clear hb
  go_wp2_with fail
  refine (law_all _ _).mono ?_
  rintro r w5 ⟨rfl, hb⟩; dsimp only
  replace hC := hC.past hb
  replace hE := hE.past hb
  replace hB := below_to hB hb
  clear hb
  go_wp2_with fail
  refine (law_all _ _).mono ?_
  rintro r w6 ⟨rfl, hb⟩; dsimp only
  replace hC := hC.past hb
  replace hE := hE.past hb
  replace hB := below_to hB hb
  clear hb
  go_wp2_with fail
  refine (law_all _ _).mono ?_
  rintro r w7 ⟨rfl, hb⟩; dsimp only
  replace hC := hC.past hb
  replace hE := hE.past hb
  replace hB := below_to hB hb
  clear hb
  have El7 := hE.lt
  go_wp2_with fail
  replace hC := hC.alloc (.cells W19 27)
  replace hE := hE.alloc (.cells W19 27)
  have hS := Blk.new w7 27 W19
  have hbx : w7.heap.size ≠ be := Nat.ne_of_gt El7
  have hbw : w.heap.size ≠ be := by omega
  replace hB := below_own hB (.cells W19 27)
  refine wp_world (fun W => Blk W be 27 (E19 0) ∧ Blk W w.heap.size 23 #[.int .i64 10, .int .i64 2, .int .i64 1] ∧ Blk W w7.heap.size 27 W19 ∧ Below w.heap.size w W) ⟨hE, hC, hS, hB⟩ ?_
  clear hC hE hS hB
  generalize w7.heap.size = bs at *
  rintro w8 ⟨hE, hC, hS, hB⟩
  go_loopw [4] (fun i wr => ∃ k : Nat, k ≤ 4 ∧ i = .int .i64 k ∧ Blk wr be 27 (E19 k) ∧ Blk wr w.heap.size 23 #[.int .i64 10, .int .i64 2, .int .i64 1] ∧ Blk wr bs 27 W19 ∧ Below w.heap.size w wr) (fun i _ => 4 - (intOf i).toNat)
  case atStart => exact ⟨0, by decide, rfl, hE, hC, hS, hB⟩
  case round =>
    clear hE hC hS hB
    obtain ⟨k, hk, rfl, hE, hC, hS, hB⟩ := hrel
    rcases (show k = 0 ∨ k = 1 ∨ k = 2 ∨ k = 3 ∨ k = 4 by omega) with rfl | rfl | rfl | rfl | rfl
    · skip
      have cS := fun W => rec_Step ⟨10, 2, 1⟩ ⟨100, 100, 100⟩ ⟨⟨100, 100, 100⟩, 0⟩ ⟨50, 50, 50⟩ (by decide) (by decide) W
      rw [show stepR ⟨10, 2, 1⟩ ⟨100, 100, 100⟩ ⟨⟨100, 100, 100⟩, 0⟩ ⟨50, 50, 50⟩ = (⟨⟨100, 100, 100⟩, 1⟩, 0) by decide] at cS
      have CS := Lib.hid cS
      clear cS
      replace hE : Blk wr be 27 #[.int .i64 100, .int .i64 100, .int .i64 100, .int .i64 0] := hE
      replace hS : Blk wr bs 27 W19 := hS
      unfold W19 at hS
      obtain ⟨Cc, Cf, Cl⟩ := hC.facts
      obtain ⟨Ec, Ef, El⟩ := hE.facts
      obtain ⟨Sc, Sf, Sl⟩ := hS.facts
      go_wp2_with fail
      apply wp_region_stored 8 27 #[.int .i64 0, .int .i64 0, .int .i64 0, .int .i64 0] #[.int .i64 100, .int .i64 100, .int .i64 100, .int .i64 1]
      case hm => kernel_rfl
      case hB => kernel_rfl
      case hmk => exact ⟨_, rfl, rfl, fun a W => by kernel_rfl⟩
      case hq =>
        intro R hR x
        simp only [List.take_succ_cons, List.take_zero]
        repeat (go_big_quiet_step ((first | (go_at_call 47; exact later_of (law_all _ _)) | (go_at_call 15; with_reducible exact later_of (CS.out _)))))
        exact wpQuiet_nil hR
      case hst =>
        intro b
        refine ⟨_, rfl, rfl, rfl, fun W hX => ⟨putAll b W 0 [.int .i64 100, .int .i64 100, .int .i64 100, .int .i64 1], ?_, putAll_all _ hX rfl, fun B w0 h hb => putAll_below h _ _ _ hb⟩⟩
        obtain ⟨Xc, Xf, Xl⟩ := hX.facts
        simp [go_sem, putAll, execOp, Act.put, Act.eval, Xc, Xf, Xl]
      simp only [List.drop_succ_cons, List.drop_zero, List.getElem?_toArray, List.getElem?_cons_succ, List.getElem?_cons_zero, Option.bind_some, Act.put, List.setIfInBounds_toArray, List.set_cons_succ, List.set_cons_zero]
      intro b W hBB hs hX
      clear Cc Cf Cl Ec Ef El Sc Sf Sl CS
      have hbe : be ≠ b := by have := hE.lt; omega
      have hle : w.heap.size ≤ b := by have := hC.lt; omega
      replace hC := hC.past hBB
      replace hE := hE.past hBB
      replace hS := hS.past hBB
      replace hB := below_to hB hBB
      clear hBB hs
      go_wp2_with fail
      obtain ⟨Xc, Xf, Xl⟩ := hX.facts
      obtain ⟨Sc, Sf, Sl⟩ := hS.facts
      refine wp_region_ext (by kernel_rfl) (by kernel_rfl) ?_
      repeat (go_big_quiet_step (fail))
      refine wpQuiet_nil ?_
      intro w8 hx
      obtain ⟨x, rfl⟩ := hx
      clear Xc Xf Xl Sc Sf Sl
      replace hX := hX.past (extn_below _ x)
      replace hE := hE.past (extn_below _ x)
      replace hS := hS.past (extn_below _ x)
      replace hC := hC.past (extn_below _ x)
      replace hB := below_to hB (extn_below _ x)
      generalize extn W x = w8 at *
      obtain ⟨Xc, Xf, Xl⟩ := hX.facts
      obtain ⟨Ec, Ef, El⟩ := hE.facts
      go_wp2
      go_roundw
      case rel => exact ⟨1, by decide, rfl, (((hE.put 0 _ rfl).put 1 _ rfl).put 2 _ rfl).put 3 _ rfl, (((hC.off hbw _).off hbw _).off hbw _).off hbw _, (((hS.off hbx _).off hbx _).off hbx _).off hbx _, by go_grown⟩
      case measure => simp [intOf]
    · skip
      have cS := fun W => rec_Step ⟨10, 2, 1⟩ ⟨100, 100, 100⟩ ⟨⟨100, 100, 100⟩, 1⟩ ⟨50, 50, 50⟩ (by decide) (by decide) W
      rw [show stepR ⟨10, 2, 1⟩ ⟨100, 100, 100⟩ ⟨⟨100, 100, 100⟩, 1⟩ ⟨50, 50, 50⟩ = (⟨⟨100, 100, 100⟩, 2⟩, 0) by decide] at cS
      have CS := Lib.hid cS
      clear cS
      replace hE : Blk wr be 27 #[.int .i64 100, .int .i64 100, .int .i64 100, .int .i64 1] := hE
      replace hS : Blk wr bs 27 W19 := hS
      unfold W19 at hS
      obtain ⟨Cc, Cf, Cl⟩ := hC.facts
      obtain ⟨Ec, Ef, El⟩ := hE.facts
      obtain ⟨Sc, Sf, Sl⟩ := hS.facts
      go_wp2_with fail
      apply wp_region_stored 8 27 #[.int .i64 0, .int .i64 0, .int .i64 0, .int .i64 0] #[.int .i64 100, .int .i64 100, .int .i64 100, .int .i64 2]
      case hm => kernel_rfl
      case hB => kernel_rfl
      case hmk => exact ⟨_, rfl, rfl, fun a W => by kernel_rfl⟩
      case hq =>
        intro R hR x
        simp only [List.take_succ_cons, List.take_zero]
        repeat (go_big_quiet_step ((first | (go_at_call 47; exact later_of (law_all _ _)) | (go_at_call 15; with_reducible exact later_of (CS.out _)))))
        exact wpQuiet_nil hR
      case hst =>
        intro b
        refine ⟨_, rfl, rfl, rfl, fun W hX => ⟨putAll b W 0 [.int .i64 100, .int .i64 100, .int .i64 100, .int .i64 2], ?_, putAll_all _ hX rfl, fun B w0 h hb => putAll_below h _ _ _ hb⟩⟩
        obtain ⟨Xc, Xf, Xl⟩ := hX.facts
        simp [go_sem, putAll, execOp, Act.put, Act.eval, Xc, Xf, Xl]
      simp only [List.drop_succ_cons, List.drop_zero, List.getElem?_toArray, List.getElem?_cons_succ, List.getElem?_cons_zero, Option.bind_some, Act.put, List.setIfInBounds_toArray, List.set_cons_succ, List.set_cons_zero]
      intro b W hBB hs hX
      clear Cc Cf Cl Ec Ef El Sc Sf Sl CS
      have hbe : be ≠ b := by have := hE.lt; omega
      have hle : w.heap.size ≤ b := by have := hC.lt; omega
      replace hC := hC.past hBB
      replace hE := hE.past hBB
      replace hS := hS.past hBB
      replace hB := below_to hB hBB
      clear hBB hs
      go_wp2_with fail
      obtain ⟨Xc, Xf, Xl⟩ := hX.facts
      obtain ⟨Sc, Sf, Sl⟩ := hS.facts
      refine wp_region_ext (by kernel_rfl) (by kernel_rfl) ?_
      repeat (go_big_quiet_step (fail))
      refine wpQuiet_nil ?_
      intro w8 hx
      obtain ⟨x, rfl⟩ := hx
      clear Xc Xf Xl Sc Sf Sl
      replace hX := hX.past (extn_below _ x)
      replace hE := hE.past (extn_below _ x)
      replace hS := hS.past (extn_below _ x)
      replace hC := hC.past (extn_below _ x)
      replace hB := below_to hB (extn_below _ x)
      generalize extn W x = w8 at *
      obtain ⟨Xc, Xf, Xl⟩ := hX.facts
      obtain ⟨Ec, Ef, El⟩ := hE.facts
      go_wp2
      go_roundw
      case rel => exact ⟨2, by decide, rfl, (((hE.put 0 _ rfl).put 1 _ rfl).put 2 _ rfl).put 3 _ rfl, (((hC.off hbw _).off hbw _).off hbw _).off hbw _, (((hS.off hbx _).off hbx _).off hbx _).off hbx _, by go_grown⟩
      case measure => simp [intOf]
    · skip
      have cS := fun W => rec_Step ⟨10, 2, 1⟩ ⟨100, 100, 100⟩ ⟨⟨100, 100, 100⟩, 2⟩ ⟨50, 50, 50⟩ (by decide) (by decide) W
      rw [show stepR ⟨10, 2, 1⟩ ⟨100, 100, 100⟩ ⟨⟨100, 100, 100⟩, 2⟩ ⟨50, 50, 50⟩ = (⟨⟨77, 77, 77⟩, 3⟩, 0) by decide] at cS
      have CS := Lib.hid cS
      clear cS
      replace hE : Blk wr be 27 #[.int .i64 100, .int .i64 100, .int .i64 100, .int .i64 2] := hE
      replace hS : Blk wr bs 27 W19 := hS
      unfold W19 at hS
      obtain ⟨Cc, Cf, Cl⟩ := hC.facts
      obtain ⟨Ec, Ef, El⟩ := hE.facts
      obtain ⟨Sc, Sf, Sl⟩ := hS.facts
      go_wp2_with fail
      apply wp_region_stored 8 27 #[.int .i64 0, .int .i64 0, .int .i64 0, .int .i64 0] #[.int .i64 77, .int .i64 77, .int .i64 77, .int .i64 3]
      case hm => kernel_rfl
      case hB => kernel_rfl
      case hmk => exact ⟨_, rfl, rfl, fun a W => by kernel_rfl⟩
      case hq =>
        intro R hR x
        simp only [List.take_succ_cons, List.take_zero]
        repeat (go_big_quiet_step ((first | (go_at_call 47; exact later_of (law_all _ _)) | (go_at_call 15; with_reducible exact later_of (CS.out _)))))
        exact wpQuiet_nil hR
      case hst =>
        intro b
        refine ⟨_, rfl, rfl, rfl, fun W hX => ⟨putAll b W 0 [.int .i64 77, .int .i64 77, .int .i64 77, .int .i64 3], ?_, putAll_all _ hX rfl, fun B w0 h hb => putAll_below h _ _ _ hb⟩⟩
        obtain ⟨Xc, Xf, Xl⟩ := hX.facts
        simp [go_sem, putAll, execOp, Act.put, Act.eval, Xc, Xf, Xl]
      simp only [List.drop_succ_cons, List.drop_zero, List.getElem?_toArray, List.getElem?_cons_succ, List.getElem?_cons_zero, Option.bind_some, Act.put, List.setIfInBounds_toArray, List.set_cons_succ, List.set_cons_zero]
      intro b W hBB hs hX
      clear Cc Cf Cl Ec Ef El Sc Sf Sl CS
      have hbe : be ≠ b := by have := hE.lt; omega
      have hle : w.heap.size ≤ b := by have := hC.lt; omega
      replace hC := hC.past hBB
      replace hE := hE.past hBB
      replace hS := hS.past hBB
      replace hB := below_to hB hBB
      clear hBB hs
      go_wp2_with fail
      obtain ⟨Xc, Xf, Xl⟩ := hX.facts
      obtain ⟨Sc, Sf, Sl⟩ := hS.facts
      refine wp_region_ext (by kernel_rfl) (by kernel_rfl) ?_
      repeat (go_big_quiet_step (fail))
      refine wpQuiet_nil ?_
      intro w8 hx
      obtain ⟨x, rfl⟩ := hx
      clear Xc Xf Xl Sc Sf Sl
      replace hX := hX.past (extn_below _ x)
      replace hE := hE.past (extn_below _ x)
      replace hS := hS.past (extn_below _ x)
      replace hC := hC.past (extn_below _ x)
      replace hB := below_to hB (extn_below _ x)
      generalize extn W x = w8 at *
      obtain ⟨Xc, Xf, Xl⟩ := hX.facts
      obtain ⟨Ec, Ef, El⟩ := hE.facts
      go_wp2
      go_roundw
      case rel => exact ⟨3, by decide, rfl, (((hE.put 0 _ rfl).put 1 _ rfl).put 2 _ rfl).put 3 _ rfl, (((hC.off hbw _).off hbw _).off hbw _).off hbw _, (((hS.off hbx _).off hbx _).off hbx _).off hbx _, by go_grown⟩
      case measure => simp [intOf]
    · skip
      have cS := fun W => rec_Step ⟨10, 2, 1⟩ ⟨100, 100, 100⟩ ⟨⟨77, 77, 77⟩, 3⟩ ⟨50, 50, 50⟩ (by decide) (by decide) W
      rw [show stepR ⟨10, 2, 1⟩ ⟨100, 100, 100⟩ ⟨⟨77, 77, 77⟩, 3⟩ ⟨50, 50, 50⟩ = (⟨⟨66, 66, 66⟩, 4⟩, 0) by decide] at cS
      have CS := Lib.hid cS
      clear cS
      replace hE : Blk wr be 27 #[.int .i64 77, .int .i64 77, .int .i64 77, .int .i64 3] := hE
      replace hS : Blk wr bs 27 W19 := hS
      unfold W19 at hS
      obtain ⟨Cc, Cf, Cl⟩ := hC.facts
      obtain ⟨Ec, Ef, El⟩ := hE.facts
      obtain ⟨Sc, Sf, Sl⟩ := hS.facts
      go_wp2_with fail
      apply wp_region_stored 8 27 #[.int .i64 0, .int .i64 0, .int .i64 0, .int .i64 0] #[.int .i64 66, .int .i64 66, .int .i64 66, .int .i64 4]
      case hm => kernel_rfl
      case hB => kernel_rfl
      case hmk => exact ⟨_, rfl, rfl, fun a W => by kernel_rfl⟩
      case hq =>
        intro R hR x
        simp only [List.take_succ_cons, List.take_zero]
        repeat (go_big_quiet_step ((first | (go_at_call 47; exact later_of (law_all _ _)) | (go_at_call 15; with_reducible exact later_of (CS.out _)))))
        exact wpQuiet_nil hR
      case hst =>
        intro b
        refine ⟨_, rfl, rfl, rfl, fun W hX => ⟨putAll b W 0 [.int .i64 66, .int .i64 66, .int .i64 66, .int .i64 4], ?_, putAll_all _ hX rfl, fun B w0 h hb => putAll_below h _ _ _ hb⟩⟩
        obtain ⟨Xc, Xf, Xl⟩ := hX.facts
        simp [go_sem, putAll, execOp, Act.put, Act.eval, Xc, Xf, Xl]
      simp only [List.drop_succ_cons, List.drop_zero, List.getElem?_toArray, List.getElem?_cons_succ, List.getElem?_cons_zero, Option.bind_some, Act.put, List.setIfInBounds_toArray, List.set_cons_succ, List.set_cons_zero]
      intro b W hBB hs hX
      clear Cc Cf Cl Ec Ef El Sc Sf Sl CS
      have hbe : be ≠ b := by have := hE.lt; omega
      have hle : w.heap.size ≤ b := by have := hC.lt; omega
      replace hC := hC.past hBB
      replace hE := hE.past hBB
      replace hS := hS.past hBB
      replace hB := below_to hB hBB
      clear hBB hs
      go_wp2_with fail
      obtain ⟨Xc, Xf, Xl⟩ := hX.facts
      obtain ⟨Sc, Sf, Sl⟩ := hS.facts
      refine wp_region_ext (by kernel_rfl) (by kernel_rfl) ?_
      repeat (go_big_quiet_step (fail))
      refine wpQuiet_nil ?_
      intro w8 hx
      obtain ⟨x, rfl⟩ := hx
      clear Xc Xf Xl Sc Sf Sl
      replace hX := hX.past (extn_below _ x)
      replace hE := hE.past (extn_below _ x)
      replace hS := hS.past (extn_below _ x)
      replace hC := hC.past (extn_below _ x)
      replace hB := below_to hB (extn_below _ x)
      generalize extn W x = w8 at *
      obtain ⟨Xc, Xf, Xl⟩ := hX.facts
      obtain ⟨Ec, Ef, El⟩ := hE.facts
      go_wp2
      go_roundw
      case rel => exact ⟨4, by decide, rfl, (((hE.put 0 _ rfl).put 1 _ rfl).put 2 _ rfl).put 3 _ rfl, (((hC.off hbw _).off hbw _).off hbw _).off hbw _, (((hS.off hbx _).off hbx _).off hbx _).off hbx _, by go_grown⟩
      case measure => simp [intOf]
    · have cS := fun W => rec_Step ⟨10, 2, 1⟩ ⟨100, 100, 100⟩ ⟨⟨66, 66, 66⟩, 4⟩ ⟨90, 0, 0⟩ (by decide) (by decide) W
      rw [show stepR ⟨10, 2, 1⟩ ⟨100, 100, 100⟩ ⟨⟨66, 66, 66⟩, 4⟩ ⟨90, 0, 0⟩ = (⟨⟨99, 66, 66⟩, 1⟩, 0) by decide] at cS
      have CS := Lib.hid cS
      clear cS
      replace hE : Blk wr be 27 #[.int .i64 66, .int .i64 66, .int .i64 66, .int .i64 4] := hE
      obtain ⟨Cc, Cf, Cl⟩ := hC.facts
      obtain ⟨Ec, Ef, El⟩ := hE.facts
      go_wp2_with fail
      apply wp_region_stored 8 27 #[.int .i64 0, .int .i64 0, .int .i64 0, .int .i64 0] #[.int .i64 99, .int .i64 66, .int .i64 66, .int .i64 1]
      case hm => kernel_rfl
      case hB => kernel_rfl
      case hmk => exact ⟨_, rfl, rfl, fun a W => by kernel_rfl⟩
      case hq =>
        intro R hR x
        simp only [List.take_succ_cons, List.take_zero]
        repeat (go_big_quiet_step ((first | (go_at_call 47; exact later_of (law_all _ _)) | (go_at_call 15; with_reducible exact later_of (CS.out _)))))
        exact wpQuiet_nil hR
      case hst =>
        intro b
        refine ⟨_, rfl, rfl, rfl, fun W hX => ⟨putAll b W 0 [.int .i64 99, .int .i64 66, .int .i64 66, .int .i64 1], ?_, putAll_all _ hX rfl, fun B w0 h hb => putAll_below h _ _ _ hb⟩⟩
        obtain ⟨Xc, Xf, Xl⟩ := hX.facts
        simp [go_sem, putAll, execOp, Act.put, Act.eval, Xc, Xf, Xl]
      simp only [List.drop_succ_cons, List.drop_zero, List.getElem?_toArray, List.getElem?_cons_succ, List.getElem?_cons_zero, Option.bind_some, Act.put, List.setIfInBounds_toArray, List.set_cons_succ, List.set_cons_zero]
      intro b W hBB hs hX
      clear Cc Cf Cl Ec Ef El CS
      replace hB := below_to hB hBB
      clear hBB hs
      obtain ⟨Xc, Xf, Xl⟩ := hX.facts
      go_wp2
      go_ret
      exact ⟨rfl, hB⟩
end Go.Proofs.Ytbamgoocgmhohaa
