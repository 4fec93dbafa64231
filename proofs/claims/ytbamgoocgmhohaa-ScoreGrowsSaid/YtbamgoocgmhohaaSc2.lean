/- Scores: the reference, walked. Conditions: none. -/
import Derived.Test.YtbamgoocgmhohaaSc1
import Derived.Test.YtbamgoocgmhohaaK7
namespace Go.Proofs.Ytbamgoocgmhohaa
open Go.RowKit

set_option maxHeartbeats 1000000 in
theorem rs_nums (x : Vec) (w : World) : Calls Try.prog 64 #[x.v] w fun e w' => e = .returned x.v ∧ Below w.heap.size w w' := by
  go_enter Try.func64, Try.ntmps64
  go_wp2
  go_returns
  exact ⟨rfl, by go_grown⟩
def inU (x : Int) : Bool := decide (0 ≤ x) && decide (x ≤ 1125899906842624)
theorem mayUse_in (x0 x1 x2 : Int) : mayUseV ⟨x0, x1, x2⟩ = (inU x0 && (inU x1 && inU x2)) := by
  unfold mayUseV inU
  rw [Bool.eq_iff_iff]
  simp only [Bool.and_eq_true, decide_eq_true_eq]
  omega
set_option maxHeartbeats 4000000 in
theorem rs_MayUse (x : Vec) (w : World) : Calls Try.prog 39 #[x.v] w fun e w' => e = .returned (.bool (mayUseV x)) ∧ Below w.heap.size w w' := by
  have c1 := fun w => rs_nums x w
  obtain ⟨x0, x1, x2⟩ := x
  dsimp only [Vec.v] at c1
  obtain ⟨q, hqq⟩ : ∃ q, q = mayUseV ⟨x0, x1, x2⟩ := ⟨_, rfl⟩
  rw [← hqq]
  rw [mayUse_in] at hqq
  replace hqq := Lib.hid hqq
  have C1 := Lib.hid c1
  clear c1
  go_enter Try.func39, Try.ntmps39
  go_wp2_with fail
  refine (C1.out _).mono ?_
  rintro r w1 ⟨rfl, hb1⟩; dsimp only
  have hB : Below w.heap.size w w1 := below_to (by go_grown) hb1
  go_wp2_with fail
  refine wp_world (fun W => Blk W w1.heap.size 93 #[.int .i64 x0, .int .i64 x1, .int .i64 x2] ∧ Below w.heap.size w W) ⟨Blk.new _ _ _, hB.alloc hB.size _⟩ ?_
  generalize w1.heap.size = g at *
  clear hB hb1
  rintro W ⟨hS, hW⟩
  go_loop [4] (fun i => ∃ k : Nat, k ≤ 3 ∧ i = .int .i64 k ∧ (0 < k → inU x0 = true) ∧ (1 < k → inU x1 = true) ∧ (2 < k → inU x2 = true)) (fun i => 3 - (intOf i).toNat)
  case atStart => exact ⟨0, by decide, rfl, by simp, by simp, by simp⟩
  case round =>
    obtain ⟨k, hk, rfl, k0, k1, k2⟩ := hrel
    obtain ⟨Sc, Sf, Sl⟩ := hS.facts
    rcases (show k = 0 ∨ k = 1 ∨ k = 2 ∨ k = 3 by omega) with rfl | rfl | rfl | rfl
    · clear k0 k1 k2
      by_cases hu : inU x0 = true
      · have hu' := hu
        unfold inU at hu'
        simp only [Bool.and_eq_true, decide_eq_true_eq] at hu'
        obtain ⟨u0, u1⟩ := hu'
        go_wp2_with fail
        go_round
        case rel => exact ⟨1, by decide, rfl, fun _ => hu, by simp, by simp⟩
        case measure => simp [intOf]
      · have hf : inU x0 = false := by simpa using hu
        have hn : ¬ (0 ≤ x0 ∧ x0 ≤ 1125899906842624) := by
          intro h
          apply hu
          unfold inU
          simp only [Bool.and_eq_true, decide_eq_true_eq]
          exact h
        have hq : q = false := by rw [hqq.out, hf]; simp
        by_cases h0 : x0 < 0
        · go_wp2_with fail
          go_ret
          exact ⟨by first | rfl | (rw [hq]; rfl), hW⟩
        · have h1 : 1125899906842624 < x0 := by omega
          go_wp2_with fail
          go_ret
          exact ⟨by first | rfl | (rw [hq]; rfl), hW⟩
    · have k0' := k0 (by decide)
      clear k0 k1 k2
      replace k0' := Lib.hid k0'
      by_cases hu : inU x1 = true
      · have hu' := hu
        unfold inU at hu'
        simp only [Bool.and_eq_true, decide_eq_true_eq] at hu'
        obtain ⟨u0, u1⟩ := hu'
        go_wp2_with fail
        go_round
        case rel => exact ⟨2, by decide, rfl, fun _ => k0'.out, fun _ => hu, by simp⟩
        case measure => simp [intOf]
      · have hf : inU x1 = false := by simpa using hu
        have hn : ¬ (0 ≤ x1 ∧ x1 ≤ 1125899906842624) := by
          intro h
          apply hu
          unfold inU
          simp only [Bool.and_eq_true, decide_eq_true_eq]
          exact h
        have hq : q = false := by rw [hqq.out, hf]; simp
        by_cases h0 : x1 < 0
        · go_wp2_with fail
          go_ret
          exact ⟨by first | rfl | (rw [hq]; rfl), hW⟩
        · have h1 : 1125899906842624 < x1 := by omega
          go_wp2_with fail
          go_ret
          exact ⟨by first | rfl | (rw [hq]; rfl), hW⟩
    · have k0' := Lib.hid (k0 (by decide))
      have k1' := Lib.hid (k1 (by decide))
      clear k0 k1 k2
      by_cases hu : inU x2 = true
      · have hu' := hu
        unfold inU at hu'
        simp only [Bool.and_eq_true, decide_eq_true_eq] at hu'
        obtain ⟨u0, u1⟩ := hu'
        go_wp2_with fail
        go_round
        case rel => exact ⟨3, by decide, rfl, fun _ => k0'.out, fun _ => k1'.out, fun _ => hu⟩
        case measure => simp [intOf]
      · have hf : inU x2 = false := by simpa using hu
        have hn : ¬ (0 ≤ x2 ∧ x2 ≤ 1125899906842624) := by
          intro h
          apply hu
          unfold inU
          simp only [Bool.and_eq_true, decide_eq_true_eq]
          exact h
        have hq : q = false := by rw [hqq.out, hf]; simp
        by_cases h0 : x2 < 0
        · go_wp2_with fail
          go_ret
          exact ⟨by first | rfl | (rw [hq]; rfl), hW⟩
        · have h1 : 1125899906842624 < x2 := by omega
          go_wp2_with fail
          go_ret
          exact ⟨by first | rfl | (rw [hq]; rfl), hW⟩
    · have hq : q = true := by rw [hqq.out, k0 (by decide), k1 (by decide), k2 (by decide)]; rfl
      clear k0 k1 k2
      go_wp2_with fail
      go_ret
      exact ⟨by first | rfl | (rw [hq]; rfl), hW⟩
def fillP (x0 x1 x2 y0 y1 y2 : Int) : Nat → Int
  | 0 => 0
  | 1 => fullN x0 y0
  | 2 => fullN x0 y0 + fullN x1 y1
  | _ => fullN x0 y0 + fullN x1 y1 + fullN x2 y2
set_option maxHeartbeats 1000000 in
theorem rs_Fill (x y : Vec) (hx : mayV x = true) (hy : mayUseV y = true) (w : World) : Calls Try.prog 40 #[x.v, y.v] w fun e w' => e = .returned (.int .i64 (fillN x y)) ∧ Below w.heap.size w w' := by
  rw [mayV_spec] at hx
  rw [mayUseV_spec] at hy
  obtain ⟨x0, x1, x2⟩ := x
  obtain ⟨y0, y1, y2⟩ := y
  obtain ⟨hx0, hx1, hx2⟩ := hx
  obtain ⟨hy0, hy1, hy2⟩ := hy
  dsimp only at hx0 hx1 hx2 hy0 hy1 hy2
  have b0 := fullN_bd hx0.1 hy0.1
  have b1 := fullN_bd hx1.1 hy1.1
  have b2 := fullN_bd hx2.1 hy2.1
  have hN : Hid (fillN ⟨x0, x1, x2⟩ ⟨y0, y1, y2⟩ = fillP x0 x1 x2 y0 y1 y2 3) := Lib.hid rfl
  generalize fillN ⟨x0, x1, x2⟩ ⟨y0, y1, y2⟩ = N at *
  go_enter Try.func40, Try.ntmps40
  go_wp2
  apply wp_region_made2 4 93 #[.int .i64 0, .int .i64 0, .int .i64 0] 93 #[.int .i64 0, .int .i64 0, .int .i64 0]
  case hm => kernel_rfl
  case hB => kernel_rfl
  case hmk => intro i h0 h1; rcases (show i = 4 ∨ i = 4 + 1 by omega) with rfl | rfl <;> exact ⟨_, rfl, rfl, fun a W => by kernel_rfl⟩
  case hq =>
    intro R hR x
    simp only [List.take_succ_cons, List.take_zero]
    repeat (go_big_quiet_step ((go_at_call 64; exact later_of (rs_nums ⟨_, _, _⟩ _))))
    exact wpQuiet_nil hR
  simp only [List.drop_succ_cons, List.drop_zero, List.getElem?_toArray, List.getElem?_cons_succ, List.getElem?_cons_zero, Option.bind_some, Act.put, List.setIfInBounds_toArray, List.set_cons_succ, List.set_cons_zero]
  intro s t W hB hs ht hne hS hT
  obtain ⟨Sc, Sf, Sl⟩ := hS.facts
  obtain ⟨Tc, Tf, Tl⟩ := hT.facts
  have hW : Below w.heap.size w W := below_to (by go_grown) hB
  replace hs : w.heap.size + 1 + 1 ≤ s := by simpa using hs
  replace ht : w.heap.size + 1 + 1 ≤ t := by simpa using ht
  go_wp2
  refine wp_world (fun W2 => Blk W2 s 93 #[.int .i64 x0, .int .i64 x1, .int .i64 x2] ∧ Blk W2 t 93 #[.int .i64 y0, .int .i64 y1, .int .i64 y2] ∧ Below w.heap.size w W2) ?_ ?_
  · exact ⟨(((((hS.put 0 _ rfl).put 1 _ rfl).put 2 _ rfl).off hne _).off hne _).off hne _, (((((hT.off hne.symm _).off hne.symm _).off hne.symm _).put 0 _ rfl).put 1 _ rfl).put 2 _ rfl, by go_grown⟩
  clear hS hT Sc Sf Sl Tc Tf Tl hW hB W
  rintro W ⟨hS, hT, hW⟩
  go_loopw [7, 8, 9] (fun a i _ wr => ∃ k : Nat, k ≤ 3 ∧ i = .int .i64 k ∧ a = .int .i64 (fillP x0 x1 x2 y0 y1 y2 k) ∧ Blk wr s 93 #[.int .i64 x0, .int .i64 x1, .int .i64 x2] ∧ Blk wr t 93 #[.int .i64 y0, .int .i64 y1, .int .i64 y2] ∧ Below w.heap.size w wr) (fun _ i _ _ => 3 - (intOf i).toNat)
  case atStart => exact ⟨0, by decide, rfl, rfl, hS, hT, hW⟩
  case round =>
    clear hS hT hW
    obtain ⟨k, hk, rfl, rfl, hS, hT, hW⟩ := hrel
    rcases (show k = 0 ∨ k = 1 ∨ k = 2 ∨ k = 3 by omega) with rfl | rfl | rfl | rfl
    · skip
      have hS' := hS.facts
      have hT' := hT.facts
      obtain ⟨Sc, Sf, Sl⟩ := hS'
      obtain ⟨Tc, Tf, Tl⟩ := hT'
      have hstep : Hid (fillP x0 x1 x2 y0 y1 y2 1 = fillP x0 x1 x2 y0 y1 y2 0 + fullN x0 y0) := Lib.hid (by simp [fillP])
      have hb0 : 0 ≤ fillP x0 x1 x2 y0 y1 y2 0 ∧ fillP x0 x1 x2 y0 y1 y2 0 ≤ 2000 := by simp only [fillP]; omega
      generalize fillP x0 x1 x2 y0 y1 y2 0 = S0 at *
      generalize hS1 : fillP x0 x1 x2 y0 y1 y2 1 = S1 at *
      replace hS1 := Lib.hid hS1
      by_cases hz : 0 < x0
      · have hq : (y0 * 1000).tdiv x0 = y0 * 1000 / x0 := Int.tdiv_eq_ediv_of_nonneg (by omega)
        have hd0 : 0 ≤ y0 * 1000 / x0 := Int.ediv_nonneg (by omega) (by omega)
        have hd1 : y0 * 1000 / x0 ≤ y0 * 1000 := Int.ediv_le_self _ (by omega)
        have hf : Hid (fullN x0 y0 = min (y0 * 1000 / x0) 1000) := Lib.hid (by unfold fullN; rw [if_neg (by omega)])
        generalize fullN x0 y0 = F at *
        generalize hz2 : y0 * 1000 / x0 = z at *
        have hnz : ¬ x0 = 0 := by omega
        have hw1 : IntKind.i64.wrap (y0 * 1000) = y0 * 1000 := IntWalk.i64_in _ (by omega)
        have hw2 : IntKind.i64.wrap z = z := IntWalk.i64_in _ (by omega)
        by_cases hm : z ≤ 1000
        · have hf2 : Hid (F = z) := Lib.hid (by rw [hf.out]; omega)
          go_wp2_with fail
          refine wp_region_held0 (S := fun w' => w'.cell? ⟨s, 0, none⟩ = some (.int .i64 x0) ∧ w'.cell? ⟨t, 0, none⟩ = some (.int .i64 y0)) (by kernel_rfl) ⟨hS.cell 0, hT.cell 0⟩ (fun hHeld => ?_)
          refine wpAnyH_take (i := 0) (v := ?_) rfl (by kernel_rfl) (by kernel_rfl) (by kernel_rfl) (fun _ _ _ h => h) (Or.inl ⟨by rfl, ?hy⟩) hHeld ?_
          case hy =>
            intro w hSw
            (try dsimp only at hSw)
            go_simp
            (try with_reducible rfl)
          try simp only [Act.put, List.getElem_toArray, List.getElem_cons_succ, List.getElem_cons_zero, List.setIfInBounds_toArray, List.set_cons_zero, List.set_cons_succ]
          refine wpAnyH_take (i := 1) (v := ?_) rfl (by kernel_rfl) (by kernel_rfl) (by kernel_rfl) (fun _ _ _ h => h) (Or.inl ⟨by rfl, ?hy⟩) hHeld ?_
          case hy =>
            intro w hSw
            (try dsimp only at hSw)
            go_simp
            (try with_reducible rfl)
          try simp only [Act.put, List.getElem_toArray, List.getElem_cons_succ, List.getElem_cons_zero, List.setIfInBounds_toArray, List.set_cons_zero, List.set_cons_succ]
          refine wpAnyH_take (i := 2) (v := ?_) rfl (by kernel_rfl) (by kernel_rfl) (by kernel_rfl) (fun _ _ _ h => h) (Or.inl ⟨by rfl, ?hy⟩) hHeld ?_
          case hy =>
            intro w hSw
            (try dsimp only at hSw)
            go_simp
            (try with_reducible rfl)
          try simp only [Act.put, List.getElem_toArray, List.getElem_cons_succ, List.getElem_cons_zero, List.setIfInBounds_toArray, List.set_cons_zero, List.set_cons_succ]
          refine wpAnyH_take (i := 3) (v := ?_) rfl (by kernel_rfl) (by kernel_rfl) (by kernel_rfl) (fun _ _ _ h => h) (Or.inl ⟨by rfl, ?hy⟩) hHeld ?_
          case hy =>
            intro w hSw
            (try dsimp only at hSw)
            go_simp
            (try with_reducible rfl)
          try simp only [Act.put, List.getElem_toArray, List.getElem_cons_succ, List.getElem_cons_zero, List.setIfInBounds_toArray, List.set_cons_zero, List.set_cons_succ]
          refine wpAnyH_take (i := 4) (v := ?_) rfl (by kernel_rfl) (by kernel_rfl) (by kernel_rfl) (fun _ _ _ h => h) (Or.inl ⟨by rfl, ?hy⟩) hHeld ?_
          case hy =>
            intro w hSw
            (try dsimp only at hSw)
            go_simp
            (try with_reducible rfl)
          try simp only [Act.put, List.getElem_toArray, List.getElem_cons_succ, List.getElem_cons_zero, List.setIfInBounds_toArray, List.set_cons_zero, List.set_cons_succ]
          refine wpAnyH_take (i := 5) (v := ?_) rfl (by kernel_rfl) (by kernel_rfl) (by kernel_rfl) (fun _ _ _ h => h) (Or.inl ⟨by rfl, ?hy⟩) hHeld ?_
          case hy =>
            intro w hSw
            (try dsimp only at hSw)
            go_simp
            (try with_reducible rfl)
          try simp only [Act.put, List.getElem_toArray, List.getElem_cons_succ, List.getElem_cons_zero, List.setIfInBounds_toArray, List.set_cons_zero, List.set_cons_succ]
          refine wpAnyH_take (i := 6) (v := ?_) rfl (by kernel_rfl) (by kernel_rfl) (by kernel_rfl) (fun _ _ _ h => h) (Or.inl ⟨by rfl, ?hy⟩) hHeld ?_
          case hy =>
            intro w hSw
            (try dsimp only at hSw)
            go_simp
            (try with_reducible rfl)
          try simp only [Act.put, List.getElem_toArray, List.getElem_cons_succ, List.getElem_cons_zero, List.setIfInBounds_toArray, List.set_cons_zero, List.set_cons_succ]
          refine wpAnyH_take (i := 7) (v := ?_) rfl (by kernel_rfl) (by kernel_rfl) (by kernel_rfl) (fun _ _ _ h => h) (Or.inl ⟨by rfl, ?hy⟩) hHeld ?_
          case hy =>
            intro w hSw
            (try dsimp only at hSw)
            go_simp
            (try with_reducible rfl)
          try simp only [Act.put, List.getElem_toArray, List.getElem_cons_succ, List.getElem_cons_zero, List.setIfInBounds_toArray, List.set_cons_zero, List.set_cons_succ]
          refine wpAnyH_take (i := 8) (v := ?_) rfl (by kernel_rfl) (by kernel_rfl) (by kernel_rfl) (fun _ _ _ h => h) (Or.inl ⟨by rfl, ?hy⟩) hHeld ?_
          case hy =>
            intro w hSw
            (try dsimp only at hSw)
            go_simp
            (try with_reducible rfl)
          try simp only [Act.put, List.getElem_toArray, List.getElem_cons_succ, List.getElem_cons_zero, List.setIfInBounds_toArray, List.set_cons_zero, List.set_cons_succ]
          refine wpAnyH_take (i := 9) (v := ?_) rfl (by kernel_rfl) (by kernel_rfl) (by kernel_rfl) (fun _ _ _ h => h) (Or.inl ⟨by rfl, ?hy⟩) hHeld ?_
          case hy =>
            intro w hSw
            (try dsimp only at hSw)
            go_simp
            (try with_reducible rfl)
          try simp only [Act.put, List.getElem_toArray, List.getElem_cons_succ, List.getElem_cons_zero, List.setIfInBounds_toArray, List.set_cons_zero, List.set_cons_succ]
          refine wpAnyH_done (by kernel_rfl) ?_ _
          simp only [Exit.then]
          go_wp2_with fail
          go_roundw
          case rel => exact ⟨1, by decide, by first | rfl | go_num, by rw [hS1.out, hstep.out, hf2.out], hS, hT, hW.drew⟩
          case measure => simp [intOf]
        · have hf2 : Hid (F = 1000) := Lib.hid (by rw [hf.out]; omega)
          go_wp2_with fail
          refine wp_region_held0 (S := fun w' => w'.cell? ⟨s, 0, none⟩ = some (.int .i64 x0) ∧ w'.cell? ⟨t, 0, none⟩ = some (.int .i64 y0)) (by kernel_rfl) ⟨hS.cell 0, hT.cell 0⟩ (fun hHeld => ?_)
          refine wpAnyH_take (i := 0) (v := ?_) rfl (by kernel_rfl) (by kernel_rfl) (by kernel_rfl) (fun _ _ _ h => h) (Or.inl ⟨by rfl, ?hy⟩) hHeld ?_
          case hy =>
            intro w hSw
            (try dsimp only at hSw)
            go_simp
            (try with_reducible rfl)
          try simp only [Act.put, List.getElem_toArray, List.getElem_cons_succ, List.getElem_cons_zero, List.setIfInBounds_toArray, List.set_cons_zero, List.set_cons_succ]
          refine wpAnyH_take (i := 1) (v := ?_) rfl (by kernel_rfl) (by kernel_rfl) (by kernel_rfl) (fun _ _ _ h => h) (Or.inl ⟨by rfl, ?hy⟩) hHeld ?_
          case hy =>
            intro w hSw
            (try dsimp only at hSw)
            go_simp
            (try with_reducible rfl)
          try simp only [Act.put, List.getElem_toArray, List.getElem_cons_succ, List.getElem_cons_zero, List.setIfInBounds_toArray, List.set_cons_zero, List.set_cons_succ]
          refine wpAnyH_take (i := 2) (v := ?_) rfl (by kernel_rfl) (by kernel_rfl) (by kernel_rfl) (fun _ _ _ h => h) (Or.inl ⟨by rfl, ?hy⟩) hHeld ?_
          case hy =>
            intro w hSw
            (try dsimp only at hSw)
            go_simp
            (try with_reducible rfl)
          try simp only [Act.put, List.getElem_toArray, List.getElem_cons_succ, List.getElem_cons_zero, List.setIfInBounds_toArray, List.set_cons_zero, List.set_cons_succ]
          refine wpAnyH_take (i := 3) (v := ?_) rfl (by kernel_rfl) (by kernel_rfl) (by kernel_rfl) (fun _ _ _ h => h) (Or.inl ⟨by rfl, ?hy⟩) hHeld ?_
          case hy =>
            intro w hSw
            (try dsimp only at hSw)
            go_simp
            (try with_reducible rfl)
          try simp only [Act.put, List.getElem_toArray, List.getElem_cons_succ, List.getElem_cons_zero, List.setIfInBounds_toArray, List.set_cons_zero, List.set_cons_succ]
          refine wpAnyH_take (i := 4) (v := ?_) rfl (by kernel_rfl) (by kernel_rfl) (by kernel_rfl) (fun _ _ _ h => h) (Or.inl ⟨by rfl, ?hy⟩) hHeld ?_
          case hy =>
            intro w hSw
            (try dsimp only at hSw)
            go_simp
            (try with_reducible rfl)
          try simp only [Act.put, List.getElem_toArray, List.getElem_cons_succ, List.getElem_cons_zero, List.setIfInBounds_toArray, List.set_cons_zero, List.set_cons_succ]
          refine wpAnyH_take (i := 5) (v := ?_) rfl (by kernel_rfl) (by kernel_rfl) (by kernel_rfl) (fun _ _ _ h => h) (Or.inl ⟨by rfl, ?hy⟩) hHeld ?_
          case hy =>
            intro w hSw
            (try dsimp only at hSw)
            go_simp
            (try with_reducible rfl)
          try simp only [Act.put, List.getElem_toArray, List.getElem_cons_succ, List.getElem_cons_zero, List.setIfInBounds_toArray, List.set_cons_zero, List.set_cons_succ]
          refine wpAnyH_take (i := 6) (v := ?_) rfl (by kernel_rfl) (by kernel_rfl) (by kernel_rfl) (fun _ _ _ h => h) (Or.inl ⟨by rfl, ?hy⟩) hHeld ?_
          case hy =>
            intro w hSw
            (try dsimp only at hSw)
            go_simp
            (try with_reducible rfl)
          try simp only [Act.put, List.getElem_toArray, List.getElem_cons_succ, List.getElem_cons_zero, List.setIfInBounds_toArray, List.set_cons_zero, List.set_cons_succ]
          refine wpAnyH_take (i := 7) (v := ?_) rfl (by kernel_rfl) (by kernel_rfl) (by kernel_rfl) (fun _ _ _ h => h) (Or.inl ⟨by rfl, ?hy⟩) hHeld ?_
          case hy =>
            intro w hSw
            (try dsimp only at hSw)
            go_simp
            (try with_reducible rfl)
          try simp only [Act.put, List.getElem_toArray, List.getElem_cons_succ, List.getElem_cons_zero, List.setIfInBounds_toArray, List.set_cons_zero, List.set_cons_succ]
          refine wpAnyH_take (i := 8) (v := ?_) rfl (by kernel_rfl) (by kernel_rfl) (by kernel_rfl) (fun _ _ _ h => h) (Or.inl ⟨by rfl, ?hy⟩) hHeld ?_
          case hy =>
            intro w hSw
            (try dsimp only at hSw)
            go_simp
            (try with_reducible rfl)
          try simp only [Act.put, List.getElem_toArray, List.getElem_cons_succ, List.getElem_cons_zero, List.setIfInBounds_toArray, List.set_cons_zero, List.set_cons_succ]
          refine wpAnyH_take (i := 9) (v := ?_) rfl (by kernel_rfl) (by kernel_rfl) (by kernel_rfl) (fun _ _ _ h => h) (Or.inl ⟨by rfl, ?hy⟩) hHeld ?_
          case hy =>
            intro w hSw
            (try dsimp only at hSw)
            go_simp
            (try with_reducible rfl)
          try simp only [Act.put, List.getElem_toArray, List.getElem_cons_succ, List.getElem_cons_zero, List.setIfInBounds_toArray, List.set_cons_zero, List.set_cons_succ]
          refine wpAnyH_done (by kernel_rfl) ?_ _
          simp only [Exit.then]
          go_wp2_with fail
          go_roundw
          case rel => exact ⟨1, by decide, by first | rfl | go_num, by rw [hS1.out, hstep.out, hf2.out], hS, hT, hW.drew⟩
          case measure => simp [intOf]
      · have hf : Hid (fullN x0 y0 = 1000) := Lib.hid (by unfold fullN; rw [if_pos (by omega)])
        generalize fullN x0 y0 = F at *
        go_wp2_with fail
        go_roundw
        case rel => exact ⟨1, by decide, by first | rfl | go_num, by rw [hS1.out, hstep.out, hf.out], hS, hT, hW⟩
        case measure => simp [intOf]
    · skip
      have hS' := hS.facts
      have hT' := hT.facts
      obtain ⟨Sc, Sf, Sl⟩ := hS'
      obtain ⟨Tc, Tf, Tl⟩ := hT'
      have hstep : Hid (fillP x0 x1 x2 y0 y1 y2 2 = fillP x0 x1 x2 y0 y1 y2 1 + fullN x1 y1) := Lib.hid (by simp [fillP])
      have hb0 : 0 ≤ fillP x0 x1 x2 y0 y1 y2 1 ∧ fillP x0 x1 x2 y0 y1 y2 1 ≤ 2000 := by simp only [fillP]; omega
      generalize fillP x0 x1 x2 y0 y1 y2 1 = S0 at *
      generalize hS1 : fillP x0 x1 x2 y0 y1 y2 2 = S1 at *
      replace hS1 := Lib.hid hS1
      by_cases hz : 0 < x1
      · have hq : (y1 * 1000).tdiv x1 = y1 * 1000 / x1 := Int.tdiv_eq_ediv_of_nonneg (by omega)
        have hd0 : 0 ≤ y1 * 1000 / x1 := Int.ediv_nonneg (by omega) (by omega)
        have hd1 : y1 * 1000 / x1 ≤ y1 * 1000 := Int.ediv_le_self _ (by omega)
        have hf : Hid (fullN x1 y1 = min (y1 * 1000 / x1) 1000) := Lib.hid (by unfold fullN; rw [if_neg (by omega)])
        generalize fullN x1 y1 = F at *
        generalize hz2 : y1 * 1000 / x1 = z at *
        have hnz : ¬ x1 = 0 := by omega
        have hw1 : IntKind.i64.wrap (y1 * 1000) = y1 * 1000 := IntWalk.i64_in _ (by omega)
        have hw2 : IntKind.i64.wrap z = z := IntWalk.i64_in _ (by omega)
        by_cases hm : z ≤ 1000
        · have hf2 : Hid (F = z) := Lib.hid (by rw [hf.out]; omega)
          go_wp2_with fail
          refine wp_region_held0 (S := fun w' => w'.cell? ⟨s, 1, none⟩ = some (.int .i64 x1) ∧ w'.cell? ⟨t, 1, none⟩ = some (.int .i64 y1)) (by kernel_rfl) ⟨hS.cell 1, hT.cell 1⟩ (fun hHeld => ?_)
          refine wpAnyH_take (i := 0) (v := ?_) rfl (by kernel_rfl) (by kernel_rfl) (by kernel_rfl) (fun _ _ _ h => h) (Or.inl ⟨by rfl, ?hy⟩) hHeld ?_
          case hy =>
            intro w hSw
            (try dsimp only at hSw)
            go_simp
            (try with_reducible rfl)
          try simp only [Act.put, List.getElem_toArray, List.getElem_cons_succ, List.getElem_cons_zero, List.setIfInBounds_toArray, List.set_cons_zero, List.set_cons_succ]
          refine wpAnyH_take (i := 1) (v := ?_) rfl (by kernel_rfl) (by kernel_rfl) (by kernel_rfl) (fun _ _ _ h => h) (Or.inl ⟨by rfl, ?hy⟩) hHeld ?_
          case hy =>
            intro w hSw
            (try dsimp only at hSw)
            go_simp
            (try with_reducible rfl)
          try simp only [Act.put, List.getElem_toArray, List.getElem_cons_succ, List.getElem_cons_zero, List.setIfInBounds_toArray, List.set_cons_zero, List.set_cons_succ]
          refine wpAnyH_take (i := 2) (v := ?_) rfl (by kernel_rfl) (by kernel_rfl) (by kernel_rfl) (fun _ _ _ h => h) (Or.inl ⟨by rfl, ?hy⟩) hHeld ?_
          case hy =>
            intro w hSw
            (try dsimp only at hSw)
            go_simp
            (try with_reducible rfl)
          try simp only [Act.put, List.getElem_toArray, List.getElem_cons_succ, List.getElem_cons_zero, List.setIfInBounds_toArray, List.set_cons_zero, List.set_cons_succ]
          refine wpAnyH_take (i := 3) (v := ?_) rfl (by kernel_rfl) (by kernel_rfl) (by kernel_rfl) (fun _ _ _ h => h) (Or.inl ⟨by rfl, ?hy⟩) hHeld ?_
          case hy =>
            intro w hSw
            (try dsimp only at hSw)
            go_simp
            (try with_reducible rfl)
          try simp only [Act.put, List.getElem_toArray, List.getElem_cons_succ, List.getElem_cons_zero, List.setIfInBounds_toArray, List.set_cons_zero, List.set_cons_succ]
          refine wpAnyH_take (i := 4) (v := ?_) rfl (by kernel_rfl) (by kernel_rfl) (by kernel_rfl) (fun _ _ _ h => h) (Or.inl ⟨by rfl, ?hy⟩) hHeld ?_
          case hy =>
            intro w hSw
            (try dsimp only at hSw)
            go_simp
            (try with_reducible rfl)
          try simp only [Act.put, List.getElem_toArray, List.getElem_cons_succ, List.getElem_cons_zero, List.setIfInBounds_toArray, List.set_cons_zero, List.set_cons_succ]
          refine wpAnyH_take (i := 5) (v := ?_) rfl (by kernel_rfl) (by kernel_rfl) (by kernel_rfl) (fun _ _ _ h => h) (Or.inl ⟨by rfl, ?hy⟩) hHeld ?_
          case hy =>
            intro w hSw
            (try dsimp only at hSw)
            go_simp
            (try with_reducible rfl)
          try simp only [Act.put, List.getElem_toArray, List.getElem_cons_succ, List.getElem_cons_zero, List.setIfInBounds_toArray, List.set_cons_zero, List.set_cons_succ]
          refine wpAnyH_take (i := 6) (v := ?_) rfl (by kernel_rfl) (by kernel_rfl) (by kernel_rfl) (fun _ _ _ h => h) (Or.inl ⟨by rfl, ?hy⟩) hHeld ?_
          case hy =>
            intro w hSw
            (try dsimp only at hSw)
            go_simp
            (try with_reducible rfl)
          try simp only [Act.put, List.getElem_toArray, List.getElem_cons_succ, List.getElem_cons_zero, List.setIfInBounds_toArray, List.set_cons_zero, List.set_cons_succ]
          refine wpAnyH_take (i := 7) (v := ?_) rfl (by kernel_rfl) (by kernel_rfl) (by kernel_rfl) (fun _ _ _ h => h) (Or.inl ⟨by rfl, ?hy⟩) hHeld ?_
          case hy =>
            intro w hSw
            (try dsimp only at hSw)
            go_simp
            (try with_reducible rfl)
          try simp only [Act.put, List.getElem_toArray, List.getElem_cons_succ, List.getElem_cons_zero, List.setIfInBounds_toArray, List.set_cons_zero, List.set_cons_succ]
          refine wpAnyH_take (i := 8) (v := ?_) rfl (by kernel_rfl) (by kernel_rfl) (by kernel_rfl) (fun _ _ _ h => h) (Or.inl ⟨by rfl, ?hy⟩) hHeld ?_
          case hy =>
            intro w hSw
            (try dsimp only at hSw)
            go_simp
            (try with_reducible rfl)
          try simp only [Act.put, List.getElem_toArray, List.getElem_cons_succ, List.getElem_cons_zero, List.setIfInBounds_toArray, List.set_cons_zero, List.set_cons_succ]
          refine wpAnyH_take (i := 9) (v := ?_) rfl (by kernel_rfl) (by kernel_rfl) (by kernel_rfl) (fun _ _ _ h => h) (Or.inl ⟨by rfl, ?hy⟩) hHeld ?_
          case hy =>
            intro w hSw
            (try dsimp only at hSw)
            go_simp
            (try with_reducible rfl)
          try simp only [Act.put, List.getElem_toArray, List.getElem_cons_succ, List.getElem_cons_zero, List.setIfInBounds_toArray, List.set_cons_zero, List.set_cons_succ]
          refine wpAnyH_done (by kernel_rfl) ?_ _
          simp only [Exit.then]
          go_wp2_with fail
          go_roundw
          case rel => exact ⟨2, by decide, by first | rfl | go_num, by rw [hS1.out, hstep.out, hf2.out], hS, hT, hW.drew⟩
          case measure => simp [intOf]
        · have hf2 : Hid (F = 1000) := Lib.hid (by rw [hf.out]; omega)
          go_wp2_with fail
          refine wp_region_held0 (S := fun w' => w'.cell? ⟨s, 1, none⟩ = some (.int .i64 x1) ∧ w'.cell? ⟨t, 1, none⟩ = some (.int .i64 y1)) (by kernel_rfl) ⟨hS.cell 1, hT.cell 1⟩ (fun hHeld => ?_)
          refine wpAnyH_take (i := 0) (v := ?_) rfl (by kernel_rfl) (by kernel_rfl) (by kernel_rfl) (fun _ _ _ h => h) (Or.inl ⟨by rfl, ?hy⟩) hHeld ?_
          case hy =>
            intro w hSw
            (try dsimp only at hSw)
            go_simp
            (try with_reducible rfl)
          try simp only [Act.put, List.getElem_toArray, List.getElem_cons_succ, List.getElem_cons_zero, List.setIfInBounds_toArray, List.set_cons_zero, List.set_cons_succ]
          refine wpAnyH_take (i := 1) (v := ?_) rfl (by kernel_rfl) (by kernel_rfl) (by kernel_rfl) (fun _ _ _ h => h) (Or.inl ⟨by rfl, ?hy⟩) hHeld ?_
          case hy =>
            intro w hSw
            (try dsimp only at hSw)
            go_simp
            (try with_reducible rfl)
          try simp only [Act.put, List.getElem_toArray, List.getElem_cons_succ, List.getElem_cons_zero, List.setIfInBounds_toArray, List.set_cons_zero, List.set_cons_succ]
          refine wpAnyH_take (i := 2) (v := ?_) rfl (by kernel_rfl) (by kernel_rfl) (by kernel_rfl) (fun _ _ _ h => h) (Or.inl ⟨by rfl, ?hy⟩) hHeld ?_
          case hy =>
            intro w hSw
            (try dsimp only at hSw)
            go_simp
            (try with_reducible rfl)
          try simp only [Act.put, List.getElem_toArray, List.getElem_cons_succ, List.getElem_cons_zero, List.setIfInBounds_toArray, List.set_cons_zero, List.set_cons_succ]
          refine wpAnyH_take (i := 3) (v := ?_) rfl (by kernel_rfl) (by kernel_rfl) (by kernel_rfl) (fun _ _ _ h => h) (Or.inl ⟨by rfl, ?hy⟩) hHeld ?_
          case hy =>
            intro w hSw
            (try dsimp only at hSw)
            go_simp
            (try with_reducible rfl)
          try simp only [Act.put, List.getElem_toArray, List.getElem_cons_succ, List.getElem_cons_zero, List.setIfInBounds_toArray, List.set_cons_zero, List.set_cons_succ]
          refine wpAnyH_take (i := 4) (v := ?_) rfl (by kernel_rfl) (by kernel_rfl) (by kernel_rfl) (fun _ _ _ h => h) (Or.inl ⟨by rfl, ?hy⟩) hHeld ?_
          case hy =>
            intro w hSw
            (try dsimp only at hSw)
            go_simp
            (try with_reducible rfl)
          try simp only [Act.put, List.getElem_toArray, List.getElem_cons_succ, List.getElem_cons_zero, List.setIfInBounds_toArray, List.set_cons_zero, List.set_cons_succ]
          refine wpAnyH_take (i := 5) (v := ?_) rfl (by kernel_rfl) (by kernel_rfl) (by kernel_rfl) (fun _ _ _ h => h) (Or.inl ⟨by rfl, ?hy⟩) hHeld ?_
          case hy =>
            intro w hSw
            (try dsimp only at hSw)
            go_simp
            (try with_reducible rfl)
          try simp only [Act.put, List.getElem_toArray, List.getElem_cons_succ, List.getElem_cons_zero, List.setIfInBounds_toArray, List.set_cons_zero, List.set_cons_succ]
          refine wpAnyH_take (i := 6) (v := ?_) rfl (by kernel_rfl) (by kernel_rfl) (by kernel_rfl) (fun _ _ _ h => h) (Or.inl ⟨by rfl, ?hy⟩) hHeld ?_
          case hy =>
            intro w hSw
            (try dsimp only at hSw)
            go_simp
            (try with_reducible rfl)
          try simp only [Act.put, List.getElem_toArray, List.getElem_cons_succ, List.getElem_cons_zero, List.setIfInBounds_toArray, List.set_cons_zero, List.set_cons_succ]
          refine wpAnyH_take (i := 7) (v := ?_) rfl (by kernel_rfl) (by kernel_rfl) (by kernel_rfl) (fun _ _ _ h => h) (Or.inl ⟨by rfl, ?hy⟩) hHeld ?_
          case hy =>
            intro w hSw
            (try dsimp only at hSw)
            go_simp
            (try with_reducible rfl)
          try simp only [Act.put, List.getElem_toArray, List.getElem_cons_succ, List.getElem_cons_zero, List.setIfInBounds_toArray, List.set_cons_zero, List.set_cons_succ]
          refine wpAnyH_take (i := 8) (v := ?_) rfl (by kernel_rfl) (by kernel_rfl) (by kernel_rfl) (fun _ _ _ h => h) (Or.inl ⟨by rfl, ?hy⟩) hHeld ?_
          case hy =>
            intro w hSw
            (try dsimp only at hSw)
            go_simp
            (try with_reducible rfl)
          try simp only [Act.put, List.getElem_toArray, List.getElem_cons_succ, List.getElem_cons_zero, List.setIfInBounds_toArray, List.set_cons_zero, List.set_cons_succ]
          refine wpAnyH_take (i := 9) (v := ?_) rfl (by kernel_rfl) (by kernel_rfl) (by kernel_rfl) (fun _ _ _ h => h) (Or.inl ⟨by rfl, ?hy⟩) hHeld ?_
          case hy =>
            intro w hSw
            (try dsimp only at hSw)
            go_simp
            (try with_reducible rfl)
          try simp only [Act.put, List.getElem_toArray, List.getElem_cons_succ, List.getElem_cons_zero, List.setIfInBounds_toArray, List.set_cons_zero, List.set_cons_succ]
          refine wpAnyH_done (by kernel_rfl) ?_ _
          simp only [Exit.then]
          go_wp2_with fail
          go_roundw
          case rel => exact ⟨2, by decide, by first | rfl | go_num, by rw [hS1.out, hstep.out, hf2.out], hS, hT, hW.drew⟩
          case measure => simp [intOf]
      · have hf : Hid (fullN x1 y1 = 1000) := Lib.hid (by unfold fullN; rw [if_pos (by omega)])
        generalize fullN x1 y1 = F at *
        go_wp2_with fail
        go_roundw
        case rel => exact ⟨2, by decide, by first | rfl | go_num, by rw [hS1.out, hstep.out, hf.out], hS, hT, hW⟩
        case measure => simp [intOf]
    · skip
      have hS' := hS.facts
      have hT' := hT.facts
      obtain ⟨Sc, Sf, Sl⟩ := hS'
      obtain ⟨Tc, Tf, Tl⟩ := hT'
      have hstep : Hid (fillP x0 x1 x2 y0 y1 y2 3 = fillP x0 x1 x2 y0 y1 y2 2 + fullN x2 y2) := Lib.hid (by simp [fillP])
      have hb0 : 0 ≤ fillP x0 x1 x2 y0 y1 y2 2 ∧ fillP x0 x1 x2 y0 y1 y2 2 ≤ 2000 := by simp only [fillP]; omega
      generalize fillP x0 x1 x2 y0 y1 y2 2 = S0 at *
      generalize hS1 : fillP x0 x1 x2 y0 y1 y2 3 = S1 at *
      replace hS1 := Lib.hid hS1
      by_cases hz : 0 < x2
      · have hq : (y2 * 1000).tdiv x2 = y2 * 1000 / x2 := Int.tdiv_eq_ediv_of_nonneg (by omega)
        have hd0 : 0 ≤ y2 * 1000 / x2 := Int.ediv_nonneg (by omega) (by omega)
        have hd1 : y2 * 1000 / x2 ≤ y2 * 1000 := Int.ediv_le_self _ (by omega)
        have hf : Hid (fullN x2 y2 = min (y2 * 1000 / x2) 1000) := Lib.hid (by unfold fullN; rw [if_neg (by omega)])
        generalize fullN x2 y2 = F at *
        generalize hz2 : y2 * 1000 / x2 = z at *
        have hnz : ¬ x2 = 0 := by omega
        have hw1 : IntKind.i64.wrap (y2 * 1000) = y2 * 1000 := IntWalk.i64_in _ (by omega)
        have hw2 : IntKind.i64.wrap z = z := IntWalk.i64_in _ (by omega)
        by_cases hm : z ≤ 1000
        · have hf2 : Hid (F = z) := Lib.hid (by rw [hf.out]; omega)
          go_wp2_with fail
          refine wp_region_held0 (S := fun w' => w'.cell? ⟨s, 2, none⟩ = some (.int .i64 x2) ∧ w'.cell? ⟨t, 2, none⟩ = some (.int .i64 y2)) (by kernel_rfl) ⟨hS.cell 2, hT.cell 2⟩ (fun hHeld => ?_)
          refine wpAnyH_take (i := 0) (v := ?_) rfl (by kernel_rfl) (by kernel_rfl) (by kernel_rfl) (fun _ _ _ h => h) (Or.inl ⟨by rfl, ?hy⟩) hHeld ?_
          case hy =>
            intro w hSw
            (try dsimp only at hSw)
            go_simp
            (try with_reducible rfl)
          try simp only [Act.put, List.getElem_toArray, List.getElem_cons_succ, List.getElem_cons_zero, List.setIfInBounds_toArray, List.set_cons_zero, List.set_cons_succ]
          refine wpAnyH_take (i := 1) (v := ?_) rfl (by kernel_rfl) (by kernel_rfl) (by kernel_rfl) (fun _ _ _ h => h) (Or.inl ⟨by rfl, ?hy⟩) hHeld ?_
          case hy =>
            intro w hSw
            (try dsimp only at hSw)
            go_simp
            (try with_reducible rfl)
          try simp only [Act.put, List.getElem_toArray, List.getElem_cons_succ, List.getElem_cons_zero, List.setIfInBounds_toArray, List.set_cons_zero, List.set_cons_succ]
          refine wpAnyH_take (i := 2) (v := ?_) rfl (by kernel_rfl) (by kernel_rfl) (by kernel_rfl) (fun _ _ _ h => h) (Or.inl ⟨by rfl, ?hy⟩) hHeld ?_
          case hy =>
            intro w hSw
            (try dsimp only at hSw)
            go_simp
            (try with_reducible rfl)
          try simp only [Act.put, List.getElem_toArray, List.getElem_cons_succ, List.getElem_cons_zero, List.setIfInBounds_toArray, List.set_cons_zero, List.set_cons_succ]
          refine wpAnyH_take (i := 3) (v := ?_) rfl (by kernel_rfl) (by kernel_rfl) (by kernel_rfl) (fun _ _ _ h => h) (Or.inl ⟨by rfl, ?hy⟩) hHeld ?_
          case hy =>
            intro w hSw
            (try dsimp only at hSw)
            go_simp
            (try with_reducible rfl)
          try simp only [Act.put, List.getElem_toArray, List.getElem_cons_succ, List.getElem_cons_zero, List.setIfInBounds_toArray, List.set_cons_zero, List.set_cons_succ]
          refine wpAnyH_take (i := 4) (v := ?_) rfl (by kernel_rfl) (by kernel_rfl) (by kernel_rfl) (fun _ _ _ h => h) (Or.inl ⟨by rfl, ?hy⟩) hHeld ?_
          case hy =>
            intro w hSw
            (try dsimp only at hSw)
            go_simp
            (try with_reducible rfl)
          try simp only [Act.put, List.getElem_toArray, List.getElem_cons_succ, List.getElem_cons_zero, List.setIfInBounds_toArray, List.set_cons_zero, List.set_cons_succ]
          refine wpAnyH_take (i := 5) (v := ?_) rfl (by kernel_rfl) (by kernel_rfl) (by kernel_rfl) (fun _ _ _ h => h) (Or.inl ⟨by rfl, ?hy⟩) hHeld ?_
          case hy =>
            intro w hSw
            (try dsimp only at hSw)
            go_simp
            (try with_reducible rfl)
          try simp only [Act.put, List.getElem_toArray, List.getElem_cons_succ, List.getElem_cons_zero, List.setIfInBounds_toArray, List.set_cons_zero, List.set_cons_succ]
          refine wpAnyH_take (i := 6) (v := ?_) rfl (by kernel_rfl) (by kernel_rfl) (by kernel_rfl) (fun _ _ _ h => h) (Or.inl ⟨by rfl, ?hy⟩) hHeld ?_
          case hy =>
            intro w hSw
            (try dsimp only at hSw)
            go_simp
            (try with_reducible rfl)
          try simp only [Act.put, List.getElem_toArray, List.getElem_cons_succ, List.getElem_cons_zero, List.setIfInBounds_toArray, List.set_cons_zero, List.set_cons_succ]
          refine wpAnyH_take (i := 7) (v := ?_) rfl (by kernel_rfl) (by kernel_rfl) (by kernel_rfl) (fun _ _ _ h => h) (Or.inl ⟨by rfl, ?hy⟩) hHeld ?_
          case hy =>
            intro w hSw
            (try dsimp only at hSw)
            go_simp
            (try with_reducible rfl)
          try simp only [Act.put, List.getElem_toArray, List.getElem_cons_succ, List.getElem_cons_zero, List.setIfInBounds_toArray, List.set_cons_zero, List.set_cons_succ]
          refine wpAnyH_take (i := 8) (v := ?_) rfl (by kernel_rfl) (by kernel_rfl) (by kernel_rfl) (fun _ _ _ h => h) (Or.inl ⟨by rfl, ?hy⟩) hHeld ?_
          case hy =>
            intro w hSw
            (try dsimp only at hSw)
            go_simp
            (try with_reducible rfl)
          try simp only [Act.put, List.getElem_toArray, List.getElem_cons_succ, List.getElem_cons_zero, List.setIfInBounds_toArray, List.set_cons_zero, List.set_cons_succ]
          refine wpAnyH_take (i := 9) (v := ?_) rfl (by kernel_rfl) (by kernel_rfl) (by kernel_rfl) (fun _ _ _ h => h) (Or.inl ⟨by rfl, ?hy⟩) hHeld ?_
          case hy =>
            intro w hSw
            (try dsimp only at hSw)
            go_simp
            (try with_reducible rfl)
          try simp only [Act.put, List.getElem_toArray, List.getElem_cons_succ, List.getElem_cons_zero, List.setIfInBounds_toArray, List.set_cons_zero, List.set_cons_succ]
          refine wpAnyH_done (by kernel_rfl) ?_ _
          simp only [Exit.then]
          go_wp2_with fail
          go_roundw
          case rel => exact ⟨3, by decide, by first | rfl | go_num, by rw [hS1.out, hstep.out, hf2.out], hS, hT, hW.drew⟩
          case measure => simp [intOf]
        · have hf2 : Hid (F = 1000) := Lib.hid (by rw [hf.out]; omega)
          go_wp2_with fail
          refine wp_region_held0 (S := fun w' => w'.cell? ⟨s, 2, none⟩ = some (.int .i64 x2) ∧ w'.cell? ⟨t, 2, none⟩ = some (.int .i64 y2)) (by kernel_rfl) ⟨hS.cell 2, hT.cell 2⟩ (fun hHeld => ?_)
          refine wpAnyH_take (i := 0) (v := ?_) rfl (by kernel_rfl) (by kernel_rfl) (by kernel_rfl) (fun _ _ _ h => h) (Or.inl ⟨by rfl, ?hy⟩) hHeld ?_
          case hy =>
            intro w hSw
            (try dsimp only at hSw)
            go_simp
            (try with_reducible rfl)
          try simp only [Act.put, List.getElem_toArray, List.getElem_cons_succ, List.getElem_cons_zero, List.setIfInBounds_toArray, List.set_cons_zero, List.set_cons_succ]
          refine wpAnyH_take (i := 1) (v := ?_) rfl (by kernel_rfl) (by kernel_rfl) (by kernel_rfl) (fun _ _ _ h => h) (Or.inl ⟨by rfl, ?hy⟩) hHeld ?_
          case hy =>
            intro w hSw
            (try dsimp only at hSw)
            go_simp
            (try with_reducible rfl)
          try simp only [Act.put, List.getElem_toArray, List.getElem_cons_succ, List.getElem_cons_zero, List.setIfInBounds_toArray, List.set_cons_zero, List.set_cons_succ]
          refine wpAnyH_take (i := 2) (v := ?_) rfl (by kernel_rfl) (by kernel_rfl) (by kernel_rfl) (fun _ _ _ h => h) (Or.inl ⟨by rfl, ?hy⟩) hHeld ?_
          case hy =>
            intro w hSw
            (try dsimp only at hSw)
            go_simp
            (try with_reducible rfl)
          try simp only [Act.put, List.getElem_toArray, List.getElem_cons_succ, List.getElem_cons_zero, List.setIfInBounds_toArray, List.set_cons_zero, List.set_cons_succ]
          refine wpAnyH_take (i := 3) (v := ?_) rfl (by kernel_rfl) (by kernel_rfl) (by kernel_rfl) (fun _ _ _ h => h) (Or.inl ⟨by rfl, ?hy⟩) hHeld ?_
          case hy =>
            intro w hSw
            (try dsimp only at hSw)
            go_simp
            (try with_reducible rfl)
          try simp only [Act.put, List.getElem_toArray, List.getElem_cons_succ, List.getElem_cons_zero, List.setIfInBounds_toArray, List.set_cons_zero, List.set_cons_succ]
          refine wpAnyH_take (i := 4) (v := ?_) rfl (by kernel_rfl) (by kernel_rfl) (by kernel_rfl) (fun _ _ _ h => h) (Or.inl ⟨by rfl, ?hy⟩) hHeld ?_
          case hy =>
            intro w hSw
            (try dsimp only at hSw)
            go_simp
            (try with_reducible rfl)
          try simp only [Act.put, List.getElem_toArray, List.getElem_cons_succ, List.getElem_cons_zero, List.setIfInBounds_toArray, List.set_cons_zero, List.set_cons_succ]
          refine wpAnyH_take (i := 5) (v := ?_) rfl (by kernel_rfl) (by kernel_rfl) (by kernel_rfl) (fun _ _ _ h => h) (Or.inl ⟨by rfl, ?hy⟩) hHeld ?_
          case hy =>
            intro w hSw
            (try dsimp only at hSw)
            go_simp
            (try with_reducible rfl)
          try simp only [Act.put, List.getElem_toArray, List.getElem_cons_succ, List.getElem_cons_zero, List.setIfInBounds_toArray, List.set_cons_zero, List.set_cons_succ]
          refine wpAnyH_take (i := 6) (v := ?_) rfl (by kernel_rfl) (by kernel_rfl) (by kernel_rfl) (fun _ _ _ h => h) (Or.inl ⟨by rfl, ?hy⟩) hHeld ?_
          case hy =>
            intro w hSw
            (try dsimp only at hSw)
            go_simp
            (try with_reducible rfl)
          try simp only [Act.put, List.getElem_toArray, List.getElem_cons_succ, List.getElem_cons_zero, List.setIfInBounds_toArray, List.set_cons_zero, List.set_cons_succ]
          refine wpAnyH_take (i := 7) (v := ?_) rfl (by kernel_rfl) (by kernel_rfl) (by kernel_rfl) (fun _ _ _ h => h) (Or.inl ⟨by rfl, ?hy⟩) hHeld ?_
          case hy =>
            intro w hSw
            (try dsimp only at hSw)
            go_simp
            (try with_reducible rfl)
          try simp only [Act.put, List.getElem_toArray, List.getElem_cons_succ, List.getElem_cons_zero, List.setIfInBounds_toArray, List.set_cons_zero, List.set_cons_succ]
          refine wpAnyH_take (i := 8) (v := ?_) rfl (by kernel_rfl) (by kernel_rfl) (by kernel_rfl) (fun _ _ _ h => h) (Or.inl ⟨by rfl, ?hy⟩) hHeld ?_
          case hy =>
            intro w hSw
            (try dsimp only at hSw)
            go_simp
            (try with_reducible rfl)
          try simp only [Act.put, List.getElem_toArray, List.getElem_cons_succ, List.getElem_cons_zero, List.setIfInBounds_toArray, List.set_cons_zero, List.set_cons_succ]
          refine wpAnyH_take (i := 9) (v := ?_) rfl (by kernel_rfl) (by kernel_rfl) (by kernel_rfl) (fun _ _ _ h => h) (Or.inl ⟨by rfl, ?hy⟩) hHeld ?_
          case hy =>
            intro w hSw
            (try dsimp only at hSw)
            go_simp
            (try with_reducible rfl)
          try simp only [Act.put, List.getElem_toArray, List.getElem_cons_succ, List.getElem_cons_zero, List.setIfInBounds_toArray, List.set_cons_zero, List.set_cons_succ]
          refine wpAnyH_done (by kernel_rfl) ?_ _
          simp only [Exit.then]
          go_wp2_with fail
          go_roundw
          case rel => exact ⟨3, by decide, by first | rfl | go_num, by rw [hS1.out, hstep.out, hf2.out], hS, hT, hW.drew⟩
          case measure => simp [intOf]
      · have hf : Hid (fullN x2 y2 = 1000) := Lib.hid (by unfold fullN; rw [if_pos (by omega)])
        generalize fullN x2 y2 = F at *
        go_wp2_with fail
        go_roundw
        case rel => exact ⟨3, by decide, by first | rfl | go_num, by rw [hS1.out, hstep.out, hf.out], hS, hT, hW⟩
        case measure => simp [intOf]
    · rw [← hN.out]
      go_wp2_with fail
      go_ret
      exact ⟨rfl, hW⟩
end Go.Proofs.Ytbamgoocgmhohaa
