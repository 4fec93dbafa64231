/- Scores: how full a machine is, and what it would be, walked. Conditions: none. -/
import Derived.Test.YtbamgoocgmhohaaVec3
import Derived.Test.YtbamgoocgmhohaaRef1b
import Derived.Test.YtbamgoocgmhohaaK13
namespace Go.Proofs.Ytbamgoocgmhohaa
open Go.RowKit

def mayUseV (a : Vec) : Bool := decide (0 ≤ a.cpu) && (decide (a.cpu ≤ 1125899906842624) && (decide (0 ≤ a.mem) && (decide (a.mem ≤ 1125899906842624) && (decide (0 ≤ a.disk) && decide (a.disk ≤ 1125899906842624)))))
theorem mayUseV_spec (a : Vec) : mayUseV a = true ↔ (0 ≤ a.cpu ∧ a.cpu ≤ 1125899906842624) ∧ (0 ≤ a.mem ∧ a.mem ≤ 1125899906842624) ∧ (0 ≤ a.disk ∧ a.disk ≤ 1125899906842624) := by
  unfold mayUseV
  simp only [Bool.and_eq_true, decide_eq_true_eq]
  omega
theorem mayV_spec (a : Vec) : mayV a = true ↔ (0 ≤ a.cpu ∧ a.cpu ≤ 1099511627776) ∧ (0 ≤ a.mem ∧ a.mem ≤ 1099511627776) ∧ (0 ≤ a.disk ∧ a.disk ≤ 1099511627776) := by
  unfold mayV
  simp only [Bool.and_eq_true, decide_eq_true_eq]
  omega
theorem fitsV_spec (a b : Vec) : fitsV a b = true ↔ a.cpu ≤ b.cpu ∧ a.mem ≤ b.mem ∧ a.disk ≤ b.disk := by
  unfold fitsV
  simp only [Bool.and_eq_true, decide_eq_true_eq]
/-- One number of another one, in thousandths. -/
def fullN (h u : Int) : Int := if h = 0 then 1000 else min (u * 1000 / h) 1000
theorem fullN_bd {h u : Int} (hh : 0 ≤ h) (hu : 0 ≤ u) : 0 ≤ fullN h u ∧ fullN h u ≤ 1000 := by
  unfold fullN
  by_cases h0 : h = 0
  · rw [if_pos h0]; omega
  · rw [if_neg h0]
    have : 0 ≤ u * 1000 / h := Int.ediv_nonneg (by omega) hh
    omega
def fillN (h u : Vec) : Int := fullN h.cpu u.cpu + fullN h.mem u.mem + fullN h.disk u.disk
def sumVec (u m : Vec) : Vec := ⟨u.cpu + m.cpu, u.mem + m.mem, u.disk + m.disk⟩
/-- What may be scored. -/
def mayS (h u m : Vec) : Bool := mayV h && (mayUseV u && mayV m)
/-- Does it stand there? -/
def standsV (h u m : Vec) : Bool := fitsV (sumVec u m) h
def scoreN (h u m : Vec) : Int := if standsV h u m then fillN h (sumVec u m) else 0
set_option maxHeartbeats 1000000 in
theorem sc_mayUse (a : Vec) (w : World) : Calls Try.prog 62 #[a.v] w fun e w' => e = .returned (.bool (mayUseV a)) ∧ Below w.heap.size w w' := by
  have e : mayUseV a = (fitsV zeroV a && fitsV a ⟨1125899906842624, 1125899906842624, 1125899906842624⟩) := by
    unfold mayUseV fitsV zeroV
    rw [Bool.eq_iff_iff]
    simp only [Bool.and_eq_true, decide_eq_true_eq]
    omega
  obtain ⟨a0, a1, a2⟩ := a
  have c1 : ∀ w, Calls Try.prog 48 #[.agg #[.int .i64 0, .int .i64 0, .int .i64 0], .agg #[.int .i64 a0, .int .i64 a1, .int .i64 a2]] w fun e w' => e = .returned (.bool (fitsV zeroV ⟨a0, a1, a2⟩)) ∧ Below w.heap.size w w' := fun w => vec_Fits zeroV ⟨a0, a1, a2⟩ w
  have c2 : ∀ w, Calls Try.prog 48 #[.agg #[.int .i64 a0, .int .i64 a1, .int .i64 a2], .agg #[.int .i64 1125899906842624, .int .i64 1125899906842624, .int .i64 1125899906842624]] w fun e w' => e = .returned (.bool (fitsV ⟨a0, a1, a2⟩ ⟨1125899906842624, 1125899906842624, 1125899906842624⟩)) ∧ Below w.heap.size w w' := fun w => vec_Fits ⟨a0, a1, a2⟩ ⟨1125899906842624, 1125899906842624, 1125899906842624⟩ w
  rw [e]
  have C1 := Lib.hid c1
  have C2 := Lib.hid c2
  clear c1 c2 e
  generalize fitsV ⟨a0, a1, a2⟩ ⟨1125899906842624, 1125899906842624, 1125899906842624⟩ = q at *
  generalize fitsV zeroV ⟨a0, a1, a2⟩ = p at *
  cases p
  · go_enter Try.func62, Try.ntmps62
    go_wp2_with fail
    refine (C1.out _).mono ?_
    rintro e w1 ⟨rfl, hb1⟩; dsimp only
    have hB : Below w.heap.size w w1 := below_to (by go_grown) hb1
    obtain ⟨hc1, hf1, -, -, hb1⟩ := after_call hb1
    go_wp2_with fail
    go_ret
    exact ⟨rfl, hB⟩
  · go_enter Try.func62, Try.ntmps62
    go_wp2_with fail
    refine (C1.out _).mono ?_
    rintro e w1 ⟨rfl, hb1⟩; dsimp only
    obtain ⟨hc1, hf1, -, -, hb1⟩ := after_call hb1
    go_wp2_with fail
    refine (C2.out _).mono ?_
    rintro e w2 ⟨rfl, hb2⟩; dsimp only
    obtain ⟨hc2, hf2, -, -, hb2⟩ := more_call hb1 hb2
    have hB : Below w.heap.size w w2 := below_to (by go_grown) hb2
    go_wp2_with fail
    go_ret
    exact ⟨by simp, hB⟩
set_option maxHeartbeats 1000000 in
theorem sc_full (x y : Int) (hx : 0 ≤ x ∧ x ≤ 1099511627776) (hy : 0 ≤ y ∧ y ≤ 1125899906842624) (w : World) : Calls Try.prog 63 #[.int .i64 x, .int .i64 y] w fun e w' => e = .returned (.int .i64 (fullN x y)) ∧ w = w' := by
  by_cases h0 : x = 0
  · subst h0
    go_enter Try.func63, Try.ntmps63
    go_wp2_with fail
    go_ret
    exact ⟨rfl, rfl⟩
  · have hq : (y * 1000).tdiv x = y * 1000 / x := Int.tdiv_eq_ediv_of_nonneg (by omega)
    have hb : 0 ≤ y * 1000 / x := Int.ediv_nonneg (by omega) hx.1
    have hb2 : y * 1000 / x ≤ y * 1000 := Int.ediv_le_self _ (by omega)
    have h1 : (x == 0) = false := by simpa using h0
    have hf : fullN x y = min (y * 1000 / x) 1000 := by unfold fullN; rw [if_neg h0]
    rw [hf]
    clear hf
    generalize hz : y * 1000 / x = z at *
    have HM := Lib.hid (show (z ≤ 1000 → min z 1000 = z) ∧ (¬ z ≤ 1000 → min z 1000 = 1000) by constructor <;> intro <;> omega)
    generalize min z 1000 = m at *
    go_enter Try.func63, Try.ntmps63
    go_wp2_with fail
    all_goals
      go_ret
      refine ⟨?_, rfl⟩
      first
        | (rw [HM.out.1 (by omega)]; rfl)
        | (rw [HM.out.2 (by omega)]; rfl)
set_option maxHeartbeats 2000000 in
theorem sc_Fill (x y : Vec) (w : World) : Calls Try.prog 37 #[x.v, y.v] w fun e w' => e = .returned (if (mayV x && mayUseV y) = true then .tuple #[.int .i64 (fillN x y), .int .i64 0] else .tuple #[.int .i64 0, .int .i64 2]) ∧ Below w.heap.size w w' := by
  have hm := mayV_spec x
  have hu := mayUseV_spec y
  obtain ⟨x0, x1, x2⟩ := x
  obtain ⟨y0, y1, y2⟩ := y
  have C1 : Hid (∀ w, Calls Try.prog 54 #[.agg #[.int .i64 x0, .int .i64 x1, .int .i64 x2]] w fun e w' => e = .returned (.bool (mayV ⟨x0, x1, x2⟩)) ∧ Below w.heap.size w w') := Lib.hid (fun w => vec_May ⟨x0, x1, x2⟩ w)
  have C2 : Hid (∀ w, Calls Try.prog 62 #[.agg #[.int .i64 y0, .int .i64 y1, .int .i64 y2]] w fun e w' => e = .returned (.bool (mayUseV ⟨y0, y1, y2⟩)) ∧ Below w.heap.size w w') := Lib.hid (fun w => sc_mayUse ⟨y0, y1, y2⟩ w)
  have hF : fillN ⟨x0, x1, x2⟩ ⟨y0, y1, y2⟩ = fullN x0 y0 + fullN x1 y1 + fullN x2 y2 := rfl
  generalize mayV ⟨x0, x1, x2⟩ = p at *
  generalize mayUseV ⟨y0, y1, y2⟩ = q at *
  generalize fillN ⟨x0, x1, x2⟩ ⟨y0, y1, y2⟩ = N at *
  replace hm := Lib.hid hm
  replace hu := Lib.hid hu
  cases p
  · go_enter Try.func37, Try.ntmps37
    go_wp2_with fail
    refine (C1.out _).mono ?_
    rintro e w1 ⟨rfl, hb1⟩; dsimp only
    have hB : Below w.heap.size w w1 := below_to (by go_grown) hb1
    obtain ⟨hc1, hf1, -, -, hb1⟩ := after_call hb1
    go_wp2_with fail
    refine bodyPost_ret (v := .tuple #[.int .i64 0, .int .i64 2]) (by simp [results, Try.results37, go_sem]) rfl ?_
    exact ⟨rfl, hB⟩
  · cases q
    · go_enter Try.func37, Try.ntmps37
      go_wp2_with fail
      refine (C1.out _).mono ?_
      rintro e w1 ⟨rfl, hb1⟩; dsimp only
      obtain ⟨hc1, hf1, -, -, hb1⟩ := after_call hb1
      go_wp2_with fail
      refine (C2.out _).mono ?_
      rintro e w2 ⟨rfl, hb2⟩; dsimp only
      obtain ⟨hc2, hf2, -, -, hb2⟩ := more_call hb1 hb2
      have hB : Below w.heap.size w w2 := below_to (by go_grown) hb2
      go_wp2_with fail
      refine bodyPost_ret (v := .tuple #[.int .i64 0, .int .i64 2]) (by simp [results, Try.results37, go_sem]) rfl ?_
      exact ⟨rfl, hB⟩
    · obtain ⟨m0, m1, m2⟩ := hm.out.1 rfl
      obtain ⟨u0, u1, u2⟩ := hu.out.1 rfl
      dsimp only at m0 m1 m2 u0 u1 u2
      have f0 := Lib.hid (fun w => sc_full x0 y0 m0 u0 w)
      have f1 := Lib.hid (fun w => sc_full x1 y1 m1 u1 w)
      have f2 := Lib.hid (fun w => sc_full x2 y2 m2 u2 w)
      have b0 := fullN_bd m0.1 u0.1
      have b1 := fullN_bd m1.1 u1.1
      have b2 := fullN_bd m2.1 u2.1
      generalize fullN x0 y0 = g0 at *
      generalize fullN x1 y1 = g1 at *
      generalize fullN x2 y2 = g2 at *
      replace hF := Lib.hid hF
      clear hm hu m0 m1 m2 u0 u1 u2
      go_enter Try.func37, Try.ntmps37
      go_wp2_with fail
      refine (C1.out _).mono ?_
      rintro e w1 ⟨rfl, hb1⟩; dsimp only
      obtain ⟨hc1, hf1, -, -, hb1⟩ := after_call hb1
      go_wp2_with fail
      refine (C2.out _).mono ?_
      rintro e w2 ⟨rfl, hb2⟩; dsimp only
      obtain ⟨hc2, hf2, -, -, hb2⟩ := more_call hb1 hb2
      have hB : Below w.heap.size w w2 := below_to (by go_grown) hb2
      go_wp2_with fail
      have B1 : Blk w2 w.heap.size 25 #[.int .i64 x0, .int .i64 x1, .int .i64 x2] := by
        exact Blk.past ((Blk.new w 25 #[.int .i64 x0, .int .i64 x1, .int .i64 x2]).alloc (.cells #[.int .i64 y0, .int .i64 y1, .int .i64 y2] 25)) hb2
      have B2 : Blk w2 (w.heap.size + 1) 25 #[.int .i64 y0, .int .i64 y1, .int .i64 y2] := by
        exact Blk.past (Blk.new1 w (.cells #[.int .i64 x0, .int .i64 x1, .int .i64 x2] 25) 25 #[.int .i64 y0, .int .i64 y1, .int .i64 y2]) hb2
      refine wp_region_held0 (S := fun w' => w'.cell? ⟨w.heap.size, 0, none⟩ = some (.int .i64 x0) ∧ w'.cell? ⟨w.heap.size, 1, none⟩ = some (.int .i64 x1) ∧ w'.cell? ⟨w.heap.size, 2, none⟩ = some (.int .i64 x2) ∧ w'.cell? ⟨w.heap.size + 1, 0, none⟩ = some (.int .i64 y0) ∧ w'.cell? ⟨w.heap.size + 1, 1, none⟩ = some (.int .i64 y1) ∧ w'.cell? ⟨w.heap.size + 1, 2, none⟩ = some (.int .i64 y2)) (by kernel_rfl) ⟨B1.cell 0, B1.cell 1, B1.cell 2, B2.cell 0, B2.cell 1, B2.cell 2⟩ (fun hHeld => ?_)
      refine wpAnyH_take (i := 0) (v := ?_) rfl (by kernel_rfl) (by kernel_rfl) (by kernel_rfl) (fun _ _ _ h => h) (Or.inl ⟨by rfl, ?hy⟩) hHeld ?_
      case hy =>
        intro w hSw
        (try dsimp only at hSw)
        go_simp
        (try with_reducible rfl)
      try simp only [Act.put, List.getElem_toArray, List.getElem_cons_succ, List.getElem_cons_zero, List.setIfInBounds_toArray, List.set_cons_zero, List.set_cons_succ]
      refine wpAnyH_take (i := 1) (v := ?_) rfl (by kernel_rfl) (by kernel_rfl) (by kernel_rfl) (fun _ _ _ h => h) (Or.inl ⟨by rfl, ?hy⟩) hHeld ?_
      case hy =>
        intro w hSw
        (try dsimp only at hSw)
        go_simp
        (try with_reducible rfl)
      try simp only [Act.put, List.getElem_toArray, List.getElem_cons_succ, List.getElem_cons_zero, List.setIfInBounds_toArray, List.set_cons_zero, List.set_cons_succ]
      refine wpAnyH_take (i := 2) (v := ?_) rfl (by kernel_rfl) (by kernel_rfl) (by kernel_rfl) (fun _ _ _ h => h) (Or.inl ⟨by rfl, ?hy⟩) hHeld ?_
      case hy =>
        intro w hSw
        (try dsimp only at hSw)
        go_simp
        (try with_reducible rfl)
      try simp only [Act.put, List.getElem_toArray, List.getElem_cons_succ, List.getElem_cons_zero, List.setIfInBounds_toArray, List.set_cons_zero, List.set_cons_succ]
      refine wpAnyH_take (i := 3) (v := ?_) rfl (by kernel_rfl) (by kernel_rfl) (by kernel_rfl) (fun _ _ _ h => h) (Or.inl ⟨by rfl, ?hy⟩) hHeld ?_
      case hy =>
        intro w hSw
        (try dsimp only at hSw)
        go_simp
        (try with_reducible rfl)
      try simp only [Act.put, List.getElem_toArray, List.getElem_cons_succ, List.getElem_cons_zero, List.setIfInBounds_toArray, List.set_cons_zero, List.set_cons_succ]
      refine wpAnyH_take (i := 5) (v := ?_) rfl (by kernel_rfl) (by kernel_rfl) (by kernel_rfl) (fun _ _ _ h => h) (Or.inl ⟨by rfl, ?hy⟩) hHeld ?_
      case hy =>
        intro w hSw
        (try dsimp only at hSw)
        go_simp
        (try with_reducible rfl)
      try simp only [Act.put, List.getElem_toArray, List.getElem_cons_succ, List.getElem_cons_zero, List.setIfInBounds_toArray, List.set_cons_zero, List.set_cons_succ]
      refine wpAnyH_take (i := 6) (v := ?_) rfl (by kernel_rfl) (by kernel_rfl) (by kernel_rfl) (fun _ _ _ h => h) (Or.inl ⟨by rfl, ?hy⟩) hHeld ?_
      case hy =>
        intro w hSw
        (try dsimp only at hSw)
        go_simp
        (try with_reducible rfl)
      try simp only [Act.put, List.getElem_toArray, List.getElem_cons_succ, List.getElem_cons_zero, List.setIfInBounds_toArray, List.set_cons_zero, List.set_cons_succ]
      refine wpAnyH_take (i := 7) (v := ?_) rfl (by kernel_rfl) (by kernel_rfl) (by kernel_rfl) (fun _ _ _ h => h) (Or.inl ⟨by rfl, ?hy⟩) hHeld ?_
      case hy =>
        intro w hSw
        (try dsimp only at hSw)
        go_simp
        (try with_reducible rfl)
      try simp only [Act.put, List.getElem_toArray, List.getElem_cons_succ, List.getElem_cons_zero, List.setIfInBounds_toArray, List.set_cons_zero, List.set_cons_succ]
      refine wpAnyH_take (i := 8) (v := ?_) rfl (by kernel_rfl) (by kernel_rfl) (by kernel_rfl) (fun _ _ _ h => h) (Or.inl ⟨by rfl, ?hy⟩) hHeld ?_
      case hy =>
        intro w hSw
        (try dsimp only at hSw)
        go_simp
        (try with_reducible rfl)
      try simp only [Act.put, List.getElem_toArray, List.getElem_cons_succ, List.getElem_cons_zero, List.setIfInBounds_toArray, List.set_cons_zero, List.set_cons_succ]
      refine wpAnyH_take (i := 11) (v := ?_) rfl (by kernel_rfl) (by kernel_rfl) (by kernel_rfl) (fun _ _ _ h => h) (Or.inl ⟨by rfl, ?hy⟩) hHeld ?_
      case hy =>
        intro w hSw
        (try dsimp only at hSw)
        go_simp
        (try with_reducible rfl)
      try simp only [Act.put, List.getElem_toArray, List.getElem_cons_succ, List.getElem_cons_zero, List.setIfInBounds_toArray, List.set_cons_zero, List.set_cons_succ]
      refine wpAnyH_take (i := 12) (v := ?_) rfl (by kernel_rfl) (by kernel_rfl) (by kernel_rfl) (fun _ _ _ h => h) (Or.inl ⟨by rfl, ?hy⟩) hHeld ?_
      case hy =>
        intro w hSw
        (try dsimp only at hSw)
        go_simp
        (try with_reducible rfl)
      try simp only [Act.put, List.getElem_toArray, List.getElem_cons_succ, List.getElem_cons_zero, List.setIfInBounds_toArray, List.set_cons_zero, List.set_cons_succ]
      refine wpAnyH_take (i := 13) (v := ?_) rfl (by kernel_rfl) (by kernel_rfl) (by kernel_rfl) (fun _ _ _ h => h) (Or.inl ⟨by rfl, ?hy⟩) hHeld ?_
      case hy =>
        intro w hSw
        (try dsimp only at hSw)
        go_simp
        (try with_reducible rfl)
      try simp only [Act.put, List.getElem_toArray, List.getElem_cons_succ, List.getElem_cons_zero, List.setIfInBounds_toArray, List.set_cons_zero, List.set_cons_succ]
      refine wpAnyH_take (i := 14) (v := ?_) rfl (by kernel_rfl) (by kernel_rfl) (by kernel_rfl) (fun _ _ _ h => h) (Or.inl ⟨by rfl, ?hy⟩) hHeld ?_
      case hy =>
        intro w hSw
        (try dsimp only at hSw)
        go_simp
        (try with_reducible rfl)
      try simp only [Act.put, List.getElem_toArray, List.getElem_cons_succ, List.getElem_cons_zero, List.setIfInBounds_toArray, List.set_cons_zero, List.set_cons_succ]
      refine wpAnyH_ready (rs := [4]) (by kernel_rfl) (by simp) ?_
      refine AllReadyH.cons rfl (fun K hK => ?_) AllReadyH.nil
      have hOld := hHeld
      clear hHeld
      go_simp
      refine (f0.out _).mono ?_
      rintro r ww ⟨rfl, rfl⟩
      dsimp only
      refine hK.out _ _ (hOld) (fun hHeld => ?_)
      clear hK K hOld
      try simp only [Act.put, List.getElem_toArray, List.getElem_cons_succ, List.getElem_cons_zero, List.setIfInBounds_toArray, List.set_cons_zero, List.set_cons_succ]
      refine wpAnyH_ready (rs := [9]) (by kernel_rfl) (by simp) ?_
      refine AllReadyH.cons rfl (fun K hK => ?_) AllReadyH.nil
      have hOld := hHeld
      clear hHeld
      go_simp
      refine (f1.out _).mono ?_
      rintro r ww ⟨rfl, rfl⟩
      dsimp only
      refine hK.out _ _ (hOld) (fun hHeld => ?_)
      clear hK K hOld
      try simp only [Act.put, List.getElem_toArray, List.getElem_cons_succ, List.getElem_cons_zero, List.setIfInBounds_toArray, List.set_cons_zero, List.set_cons_succ]
      refine wpAnyH_take (i := 10) (v := ?_) rfl (by kernel_rfl) (by kernel_rfl) (by kernel_rfl) (fun _ _ _ h => h) (Or.inl ⟨by rfl, ?hy⟩) hHeld ?_
      case hy =>
        intro w hSw
        (try dsimp only at hSw)
        go_simp
        (try with_reducible rfl)
      try simp only [Act.put, List.getElem_toArray, List.getElem_cons_succ, List.getElem_cons_zero, List.setIfInBounds_toArray, List.set_cons_zero, List.set_cons_succ]
      refine wpAnyH_ready (rs := [15]) (by kernel_rfl) (by simp) ?_
      refine AllReadyH.cons rfl (fun K hK => ?_) AllReadyH.nil
      have hOld := hHeld
      clear hHeld
      go_simp
      refine (f2.out _).mono ?_
      rintro r ww ⟨rfl, rfl⟩
      dsimp only
      refine hK.out _ _ (hOld) (fun hHeld => ?_)
      clear hK K hOld
      try simp only [Act.put, List.getElem_toArray, List.getElem_cons_succ, List.getElem_cons_zero, List.setIfInBounds_toArray, List.set_cons_zero, List.set_cons_succ]
      refine wpAnyH_take (i := 16) (v := ?_) rfl (by kernel_rfl) (by kernel_rfl) (by kernel_rfl) (fun _ _ _ h => h) (Or.inl ⟨by rfl, ?hy⟩) hHeld ?_
      case hy =>
        intro w hSw
        (try dsimp only at hSw)
        go_simp
        (try with_reducible rfl)
      try simp only [Act.put, List.getElem_toArray, List.getElem_cons_succ, List.getElem_cons_zero, List.setIfInBounds_toArray, List.set_cons_zero, List.set_cons_succ]
      refine wpAnyH_take (i := 17) (v := ?_) rfl (by kernel_rfl) (by kernel_rfl) (by kernel_rfl) (fun _ _ _ h => h) (Or.inl ⟨by rfl, ?hy⟩) hHeld ?_
      case hy =>
        intro w hSw
        (try dsimp only at hSw)
        go_simp
        (try with_reducible rfl)
      try simp only [Act.put, List.getElem_toArray, List.getElem_cons_succ, List.getElem_cons_zero, List.setIfInBounds_toArray, List.set_cons_zero, List.set_cons_succ]
      refine wpAnyH_take (i := 18) (v := ?_) rfl (by kernel_rfl) (by kernel_rfl) (by kernel_rfl) (fun _ _ _ h => h) (Or.inl ⟨by rfl, ?hy⟩) hHeld ?_
      case hy =>
        intro w hSw
        (try dsimp only at hSw)
        go_simp
        (try with_reducible rfl)
      try simp only [Act.put, List.getElem_toArray, List.getElem_cons_succ, List.getElem_cons_zero, List.setIfInBounds_toArray, List.set_cons_zero, List.set_cons_succ]
      refine wpAnyH_done (by kernel_rfl) ?_ _
      simp only [Exit.then]
      go_wp2_with fail
      have hw1 : IntKind.i64.wrap (g0 + g1) = g0 + g1 := IntWalk.i64_in _ (by omega)
      have hw2 : IntKind.i64.wrap (g0 + g1 + g2) = g0 + g1 + g2 := IntWalk.i64_in _ (by omega)
      refine bodyPost_ret (v := .tuple #[.int .i64 (g0 + g1 + g2), .int .i64 0]) (by simp [results, Try.results37, go_sem, hw1, hw2]) rfl ?_
      exact ⟨by rw [hF.out], hB.drew⟩
theorem sum_ok {u m : Vec} (hu : mayUseV u = true) (hm : mayV m = true) : addV u m = (sumVec u m, 0) := by
  rw [mayUseV_spec] at hu
  rw [mayV_spec] at hm
  have h1 : fits (u.cpu + m.cpu) = true := by unfold fits; simp only [decide_eq_true_eq]; omega
  have h2 : fits (u.mem + m.mem) = true := by unfold fits; simp only [decide_eq_true_eq]; omega
  have h3 : fits (u.disk + m.disk) = true := by unfold fits; simp only [decide_eq_true_eq]; omega
  unfold addV eachV
  simp only [h1, h2, h3, Bool.and_self, if_true]
  rfl
theorem sum_use {h u m : Vec} (hh : mayV h = true) (hu : mayUseV u = true) (hm : mayV m = true) (hs : standsV h u m = true) : mayUseV (sumVec u m) = true := by
  rw [mayUseV_spec] at hu ⊢
  rw [mayV_spec] at hm hh
  unfold standsV at hs
  rw [fitsV_spec] at hs
  simp only [sumVec] at *
  omega
set_option maxHeartbeats 4000000 in
theorem sc_Score (x y z : Vec) (hx : x.ok) (hy : y.ok) (hz : z.ok) (w : World) : Calls Try.prog 41 #[x.v, y.v, z.v] w fun e w' => e = .returned (if mayS x y z = true then .tuple #[.int .i64 (scoreN x y z), .bool (standsV x y z), .int .i64 0] else .tuple #[.int .i64 0, .bool false, .int .i64 2]) ∧ Below w.heap.size w w' := by
  have c1 := fun w => vec_May x w
  have c2 := fun w => sc_mayUse y w
  have c3 := fun w => vec_May z w
  have c4 := fun w => vec_Add y z hy hz w
  have c5 := fun w => vec_Fits (sumVec y z) x w
  have c6 := fun w => sc_Fill x (sumVec y z) w
  have h1 := @sum_ok y z
  have h2 := @sum_use x y z
  unfold mayS scoreN standsV
  unfold standsV at h2
  obtain ⟨x0, x1, x2⟩ := x
  obtain ⟨y0, y1, y2⟩ := y
  obtain ⟨z0, z1, z2⟩ := z
  generalize sumVec ⟨y0, y1, y2⟩ ⟨z0, z1, z2⟩ = s at *
  obtain ⟨s0, s1, s2⟩ := s
  generalize addV ⟨y0, y1, y2⟩ ⟨z0, z1, z2⟩ = a at *
  generalize mayV ⟨x0, x1, x2⟩ = p at *
  generalize mayUseV ⟨y0, y1, y2⟩ = q at *
  generalize mayV ⟨z0, z1, z2⟩ = r at *
  generalize mayUseV ⟨s0, s1, s2⟩ = t at *
  generalize fitsV ⟨s0, s1, s2⟩ ⟨x0, x1, x2⟩ = f at *
  generalize fillN ⟨x0, x1, x2⟩ ⟨s0, s1, s2⟩ = N at *
  dsimp only [Vec.v] at c1 c2 c3 c4 c5 c6
  clear hx hy hz
  replace h1 := Lib.hid h1
  replace h2 := Lib.hid h2
  have C1 := Lib.hid c1
  have C2 := Lib.hid c2
  have C3 := Lib.hid c3
  have C4 := Lib.hid c4
  have C5 := Lib.hid c5
  have C6 := Lib.hid c6
  clear c1 c2 c3 c4 c5 c6
  cases p
  · go_enter Try.func41, Try.ntmps41
    go_wp2_with fail
    refine (C1.out _).mono ?_
    rintro e w1 ⟨rfl, hb1⟩; dsimp only
    have hB : Below w.heap.size w w1 := below_to (by go_grown) hb1
    obtain ⟨hc1, hf1, -, -, hb1⟩ := after_call hb1
    go_wp2_with fail
    refine bodyPost_ret (v := .tuple #[.int .i64 0, .bool false, .int .i64 2]) (by simp [results, Try.results41, go_sem]) rfl ?_
    exact ⟨rfl, hB⟩
  cases q
  · go_enter Try.func41, Try.ntmps41
    go_wp2_with fail
    refine (C1.out _).mono ?_
    rintro e w1 ⟨rfl, hb1⟩; dsimp only
    obtain ⟨hc1, hf1, -, -, hb1⟩ := after_call hb1
    go_wp2_with fail
    refine (C2.out _).mono ?_
    rintro e w2 ⟨rfl, hb2⟩; dsimp only
    obtain ⟨hc2, hf2, -, -, hb2⟩ := more_call hb1 hb2
    have hB : Below w.heap.size w w2 := below_to (by go_grown) hb2
    go_wp2_with fail
    refine bodyPost_ret (v := .tuple #[.int .i64 0, .bool false, .int .i64 2]) (by simp [results, Try.results41, go_sem]) rfl ?_
    exact ⟨rfl, hB⟩
  cases r
  · go_enter Try.func41, Try.ntmps41
    go_wp2_with fail
    refine (C1.out _).mono ?_
    rintro e w1 ⟨rfl, hb1⟩; dsimp only
    obtain ⟨hc1, hf1, -, -, hb1⟩ := after_call hb1
    go_wp2_with fail
    refine (C2.out _).mono ?_
    rintro e w2 ⟨rfl, hb2⟩; dsimp only
    obtain ⟨hc2, hf2, -, -, hb2⟩ := more_call hb1 hb2
    clear hc1 hf1 hb1
    go_wp2_with fail
    refine (C3.out _).mono ?_
    rintro e w3 ⟨rfl, hb3⟩; dsimp only
    obtain ⟨hc3, hf3, -, -, hb3⟩ := more_call hb2 hb3
    have hB : Below w.heap.size w w3 := below_to (by go_grown) hb3
    go_wp2_with fail
    refine bodyPost_ret (v := .tuple #[.int .i64 0, .bool false, .int .i64 2]) (by simp [results, Try.results41, go_sem]) rfl ?_
    exact ⟨rfl, hB⟩
  obtain rfl := h1.out rfl rfl
  clear h1
  replace h2 := Lib.hid (h2.out rfl rfl rfl)
  dsimp only at C4
  go_enter Try.func41, Try.ntmps41
  go_wp2_with fail
  refine (C1.out _).mono ?_
  rintro e w1 ⟨rfl, hb1⟩; dsimp only
  obtain ⟨hc1, hf1, -, -, hb1⟩ := after_call hb1
  go_wp2_with fail
  refine (C2.out _).mono ?_
  rintro e w2 ⟨rfl, hb2⟩; dsimp only
  obtain ⟨hc2, hf2, -, -, hb2⟩ := more_call hb1 hb2
  clear hc1 hf1 hb1
  go_wp2_with fail
  refine (C3.out _).mono ?_
  rintro e w3 ⟨rfl, hb3⟩; dsimp only
  obtain ⟨hc3, hf3, -, -, hb3⟩ := more_call hb2 hb3
  clear hc2 hf2 hb2
  go_wp2_with fail
  refine (C4.out _).mono ?_
  rintro e w4 ⟨rfl, hb4⟩; dsimp only
  obtain ⟨hc4, hf4, -, -, hb4⟩ := more_call hb3 hb4
  clear hc3 hf3 hb3
  have hB4 : Below w.heap.size w w4 := below_to (by go_grown) hb4
  have B1 : Blk w4 w.heap.size 25 #[.int .i64 x0, .int .i64 x1, .int .i64 x2] := Blk.past (((Blk.new w 25 #[.int .i64 x0, .int .i64 x1, .int .i64 x2]).alloc (.cells #[.int .i64 y0, .int .i64 y1, .int .i64 y2] 25)).alloc (.cells #[.int .i64 z0, .int .i64 z1, .int .i64 z2] 25)) hb4
  clear hc4 hf4 hb4
  have q0 := B1.lt
  have D1 := B1.alloc (.cells #[.int .i64 s0, .int .i64 s1, .int .i64 s2] 25)
  have D2 := Blk.new w4 25 #[.int .i64 s0, .int .i64 s1, .int .i64 s2]
  obtain ⟨q1, q2, -⟩ := D1.facts
  obtain ⟨q3, q4, -⟩ := D2.facts
  cases f
  · go_wp2_with fail
    refine (C5.out _).mono ?_
    rintro e w5 ⟨rfl, hb5⟩; dsimp only
    have hB := below_to (below_own hB4 _) hb5
    go_wp2_with fail
    refine bodyPost_ret (v := .tuple #[.int .i64 0, .bool false, .int .i64 0]) (by simp [results, Try.results41, go_sem]) rfl ?_
    exact ⟨rfl, hB⟩
  · obtain rfl := h2.out rfl
    go_wp2_with fail
    refine (C5.out _).mono ?_
    rintro e w5 ⟨rfl, hb5⟩; dsimp only
    have hB := below_to (below_own hB4 _) hb5
    obtain ⟨q5, q6, -⟩ := (D1.past hb5).facts
    obtain ⟨q7, q8, -⟩ := (D2.past hb5).facts
    clear q1 q2 q3 q4
    go_wp2_with fail
    refine (C6.out _).mono ?_
    rintro e w6 ⟨rfl, hb6⟩; dsimp only
    replace hB := below_to hB hb6
    go_wp2_with fail
    refine bodyPost_ret (v := .tuple #[.int .i64 N, .bool true, .int .i64 0]) (by simp [results, Try.results41, go_sem]) rfl ?_
    exact ⟨rfl, hB⟩
end Go.Proofs.Ytbamgoocgmhohaa
