/- Commands: what bytes say, walked. Conditions: the bytes are in memory. -/
import Derived.Test.YteglieoeblehpaaCmd12
import Derived.Test.YteglieoeblehpaaCmd14
import Derived.Test.YteglieoeblehpaaCmd15
namespace Go.Proofs.Yteglieoeblehpaa
open Go.RowKit

theorem csC_size (c : Command) : (csC c).size = 33 := rfl
theorem csC_one (c : Command) : (csC c).all (·.oneCell') = true := by simp [csC, Value.oneCell']
set_option maxRecDepth 100000 in
theorem load_cmd {W : World} {g : Nat} {cs : Array Value} (h : Blk W g 64 cs) (hs : cs.size = 33) : (loadVar 64 ⟨g, 0, none⟩).run Try.prog W = .ok (.agg cs) W :=
  run_loadVar_row (P := Try.prog) W g 64 64 cs (0, 0) _ h Try.underlying64 rfl (by rw [hs]; kernel_rfl)
set_option maxRecDepth 100000 in
set_option maxHeartbeats 4000000 in
theorem cmd_read (s : ByteArray) (hs : s.size ≤ 140737488351232) (w : World) :
    Calls Try.prog 62 #[.string s] w fun e w' => e = .returned (.tuple #[(rdAll (s, 0)).2.v, .bool (isC (s, 0))]) ∧ Below w.heap.size w w' := by
  have hC0 : Blk (w.alloc (.cells (csC zeroC) 64)) w.heap.size 64 (csC zeroC) := Blk.new w _ _
  have hb0 : Below w.heap.size w (w.alloc (.cells (csC zeroC) 64)) := by go_grown
  have hN := Lib.hid (fun W => rd_New s W)
  have hkd : 0 ≤ (rdAll (s, 0)).2.kind := by rw [rdAll_kind]; exact (gS_ok _).1
  have hRA := readAll_c s 0
  unfold isC
  generalize rdAll (s, 0) = y at *
  obtain ⟨⟨s1, f1⟩, d⟩ := y
  replace hkd : 0 ≤ d.kind := hkd
  dsimp only [endB]
  replace hRA := Lib.hid hRA
  go_enter Try.func62, Try.ntmps62
  go_wp2_with fail
  refine (hN.out _).mono ?_
  rintro r w1 ⟨rfl, hR, hb1⟩; dsimp only
  have hCl := hC0.lt
  have hC1 := hC0.past hb1
  have hR1 : Rd w1 (w.heap.size + 1) s 0 := by simpa using hR
  have hb2 : Below w.heap.size w w1 := hb0.trans (hb1.mono (by simp))
  have hz1 := hb2.size
  have hRl := Blk.lt hR1
  have hC1l := hC1.lt
  clear hN hR hC0 hb0 hb1 hCl
  have hP := Blk.new w1 99 #[.string ByteArray.empty, .pointer (some ⟨w.heap.size + 1, 0, none⟩), .bool false]
  have hR2 : Rd _ _ _ _ := Blk.alloc hR1 (.cells #[.string ByteArray.empty, .pointer (some ⟨w.heap.size + 1, 0, none⟩), .bool false] 99)
  have hC2 := hC1.alloc (.cells #[.string ByteArray.empty, .pointer (some ⟨w.heap.size + 1, 0, none⟩), .bool false] 99)
  have hb3 : Below w.heap.size w (w1.alloc (.cells #[.string ByteArray.empty, .pointer (some ⟨w.heap.size + 1, 0, none⟩), .bool false] 99)) := by go_grown
  go_wp2_with fail
  refine (cr_command w1.heap.size (w.heap.size + 1) w.heap.size ByteArray.empty false (s, 0, csC zeroC) hs rfl _ hP hR2 hC2 (by omega) (by omega) (by omega)).mono ?_
  rintro r w2 ⟨⟨v, rfl⟩, hR3, hC3, hK⟩; dsimp only
  rw [hRA.out] at hR3 hC3
  have hP3 := hK.2.2 _ _ _ (by omega) (by omega) hP
  have hb4 : Below w.heap.size w w2 := hb3.trans (hK.1 _ (by omega) (Nat.le_refl _) hb3.size)
  have hPR : w1.heap.size ≠ w.heap.size + 1 := by omega
  have hCR : w.heap.size ≠ w.heap.size + 1 := by omega
  clear hK hP hR2 hC2 hb3 hR1 hC1 hb2
  have hR4 : Rd w2 (w.heap.size + 1) s1 f1 := hR3
  have hC4 : Blk w2 w.heap.size 64 (csC d) := hC3
  clear hR3 hC3 hRA
  generalize w1.heap.size = P at *
  generalize hRe : w.heap.size + 1 = R at *
  generalize hCe : w.heap.size = C at *
  have c0 : w2.cell? ⟨C, 0, none⟩ = some (.int .u8 d.kind) := by rw [hC4.cell]; rfl
  go_wp2_with fail
  refine wp_region_held0 (S := fun w' => w'.cell? ⟨C, 0, none⟩ = some (.int .u8 d.kind)) (by kernel_rfl) c0 (fun hHeld => ?_)
  refine wpAnyH_take (i := 1) (v := ?_) rfl (by kernel_rfl) (by kernel_rfl) (by kernel_rfl) (fun _ _ _ h => h) (Or.inl ⟨by rfl, ?hy⟩) hHeld ?_
  case hy =>
    intro w hSw
    (try dsimp only at hSw)
    go_simp
    (try with_reducible rfl)
  try simp only [Act.put, List.getElem_toArray, List.getElem_cons_succ, List.getElem_cons_zero, List.setIfInBounds_toArray, List.set_cons_zero, List.set_cons_succ]
  refine wpAnyH_take (i := 2) (v := ?_) rfl (by kernel_rfl) (by kernel_rfl) (by kernel_rfl) (fun _ _ _ h => h) (Or.inl ⟨by rfl, ?hy⟩) hHeld ?_
  case hy =>
    intro w hSw
    (try dsimp only at hSw)
    go_simp
    (try with_reducible rfl)
  try simp only [Act.put, List.getElem_toArray, List.getElem_cons_succ, List.getElem_cons_zero, List.setIfInBounds_toArray, List.set_cons_zero, List.set_cons_succ]
  refine wpAnyH_ready (rs := [0]) (by kernel_rfl) (by simp) ?_
  refine AllReadyH.cons rfl (fun K hK => ?_) AllReadyH.nil
  have hOld := hHeld
  clear hHeld
  go_simp
  refine (cmd_has _).mono ?_
  rintro r w6 ⟨rfl, rfl⟩
  dsimp only
  have hlk := run_look8 (W := w2.drew.alloc (.map hasM 15)) (m := w2.heap.size) (c := 15) hkd (heap_alloc_new w2.drew _) true
  replace hP3 := hP3.drew.alloc (.map hasM 15)
  replace hR4 : Rd _ _ _ _ := (Blk.drew hR4).alloc (.map hasM 15)
  replace hC4 := hC4.drew.alloc (.map hasM 15)
  replace hb4 := hb4.trans ((below_own (Below.refl _ w2).drew (.map hasM 15)).mono (by have := hb4.size; omega))
  clear c0
  refine hK.out _ _ (blk_cell hC4 rfl) (fun hHeld => ?_)
  clear hK K hOld
  try simp only [Act.put, List.getElem_toArray, List.getElem_cons_succ, List.getElem_cons_zero, List.setIfInBounds_toArray, List.set_cons_zero, List.set_cons_succ]
  generalize w2.drew.alloc (.map hasM 15) = w6 at *
  refine wpAnyH_ready (rs := [3]) (by kernel_rfl) (by simp) ?_
  refine AllReadyH.cons rfl (fun K hK => ?_) AllReadyH.nil
  have hOld := hHeld
  clear hHeld
  go_simp
  refine hK.out _ _ (blk_cell hC4 rfl) (fun hHeld => ?_)
  clear hK K hOld
  try simp only [Act.put, List.getElem_toArray, List.getElem_cons_succ, List.getElem_cons_zero, List.setIfInBounds_toArray, List.set_cons_zero, List.set_cons_succ]
  refine wpAnyH_take (i := 4) (v := ?_) rfl (by kernel_rfl) (by kernel_rfl) (by kernel_rfl) (fun _ _ _ h => h) (Or.inl ⟨by rfl, ?hy⟩) hHeld ?_
  case hy =>
    intro w hSw
    (try dsimp only at hSw)
    go_simp
    (try with_reducible rfl)
  try simp only [Act.put, List.getElem_toArray, List.getElem_cons_succ, List.getElem_cons_zero, List.setIfInBounds_toArray, List.set_cons_zero, List.set_cons_succ]
  refine wpAnyH_take (i := 5) (v := ?_) rfl (by kernel_rfl) (by kernel_rfl) (by kernel_rfl) (fun _ _ _ h => h) (Or.inl ⟨by rfl, ?hy⟩) hHeld ?_
  case hy =>
    intro w hSw
    (try dsimp only at hSw)
    go_simp
    (try with_reducible rfl)
  try simp only [Act.put, List.getElem_toArray, List.getElem_cons_succ, List.getElem_cons_zero, List.setIfInBounds_toArray, List.set_cons_zero, List.set_cons_succ]
  refine wpAnyH_take (i := 6) (v := ?_) rfl (by kernel_rfl) (by kernel_rfl) (by kernel_rfl) (fun _ _ _ h => h) (Or.inl ⟨by rfl, ?hy⟩) hHeld ?_
  case hy =>
    intro w hSw
    (try dsimp only at hSw)
    go_simp
    (try with_reducible rfl)
  try simp only [Act.put, List.getElem_toArray, List.getElem_cons_succ, List.getElem_cons_zero, List.setIfInBounds_toArray, List.set_cons_zero, List.set_cons_succ]
  refine wpAnyH_take (i := 7) (v := ?_) rfl (by kernel_rfl) (by kernel_rfl) (by kernel_rfl) (fun _ _ _ h => h) (Or.inl ⟨by rfl, ?hy⟩) hHeld ?_
  case hy =>
    intro w hSw
    (try dsimp only at hSw)
    go_simp
    (try with_reducible rfl)
  try simp only [Act.put, List.getElem_toArray, List.getElem_cons_succ, List.getElem_cons_zero, List.setIfInBounds_toArray, List.set_cons_zero, List.set_cons_succ]
  refine wpAnyH_done (by kernel_rfl) ?_ _
  simp only [Exit.then]
  clear hHeld hlk hkd
  obtain ⟨p0, p1, p2⟩ := hP3.facts
  have hi33 : (Try.prog.info? 64).map (·.size) = some 33 := by kernel_rfl
  cases hq : kindB d.kind
  · go_wp2_with fail
    refine wp_region_held0 (S := fun w' => Blk w' C 64 (csC d)) (by kernel_rfl) hC4 (fun hHeld => ?_)
    refine wpAnyH_take (i := 0) (v := .agg (csC d)) rfl (by kernel_rfl) (by kernel_rfl) (by kernel_rfl) (fun _ _ _ h => h) (Or.inl ⟨by rfl, ?hy⟩) hHeld ?_
    case hy =>
      intro w hSw
      exact exec_load_row 64 _ rfl C rfl (csC d) (load_cmd hSw rfl)
    try simp only [Act.put, List.getElem_toArray, List.getElem_cons_zero, List.setIfInBounds_toArray, List.set_cons_zero, List.set_cons_succ]
    refine wpAnyH_take (i := 1) (v := ?_) rfl (by kernel_rfl) (by kernel_rfl) (by kernel_rfl) (fun _ _ _ h => h) (Or.inl ⟨by rfl, ?hy⟩) hHeld ?_
    case hy =>
      intro w hSw
      (try dsimp only at hSw)
      go_simp
      (try with_reducible rfl)
    try simp only [Act.put, List.getElem_toArray, List.getElem_cons_succ, List.getElem_cons_zero, List.setIfInBounds_toArray, List.set_cons_zero, List.set_cons_succ]
    refine wpAnyH_take (i := 2) (v := ?_) rfl (by kernel_rfl) (by kernel_rfl) (by kernel_rfl) (fun _ _ _ h => h) (Or.inl ⟨by rfl, ?hy⟩) hHeld ?_
    case hy =>
      intro w hSw
      (try dsimp only at hSw)
      go_simp
      (try with_reducible rfl)
    try simp only [Act.put, List.getElem_toArray, List.getElem_cons_succ, List.getElem_cons_zero, List.setIfInBounds_toArray, List.set_cons_zero, List.set_cons_succ]
    refine wpAnyH_take (i := 3) rfl (by kernel_rfl) (by kernel_rfl) (by kernel_rfl) (fun _ _ _ h => h) (Or.inr ⟨by rfl, rfl⟩) hHeld ?_
    try simp only [Act.put, List.getElem_toArray, List.getElem_cons_succ, List.getElem_cons_zero, List.setIfInBounds_toArray, List.set_cons_zero, List.set_cons_succ]
    refine wpAnyH_take (i := 4) rfl (by kernel_rfl) (by kernel_rfl) (by kernel_rfl) (fun _ _ _ h => h) (Or.inr ⟨by rfl, rfl⟩) hHeld ?_
    try simp only [Act.put, List.getElem_toArray, List.getElem_cons_succ, List.getElem_cons_zero, List.setIfInBounds_toArray, List.set_cons_zero, List.set_cons_succ]
    refine wpAnyH_take (i := 5) rfl (by kernel_rfl) (by kernel_rfl) (by kernel_rfl) (fun _ _ _ h => h) (Or.inr ⟨by rfl, rfl⟩) hHeld ?_
    try simp only [Act.put, List.getElem_toArray, List.getElem_cons_succ, List.getElem_cons_zero, List.setIfInBounds_toArray, List.set_cons_zero, List.set_cons_succ]
    refine wpAnyH_take (i := 6) rfl (by kernel_rfl) (by kernel_rfl) (by kernel_rfl) (fun _ _ _ h => h) (Or.inr ⟨by rfl, rfl⟩) hHeld ?_
    try simp only [Act.put, List.getElem_toArray, List.getElem_cons_succ, List.getElem_cons_zero, List.setIfInBounds_toArray, List.set_cons_zero, List.set_cons_succ]
    refine wpAnyH_take (i := 7) rfl (by kernel_rfl) (by kernel_rfl) (by kernel_rfl) (fun _ _ _ h => h) (Or.inr ⟨by rfl, rfl⟩) hHeld ?_
    try simp only [Act.put, List.getElem_toArray, List.getElem_cons_succ, List.getElem_cons_zero, List.setIfInBounds_toArray, List.set_cons_zero, List.set_cons_succ]
    refine wpAnyH_take (i := 8) rfl (by kernel_rfl) (by kernel_rfl) (by kernel_rfl) (fun _ _ _ h => h) (Or.inr ⟨by rfl, rfl⟩) hHeld ?_
    try simp only [Act.put, List.getElem_toArray, List.getElem_cons_succ, List.getElem_cons_zero, List.setIfInBounds_toArray, List.set_cons_zero, List.set_cons_succ]
    refine wpAnyH_take (i := 9) (v := ?_) rfl (by kernel_rfl) (by kernel_rfl) (by kernel_rfl) (fun _ _ _ h => h) (Or.inl ⟨by rfl, ?hy⟩) hHeld ?_
    case hy =>
      intro w hSw
      (try dsimp only at hSw)
      go_simp
      (try with_reducible rfl)
    try simp only [Act.put, List.getElem_toArray, List.getElem_cons_succ, List.getElem_cons_zero, List.setIfInBounds_toArray, List.set_cons_zero, List.set_cons_succ]
    refine wpAnyH_ready (rs := [10]) (by kernel_rfl) (by simp) ?_
    refine AllReadyH.cons rfl (fun K hK => ?_) AllReadyH.nil
    have hOld := hHeld
    clear hHeld
    rw [if_pos (by rfl)]
    refine wp_store_row 64 (.tmp 2) (.tmp 18) rfl C (csC d) rfl rfl _ _ hOld hi33 rfl (csC_one d) ?_
    rw [setRow_self _ _ _ _ _ hOld]
    refine hK.out _ _ (hOld) (fun hHeld => ?_)
    clear hK K hOld
    try simp only [Act.put, List.getElem_toArray, List.getElem_cons_succ, List.getElem_cons_zero, List.setIfInBounds_toArray, List.set_cons_zero, List.set_cons_succ]
    refine wpAnyH_take (i := 11) (v := ?_) rfl (by kernel_rfl) (by kernel_rfl) (by kernel_rfl) (fun _ _ _ h => h) (Or.inl ⟨by rfl, ?hy⟩) hHeld ?_
    case hy =>
      intro w hSw
      (try dsimp only at hSw)
      go_simp
      (try with_reducible rfl)
    try simp only [Act.put, List.getElem_toArray, List.getElem_cons_succ, List.getElem_cons_zero, List.setIfInBounds_toArray, List.set_cons_zero, List.set_cons_succ]
    refine wpAnyH_done (by kernel_rfl) ?_ _
    simp only [Exit.then]
    go_wp2_with fail
    refine bodyPost_ret (results_row_tmp Try.results62 _ _ C (csC d) rfl (load_cmd hC4.drew rfl)) rfl ?_
    exact ⟨by rw [hq]; rfl, by rw [hCe]; exact hb4.trans ((Below.refl _ w6).drew.mono (by have := hb4.size; omega))⟩
  · go_wp2_with fail
    have hE := Lib.hid (rd_End R s1 f1 w6.drew (Blk.drew hR4))
    refine wp_region_held0 (S := fun w' => Blk w' C 64 (csC d) ∧ Blk w' P 99 #[.string ByteArray.empty, .pointer (some ⟨R, 0, none⟩), .bool false]) (by kernel_rfl) ⟨hC4.drew, hP3.drew⟩ (fun hHeld => ?_)
    refine wpAnyH_take (i := 0) (v := .agg (csC d)) rfl (by kernel_rfl) (by kernel_rfl) (by kernel_rfl) (fun _ _ _ h => h) (Or.inl ⟨by rfl, ?hy⟩) hHeld ?_
    case hy =>
      intro w hSw
      exact exec_load_row 64 _ rfl C rfl (csC d) (load_cmd hSw.1 rfl)
    try simp only [Act.put, List.getElem_toArray, List.getElem_cons_zero, List.setIfInBounds_toArray, List.set_cons_zero, List.set_cons_succ]
    refine wpAnyH_take (i := 1) (v := ?_) rfl (by kernel_rfl) (by kernel_rfl) (by kernel_rfl) (fun _ _ _ h => h) (Or.inl ⟨by rfl, ?hy⟩) hHeld ?_
    case hy =>
      intro w hSw
      (try dsimp only at hSw)
      go_simp
      (try with_reducible rfl)
    try simp only [Act.put, List.getElem_toArray, List.getElem_cons_succ, List.getElem_cons_zero, List.setIfInBounds_toArray, List.set_cons_zero, List.set_cons_succ]
    refine wpAnyH_take (i := 2) (v := ?_) rfl (by kernel_rfl) (by kernel_rfl) (by kernel_rfl) (fun _ _ _ h => h) (Or.inl ⟨by rfl, ?hy⟩) hHeld ?_
    case hy =>
      intro w hSw
      (try dsimp only at hSw)
      go_simp
      (try with_reducible rfl)
    try simp only [Act.put, List.getElem_toArray, List.getElem_cons_succ, List.getElem_cons_zero, List.setIfInBounds_toArray, List.set_cons_zero, List.set_cons_succ]
    refine wpAnyH_take (i := 3) (v := ?_) rfl (by kernel_rfl) (by kernel_rfl) (by kernel_rfl) (fun _ _ _ h => h) (Or.inl ⟨by rfl, ?hy⟩) hHeld ?_
    case hy =>
      intro w hSw
      (try dsimp only at hSw)
      go_simp
      (try with_reducible rfl)
    try simp only [Act.put, List.getElem_toArray, List.getElem_cons_succ, List.getElem_cons_zero, List.setIfInBounds_toArray, List.set_cons_zero, List.set_cons_succ]
    refine wpAnyH_take (i := 4) (v := ?_) rfl (by kernel_rfl) (by kernel_rfl) (by kernel_rfl) (fun _ _ _ h => h) (Or.inl ⟨by rfl, ?hy⟩) hHeld ?_
    case hy =>
      intro w hSw
      (try dsimp only at hSw)
      go_simp
      (try with_reducible rfl)
    try simp only [Act.put, List.getElem_toArray, List.getElem_cons_succ, List.getElem_cons_zero, List.setIfInBounds_toArray, List.set_cons_zero, List.set_cons_succ]
    refine wpAnyH_take (i := 5) (v := ?_) rfl (by kernel_rfl) (by kernel_rfl) (by kernel_rfl) (fun _ _ _ h => h) (Or.inl ⟨by rfl, ?hy⟩) hHeld ?_
    case hy =>
      intro w hSw
      (try dsimp only at hSw)
      go_simp
      (try with_reducible rfl)
    try simp only [Act.put, List.getElem_toArray, List.getElem_cons_succ, List.getElem_cons_zero, List.setIfInBounds_toArray, List.set_cons_zero, List.set_cons_succ]
    refine wpAnyH_take (i := 6) (v := ?_) rfl (by kernel_rfl) (by kernel_rfl) (by kernel_rfl) (fun _ _ _ h => h) (Or.inl ⟨by rfl, ?hy⟩) hHeld ?_
    case hy =>
      intro w hSw
      have hpc := hSw.2.cell 1
      go_simp
      (try with_reducible rfl)
    try simp only [Act.put, List.getElem_toArray, List.getElem_cons_succ, List.getElem_cons_zero, List.setIfInBounds_toArray, List.set_cons_zero, List.set_cons_succ]
    refine wpAnyH_ready (rs := [7]) (by kernel_rfl) (by simp) ?_
    refine AllReadyH.cons rfl (fun K hK => ?_) AllReadyH.nil
    have hOld := hHeld
    clear hHeld
    go_simp
    refine (hE.out).mono ?_
    rintro r w7 ⟨rfl, hR5, hk5⟩
    dsimp only
    have hC5 := hk5.blk hOld.1 hCR
    have hP5 := hk5.blk hOld.2 hPR
    refine hK.out _ _ (⟨hC5, hP5⟩) (fun hHeld => ?_)
    clear hK K hOld
    try simp only [Act.put, List.getElem_toArray, List.getElem_cons_succ, List.getElem_cons_zero, List.setIfInBounds_toArray, List.set_cons_zero, List.set_cons_succ]
    refine wpAnyH_take (i := 8) (v := ?_) rfl (by kernel_rfl) (by kernel_rfl) (by kernel_rfl) (fun _ _ _ h => h) (Or.inl ⟨by rfl, ?hy⟩) hHeld ?_
    case hy =>
      intro w hSw
      (try dsimp only at hSw)
      go_simp
      (try with_reducible rfl)
    try simp only [Act.put, List.getElem_toArray, List.getElem_cons_succ, List.getElem_cons_zero, List.setIfInBounds_toArray, List.set_cons_zero, List.set_cons_succ]
    refine wpAnyH_take (i := 9) (v := ?_) rfl (by kernel_rfl) (by kernel_rfl) (by kernel_rfl) (fun _ _ _ h => h) (Or.inl ⟨by rfl, ?hy⟩) hHeld ?_
    case hy =>
      intro w hSw
      (try dsimp only at hSw)
      go_simp
      (try with_reducible rfl)
    try simp only [Act.put, List.getElem_toArray, List.getElem_cons_succ, List.getElem_cons_zero, List.setIfInBounds_toArray, List.set_cons_zero, List.set_cons_succ]
    refine wpAnyH_ready (rs := [10]) (by kernel_rfl) (by simp) ?_
    refine AllReadyH.cons rfl (fun K hK => ?_) AllReadyH.nil
    have hOld := hHeld
    clear hHeld
    rw [if_pos (by rfl)]
    refine wp_store_row 64 (.tmp 2) (.tmp 18) rfl C (csC d) rfl rfl _ _ hC5 hi33 rfl (csC_one d) ?_
    rw [setRow_self _ _ _ _ _ hC5]
    refine hK.out _ _ (⟨hC5, hP5⟩) (fun hHeld => ?_)
    clear hK K hOld
    try simp only [Act.put, List.getElem_toArray, List.getElem_cons_succ, List.getElem_cons_zero, List.setIfInBounds_toArray, List.set_cons_zero, List.set_cons_succ]
    refine wpAnyH_take (i := 11) (v := ?_) rfl (by kernel_rfl) (by kernel_rfl) (by kernel_rfl) (fun _ _ _ h => h) (Or.inl ⟨by rfl, ?hy⟩) hHeld ?_
    case hy =>
      intro w hSw
      (try dsimp only at hSw)
      go_simp
      (try with_reducible rfl)
    try simp only [Act.put, List.getElem_toArray, List.getElem_cons_succ, List.getElem_cons_zero, List.setIfInBounds_toArray, List.set_cons_zero, List.set_cons_succ]
    refine wpAnyH_done (by kernel_rfl) ?_ _
    simp only [Exit.then]
    go_wp2_with fail
    refine bodyPost_ret (results_row_tmp Try.results62 _ _ C (csC d) rfl (load_cmd hC5 rfl)) rfl ?_
    refine ⟨by rw [hq]; rfl, ?_⟩
    rw [hCe]
    exact (hb4.trans ((Below.refl _ w6).drew.mono (by have := hb4.size; omega))).trans (hk5.1 C (by omega) (by have := hb4.size; simp; omega))
end Go.Proofs.Yteglieoeblehpaa
