/- Windows: the reference's Add, walked. Conditions: the list is in memory. -/
import Derived.Test.YthlninijnbmjfaaWin8
namespace Go.Proofs.Ythlninijnbmjfaa
open Go.RowKit Go.Shelf

def since (wn now : Int) (xs : List Int) : List Int := xs.filter fun t => decide (now - wn < t)
theorem since_take (wn now : Int) (xs : List Int) (k : Nat) (h : k < xs.length) : since wn now (xs.take (k + 1)) = if now - wn < xs.getD k 0 then since wn now (xs.take k) ++ [xs.getD k 0] else since wn now (xs.take k) := by
  unfold since
  rw [List.take_succ_eq_append_getElem h, List.filter_append, getD_at h]
  by_cases hq : now - wn < xs[k] <;> simp [hq]
theorem since_len (wn now : Int) (xs : List Int) : (since wn now xs).length ≤ xs.length := List.length_filter_le _ _
theorem since_wit {wn now : Int} {xs : List Int} (h : inB xs now = true) : since wn now xs = wit wn now xs := by
  unfold since wit
  apply List.filter_congr
  intro x hx
  have : oddB now x = false := by
    unfold inB at h
    rw [List.all_eq_true] at h
    simpa using h x hx
  unfold oddB at this
  simp only [Bool.or_eq_false_iff, decide_eq_false_iff_not] at this
  unfold inW
  have e : decide (x ≤ now) = true := by simp; omega
  rw [e, Bool.and_true]
set_option maxRecDepth 100000 in
set_option maxHeartbeats 2000000 in
theorem r_Add (b : Budget) (A : Option Addr) (n c : Nat) (now : Int) (xs : List Int) (hl : xs.length = n) (hn : n ≤ 1000000) (w : World) (hA : IntsIn w A xs) :
    Calls Try.prog 23 #[b.v, .slice A n c, .int .i64 now] w fun r w' => ∃ v, r = .returned (.tuple #[v, .int .i64 (addR b xs now).2]) ∧ IntsOut w' v (addR b xs now).1 ∧ Below w.heap.size w w' := by
  have C0 := Lib.hid (fun w => ref_May16 b w)
  have C1 := Lib.hid (fun w hA => r_May A n c now xs hl hn w hA)
  have C2 := Lib.hid (fun w hA => r_Count A n c b.window now xs hl hn w hA)
  have hwin : Hid (mayBud b = true → mayL xs now = true → (1 ≤ b.window ∧ b.window ≤ 4294967296 ∧ 0 ≤ now ∧ now ≤ 4611686018427387904) ∧ since b.window now xs = wit b.window now xs) := Lib.hid (fun h1 h2 => by
    unfold mayBud at h1
    unfold mayL timedB at h2
    simp only [Bool.and_eq_true, decide_eq_true_eq] at h1 h2
    exact ⟨⟨h1.2.2.1, h1.2.2.2, h2.1.1, h2.1.2⟩, since_wit h2.2.2⟩)
  have HA := Lib.hid hA
  clear hA
  unfold addR allowW
  rw [mayW_mayL]
  obtain ⟨i0, hi, hz0, hz1, hz2⟩ := info_parts info_i64
  obtain ⟨bk, bw⟩ := b
  dsimp only at hwin C2 ⊢
  generalize mayBud ⟨bk, bw⟩ = p at *
  generalize hq0 : mayL xs now = q at *
  generalize cntW xs bw now = N at *
  clear hq0
  have hM := Blk.new w 49 #[.int .i64 bk, .int .i64 bw]
  have hW : Below w.heap.size w (w.alloc (.cells #[.int .i64 bk, .int .i64 bw] 49)) := by go_grown
  go_enter Try.func23, Try.ntmps23
  go_wp2_with fail
  refine (C0.out _).mono ?_
  rintro r w1 ⟨rfl, hbw⟩; dsimp only
  replace hM := Blk.past hM hbw
  replace hW := below_to hW hbw
  clear hbw
  cases p
  · clear hM
    go_wp2_with fail
    refine bodyPost_ret (v := .tuple #[.slice none 0 0, .int .i64 2]) (by simp [results, Try.results23, go_sem]) rfl ?_
    exact ⟨.slice none 0 0, by simp, by simpa using IntsOut.nil _, hW⟩
  go_wp2_with fail
  refine (C1.out _ (ints_past HA.out hW)).mono ?_
  rintro r w2 ⟨rfl, hbw⟩; dsimp only
  replace hM := Blk.past hM hbw
  replace hW := below_to hW hbw
  clear hbw
  cases q
  · clear hM
    go_wp2_with fail
    refine bodyPost_ret (v := .tuple #[.slice none 0 0, .int .i64 2]) (by simp [results, Try.results23, go_sem]) rfl ?_
    exact ⟨.slice none 0 0, by simp, by simpa using IntsOut.nil _, hW⟩
  obtain ⟨⟨b1, b2, b3, b4⟩, hsw⟩ := hwin.out (by first | trivial | rfl) (by first | trivial | rfl)
  replace hsw := Lib.hid hsw
  clear hwin
  go_wp2_with fail
  refine wp_region_held0 (S := fun w' => w'.cell? ⟨w.heap.size, 0, none⟩ = some (.int .i64 bk) ∧ w'.cell? ⟨w.heap.size, 1, none⟩ = some (.int .i64 bw)) (by kernel_rfl) ⟨hM.cell 0, hM.cell 1⟩ (fun hHeld => ?_)
  refine wpAnyH_take (i := 0) (v := ?_) rfl (by kernel_rfl) (by kernel_rfl) (by kernel_rfl) (fun _ _ _ h => h) (Or.inl ⟨by rfl, ?hy⟩) hHeld ?_
  case hy =>
    intro w hSw
    (try dsimp only at hSw)
    go_simp
    (try with_reducible rfl)
  try simp only [Act.put, List.getElem_toArray, List.getElem_cons_succ, List.getElem_cons_zero, List.setIfInBounds_toArray, List.set_cons_zero, List.set_cons_succ]
  refine wpAnyH_take (i := 1) (v := ?_) rfl (by kernel_rfl) (by kernel_rfl) (by kernel_rfl) (fun _ _ _ h => h) (Or.inl ⟨by rfl, ?hy⟩) hHeld ?_
  case hy =>
    intro w hSw
    (try dsimp only at hSw)
    go_simp
    (try with_reducible rfl)
  try simp only [Act.put, List.getElem_toArray, List.getElem_cons_succ, List.getElem_cons_zero, List.setIfInBounds_toArray, List.set_cons_zero, List.set_cons_succ]
  refine wpAnyH_take (i := 2) (v := ?_) rfl (by kernel_rfl) (by kernel_rfl) (by kernel_rfl) (fun _ _ _ h => h) (Or.inl ⟨by rfl, ?hy⟩) hHeld ?_
  case hy =>
    intro w hSw
    (try dsimp only at hSw)
    go_simp
    (try with_reducible rfl)
  try simp only [Act.put, List.getElem_toArray, List.getElem_cons_succ, List.getElem_cons_zero, List.setIfInBounds_toArray, List.set_cons_zero, List.set_cons_succ]
  refine wpAnyH_take (i := 3) (v := ?_) rfl (by kernel_rfl) (by kernel_rfl) (by kernel_rfl) (fun _ _ _ h => h) (Or.inl ⟨by rfl, ?hy⟩) hHeld ?_
  case hy =>
    intro w hSw
    (try dsimp only at hSw)
    go_simp
    (try with_reducible rfl)
  try simp only [Act.put, List.getElem_toArray, List.getElem_cons_succ, List.getElem_cons_zero, List.setIfInBounds_toArray, List.set_cons_zero, List.set_cons_succ]
  refine wpAnyH_take (i := 5) (v := ?_) rfl (by kernel_rfl) (by kernel_rfl) (by kernel_rfl) (fun _ _ _ h => h) (Or.inl ⟨by rfl, ?hy⟩) hHeld ?_
  case hy =>
    intro w hSw
    (try dsimp only at hSw)
    go_simp
    (try with_reducible rfl)
  try simp only [Act.put, List.getElem_toArray, List.getElem_cons_succ, List.getElem_cons_zero, List.setIfInBounds_toArray, List.set_cons_zero, List.set_cons_succ]
  refine wpAnyH_take (i := 6) (v := ?_) rfl (by kernel_rfl) (by kernel_rfl) (by kernel_rfl) (fun _ _ _ h => h) (Or.inl ⟨by rfl, ?hy⟩) hHeld ?_
  case hy =>
    intro w hSw
    (try dsimp only at hSw)
    go_simp
    (try with_reducible rfl)
  try simp only [Act.put, List.getElem_toArray, List.getElem_cons_succ, List.getElem_cons_zero, List.setIfInBounds_toArray, List.set_cons_zero, List.set_cons_succ]
  refine wpAnyH_ready (rs := [4]) (by kernel_rfl) (by simp) ?_
  refine AllReadyH.cons rfl (fun K hK => ?_) AllReadyH.nil
  have hOld := hHeld
  clear hHeld
  go_simp
  refine (C2.out _ (ints_past HA.out hW.drew)).mono ?_
  rintro r w3 ⟨rfl, rfl⟩
  dsimp only
  refine hK.out _ _ (hOld) (fun hHeld => ?_)
  clear hK K hOld
  try simp only [Act.put, List.getElem_toArray, List.getElem_cons_succ, List.getElem_cons_zero, List.setIfInBounds_toArray, List.set_cons_zero, List.set_cons_succ]
  refine wpAnyH_take (i := 7) (v := ?_) rfl (by kernel_rfl) (by kernel_rfl) (by kernel_rfl) (fun _ _ _ h => h) (Or.inl ⟨by rfl, ?hy⟩) hHeld ?_
  case hy =>
    intro w hSw
    (try dsimp only at hSw)
    go_simp
    (try with_reducible rfl)
  try simp only [Act.put, List.getElem_toArray, List.getElem_cons_succ, List.getElem_cons_zero, List.setIfInBounds_toArray, List.set_cons_zero, List.set_cons_succ]
  refine wpAnyH_done (by kernel_rfl) ?_ _
  simp only [Exit.then]
  clear hHeld
  replace hW := hW.drew
  replace hM := hM.drew
  by_cases hlt : (N : Int) < bk
  case neg =>
    have hge : bk ≤ (N : Int) := by omega
    clear hM
    go_wp2_with fail
    refine bodyPost_ret (v := .tuple #[.slice none 0 0, .int .i64 222]) (by simp [results, Try.results23, go_sem]) rfl ?_
    exact ⟨.slice none 0 0, by simp, by simpa using IntsOut.nil _, hW⟩
  have hge : ¬ bk ≤ (N : Int) := by omega
  go_wp2_with fail
  have hsz0 := hW.size
  have hwr : wrap64 (now - bw) = now - bw := by unfold wrap64; omega
  have hwr2 : IntKind.i64.wrap (now - bw) = now - bw := IntWalk.i64_in _ (by omega)
  clear C0 C1 C2
  generalize w2.drew = W at *
  go_loopw [8, 9] (fun v i wr => ∃ k : Nat, k ≤ n ∧ i = .int .i64 k ∧ wr.ownsRow W.heap.size 2 1 v (since bw now (xs.take k)).length (nums (since bw now (xs.take k))) ∧ Blk wr w.heap.size 49 #[.int .i64 bk, .int .i64 bw] ∧ Below w.heap.size w wr ∧ W.heap.size ≤ wr.heap.size) (fun _ i _ => n - (intOf i).toNat)
  case atStart => exact ⟨0, Nat.zero_le _, rfl, World.ownsRow_nil _ _ _ _, hM, hW, Nat.le_refl _⟩
  case round =>
    have hMlt := hM.lt
    clear hM hW
    obtain ⟨k, hk, rfl, hown, hM, hW, hWs⟩ := hrel
    by_cases hkn : k < n
    · obtain ⟨b, off, rfl, hb, hcell⟩ := HA.out (by intro e; rw [e] at hl; simp at hl; omega)
      have j0 := (hW.cell (p := ⟨b, off + k, none⟩) hb).trans (hcell k (by omega))
      have e0 : xs.getD k 0 = xs[k] := getD_at (by omega)
      rw [← e0] at j0
      have hsc := Lib.hid (since_take bw now xs k (by omega))
      have hln := since_len bw now (xs.take k)
      rw [List.length_take] at hln
      have hns := Lib.hid (nums_snoc (since bw now (xs.take k)) (xs.getD k 0))
      clear hcell e0
      generalize xs.getD k 0 = x at *
      have m0 : wr.cell? ⟨w.heap.size, 0, none⟩ = some (.int .i64 bk) := hM.cell 0
      have m1 : wr.cell? ⟨w.heap.size, 1, none⟩ = some (.int .i64 bw) := hM.cell 1
      replace hown := own_past hown (Below.refl wr.heap.size wr).drew
      by_cases hx : now - bw < x
      · have d0 : decide (now - bw < x) = true := by simpa using hx
        have hnx : Hid (since bw now (xs.take (k + 1)) = since bw now (xs.take k) ++ [x]) := Lib.hid (by rw [hsc.out, if_pos hx])
        clear hsc
        go_wp2_with fail
        refine wp_region_held0 (S := fun w' => w'.cell? ⟨b, off + k, none⟩ = some (.int .i64 x) ∧ w'.cell? ⟨w.heap.size, 1, none⟩ = some (.int .i64 bw)) (by kernel_rfl) ⟨j0, m1⟩ (fun hHeld => ?_)
        refine wpAnyH_take (i := 0) (v := ?_) rfl (by kernel_rfl) (by kernel_rfl) (by kernel_rfl) (fun _ _ _ h => h) (Or.inl ⟨by rfl, ?hy⟩) hHeld ?_
        case hy =>
          intro w hSw
          (try dsimp only at hSw)
          go_simp
          (try with_reducible rfl)
        try simp only [Act.put, List.getElem_toArray, List.getElem_cons_succ, List.getElem_cons_zero, List.setIfInBounds_toArray, List.set_cons_zero, List.set_cons_succ]
        refine wpAnyH_take (i := 1) (v := ?_) rfl (by kernel_rfl) (by kernel_rfl) (by kernel_rfl) (fun _ _ _ h => h) (Or.inl ⟨by rfl, ?hy⟩) hHeld ?_
        case hy =>
          intro w hSw
          (try dsimp only at hSw)
          go_simp
          (try with_reducible rfl)
        try simp only [Act.put, List.getElem_toArray, List.getElem_cons_succ, List.getElem_cons_zero, List.setIfInBounds_toArray, List.set_cons_zero, List.set_cons_succ]
        refine wpAnyH_take (i := 2) (v := ?_) rfl (by kernel_rfl) (by kernel_rfl) (by kernel_rfl) (fun _ _ _ h => h) (Or.inl ⟨by rfl, ?hy⟩) hHeld ?_
        case hy =>
          intro w hSw
          (try dsimp only at hSw)
          go_simp
          (try with_reducible rfl)
        try simp only [Act.put, List.getElem_toArray, List.getElem_cons_succ, List.getElem_cons_zero, List.setIfInBounds_toArray, List.set_cons_zero, List.set_cons_succ]
        refine wpAnyH_take (i := 3) (v := ?_) rfl (by kernel_rfl) (by kernel_rfl) (by kernel_rfl) (fun _ _ _ h => h) (Or.inl ⟨by rfl, ?hy⟩) hHeld ?_
        case hy =>
          intro w hSw
          (try dsimp only at hSw)
          go_simp
          (try with_reducible rfl)
        try simp only [Act.put, List.getElem_toArray, List.getElem_cons_succ, List.getElem_cons_zero, List.setIfInBounds_toArray, List.set_cons_zero, List.set_cons_succ]
        refine wpAnyH_take (i := 4) (v := ?_) rfl (by kernel_rfl) (by kernel_rfl) (by kernel_rfl) (fun _ _ _ h => h) (Or.inl ⟨by rfl, ?hy⟩) hHeld ?_
        case hy =>
          intro w hSw
          (try dsimp only at hSw)
          go_simp
          (try with_reducible rfl)
        try simp only [Act.put, List.getElem_toArray, List.getElem_cons_succ, List.getElem_cons_zero, List.setIfInBounds_toArray, List.set_cons_zero, List.set_cons_succ]
        refine wpAnyH_take (i := 5) (v := ?_) rfl (by kernel_rfl) (by kernel_rfl) (by kernel_rfl) (fun _ _ _ h => h) (Or.inl ⟨by rfl, ?hy⟩) hHeld ?_
        case hy =>
          intro w hSw
          (try dsimp only at hSw)
          go_simp
          (try with_reducible rfl)
        try simp only [Act.put, List.getElem_toArray, List.getElem_cons_succ, List.getElem_cons_zero, List.setIfInBounds_toArray, List.set_cons_zero, List.set_cons_succ]
        refine wpAnyH_take (i := 6) (v := ?_) rfl (by kernel_rfl) (by kernel_rfl) (by kernel_rfl) (fun _ _ _ h => h) (Or.inl ⟨by rfl, ?hy⟩) hHeld ?_
        case hy =>
          intro w hSw
          (try dsimp only at hSw)
          go_simp
          (try with_reducible rfl)
        try simp only [Act.put, List.getElem_toArray, List.getElem_cons_succ, List.getElem_cons_zero, List.setIfInBounds_toArray, List.set_cons_zero, List.set_cons_succ]
        refine wpAnyH_take (i := 7) (v := ?_) rfl (by kernel_rfl) (by kernel_rfl) (by kernel_rfl) (fun _ _ _ h => h) (Or.inl ⟨by rfl, ?hy⟩) hHeld ?_
        case hy =>
          intro w hSw
          (try dsimp only at hSw)
          go_simp
          (try with_reducible rfl)
        try simp only [Act.put, List.getElem_toArray, List.getElem_cons_succ, List.getElem_cons_zero, List.setIfInBounds_toArray, List.set_cons_zero, List.set_cons_succ]
        refine wpAnyH_take (i := 8) (v := ?_) rfl (by kernel_rfl) (by kernel_rfl) (by kernel_rfl) (fun _ _ _ h => h) (Or.inl ⟨by rfl, ?hy⟩) hHeld ?_
        case hy =>
          intro w hSw
          (try dsimp only at hSw)
          go_simp
          (try with_reducible rfl)
        try simp only [Act.put, List.getElem_toArray, List.getElem_cons_succ, List.getElem_cons_zero, List.setIfInBounds_toArray, List.set_cons_zero, List.set_cons_succ]
        refine wpAnyH_done (by kernel_rfl) ?_ _
        simp only [Exit.then]
        clear hHeld
        have j0' : wr.drew.cell? ⟨b, off + k, none⟩ = some (.int .i64 x) := j0
        clear j0 m0 m1
        go_wp2_with (at_builtin; refine wpList_append_own _ rfl _ _ 50 rfl W.heap.size 2 i0 (.int .i64 0) 1 8 Try.underlying50 hi hz0 hz1 hz2 rfl (by decide) _ _ _ rfl (hown.alloc _) ⟨wr.drew.heap.size, 0, none⟩ 1 1 [.int .i64 x] rfl rfl ?c1 ?c2 ?c3 ?c4 ?c5 ?_)
        case c1 => exact one_num wr.drew x
        case c2 => intro u hu; simp at hu; subst hu; rfl
        case c3 => unfold maxLen; omega
        case c4 => omega
        case c5 => simp; omega
        intro v' w5 hown' hg _
        have hrow := own_row hown
        have hgs := hg.size
        have hWW := Below.grown (below_own hW.drew _) hg (by simp; omega) (fun r h => by have := hrow r h; omega)
        have hMM := (hM.drew.alloc _).grown hg (by intro e; have := hrow _ e.symm; omega)
        have hon : w5.ownsRow W.heap.size 2 1 v' (since bw now (xs.take (k + 1))).length (nums (since bw now (xs.take (k + 1)))) := by
          rw [hnx.out, hns.out, List.length_append, List.length_singleton]
          exact hown'
        simp only [World.size_alloc, World.size_drew] at hgs
        clear hg hown hown' hM hW j0'
        go_wp2
        go_roundw
        case rel => exact ⟨k + 1, by omega, by first | rfl | go_num, hon, hMM, hWW, by omega⟩
        case measure => simp [intOf]; omega
      · have d0 : decide (now - bw < x) = false := by simpa using hx
        have hnx : Hid (since bw now (xs.take (k + 1)) = since bw now (xs.take k)) := Lib.hid (by rw [hsc.out, if_neg hx])
        clear hsc
        go_wp2_with fail
        refine wp_region_held0 (S := fun w' => w'.cell? ⟨b, off + k, none⟩ = some (.int .i64 x) ∧ w'.cell? ⟨w.heap.size, 1, none⟩ = some (.int .i64 bw)) (by kernel_rfl) ⟨j0, m1⟩ (fun hHeld => ?_)
        refine wpAnyH_take (i := 0) (v := ?_) rfl (by kernel_rfl) (by kernel_rfl) (by kernel_rfl) (fun _ _ _ h => h) (Or.inl ⟨by rfl, ?hy⟩) hHeld ?_
        case hy =>
          intro w hSw
          (try dsimp only at hSw)
          go_simp
          (try with_reducible rfl)
        try simp only [Act.put, List.getElem_toArray, List.getElem_cons_succ, List.getElem_cons_zero, List.setIfInBounds_toArray, List.set_cons_zero, List.set_cons_succ]
        refine wpAnyH_take (i := 1) (v := ?_) rfl (by kernel_rfl) (by kernel_rfl) (by kernel_rfl) (fun _ _ _ h => h) (Or.inl ⟨by rfl, ?hy⟩) hHeld ?_
        case hy =>
          intro w hSw
          (try dsimp only at hSw)
          go_simp
          (try with_reducible rfl)
        try simp only [Act.put, List.getElem_toArray, List.getElem_cons_succ, List.getElem_cons_zero, List.setIfInBounds_toArray, List.set_cons_zero, List.set_cons_succ]
        refine wpAnyH_take (i := 2) (v := ?_) rfl (by kernel_rfl) (by kernel_rfl) (by kernel_rfl) (fun _ _ _ h => h) (Or.inl ⟨by rfl, ?hy⟩) hHeld ?_
        case hy =>
          intro w hSw
          (try dsimp only at hSw)
          go_simp
          (try with_reducible rfl)
        try simp only [Act.put, List.getElem_toArray, List.getElem_cons_succ, List.getElem_cons_zero, List.setIfInBounds_toArray, List.set_cons_zero, List.set_cons_succ]
        refine wpAnyH_take (i := 3) (v := ?_) rfl (by kernel_rfl) (by kernel_rfl) (by kernel_rfl) (fun _ _ _ h => h) (Or.inl ⟨by rfl, ?hy⟩) hHeld ?_
        case hy =>
          intro w hSw
          (try dsimp only at hSw)
          go_simp
          (try with_reducible rfl)
        try simp only [Act.put, List.getElem_toArray, List.getElem_cons_succ, List.getElem_cons_zero, List.setIfInBounds_toArray, List.set_cons_zero, List.set_cons_succ]
        refine wpAnyH_take (i := 4) (v := ?_) rfl (by kernel_rfl) (by kernel_rfl) (by kernel_rfl) (fun _ _ _ h => h) (Or.inl ⟨by rfl, ?hy⟩) hHeld ?_
        case hy =>
          intro w hSw
          (try dsimp only at hSw)
          go_simp
          (try with_reducible rfl)
        try simp only [Act.put, List.getElem_toArray, List.getElem_cons_succ, List.getElem_cons_zero, List.setIfInBounds_toArray, List.set_cons_zero, List.set_cons_succ]
        refine wpAnyH_take (i := 5) (v := ?_) rfl (by kernel_rfl) (by kernel_rfl) (by kernel_rfl) (fun _ _ _ h => h) (Or.inl ⟨by rfl, ?hy⟩) hHeld ?_
        case hy =>
          intro w hSw
          (try dsimp only at hSw)
          go_simp
          (try with_reducible rfl)
        try simp only [Act.put, List.getElem_toArray, List.getElem_cons_succ, List.getElem_cons_zero, List.setIfInBounds_toArray, List.set_cons_zero, List.set_cons_succ]
        refine wpAnyH_take (i := 6) (v := ?_) rfl (by kernel_rfl) (by kernel_rfl) (by kernel_rfl) (fun _ _ _ h => h) (Or.inl ⟨by rfl, ?hy⟩) hHeld ?_
        case hy =>
          intro w hSw
          (try dsimp only at hSw)
          go_simp
          (try with_reducible rfl)
        try simp only [Act.put, List.getElem_toArray, List.getElem_cons_succ, List.getElem_cons_zero, List.setIfInBounds_toArray, List.set_cons_zero, List.set_cons_succ]
        refine wpAnyH_take (i := 7) (v := ?_) rfl (by kernel_rfl) (by kernel_rfl) (by kernel_rfl) (fun _ _ _ h => h) (Or.inl ⟨by rfl, ?hy⟩) hHeld ?_
        case hy =>
          intro w hSw
          (try dsimp only at hSw)
          go_simp
          (try with_reducible rfl)
        try simp only [Act.put, List.getElem_toArray, List.getElem_cons_succ, List.getElem_cons_zero, List.setIfInBounds_toArray, List.set_cons_zero, List.set_cons_succ]
        refine wpAnyH_take (i := 8) (v := ?_) rfl (by kernel_rfl) (by kernel_rfl) (by kernel_rfl) (fun _ _ _ h => h) (Or.inl ⟨by rfl, ?hy⟩) hHeld ?_
        case hy =>
          intro w hSw
          (try dsimp only at hSw)
          go_simp
          (try with_reducible rfl)
        try simp only [Act.put, List.getElem_toArray, List.getElem_cons_succ, List.getElem_cons_zero, List.setIfInBounds_toArray, List.set_cons_zero, List.set_cons_succ]
        refine wpAnyH_done (by kernel_rfl) ?_ _
        simp only [Exit.then]
        clear hHeld
        clear j0 m0 m1
        go_wp2_with fail
        go_roundw
        case rel => exact ⟨k + 1, by omega, by first | rfl | go_num, by rw [hnx.out]; exact hown, hM.drew, hW.drew, hWs⟩
        case measure => simp [intOf]; omega
    · obtain rfl : n = k := by omega
      rw [List.take_of_length_le (by omega), hsw.out] at hown
      have hlen := wit_len bw now xs
      have hns := Lib.hid (nums_snoc (wit bw now xs) now)
      clear hM
      go_wp2_with (at_builtin; refine wpList_append_own _ rfl _ _ 50 rfl W.heap.size 2 i0 (.int .i64 0) 1 8 Try.underlying50 hi hz0 hz1 hz2 rfl (by decide) _ _ _ rfl (hown.alloc _) ⟨wr.heap.size, 0, none⟩ 1 1 [.int .i64 now] rfl rfl ?c1 ?c2 ?c3 ?c4 ?c5 ?_)
      case c1 => exact one_num wr now
      case c2 => intro u hu; simp at hu; subst hu; rfl
      case c3 => unfold maxLen; omega
      case c4 => omega
      case c5 => simp; omega
      intro v' w5 hown' hg _
      have hrow := own_row hown
      have hWW := Below.grown (below_own hW _) hg (by simp; omega) (fun r h => by have := hrow r h; omega)
      obtain ⟨A', c', rfl, hA'⟩ := own_ints (xs := wit bw now xs ++ [now]) (by rw [hns.out]; exact hown') (by simp)
      clear hg hown' hown hrow
      go_wp2
      refine bodyPost_ret (v := .tuple #[.slice A' ((wit bw now xs).length + 1) c', .int .i64 0]) (by simp [results, Try.results23, go_sem]) rfl ?_
      have q0 : (if (true && decide ((N : Int) < bk)) = true then ((wit bw now xs ++ [now], 0) : List Int × Int) else ([], 222)) = (wit bw now xs ++ [now], 0) := by simp [hlt]
      exact ⟨.slice A' ((wit bw now xs).length + 1) c', by simp [hlt], ⟨A', c', by simp [hlt], by simpa [hlt] using hA'⟩, hWW⟩
end Go.Proofs.Ythlninijnbmjfaa
