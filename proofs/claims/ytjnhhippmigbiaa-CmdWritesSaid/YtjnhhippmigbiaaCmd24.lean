/- Commands: which commands may be, and what their bytes are: the walk. Conditions: none. -/
import Derived.Test.YtjnhhippmigbiaaCmd22
import Derived.Test.YtjnhhippmigbiaaCmd23z
namespace Go.Proofs.Ytjnhhippmigbiaa
open Go.RowKit

theorem may_kind (c : Command) (h : mayC c = true) : 0 ≤ c.kind ∧ c.kind ≤ 14 := by
  unfold mayC kindB at h
  simp only [Bool.and_eq_true, decide_eq_true_eq] at h
  exact h.1.1.1
set_option maxRecDepth 100000 in
set_option maxHeartbeats 8000000 in
theorem r_Encode (c : Command) (hc : c.ok) (hl : shortC c) (w : World) : Calls Try.prog 8 #[.agg (csC c)] w fun e w' => e = .returned (.tuple #[.string (encV' c), .int .i64 (encE c)]) ∧ Below w.heap.size w w' := by
  have M := Lib.hid (fun W => r_May c hc W)
  have B := fun h => Lib.hid (fun W => r_Bytes c hc hl (may_kind c h) W)
  have hA := Blk.new w 34 (csC c)
  have hb : Below w.heap.size w (w.alloc (.cells (csC c) 34)) := by go_grown
  have hlA := load_cmd hA rfl
  unfold encV' encE
  cases hm : mayC c
  · rw [hm] at M
    clear B
    go_enter Try.func8, Try.ntmps8
    go_wp2_with (first | (with_reducible refine wpList_load_rowW 34 (.tmp 1) (w.heap.size) ?_ (csC c) hlA ?_ ?_) | fail)
    rotate_right
    · skip
      refine (M.out _).mono ?_
      rintro r w1 ⟨rfl, hk1⟩; dsimp only
      replace hb := hb.trans (hk1.mono hb.size)
      go_wp2_with fail
      refine bodyPost_ret (v := .tuple #[.string ⟨#[]⟩, .int .i64 2]) (by simp [results, Try.results8, go_sem]) rfl ?_
      exact ⟨rfl, hb⟩
    all_goals first | rfl | (simp [Region.wanted, yielded, Act.put]; done)
  · rw [hm] at M
    replace B := B hm
    go_enter Try.func8, Try.ntmps8
    go_wp2_with (first | (with_reducible refine wpList_load_rowW 34 (.tmp 1) (w.heap.size) ?_ (csC c) hlA ?_ ?_) | fail)
    rotate_right
    · skip
      refine (M.out _).mono ?_
      rintro r w1 ⟨rfl, hk1⟩; dsimp only
      replace hb := hb.trans (hk1.mono hb.size)
      replace hA := hA.past hk1
      have hlA := load_cmd hA rfl
      go_wp2_with (first | (with_reducible refine wpList_load_rowW 34 (.tmp 1) (w.heap.size) ?_ (csC c) hlA ?_ ?_) | fail)
      rotate_right
      · skip
        refine (B.out _).mono ?_
        rintro r w2 ⟨rfl, hk2⟩; dsimp only
        replace hb := hb.trans (hk2.mono hb.size)
        go_wp2_with fail
        refine bodyPost_ret (v := .tuple #[.string (encC c), .int .i64 0]) (by simp [results, Try.results8, go_sem]) rfl ?_
        exact ⟨rfl, hb⟩
      all_goals first | rfl | (simp [Region.wanted, yielded, Act.put]; done)
    all_goals first | rfl | (simp [Region.wanted, yielded, Act.put]; done)
set_option maxRecDepth 100000 in
set_option maxHeartbeats 8000000 in
theorem CmdWrites_walk (c : Command) (oc : c.ok) (kind : Int) (_hk : U8 kind) (w : World) : Calls Try.prog 3 #[c.v, .int .u8 kind] w fun e w' => e = .returned (.bool true) ∧ Below w.heap.size w w' := by
  have ALV := Lib.hid alive23
  have L1 := Lib.hid (fun W => long23 c oc W)
  have hA := Blk.new w 34 (csC c)
  have hb : Below w.heap.size w (w.alloc (.cells (csC c) 34)) := by go_grown
  have hlA := load_cmd hA rfl
  show Calls Try.prog 3 #[.agg (csC c), .int .u8 kind] w _
  by_cases hlc : overC 1024 c = true
  · rw [hlc] at L1
    go_enter Try.func3, Try.ntmps3
    go_wp2_with (first | (with_reducible refine wpList_load_rowW 34 (.tmp 2) (w.heap.size) ?_ (csC c) hlA ?_ ?_) | fail)
    rotate_right
    · skip
      refine (L1.out _).mono ?_
      rintro r w1 ⟨rfl, hk1⟩; dsimp only
      replace hb := hb.trans (hk1.mono hb.size)
      go_wp2_with fail
      refine (ALV.out _).mono ?_
      rintro r w2 ⟨rfl, hk2⟩; dsimp only
      replace hb := hb.trans (hk2.mono hb.size)
      go_wp2_with fail
      go_ret
      exact ⟨rfl, hb⟩
    all_goals first | rfl | (simp [Region.wanted, yielded, Act.put]; done)
  replace hlc : overC 1024 c = false := by simpa using hlc
  rw [hlc] at L1
  have hsh := over_short c hlc
  have E1 := Lib.hid (fun W => cmd_Enc c oc hsh W)
  have E2 := Lib.hid (fun W => r_Encode c oc hsh W)
  have M1 := Lib.hid (fun W => cmd_May c oc hsh W)
  have M2 := Lib.hid (fun W => r_May c oc W)
  have K1 := Lib.hid (fun W => cmd_Client kind W)
  have K2 := Lib.hid (fun W => r_Client kind W)
  generalize encV' c = s at *
  generalize encE c = y at *
  generalize mayC c = m at *
  generalize clientB kind = k at *
  have hss : (s.toList == s.toList) = true := beq_self_eq_true _
  have hyy : (y == y) = true := beq_self_eq_true _
  have hmm : (m == m) = true := beq_self_eq_true _
  have hkk : (k == k) = true := beq_self_eq_true _
  go_enter Try.func3, Try.ntmps3
  go_wp2_with (first | (with_reducible refine wpList_load_rowW 34 (.tmp 2) (w.heap.size) ?_ (csC c) hlA ?_ ?_) | fail)
  rotate_right
  · skip
    refine (L1.out _).mono ?_
    rintro r w1 ⟨rfl, hk1⟩; dsimp only
    replace hb := hb.trans (hk1.mono hb.size)
    replace hA := hA.past hk1
    replace hlA := load_cmd hA rfl
    clear hk1 L1
    go_wp2_with (first | (with_reducible refine wpList_load_rowW 34 (.tmp 2) (w.heap.size) ?_ (csC c) hlA ?_ ?_) | fail)
    rotate_right
    · skip
      refine (E1.out _).mono ?_
      rintro r w2 ⟨rfl, hk2⟩; dsimp only
      replace hb := hb.trans (hk2.mono hb.size)
      replace hA := hA.past hk2
      replace hlA := load_cmd hA rfl
      clear hk2 E1
      go_wp2_with (first | (with_reducible refine wpList_load_rowW 34 (.tmp 2) (w.heap.size) ?_ (csC c) hlA ?_ ?_) | fail)
      rotate_right
      · skip
        refine (E2.out _).mono ?_
        rintro r w3 ⟨rfl, hk3⟩; dsimp only
        replace hb := hb.trans (hk3.mono hb.size)
        replace hA := hA.past hk3
        clear hk3 E2 hlA
        go_wp2_with fail
        generalize hAe : w.heap.size = A at *
        refine wp_region_held0 (S := fun w' => Blk w' A 34 (csC c)) (by kernel_rfl) hA.drew (fun hHeld => ?_)
        replace hb := hb.drew
        replace hA := hA.drew
        refine wpAnyH_take (i := 0) (v := ?_) rfl (by kernel_rfl) (by kernel_rfl) (by kernel_rfl) (fun _ _ _ h => h) (Or.inl ⟨by rfl, ?hy⟩) hHeld ?_
        case hy =>
          intro w hSw
          (try dsimp only at hSw)
          go_simp
          (try with_reducible rfl)
        try simp only [Act.put, List.getElem_toArray, List.getElem_cons_succ, List.getElem_cons_zero, List.setIfInBounds_toArray, List.set_cons_zero, List.set_cons_succ]
        refine wpAnyH_take (i := 1) (v := ?_) rfl (by kernel_rfl) (by kernel_rfl) (by kernel_rfl) (fun _ _ _ h => h) (Or.inl ⟨by rfl, ?hy⟩) hHeld ?_
        case hy =>
          intro w hSw
          (try dsimp only at hSw)
          go_simp
          (try with_reducible rfl)
        try simp only [Act.put, List.getElem_toArray, List.getElem_cons_succ, List.getElem_cons_zero, List.setIfInBounds_toArray, List.set_cons_zero, List.set_cons_succ]
        refine wpAnyH_take (i := 2) (v := ?_) rfl (by kernel_rfl) (by kernel_rfl) (by kernel_rfl) (fun _ _ _ h => h) (Or.inl ⟨by rfl, ?hy⟩) hHeld ?_
        case hy =>
          intro w hSw
          (try dsimp only at hSw)
          go_simp
          (try with_reducible rfl)
        try simp only [Act.put, List.getElem_toArray, List.getElem_cons_succ, List.getElem_cons_zero, List.setIfInBounds_toArray, List.set_cons_zero, List.set_cons_succ]
        refine wpAnyH_take (i := 3) (v := ?_) rfl (by kernel_rfl) (by kernel_rfl) (by kernel_rfl) (fun _ _ _ h => h) (Or.inl ⟨by rfl, ?hy⟩) hHeld ?_
        case hy =>
          intro w hSw
          (try dsimp only at hSw)
          go_simp
          (try with_reducible rfl)
        try simp only [Act.put, List.getElem_toArray, List.getElem_cons_succ, List.getElem_cons_zero, List.setIfInBounds_toArray, List.set_cons_zero, List.set_cons_succ]
        refine wpAnyH_take (i := 4) (v := ?_) rfl (by kernel_rfl) (by kernel_rfl) (by kernel_rfl) (fun _ _ _ h => h) (Or.inl ⟨by rfl, ?hy⟩) hHeld ?_
        case hy =>
          intro w hSw
          (try dsimp only at hSw)
          go_simp
          (try with_reducible rfl)
        try simp only [Act.put, List.getElem_toArray, List.getElem_cons_succ, List.getElem_cons_zero, List.setIfInBounds_toArray, List.set_cons_zero, List.set_cons_succ]
        refine wpAnyH_take (i := 5) (v := ?_) rfl (by kernel_rfl) (by kernel_rfl) (by kernel_rfl) (fun _ _ _ h => h) (Or.inl ⟨by rfl, ?hy⟩) hHeld ?_
        case hy =>
          intro w hSw
          (try dsimp only at hSw)
          go_simp
          (try with_reducible rfl)
        try simp only [Act.put, List.getElem_toArray, List.getElem_cons_succ, List.getElem_cons_zero, List.setIfInBounds_toArray, List.set_cons_zero, List.set_cons_succ]
        refine wpAnyH_take (i := 6) (v := ?_) rfl (by kernel_rfl) (by kernel_rfl) (by kernel_rfl) (fun _ _ _ h => h) (Or.inl ⟨by rfl, ?hy⟩) hHeld ?_
        case hy =>
          intro w hSw
          (try dsimp only at hSw)
          go_simp
          (try with_reducible rfl)
        try simp only [Act.put, List.getElem_toArray, List.getElem_cons_succ, List.getElem_cons_zero, List.setIfInBounds_toArray, List.set_cons_zero, List.set_cons_succ]
        refine wpAnyH_take (i := 7) (v := ?_) rfl (by kernel_rfl) (by kernel_rfl) (by kernel_rfl) (fun _ _ _ h => h) (Or.inl ⟨by rfl, ?hy⟩) hHeld ?_
        case hy =>
          intro w hSw
          (try dsimp only at hSw)
          go_simp
          (try with_reducible rfl)
        try simp only [Act.put, List.getElem_toArray, List.getElem_cons_succ, List.getElem_cons_zero, List.setIfInBounds_toArray, List.set_cons_zero, List.set_cons_succ]
        refine wpAnyH_take (i := 8) (v := ?_) rfl (by kernel_rfl) (by kernel_rfl) (by kernel_rfl) (fun _ _ _ h => h) (Or.inl ⟨by rfl, ?hy⟩) hHeld ?_
        case hy =>
          intro w hSw
          (try dsimp only at hSw)
          go_simp
          (try with_reducible rfl)
        try simp only [Act.put, List.getElem_toArray, List.getElem_cons_succ, List.getElem_cons_zero, List.setIfInBounds_toArray, List.set_cons_zero, List.set_cons_succ]
        refine wpAnyH_take (i := 9) (v := .agg (csC c)) rfl (by kernel_rfl) (by kernel_rfl) (by kernel_rfl) (fun _ _ _ h => h) (Or.inl ⟨by rfl, ?hy⟩) hHeld ?_
        case hy =>
          intro w hSw
          exact exec_load_row 34 _ rfl A rfl (csC c) (load_cmd hSw rfl)
        try simp only [Act.put, List.getElem_toArray, List.getElem_cons_succ, List.getElem_cons_zero, List.setIfInBounds_toArray, List.set_cons_zero, List.set_cons_succ]
        refine wpAnyH_take (i := 11) (v := .agg (csC c)) rfl (by kernel_rfl) (by kernel_rfl) (by kernel_rfl) (fun _ _ _ h => h) (Or.inl ⟨by rfl, ?hy⟩) hHeld ?_
        case hy =>
          intro w hSw
          exact exec_load_row 34 _ rfl A rfl (csC c) (load_cmd hSw rfl)
        try simp only [Act.put, List.getElem_toArray, List.getElem_cons_succ, List.getElem_cons_zero, List.setIfInBounds_toArray, List.set_cons_zero, List.set_cons_succ]
        refine wpAnyH_ready (rs := [10]) (by kernel_rfl) (by simp) ?_
        refine AllReadyH.cons rfl (fun K hK => ?_) AllReadyH.nil
        have hOld := hHeld
        clear hHeld
        go_simp
        refine (M1.out _).mono ?_
        rintro r w4 ⟨rfl, hk4⟩
        dsimp only
        replace hA := hOld.past hk4
        replace hb := hb.trans (hk4.mono (by have := hb.size; omega))
        refine hK.out _ _ (hA) (fun hHeld => ?_)
        clear hK K hOld
        try simp only [Act.put, List.getElem_toArray, List.getElem_cons_succ, List.getElem_cons_zero, List.setIfInBounds_toArray, List.set_cons_zero, List.set_cons_succ]
        refine wpAnyH_ready (rs := [12]) (by kernel_rfl) (by simp) ?_
        refine AllReadyH.cons rfl (fun K hK => ?_) AllReadyH.nil
        have hOld := hHeld
        clear hHeld
        go_simp
        refine (M2.out _).mono ?_
        rintro r w5 ⟨rfl, hk5⟩
        dsimp only
        replace hA := hOld.past hk5
        replace hb := hb.trans (hk5.mono (by have := hb.size; omega))
        refine hK.out _ _ (hA) (fun hHeld => ?_)
        clear hK K hOld
        try simp only [Act.put, List.getElem_toArray, List.getElem_cons_succ, List.getElem_cons_zero, List.setIfInBounds_toArray, List.set_cons_zero, List.set_cons_succ]
        refine wpAnyH_take (i := 13) (v := ?_) rfl (by kernel_rfl) (by kernel_rfl) (by kernel_rfl) (fun _ _ _ h => h) (Or.inl ⟨by rfl, ?hy⟩) hHeld ?_
        case hy =>
          intro w hSw
          (try dsimp only at hSw)
          go_simp
          (try with_reducible rfl)
        try simp only [Act.put, List.getElem_toArray, List.getElem_cons_succ, List.getElem_cons_zero, List.setIfInBounds_toArray, List.set_cons_zero, List.set_cons_succ]
        refine wpAnyH_take (i := 14) (v := ?_) rfl (by kernel_rfl) (by kernel_rfl) (by kernel_rfl) (fun _ _ _ h => h) (Or.inl ⟨by rfl, ?hy⟩) hHeld ?_
        case hy =>
          intro w hSw
          (try dsimp only at hSw)
          go_simp
          (try with_reducible rfl)
        try simp only [Act.put, List.getElem_toArray, List.getElem_cons_succ, List.getElem_cons_zero, List.setIfInBounds_toArray, List.set_cons_zero, List.set_cons_succ]
        refine wpAnyH_take (i := 15) (v := ?_) rfl (by kernel_rfl) (by kernel_rfl) (by kernel_rfl) (fun _ _ _ h => h) (Or.inl ⟨by rfl, ?hy⟩) hHeld ?_
        case hy =>
          intro w hSw
          (try dsimp only at hSw)
          go_simp
          (try with_reducible rfl)
        try simp only [Act.put, List.getElem_toArray, List.getElem_cons_succ, List.getElem_cons_zero, List.setIfInBounds_toArray, List.set_cons_zero, List.set_cons_succ]
        refine wpAnyH_take (i := 16) (v := ?_) rfl (by kernel_rfl) (by kernel_rfl) (by kernel_rfl) (fun _ _ _ h => h) (Or.inl ⟨by rfl, ?hy⟩) hHeld ?_
        case hy =>
          intro w hSw
          (try dsimp only at hSw)
          go_simp
          (try with_reducible rfl)
        try simp only [Act.put, List.getElem_toArray, List.getElem_cons_succ, List.getElem_cons_zero, List.setIfInBounds_toArray, List.set_cons_zero, List.set_cons_succ]
        refine wpAnyH_take (i := 18) (v := ?_) rfl (by kernel_rfl) (by kernel_rfl) (by kernel_rfl) (fun _ _ _ h => h) (Or.inl ⟨by rfl, ?hy⟩) hHeld ?_
        case hy =>
          intro w hSw
          (try dsimp only at hSw)
          go_simp
          (try with_reducible rfl)
        try simp only [Act.put, List.getElem_toArray, List.getElem_cons_succ, List.getElem_cons_zero, List.setIfInBounds_toArray, List.set_cons_zero, List.set_cons_succ]
        refine wpAnyH_ready (rs := [17]) (by kernel_rfl) (by simp) ?_
        refine AllReadyH.cons rfl (fun K hK => ?_) AllReadyH.nil
        have hOld := hHeld
        clear hHeld
        go_simp
        refine (K1.out _).mono ?_
        rintro r w6 ⟨rfl, rfl⟩
        dsimp only
        refine hK.out _ _ (hA) (fun hHeld => ?_)
        clear hK K hOld
        try simp only [Act.put, List.getElem_toArray, List.getElem_cons_succ, List.getElem_cons_zero, List.setIfInBounds_toArray, List.set_cons_zero, List.set_cons_succ]
        refine wpAnyH_ready (rs := [19]) (by kernel_rfl) (by simp) ?_
        refine AllReadyH.cons rfl (fun K hK => ?_) AllReadyH.nil
        have hOld := hHeld
        clear hHeld
        go_simp
        refine (K2.out _).mono ?_
        rintro r w6 ⟨rfl, rfl⟩
        dsimp only
        refine hK.out _ _ (hA) (fun hHeld => ?_)
        clear hK K hOld
        try simp only [Act.put, List.getElem_toArray, List.getElem_cons_succ, List.getElem_cons_zero, List.setIfInBounds_toArray, List.set_cons_zero, List.set_cons_succ]
        refine wpAnyH_take (i := 20) (v := ?_) rfl (by kernel_rfl) (by kernel_rfl) (by kernel_rfl) (fun _ _ _ h => h) (Or.inl ⟨by rfl, ?hy⟩) hHeld ?_
        case hy =>
          intro w hSw
          (try dsimp only at hSw)
          go_simp
          (try with_reducible rfl)
        try simp only [Act.put, List.getElem_toArray, List.getElem_cons_succ, List.getElem_cons_zero, List.setIfInBounds_toArray, List.set_cons_zero, List.set_cons_succ]
        refine wpAnyH_take (i := 21) (v := ?_) rfl (by kernel_rfl) (by kernel_rfl) (by kernel_rfl) (fun _ _ _ h => h) (Or.inl ⟨by rfl, ?hy⟩) hHeld ?_
        case hy =>
          intro w hSw
          (try dsimp only at hSw)
          go_simp
          (try with_reducible rfl)
        try simp only [Act.put, List.getElem_toArray, List.getElem_cons_succ, List.getElem_cons_zero, List.setIfInBounds_toArray, List.set_cons_zero, List.set_cons_succ]
        refine wpAnyH_take (i := 22) (v := ?_) rfl (by kernel_rfl) (by kernel_rfl) (by kernel_rfl) (fun _ _ _ h => h) (Or.inl ⟨by rfl, ?hy⟩) hHeld ?_
        case hy =>
          intro w hSw
          (try dsimp only at hSw)
          go_simp
          (try with_reducible rfl)
        try simp only [Act.put, List.getElem_toArray, List.getElem_cons_succ, List.getElem_cons_zero, List.setIfInBounds_toArray, List.set_cons_zero, List.set_cons_succ]
        refine wpAnyH_ready (rs := [23]) (by kernel_rfl) (by simp) ?_
        refine AllReadyH.cons rfl (fun K hK => ?_) AllReadyH.nil
        have hOld := hHeld
        clear hHeld
        go_simp
        refine (ALV.out _).mono ?_
        rintro r w7 ⟨rfl, hk7⟩
        dsimp only
        replace hA := hOld.past hk7
        replace hb := hb.trans (hk7.mono (by have := hb.size; omega))
        refine hK.out _ _ (hA) (fun hHeld => ?_)
        clear hK K hOld
        try simp only [Act.put, List.getElem_toArray, List.getElem_cons_succ, List.getElem_cons_zero, List.setIfInBounds_toArray, List.set_cons_zero, List.set_cons_succ]
        refine wpAnyH_take (i := 24) (v := ?_) rfl (by kernel_rfl) (by kernel_rfl) (by kernel_rfl) (fun _ _ _ h => h) (Or.inl ⟨by rfl, ?hy⟩) hHeld ?_
        case hy =>
          intro w hSw
          (try dsimp only at hSw)
          go_simp
          (try with_reducible rfl)
        try simp only [Act.put, List.getElem_toArray, List.getElem_cons_succ, List.getElem_cons_zero, List.setIfInBounds_toArray, List.set_cons_zero, List.set_cons_succ]
        refine wpAnyH_take (i := 25) (v := ?_) rfl (by kernel_rfl) (by kernel_rfl) (by kernel_rfl) (fun _ _ _ h => h) (Or.inl ⟨by rfl, ?hy⟩) hHeld ?_
        case hy =>
          intro w hSw
          (try dsimp only at hSw)
          go_simp
          (try with_reducible rfl)
        try simp only [Act.put, List.getElem_toArray, List.getElem_cons_succ, List.getElem_cons_zero, List.setIfInBounds_toArray, List.set_cons_zero, List.set_cons_succ]
        refine wpAnyH_done (by kernel_rfl) ?_ _
        simp only [Exit.then]
        go_wp2_with fail
        go_ret
        exact ⟨rfl, by rw [hAe]; exact hb⟩
      all_goals first | rfl | (simp [Region.wanted, yielded, Act.put]; done)
    all_goals first | rfl | (simp [Region.wanted, yielded, Act.put]; done)
  all_goals first | rfl | (simp [Region.wanted, yielded, Act.put]; done)
end Go.Proofs.Ytjnhhippmigbiaa
