/- The law WindowHolds of reevelaw18, walked. Conditions: the list is in memory. -/
import Derived.Test.YthlninijnbmjfaaWin17
namespace Go.Proofs.Ythlninijnbmjfaa
open Go.RowKit Go.Shelf

theorem mask40 (x : Int) (h : I64 x) : bits .and .i64 x 1099511627775 = x % 1099511627776 := by
  obtain ⟨h0, h1⟩ := h
  unfold bits
  have e : (BitVec.ofInt 64 x &&& BitVec.ofInt 64 1099511627775).toNat = ((x % 1099511627776).toNat) := by
    rw [BitVec.toNat_and, BitVec.toNat_ofInt, BitVec.toNat_ofInt]
    rw [show ((1099511627775 : Int) % ((2 ^ 64 : Nat) : Int)).toNat = 2 ^ 40 - 1 by decide, Nat.and_two_pow_sub_one_eq_mod]
    omega
  show IntKind.i64.wrap ((BitVec.ofInt 64 x &&& BitVec.ofInt 64 1099511627775).toNat : Int) = _
  rw [e, IntKind.wrap_i64]
  omega
theorem ints_grown {w w' : World} {row : Option Nat} {A : Option Addr} {xs : List Int} (h : IntsIn w A xs) (hg : w.grownBy w' row) (hne : ∀ a, A = some a → some a.block ≠ row) : IntsIn w' A xs := fun hx => by
  obtain ⟨b, off, e, hb, hc⟩ := h hx
  exact ⟨b, off, e, Nat.lt_of_lt_of_le hb hg.size, fun i hi => hg.cell (hc i hi) (show some b ≠ row from hne _ e)⟩
set_option maxRecDepth 100000 in
set_option maxHeartbeats 2000000 in
theorem w_Add2 (b : Budget) (A : Option Addr) (n c : Nat) (now : Int) (xs : List Int) (hl : xs.length = n) (hn : n ≤ 1000000) (w : World) (hA : IntsIn w A xs) :
    Calls Try.prog 22 #[b.v, .slice A n c, .int .i64 now] w fun r w' => ∃ v, r = .returned (.tuple #[v, .int .i64 (addR b xs now).2]) ∧ IntsOut w' v (addR b xs now).1 ∧ Below w.heap.size w w' ∧ (∀ r, v.ownBlock = some r → w.heap.size ≤ r) := by
  have C1 := Lib.hid (fun w hA => w_may b A n c now xs hl hn w hA)
  have C2 := Lib.hid (fun w hA => w_Allow b A n c now xs hl hn w hA)
  have hwin : mayW b xs now = true → winB b.window now = true := fun h => by
    unfold mayW at h
    simp only [Bool.and_eq_true] at h
    unfold mayBud at h
    unfold winB
    simp only [Bool.and_eq_true] at h ⊢
    exact ⟨h.1.2.2.1, h.1.2.2.2, h.2.1⟩
  have HA := Lib.hid hA
  clear hA
  unfold addR
  obtain ⟨i0, hi, hz0, hz1, hz2⟩ := info_parts info_i64
  obtain ⟨bk, bw⟩ := b
  dsimp only at hwin ⊢
  replace hwin := Lib.hid hwin
  generalize mayW ⟨bk, bw⟩ xs now = p at *
  generalize allowW ⟨bk, bw⟩ xs now = q at *
  have hM := Blk.new w 49 #[.int .i64 bk, .int .i64 bw]
  have hW : Below w.heap.size w (w.alloc (.cells #[.int .i64 bk, .int .i64 bw] 49)) := by go_grown
  go_enter Try.func22, Try.ntmps22
  go_wp2_with fail
  refine (C1.out _ (ints_past HA.out hW)).mono ?_
  rintro r w1 ⟨rfl, hbw⟩; dsimp only
  replace hM := Blk.past hM hbw
  replace hW := below_to hW hbw
  clear hbw
  cases p
  · clear hM
    go_wp2_with fail
    refine bodyPost_ret (v := .tuple #[.slice none 0 0, .int .i64 2]) (by simp [results, Try.results22, go_sem]) rfl ?_
    exact ⟨.slice none 0 0, by simp, by simpa using IntsOut.nil _, hW, fun r hr => by simp [Value.ownBlock] at hr⟩
  have m0 : w1.cell? ⟨w.heap.size, 0, none⟩ = some (.int .i64 bk) := hM.cell 0
  have m1 : w1.cell? ⟨w.heap.size, 1, none⟩ = some (.int .i64 bw) := hM.cell 1
  go_wp2_with fail
  refine (C2.out _ (ints_past HA.out hW)).mono ?_
  rintro r w2 ⟨rfl, hbw⟩; dsimp only
  replace hM := Blk.past hM hbw
  replace hW := below_to hW hbw
  clear hbw m0 m1
  cases q
  · clear hM
    go_wp2_with fail
    refine bodyPost_ret (v := .tuple #[.slice none 0 0, .int .i64 222]) (by simp [results, Try.results22, go_sem]) rfl ?_
    exact ⟨.slice none 0 0, by simp, by simpa using IntsOut.nil _, hW, fun r hr => by simp [Value.ownBlock] at hr⟩
  have m1 : w2.cell? ⟨w.heap.size, 1, none⟩ = some (.int .i64 bw) := hM.cell 1
  go_wp2_with fail
  refine (w_within _ _ _ _ _ _).mono ?_
  rintro r w3 ⟨rfl, rfl⟩; dsimp only
  obtain ⟨W9, hW9, c1, c2, c3, hs9, hb9⟩ := three_boxes w2 50 2 2 (.slice A n c) (.int .i64 bw) (.int .i64 now)
  rw [← hW9]
  clear hW9 m1 hM hs9
  replace hW : Below w.heap.size w W9 := below_to hW hb9
  clear hb9
  generalize w2.heap.size = g at *
  go_wp2_with fail
  have hsz9 := hW.size
  refine (w_Collect g (g + 1 + 1) (g + 1) A n c bw now xs hl hn (hwin.out (by first | trivial | rfl)) W9 (ints_past HA.out hW) c1 c3 c2).mono ?_
  rintro r w4 ⟨v, rfl, hown, hbw⟩; dsimp only
  have hlen := wit_len bw now xs
  have hsz := hbw.size
  replace hW := below_to hW hbw
  have hsz2 := hW.size
  clear hbw c1 c2 c3 C1 C2 hwin
  have hns := Lib.hid (nums_snoc (wit bw now xs) now)
  have hlt := fun r hr => (hown.lt r hr)
  go_wp2_with (at_builtin; refine wpList_append_own _ rfl _ _ 50 rfl (W9.heap.size + 1) 2 i0 (.int .i64 0) 1 8 Try.underlying50 hi hz0 hz1 hz2 rfl (by decide) _ _ _ rfl (hown.alloc _) ⟨w4.heap.size, 0, none⟩ 1 1 [.int .i64 now] rfl rfl ?c1 ?c2 ?c3 ?c4 ?c5 ?_)
  case c1 => exact one_num w4 now
  case c2 => intro u hu; simp at hu; subst hu; rfl
  case c3 => unfold maxLen; omega
  case c4 => omega
  case c5 => simp; omega
  intro v' w5 hown' hg _
  have hlt' : ∀ r, v.ownBlock = some r → w.heap.size ≤ r := fun r hr => by have := (hlt r hr).1; omega
  replace hW := Below.grown (below_own hW _) hg (by simp; omega) hlt'
  have hfr := own_row hown'
  obtain ⟨A', c', rfl, hA'⟩ := own_ints (xs := wit bw now xs ++ [now]) (by rw [hns.out]; exact hown') (by simp)
  clear hg hown' hown hlt hlt'
  go_wp2
  refine bodyPost_ret (v := .tuple #[.slice A' ((wit bw now xs).length + 1) c', .int .i64 0]) (by simp [results, Try.results22, go_sem]) rfl ?_
  exact ⟨_, rfl, ⟨A', c', by simp, hA'⟩, hW, fun r hr => by have := hfr r hr; omega⟩
set_option maxHeartbeats 2000000 in
theorem worst18 (A : Option Addr) (n c K : Nat) (wn : Int) (xs : List Int) (hl : xs.length = n) (hn : n ≤ 1000000) (hw0 : 0 < wn) (hin : ∀ x ∈ xs, 0 ≤ x ∧ x ≤ 4611686018427387904) (hfar : ∀ i, i + K < xs.length → xs.getD i 0 + wn ≤ xs.getD (i + K) 0) (w : World) (hA : IntsIn w A xs) :
    Calls Try.prog 30 #[.slice A n c, .int .i64 wn] w fun r w' => ∃ m : Int, r = .returned (.int .i64 m) ∧ 0 ≤ m ∧ m ≤ K ∧ Below w.heap.size w w' := by
  have HA := Lib.hid hA
  replace hin := Lib.hid hin
  replace hfar := Lib.hid hfar
  have hW := Below.refl w.heap.size w
  clear hA
  go_enter Try.func30, Try.ntmps30
  go_wp2
  go_loopw [5, 6, 7, 8] (fun s i _ _ wr => ∃ (k : Nat) (m : Int), k ≤ n ∧ i = .int .i64 k ∧ s = .int .i64 m ∧ 0 ≤ m ∧ m ≤ K ∧ Below w.heap.size w wr) (fun _ i _ _ _ => n - (intOf i).toNat)
  case atStart => exact ⟨0, 0, Nat.zero_le _, rfl, rfl, by omega, by omega, hW⟩
  case round =>
    clear hW
    obtain ⟨k, m, hk, rfl, rfl, hm0, hm1, hW⟩ := hrel
    by_cases hlt : k < n
    · obtain ⟨b, off, rfl, hb, hcell⟩ := HA.out (by intro e; rw [e] at hl; simp at hl; omega)
      have hk0 := hcell k (by omega)
      have e1 : xs.getD k 0 = xs[k] := getD_at (by omega)
      rw [← e1] at hk0
      have hy := hin.out _ (List.getElem_mem (show k < xs.length by omega))
      rw [← e1] at hy
      replace hcell := Lib.hid hcell
      clear e1
      go_wp2_with fail
      obtain ⟨wo, rfl⟩ : ∃ wo : World, wo = wr := ⟨_, rfl⟩
      go_loopw [7, 8] (fun q i wr => ∃ j : Nat, k ≤ j ∧ j ≤ n ∧ j ≤ k + K ∧ i = .int .i64 j ∧ q = .int .i64 ((j - k : Nat) : Int) ∧ Below w.heap.size w wr) (fun _ i _ => n - (intOf i).toNat)
      case atStart => exact ⟨k, Nat.le_refl _, by omega, by omega, rfl, by simp, hW⟩
      case round =>
        clear hW
        obtain ⟨j, hj0, hj1, hj2, rfl, rfl, hW⟩ := hrel
        have emax : ∀ ats ty, Builtin.max_ ats ty #[.int .i64 m, .int .i64 ((j - k : Nat) : Int)] = pure (.int .i64 (max m ((j - k : Nat) : Int))) := fun ats ty => by rw [kmax_two, kmax2]; rfl
        have hM : ∃ M : Int, max m ((j - k : Nat) : Int) = M ∧ 0 ≤ M ∧ M ≤ K := ⟨_, rfl, by omega, by omega⟩
        obtain ⟨M, hM1, hM2, hM3⟩ := hM
        rw [hM1] at emax
        clear hM1
        by_cases hjn : j < n
        · have hxin := hin.out _ (List.getElem_mem (show j < xs.length by omega))
          have j0 := (hW.cell (p := ⟨b, off + j, none⟩) hb).trans (hcell.out j (by omega))
          have j1 := (hW.cell (p := ⟨b, off + k, none⟩) hb).trans hk0
          have e0 : xs.getD j 0 = xs[j] := getD_at (by omega)
          have hf := hfar.out k
          rw [← e0] at j0 hxin
          have hjK : xs.getD j 0 - xs.getD k 0 < wn → j < k + K := fun h => by
            rcases (show j < k + K ∨ j = k + K by omega) with h' | rfl
            · exact h'
            · have := hf (by omega); omega
          clear e0 hf
          generalize xs.getD j 0 = x at *
          generalize hyy : xs.getD k 0 = y at *
          have s1 : wrap64 (x - y) = x - y := by unfold wrap64; omega
          have s2 : IntKind.i64.wrap (x - y) = x - y := IntWalk.i64_in _ (by omega)
          by_cases hd : x - y < wn
          · have d0 : decide (x - y < wn) = true := by simpa using hd
            have hjK' := hjK hd
            have s3 : wrap64 (((j - k : Nat) : Int) + 1) = ((j + 1 - k : Nat) : Int) := by unfold wrap64; omega
            have s4 : IntKind.i64.wrap (((j - k : Nat) : Int) + 1) = ((j + 1 - k : Nat) : Int) := by rw [IntWalk.i64_in _ (by omega)]; omega
            clear hjK emax
            go_wp2_with fail
            refine wp_region_held0 (S := fun w' => w'.cell? ⟨b, off + j, none⟩ = some (.int .i64 x) ∧ w'.cell? ⟨b, off + k, none⟩ = some (.int .i64 y)) (by kernel_rfl) ⟨j0, j1⟩ (fun hHeld => ?_)
            refine wpAnyH_take (i := 0) (v := ?_) rfl (by kernel_rfl) (by kernel_rfl) (by kernel_rfl) (fun _ _ _ h => h) (Or.inl ⟨by rfl, ?hy⟩) hHeld ?_
            case hy =>
              intro w hSw
              (try dsimp only at hSw)
              go_simp
              (try with_reducible rfl)
            try simp only [Act.put, List.getElem_toArray, List.getElem_cons_succ, List.getElem_cons_zero, List.setIfInBounds_toArray, List.set_cons_zero, List.set_cons_succ]
            refine wpAnyH_take (i := 1) (v := ?_) rfl (by kernel_rfl) (by kernel_rfl) (by kernel_rfl) (fun _ _ _ h => h) (Or.inl ⟨by rfl, ?hy⟩) hHeld ?_
            case hy =>
              intro w hSw
              (try dsimp only at hSw)
              go_simp
              (try with_reducible rfl)
            try simp only [Act.put, List.getElem_toArray, List.getElem_cons_succ, List.getElem_cons_zero, List.setIfInBounds_toArray, List.set_cons_zero, List.set_cons_succ]
            refine wpAnyH_take (i := 2) (v := ?_) rfl (by kernel_rfl) (by kernel_rfl) (by kernel_rfl) (fun _ _ _ h => h) (Or.inl ⟨by rfl, ?hy⟩) hHeld ?_
            case hy =>
              intro w hSw
              (try dsimp only at hSw)
              go_simp
              (try with_reducible rfl)
            try simp only [Act.put, List.getElem_toArray, List.getElem_cons_succ, List.getElem_cons_zero, List.setIfInBounds_toArray, List.set_cons_zero, List.set_cons_succ]
            refine wpAnyH_take (i := 3) (v := ?_) rfl (by kernel_rfl) (by kernel_rfl) (by kernel_rfl) (fun _ _ _ h => h) (Or.inl ⟨by rfl, ?hy⟩) hHeld ?_
            case hy =>
              intro w hSw
              (try dsimp only at hSw)
              go_simp
              (try with_reducible rfl)
            try simp only [Act.put, List.getElem_toArray, List.getElem_cons_succ, List.getElem_cons_zero, List.setIfInBounds_toArray, List.set_cons_zero, List.set_cons_succ]
            refine wpAnyH_take (i := 4) (v := ?_) rfl (by kernel_rfl) (by kernel_rfl) (by kernel_rfl) (fun _ _ _ h => h) (Or.inl ⟨by rfl, ?hy⟩) hHeld ?_
            case hy =>
              intro w hSw
              (try dsimp only at hSw)
              go_simp
              (try with_reducible rfl)
            try simp only [Act.put, List.getElem_toArray, List.getElem_cons_succ, List.getElem_cons_zero, List.setIfInBounds_toArray, List.set_cons_zero, List.set_cons_succ]
            refine wpAnyH_take (i := 5) (v := ?_) rfl (by kernel_rfl) (by kernel_rfl) (by kernel_rfl) (fun _ _ _ h => h) (Or.inl ⟨by rfl, ?hy⟩) hHeld ?_
            case hy =>
              intro w hSw
              (try dsimp only at hSw)
              go_simp
              (try with_reducible rfl)
            try simp only [Act.put, List.getElem_toArray, List.getElem_cons_succ, List.getElem_cons_zero, List.setIfInBounds_toArray, List.set_cons_zero, List.set_cons_succ]
            refine wpAnyH_take (i := 6) (v := ?_) rfl (by kernel_rfl) (by kernel_rfl) (by kernel_rfl) (fun _ _ _ h => h) (Or.inl ⟨by rfl, ?hy⟩) hHeld ?_
            case hy =>
              intro w hSw
              (try dsimp only at hSw)
              go_simp
              (try with_reducible rfl)
            try simp only [Act.put, List.getElem_toArray, List.getElem_cons_succ, List.getElem_cons_zero, List.setIfInBounds_toArray, List.set_cons_zero, List.set_cons_succ]
            refine wpAnyH_take (i := 7) (v := ?_) rfl (by kernel_rfl) (by kernel_rfl) (by kernel_rfl) (fun _ _ _ h => h) (Or.inl ⟨by rfl, ?hy⟩) hHeld ?_
            case hy =>
              intro w hSw
              (try dsimp only at hSw)
              go_simp
              (try with_reducible rfl)
            try simp only [Act.put, List.getElem_toArray, List.getElem_cons_succ, List.getElem_cons_zero, List.setIfInBounds_toArray, List.set_cons_zero, List.set_cons_succ]
            refine wpAnyH_take (i := 8) (v := ?_) rfl (by kernel_rfl) (by kernel_rfl) (by kernel_rfl) (fun _ _ _ h => h) (Or.inl ⟨by rfl, ?hy⟩) hHeld ?_
            case hy =>
              intro w hSw
              (try dsimp only at hSw)
              go_simp
              (try with_reducible rfl)
            try simp only [Act.put, List.getElem_toArray, List.getElem_cons_succ, List.getElem_cons_zero, List.setIfInBounds_toArray, List.set_cons_zero, List.set_cons_succ]
            refine wpAnyH_take (i := 9) (v := ?_) rfl (by kernel_rfl) (by kernel_rfl) (by kernel_rfl) (fun _ _ _ h => h) (Or.inl ⟨by rfl, ?hy⟩) hHeld ?_
            case hy =>
              intro w hSw
              (try dsimp only at hSw)
              go_simp
              (try with_reducible rfl)
            try simp only [Act.put, List.getElem_toArray, List.getElem_cons_succ, List.getElem_cons_zero, List.setIfInBounds_toArray, List.set_cons_zero, List.set_cons_succ]
            refine wpAnyH_take (i := 10) (v := ?_) rfl (by kernel_rfl) (by kernel_rfl) (by kernel_rfl) (fun _ _ _ h => h) (Or.inl ⟨by rfl, ?hy⟩) hHeld ?_
            case hy =>
              intro w hSw
              (try dsimp only at hSw)
              go_simp
              (try with_reducible rfl)
            try simp only [Act.put, List.getElem_toArray, List.getElem_cons_succ, List.getElem_cons_zero, List.setIfInBounds_toArray, List.set_cons_zero, List.set_cons_succ]
            refine wpAnyH_take (i := 11) (v := ?_) rfl (by kernel_rfl) (by kernel_rfl) (by kernel_rfl) (fun _ _ _ h => h) (Or.inl ⟨by rfl, ?hy⟩) hHeld ?_
            case hy =>
              intro w hSw
              (try dsimp only at hSw)
              go_simp
              (try with_reducible rfl)
            try simp only [Act.put, List.getElem_toArray, List.getElem_cons_succ, List.getElem_cons_zero, List.setIfInBounds_toArray, List.set_cons_zero, List.set_cons_succ]
            refine wpAnyH_take (i := 12) (v := ?_) rfl (by kernel_rfl) (by kernel_rfl) (by kernel_rfl) (fun _ _ _ h => h) (Or.inl ⟨by rfl, ?hy⟩) hHeld ?_
            case hy =>
              intro w hSw
              (try dsimp only at hSw)
              go_simp
              (try with_reducible rfl)
            try simp only [Act.put, List.getElem_toArray, List.getElem_cons_succ, List.getElem_cons_zero, List.setIfInBounds_toArray, List.set_cons_zero, List.set_cons_succ]
            refine wpAnyH_take (i := 13) (v := ?_) rfl (by kernel_rfl) (by kernel_rfl) (by kernel_rfl) (fun _ _ _ h => h) (Or.inl ⟨by rfl, ?hy⟩) hHeld ?_
            case hy =>
              intro w hSw
              (try dsimp only at hSw)
              go_simp
              (try with_reducible rfl)
            try simp only [Act.put, List.getElem_toArray, List.getElem_cons_succ, List.getElem_cons_zero, List.setIfInBounds_toArray, List.set_cons_zero, List.set_cons_succ]
            refine wpAnyH_take (i := 14) (v := ?_) rfl (by kernel_rfl) (by kernel_rfl) (by kernel_rfl) (fun _ _ _ h => h) (Or.inl ⟨by rfl, ?hy⟩) hHeld ?_
            case hy =>
              intro w hSw
              (try dsimp only at hSw)
              go_simp
              (try with_reducible rfl)
            try simp only [Act.put, List.getElem_toArray, List.getElem_cons_succ, List.getElem_cons_zero, List.setIfInBounds_toArray, List.set_cons_zero, List.set_cons_succ]
            refine wpAnyH_take (i := 15) (v := ?_) rfl (by kernel_rfl) (by kernel_rfl) (by kernel_rfl) (fun _ _ _ h => h) (Or.inl ⟨by rfl, ?hy⟩) hHeld ?_
            case hy =>
              intro w hSw
              (try dsimp only at hSw)
              go_simp
              (try with_reducible rfl)
            try simp only [Act.put, List.getElem_toArray, List.getElem_cons_succ, List.getElem_cons_zero, List.setIfInBounds_toArray, List.set_cons_zero, List.set_cons_succ]
            refine wpAnyH_take (i := 16) (v := ?_) rfl (by kernel_rfl) (by kernel_rfl) (by kernel_rfl) (fun _ _ _ h => h) (Or.inl ⟨by rfl, ?hy⟩) hHeld ?_
            case hy =>
              intro w hSw
              (try dsimp only at hSw)
              go_simp
              (try with_reducible rfl)
            try simp only [Act.put, List.getElem_toArray, List.getElem_cons_succ, List.getElem_cons_zero, List.setIfInBounds_toArray, List.set_cons_zero, List.set_cons_succ]
            refine wpAnyH_done (by kernel_rfl) ?_ _
            simp only [Exit.then]
            clear hHeld
            clear j0 j1
            go_wp2_with fail
            go_roundw
            case rel => exact ⟨j + 1, by omega, by omega, by omega, by first | rfl | go_num, by first | rfl | go_num, hW.drew⟩
            case measure => simp [intOf]; omega
          · have d0 : decide (x - y < wn) = false := by simpa using hd
            clear hjK
            go_wp2_with fail
            refine wp_region_held0 (S := fun w' => w'.cell? ⟨b, off + j, none⟩ = some (.int .i64 x) ∧ w'.cell? ⟨b, off + k, none⟩ = some (.int .i64 y)) (by kernel_rfl) ⟨j0, j1⟩ (fun hHeld => ?_)
            refine wpAnyH_take (i := 0) (v := ?_) rfl (by kernel_rfl) (by kernel_rfl) (by kernel_rfl) (fun _ _ _ h => h) (Or.inl ⟨by rfl, ?hy⟩) hHeld ?_
            case hy =>
              intro w hSw
              (try dsimp only at hSw)
              go_simp
              (try with_reducible rfl)
            try simp only [Act.put, List.getElem_toArray, List.getElem_cons_succ, List.getElem_cons_zero, List.setIfInBounds_toArray, List.set_cons_zero, List.set_cons_succ]
            refine wpAnyH_take (i := 1) (v := ?_) rfl (by kernel_rfl) (by kernel_rfl) (by kernel_rfl) (fun _ _ _ h => h) (Or.inl ⟨by rfl, ?hy⟩) hHeld ?_
            case hy =>
              intro w hSw
              (try dsimp only at hSw)
              go_simp
              (try with_reducible rfl)
            try simp only [Act.put, List.getElem_toArray, List.getElem_cons_succ, List.getElem_cons_zero, List.setIfInBounds_toArray, List.set_cons_zero, List.set_cons_succ]
            refine wpAnyH_take (i := 2) (v := ?_) rfl (by kernel_rfl) (by kernel_rfl) (by kernel_rfl) (fun _ _ _ h => h) (Or.inl ⟨by rfl, ?hy⟩) hHeld ?_
            case hy =>
              intro w hSw
              (try dsimp only at hSw)
              go_simp
              (try with_reducible rfl)
            try simp only [Act.put, List.getElem_toArray, List.getElem_cons_succ, List.getElem_cons_zero, List.setIfInBounds_toArray, List.set_cons_zero, List.set_cons_succ]
            refine wpAnyH_take (i := 3) (v := ?_) rfl (by kernel_rfl) (by kernel_rfl) (by kernel_rfl) (fun _ _ _ h => h) (Or.inl ⟨by rfl, ?hy⟩) hHeld ?_
            case hy =>
              intro w hSw
              (try dsimp only at hSw)
              go_simp
              (try with_reducible rfl)
            try simp only [Act.put, List.getElem_toArray, List.getElem_cons_succ, List.getElem_cons_zero, List.setIfInBounds_toArray, List.set_cons_zero, List.set_cons_succ]
            refine wpAnyH_take (i := 4) (v := ?_) rfl (by kernel_rfl) (by kernel_rfl) (by kernel_rfl) (fun _ _ _ h => h) (Or.inl ⟨by rfl, ?hy⟩) hHeld ?_
            case hy =>
              intro w hSw
              (try dsimp only at hSw)
              go_simp
              (try with_reducible rfl)
            try simp only [Act.put, List.getElem_toArray, List.getElem_cons_succ, List.getElem_cons_zero, List.setIfInBounds_toArray, List.set_cons_zero, List.set_cons_succ]
            refine wpAnyH_take (i := 5) (v := ?_) rfl (by kernel_rfl) (by kernel_rfl) (by kernel_rfl) (fun _ _ _ h => h) (Or.inl ⟨by rfl, ?hy⟩) hHeld ?_
            case hy =>
              intro w hSw
              (try dsimp only at hSw)
              go_simp
              (try with_reducible rfl)
            try simp only [Act.put, List.getElem_toArray, List.getElem_cons_succ, List.getElem_cons_zero, List.setIfInBounds_toArray, List.set_cons_zero, List.set_cons_succ]
            refine wpAnyH_take (i := 6) (v := ?_) rfl (by kernel_rfl) (by kernel_rfl) (by kernel_rfl) (fun _ _ _ h => h) (Or.inl ⟨by rfl, ?hy⟩) hHeld ?_
            case hy =>
              intro w hSw
              (try dsimp only at hSw)
              go_simp
              (try with_reducible rfl)
            try simp only [Act.put, List.getElem_toArray, List.getElem_cons_succ, List.getElem_cons_zero, List.setIfInBounds_toArray, List.set_cons_zero, List.set_cons_succ]
            refine wpAnyH_take (i := 7) (v := ?_) rfl (by kernel_rfl) (by kernel_rfl) (by kernel_rfl) (fun _ _ _ h => h) (Or.inl ⟨by rfl, ?hy⟩) hHeld ?_
            case hy =>
              intro w hSw
              (try dsimp only at hSw)
              go_simp
              (try with_reducible rfl)
            try simp only [Act.put, List.getElem_toArray, List.getElem_cons_succ, List.getElem_cons_zero, List.setIfInBounds_toArray, List.set_cons_zero, List.set_cons_succ]
            refine wpAnyH_take (i := 8) (v := ?_) rfl (by kernel_rfl) (by kernel_rfl) (by kernel_rfl) (fun _ _ _ h => h) (Or.inl ⟨by rfl, ?hy⟩) hHeld ?_
            case hy =>
              intro w hSw
              (try dsimp only at hSw)
              go_simp
              (try with_reducible rfl)
            try simp only [Act.put, List.getElem_toArray, List.getElem_cons_succ, List.getElem_cons_zero, List.setIfInBounds_toArray, List.set_cons_zero, List.set_cons_succ]
            refine wpAnyH_take (i := 9) (v := ?_) rfl (by kernel_rfl) (by kernel_rfl) (by kernel_rfl) (fun _ _ _ h => h) (Or.inl ⟨by rfl, ?hy⟩) hHeld ?_
            case hy =>
              intro w hSw
              (try dsimp only at hSw)
              go_simp
              (try with_reducible rfl)
            try simp only [Act.put, List.getElem_toArray, List.getElem_cons_succ, List.getElem_cons_zero, List.setIfInBounds_toArray, List.set_cons_zero, List.set_cons_succ]
            refine wpAnyH_take (i := 10) (v := ?_) rfl (by kernel_rfl) (by kernel_rfl) (by kernel_rfl) (fun _ _ _ h => h) (Or.inl ⟨by rfl, ?hy⟩) hHeld ?_
            case hy =>
              intro w hSw
              (try dsimp only at hSw)
              go_simp
              (try with_reducible rfl)
            try simp only [Act.put, List.getElem_toArray, List.getElem_cons_succ, List.getElem_cons_zero, List.setIfInBounds_toArray, List.set_cons_zero, List.set_cons_succ]
            refine wpAnyH_take (i := 11) (v := ?_) rfl (by kernel_rfl) (by kernel_rfl) (by kernel_rfl) (fun _ _ _ h => h) (Or.inl ⟨by rfl, ?hy⟩) hHeld ?_
            case hy =>
              intro w hSw
              (try dsimp only at hSw)
              go_simp
              (try with_reducible rfl)
            try simp only [Act.put, List.getElem_toArray, List.getElem_cons_succ, List.getElem_cons_zero, List.setIfInBounds_toArray, List.set_cons_zero, List.set_cons_succ]
            refine wpAnyH_take (i := 12) (v := ?_) rfl (by kernel_rfl) (by kernel_rfl) (by kernel_rfl) (fun _ _ _ h => h) (Or.inl ⟨by rfl, ?hy⟩) hHeld ?_
            case hy =>
              intro w hSw
              (try dsimp only at hSw)
              go_simp
              (try with_reducible rfl)
            try simp only [Act.put, List.getElem_toArray, List.getElem_cons_succ, List.getElem_cons_zero, List.setIfInBounds_toArray, List.set_cons_zero, List.set_cons_succ]
            refine wpAnyH_take (i := 13) (v := ?_) rfl (by kernel_rfl) (by kernel_rfl) (by kernel_rfl) (fun _ _ _ h => h) (Or.inl ⟨by rfl, ?hy⟩) hHeld ?_
            case hy =>
              intro w hSw
              (try dsimp only at hSw)
              go_simp
              (try with_reducible rfl)
            try simp only [Act.put, List.getElem_toArray, List.getElem_cons_succ, List.getElem_cons_zero, List.setIfInBounds_toArray, List.set_cons_zero, List.set_cons_succ]
            refine wpAnyH_take (i := 14) (v := ?_) rfl (by kernel_rfl) (by kernel_rfl) (by kernel_rfl) (fun _ _ _ h => h) (Or.inl ⟨by rfl, ?hy⟩) hHeld ?_
            case hy =>
              intro w hSw
              (try dsimp only at hSw)
              go_simp
              (try with_reducible rfl)
            try simp only [Act.put, List.getElem_toArray, List.getElem_cons_succ, List.getElem_cons_zero, List.setIfInBounds_toArray, List.set_cons_zero, List.set_cons_succ]
            refine wpAnyH_take (i := 15) (v := ?_) rfl (by kernel_rfl) (by kernel_rfl) (by kernel_rfl) (fun _ _ _ h => h) (Or.inl ⟨by rfl, ?hy⟩) hHeld ?_
            case hy =>
              intro w hSw
              (try dsimp only at hSw)
              go_simp
              (try with_reducible rfl)
            try simp only [Act.put, List.getElem_toArray, List.getElem_cons_succ, List.getElem_cons_zero, List.setIfInBounds_toArray, List.set_cons_zero, List.set_cons_succ]
            refine wpAnyH_take (i := 16) (v := ?_) rfl (by kernel_rfl) (by kernel_rfl) (by kernel_rfl) (fun _ _ _ h => h) (Or.inl ⟨by rfl, ?hy⟩) hHeld ?_
            case hy =>
              intro w hSw
              (try dsimp only at hSw)
              go_simp
              (try with_reducible rfl)
            try simp only [Act.put, List.getElem_toArray, List.getElem_cons_succ, List.getElem_cons_zero, List.setIfInBounds_toArray, List.set_cons_zero, List.set_cons_succ]
            refine wpAnyH_done (by kernel_rfl) ?_ _
            simp only [Exit.then]
            clear hHeld
            clear j0 j1
            replace hW := hW.drew
            generalize wr.drew = wr at *
            go_wp2_with fail
            go_roundw
            case rel => exact ⟨k + 1, _, by omega, by first | rfl | go_num, rfl, by omega, by omega, hW⟩
            case measure => simp [intOf]; omega
        · have hjn' : ¬ (j : Int) < (n : Int) := by omega
          have d0 : decide ((j : Int) < (n : Int)) = false := by simpa using hjn
          have d1 : decide (j < n) = false := by simpa using hjn
          go_wp2_with fail
          refine wp_region_held0 (S := fun _ => True) (by kernel_rfl) trivial (fun hHeld => ?_)
          refine wpAnyH_take (i := 0) (v := ?_) rfl (by kernel_rfl) (by kernel_rfl) (by kernel_rfl) (fun _ _ _ h => h) (Or.inl ⟨by rfl, ?hy⟩) hHeld ?_
          case hy =>
            intro w hSw
            (try dsimp only at hSw)
            go_simp
            (try with_reducible rfl)
          try simp only [Act.put, List.getElem_toArray, List.getElem_cons_succ, List.getElem_cons_zero, List.setIfInBounds_toArray, List.set_cons_zero, List.set_cons_succ]
          refine wpAnyH_take (i := 1) (v := ?_) rfl (by kernel_rfl) (by kernel_rfl) (by kernel_rfl) (fun _ _ _ h => h) (Or.inl ⟨by rfl, ?hy⟩) hHeld ?_
          case hy =>
            intro w hSw
            (try dsimp only at hSw)
            go_simp
            (try with_reducible rfl)
          try simp only [Act.put, List.getElem_toArray, List.getElem_cons_succ, List.getElem_cons_zero, List.setIfInBounds_toArray, List.set_cons_zero, List.set_cons_succ]
          refine wpAnyH_take (i := 2) (v := ?_) rfl (by kernel_rfl) (by kernel_rfl) (by kernel_rfl) (fun _ _ _ h => h) (Or.inl ⟨by rfl, ?hy⟩) hHeld ?_
          case hy =>
            intro w hSw
            (try dsimp only at hSw)
            go_simp
            (try with_reducible rfl)
          try simp only [Act.put, List.getElem_toArray, List.getElem_cons_succ, List.getElem_cons_zero, List.setIfInBounds_toArray, List.set_cons_zero, List.set_cons_succ]
          refine wpAnyH_take (i := 3) (v := ?_) rfl (by kernel_rfl) (by kernel_rfl) (by kernel_rfl) (fun _ _ _ h => h) (Or.inl ⟨by rfl, ?hy⟩) hHeld ?_
          case hy =>
            intro w hSw
            (try dsimp only at hSw)
            go_simp
            (try with_reducible rfl)
          try simp only [Act.put, List.getElem_toArray, List.getElem_cons_succ, List.getElem_cons_zero, List.setIfInBounds_toArray, List.set_cons_zero, List.set_cons_succ]
          refine wpAnyH_take (i := 4) (v := ?_) rfl (by kernel_rfl) (by kernel_rfl) (by kernel_rfl) (fun _ _ _ h => h) (Or.inl ⟨by rfl, ?hy⟩) hHeld ?_
          case hy =>
            intro w hSw
            (try dsimp only at hSw)
            go_simp
            (try with_reducible rfl)
          try simp only [Act.put, List.getElem_toArray, List.getElem_cons_succ, List.getElem_cons_zero, List.setIfInBounds_toArray, List.set_cons_zero, List.set_cons_succ]
          refine wpAnyH_take (i := 5) rfl (by kernel_rfl) (by kernel_rfl) (by kernel_rfl) (fun _ _ _ h => h) (Or.inr ⟨by rfl, rfl⟩) hHeld ?_
          try simp only [Act.put, List.getElem_toArray, List.getElem_cons_succ, List.getElem_cons_zero, List.setIfInBounds_toArray, List.set_cons_zero, List.set_cons_succ]
          refine wpAnyH_take (i := 6) rfl (by kernel_rfl) (by kernel_rfl) (by kernel_rfl) (fun _ _ _ h => h) (Or.inr ⟨by rfl, rfl⟩) hHeld ?_
          try simp only [Act.put, List.getElem_toArray, List.getElem_cons_succ, List.getElem_cons_zero, List.setIfInBounds_toArray, List.set_cons_zero, List.set_cons_succ]
          refine wpAnyH_take (i := 7) rfl (by kernel_rfl) (by kernel_rfl) (by kernel_rfl) (fun _ _ _ h => h) (Or.inr ⟨by rfl, rfl⟩) hHeld ?_
          try simp only [Act.put, List.getElem_toArray, List.getElem_cons_succ, List.getElem_cons_zero, List.setIfInBounds_toArray, List.set_cons_zero, List.set_cons_succ]
          refine wpAnyH_take (i := 8) rfl (by kernel_rfl) (by kernel_rfl) (by kernel_rfl) (fun _ _ _ h => h) (Or.inr ⟨by rfl, rfl⟩) hHeld ?_
          try simp only [Act.put, List.getElem_toArray, List.getElem_cons_succ, List.getElem_cons_zero, List.setIfInBounds_toArray, List.set_cons_zero, List.set_cons_succ]
          refine wpAnyH_take (i := 9) rfl (by kernel_rfl) (by kernel_rfl) (by kernel_rfl) (fun _ _ _ h => h) (Or.inr ⟨by rfl, rfl⟩) hHeld ?_
          try simp only [Act.put, List.getElem_toArray, List.getElem_cons_succ, List.getElem_cons_zero, List.setIfInBounds_toArray, List.set_cons_zero, List.set_cons_succ]
          refine wpAnyH_take (i := 10) rfl (by kernel_rfl) (by kernel_rfl) (by kernel_rfl) (fun _ _ _ h => h) (Or.inr ⟨by rfl, rfl⟩) hHeld ?_
          try simp only [Act.put, List.getElem_toArray, List.getElem_cons_succ, List.getElem_cons_zero, List.setIfInBounds_toArray, List.set_cons_zero, List.set_cons_succ]
          refine wpAnyH_take (i := 11) rfl (by kernel_rfl) (by kernel_rfl) (by kernel_rfl) (fun _ _ _ h => h) (Or.inr ⟨by rfl, rfl⟩) hHeld ?_
          try simp only [Act.put, List.getElem_toArray, List.getElem_cons_succ, List.getElem_cons_zero, List.setIfInBounds_toArray, List.set_cons_zero, List.set_cons_succ]
          refine wpAnyH_take (i := 12) rfl (by kernel_rfl) (by kernel_rfl) (by kernel_rfl) (fun _ _ _ h => h) (Or.inr ⟨by rfl, rfl⟩) hHeld ?_
          try simp only [Act.put, List.getElem_toArray, List.getElem_cons_succ, List.getElem_cons_zero, List.setIfInBounds_toArray, List.set_cons_zero, List.set_cons_succ]
          refine wpAnyH_take (i := 13) rfl (by kernel_rfl) (by kernel_rfl) (by kernel_rfl) (fun _ _ _ h => h) (Or.inr ⟨by rfl, rfl⟩) hHeld ?_
          try simp only [Act.put, List.getElem_toArray, List.getElem_cons_succ, List.getElem_cons_zero, List.setIfInBounds_toArray, List.set_cons_zero, List.set_cons_succ]
          refine wpAnyH_take (i := 14) rfl (by kernel_rfl) (by kernel_rfl) (by kernel_rfl) (fun _ _ _ h => h) (Or.inr ⟨by rfl, rfl⟩) hHeld ?_
          try simp only [Act.put, List.getElem_toArray, List.getElem_cons_succ, List.getElem_cons_zero, List.setIfInBounds_toArray, List.set_cons_zero, List.set_cons_succ]
          refine wpAnyH_take (i := 15) rfl (by kernel_rfl) (by kernel_rfl) (by kernel_rfl) (fun _ _ _ h => h) (Or.inr ⟨by rfl, rfl⟩) hHeld ?_
          try simp only [Act.put, List.getElem_toArray, List.getElem_cons_succ, List.getElem_cons_zero, List.setIfInBounds_toArray, List.set_cons_zero, List.set_cons_succ]
          refine wpAnyH_take (i := 16) (v := ?_) rfl (by kernel_rfl) (by kernel_rfl) (by kernel_rfl) (fun _ _ _ h => h) (Or.inl ⟨by rfl, ?hy⟩) hHeld ?_
          case hy =>
            intro w hSw
            (try dsimp only at hSw)
            go_simp
            (try with_reducible rfl)
          try simp only [Act.put, List.getElem_toArray, List.getElem_cons_succ, List.getElem_cons_zero, List.setIfInBounds_toArray, List.set_cons_zero, List.set_cons_succ]
          refine wpAnyH_done (by kernel_rfl) ?_ _
          simp only [Exit.then]
          clear hHeld
          replace hW := hW.drew
          generalize wr.drew = wr at *
          go_wp2_with fail
          go_roundw
          case rel => exact ⟨k + 1, _, by omega, by first | rfl | go_num, rfl, by omega, by omega, hW⟩
          case measure => simp [intOf]; omega
    · obtain rfl : n = k := by omega
      go_wp2_with fail
      go_ret
      exact ⟨m, rfl, hm0, hm1, hW⟩
theorem held_all {b : Budget} {l done : List Int} {now : Int} (h : Held b l done now) (hw : 0 < b.window) : ∀ x ∈ done, 0 ≤ x ∧ x ≤ now := fun x hx => by
  obtain ⟨d, hd, hd2⟩ := h.apart
  rw [hd] at hx
  rcases List.mem_append.1 hx with hx | hx
  · have := hd2 x hx; omega
  · exact h.inl x hx
set_option maxRecDepth 100000 in
set_option maxHeartbeats 8000000 in
theorem WindowHolds_walk (b : Budget) (_hb : b.ok) (A : Option Addr) (n c : Nat) (xs : List Int) (hl : xs.length = n) (_hbd : n * 8 ≤ 140737488351232) (hok : ∀ x ∈ xs, I64 x) {w : World} (hA : IntsIn w A xs) :
    Calls Try.prog 8 #[b.v, .slice A n c] w fun r w' => r = .returned (.bool true) ∧ Below w.heap.size w w' := by
  have hM := Blk.new w 49 #[.int .i64 b.k, .int .i64 b.window]
  have hW : Below w.heap.size w (w.alloc (.cells #[.int .i64 b.k, .int .i64 b.window] 49)) := by go_grown
  by_cases hbig : 200 < n
  · have hz : (200 : Int) < (n : Int) := by omega
    obtain ⟨bk, bw⟩ := b
    clear hM
    go_enter Try.func8, Try.ntmps8
    go_wp2_with fail
    refine (alive18 _).mono ?_
    rintro r wz ⟨rfl, hbw⟩; dsimp only
    replace hW := below_to hW hbw
    clear hbw
    go_wp2_with fail
    go_ret
    exact ⟨rfl, hW⟩
  have hz : ¬ (200 : Int) < (n : Int) := by omega
  have HA := Lib.hid hA
  clear hA
  obtain ⟨i0, hi, hz0, hz1, hz2⟩ := info_parts info_i64
  have C0 := Lib.hid (fun w => ref_May16 b w)
  have C1 := Lib.hid (fun A1 c1 t ls (h : List.length ls ≤ 1000000) w h1 => w_Add2 b A1 ls.length c1 t ls rfl h w h1)
  have C2 := Lib.hid (fun A1 c1 t ls (h : List.length ls ≤ 1000000) w h1 => w_Allow b A1 ls.length c1 t ls rfl h w h1)
  have hstart := Lib.hid (fun h => @Held.start b h)
  have hstep := Lib.hid (fun l done now t h h0 ht ht2 ha => @Held.step b l done now t h h0 ht ht2 ha)
  have hmayw := Lib.hid (fun l done now t h h0 ht ht2 => @Held.mayW b l done now t h h0 ht ht2)
  have hall := Lib.hid (fun l done now h hw => @held_all b l done now h hw)
  have hbud := Lib.hid (fun (h : mayBud b = true) => show (0 ≤ b.k ∧ b.k ≤ 64) ∧ 1 ≤ b.window ∧ b.window ≤ 4294967296 by
    unfold mayBud at h
    simp only [Bool.and_eq_true, decide_eq_true_eq] at h
    exact ⟨⟨h.1, h.2.1⟩, h.2.2⟩)
  replace hok := Lib.hid hok
  generalize hp : mayBud b = p at *
  obtain ⟨bk, bw⟩ := b
  dsimp only [Budget.v] at C0 C1 C2 hM hW
  dsimp only at hbud hall
  go_enter Try.func8, Try.ntmps8
  go_wp2_with fail
  refine (C0.out _).mono ?_
  rintro r W ⟨rfl, hbw⟩; dsimp only
  replace hM := Blk.past hM hbw
  replace hW := below_to hW hbw
  clear hbw C0
  cases p
  · clear hM hstart hstep hmayw hall hbud
    go_wp2_with fail
    refine (alive18 _).mono ?_
    rintro r wz ⟨rfl, hbw⟩; dsimp only
    replace hW := below_to hW hbw
    clear hbw
    go_wp2_with fail
    go_ret
    exact ⟨rfl, hW⟩
  obtain ⟨⟨b1, b2⟩, b3, b4⟩ := hbud.out (by first | trivial | rfl)
  have hst := hstart.out (by first | trivial | rfl)
  clear hbud hstart
  have hMlt := hM.lt
  go_wp2_with fail
  go_loopw [5, 6, 7, 8, 9, 10] (fun lv dv nw i _ _ wr => ∃ (k : Nat) (ls ds : List Int) (tm : Int), k ≤ n ∧ i = .int .i64 k ∧ nw = .int .i64 tm ∧ (0 ≤ tm ∧ tm ≤ 8589934592 * k) ∧ Hid (Held ⟨bk, bw⟩ ls ds tm) ∧ (ls.length ≤ k ∧ ds.length ≤ k) ∧ IntsOut wr lv ls ∧ wr.ownsRow W.heap.size 2 1 dv ds.length (nums ds) ∧ Blk wr w.heap.size 49 #[.int .i64 bk, .int .i64 bw] ∧ Below w.heap.size w wr ∧ W.heap.size ≤ wr.heap.size) (fun _ _ _ i _ _ _ => n - (intOf i).toNat)
  case atStart => exact ⟨0, [], [], 0, Nat.zero_le _, rfl, rfl, ⟨by omega, by omega⟩, Lib.hid hst, ⟨by simp, by simp⟩, IntsOut.nil _, World.ownsRow_nil _ _ _ _, hM, hW, Nat.le_refl _⟩
  case round =>
    clear hM hW hst
    obtain ⟨k, ls, ds, tm, hk, rfl, rfl, ⟨t0, t1⟩, hheld, ⟨hls, hds⟩, ⟨A1, c1, rfl, hI⟩, hown, hM, hW, hWs⟩ := hrel
    by_cases hkn : k < n
    · obtain ⟨b0, off, rfl, hb, hcell⟩ := HA.out (by intro e; rw [e] at hl; simp at hl; omega)
      have j0 := (hW.cell (p := ⟨b0, off + k, none⟩) hb).trans (hcell k (by omega))
      have hx := hok.out _ (List.getElem_mem (show k < xs.length by omega))
      have hmask := mask40 _ hx
      clear hcell hx
      generalize xs[k] = x at *
      obtain ⟨y, hy⟩ : ∃ y, y = x % 1099511627776 := ⟨_, rfl⟩
      have y0 : 0 ≤ y ∧ y < 1099511627776 := by omega
      rw [← hy] at hmask
      clear hy
      obtain ⟨r, hr⟩ : ∃ r, r = y % (2 * bw) := ⟨_, rfl⟩
      have r0 : 0 ≤ r := by rw [hr]; exact Int.emod_nonneg _ (by omega)
      have r1 : r < 2 * bw := by rw [hr]; exact Int.emod_lt_of_pos _ (by omega)
      have r2 : y.tmod (2 * bw) = r := by rw [hr]; exact Int.tmod_eq_emod_of_nonneg y0.1
      clear hr
      obtain ⟨t, ht⟩ : ∃ t, t = tm + r := ⟨_, rfl⟩
      have hd : ¬ 2 * bw = 0 := by omega
      have s1 : wrap64 (2 * bw) = 2 * bw := by unfold wrap64; omega
      have s2 : IntKind.i64.wrap (2 * bw) = 2 * bw := IntWalk.i64_in _ (by omega)
      have s3 : wrap64 (tm + r) = t := by unfold wrap64; omega
      have s4 : IntKind.i64.wrap (tm + r) = t := by rw [IntWalk.i64_in _ (by omega)]; exact ht.symm
      have s5 : wrap64 r = r := by unfold wrap64; omega
      have s6 : IntKind.i64.wrap r = r := IntWalk.i64_in _ (by omega)
      have t2 : 0 ≤ t ∧ tm ≤ t ∧ t ≤ 8589934592 * (k + 1) := by omega
      have t3 : t ≤ 4611686018427387904 := by omega
      have hmay := hmayw.out ls ds tm t hheld.out t0 t2.2.1 t3
      have hst := Lib.hid (hstep.out ls ds tm t hheld.out t0 t2.2.1 t3)
      have hlat : Hid (Held ⟨bk, bw⟩ ls ds t) := Lib.hid (Held.later hheld.out t2.2.1)
      have hlen := wit_len bw t ls
      have D1 := Lib.hid (fun w h1 => C1.out A1 c1 t ls (by omega) w h1)
      have D2 := Lib.hid (fun w h1 => C2.out A1 c1 t ls (by omega) w h1)
      unfold addR at D1
      simp only [hmay, if_true] at D1
      clear ht hheld hmay
      have m0 : wr.cell? ⟨w.heap.size, 0, none⟩ = some (.int .i64 bk) := hM.cell 0
      have m1 : wr.cell? ⟨w.heap.size, 1, none⟩ = some (.int .i64 bw) := hM.cell 1
      go_wp2_with fail
      refine wp_region_held0 (S := fun w' => w'.cell? ⟨b0, off + k, none⟩ = some (.int .i64 x) ∧ w'.cell? ⟨w.heap.size, 0, none⟩ = some (.int .i64 bk) ∧ w'.cell? ⟨w.heap.size, 1, none⟩ = some (.int .i64 bw)) (by kernel_rfl) ⟨j0, m0, m1⟩ (fun hHeld => ?_)
      refine wpAnyH_take (i := 0) (v := ?_) rfl (by kernel_rfl) (by kernel_rfl) (by kernel_rfl) (fun _ _ _ h => h) (Or.inl ⟨by rfl, ?hy⟩) hHeld ?_
      case hy =>
        intro w hSw
        (try dsimp only at hSw)
        go_simp
        (try with_reducible rfl)
      try simp only [Act.put, List.getElem_toArray, List.getElem_cons_succ, List.getElem_cons_zero, List.setIfInBounds_toArray, List.set_cons_zero, List.set_cons_succ]
      refine wpAnyH_take (i := 1) (v := ?_) rfl (by kernel_rfl) (by kernel_rfl) (by kernel_rfl) (fun _ _ _ h => h) (Or.inl ⟨by rfl, ?hy⟩) hHeld ?_
      case hy =>
        intro w hSw
        (try dsimp only at hSw)
        go_simp
        (try with_reducible rfl)
      try simp only [Act.put, List.getElem_toArray, List.getElem_cons_succ, List.getElem_cons_zero, List.setIfInBounds_toArray, List.set_cons_zero, List.set_cons_succ]
      refine wpAnyH_take (i := 2) (v := ?_) rfl (by kernel_rfl) (by kernel_rfl) (by kernel_rfl) (fun _ _ _ h => h) (Or.inl ⟨by rfl, ?hy⟩) hHeld ?_
      case hy =>
        intro w hSw
        (try dsimp only at hSw)
        go_simp
        (try with_reducible rfl)
      try simp only [Act.put, List.getElem_toArray, List.getElem_cons_succ, List.getElem_cons_zero, List.setIfInBounds_toArray, List.set_cons_zero, List.set_cons_succ]
      refine wpAnyH_take (i := 3) (v := ?_) rfl (by kernel_rfl) (by kernel_rfl) (by kernel_rfl) (fun _ _ _ h => h) (Or.inl ⟨by rfl, ?hy⟩) hHeld ?_
      case hy =>
        intro w hSw
        (try dsimp only at hSw)
        go_simp
        (try with_reducible rfl)
      try simp only [Act.put, List.getElem_toArray, List.getElem_cons_succ, List.getElem_cons_zero, List.setIfInBounds_toArray, List.set_cons_zero, List.set_cons_succ]
      refine wpAnyH_take (i := 4) (v := ?_) rfl (by kernel_rfl) (by kernel_rfl) (by kernel_rfl) (fun _ _ _ h => h) (Or.inl ⟨by rfl, ?hy⟩) hHeld ?_
      case hy =>
        intro w hSw
        (try dsimp only at hSw)
        go_simp
        (try with_reducible rfl)
      try simp only [Act.put, List.getElem_toArray, List.getElem_cons_succ, List.getElem_cons_zero, List.setIfInBounds_toArray, List.set_cons_zero, List.set_cons_succ]
      refine wpAnyH_take (i := 5) (v := ?_) rfl (by kernel_rfl) (by kernel_rfl) (by kernel_rfl) (fun _ _ _ h => h) (Or.inl ⟨by rfl, ?hy⟩) hHeld ?_
      case hy =>
        intro w hSw
        (try dsimp only at hSw)
        go_simp
        (try with_reducible rfl)
      try simp only [Act.put, List.getElem_toArray, List.getElem_cons_succ, List.getElem_cons_zero, List.setIfInBounds_toArray, List.set_cons_zero, List.set_cons_succ]
      refine wpAnyH_take (i := 6) (v := ?_) rfl (by kernel_rfl) (by kernel_rfl) (by kernel_rfl) (fun _ _ _ h => h) (Or.inl ⟨by rfl, ?hy⟩) hHeld ?_
      case hy =>
        intro w hSw
        (try dsimp only at hSw)
        go_simp
        (try with_reducible rfl)
      try simp only [Act.put, List.getElem_toArray, List.getElem_cons_succ, List.getElem_cons_zero, List.setIfInBounds_toArray, List.set_cons_zero, List.set_cons_succ]
      refine wpAnyH_take (i := 7) (v := ?_) rfl (by kernel_rfl) (by kernel_rfl) (by kernel_rfl) (fun _ _ _ h => h) (Or.inl ⟨by rfl, ?hy⟩) hHeld ?_
      case hy =>
        intro w hSw
        (try dsimp only at hSw)
        go_simp
        (try with_reducible rfl)
      try simp only [Act.put, List.getElem_toArray, List.getElem_cons_succ, List.getElem_cons_zero, List.setIfInBounds_toArray, List.set_cons_zero, List.set_cons_succ]
      refine wpAnyH_take (i := 8) (v := ?_) rfl (by kernel_rfl) (by kernel_rfl) (by kernel_rfl) (fun _ _ _ h => h) (Or.inl ⟨by rfl, ?hy⟩) hHeld ?_
      case hy =>
        intro w hSw
        (try dsimp only at hSw)
        go_simp
        (try with_reducible rfl)
      try simp only [Act.put, List.getElem_toArray, List.getElem_cons_succ, List.getElem_cons_zero, List.setIfInBounds_toArray, List.set_cons_zero, List.set_cons_succ]
      refine wpAnyH_take (i := 9) (v := ?_) rfl (by kernel_rfl) (by kernel_rfl) (by kernel_rfl) (fun _ _ _ h => h) (Or.inl ⟨by rfl, ?hy⟩) hHeld ?_
      case hy =>
        intro w hSw
        (try dsimp only at hSw)
        go_simp
        (try with_reducible rfl)
      try simp only [Act.put, List.getElem_toArray, List.getElem_cons_succ, List.getElem_cons_zero, List.setIfInBounds_toArray, List.set_cons_zero, List.set_cons_succ]
      refine wpAnyH_take (i := 10) (v := ?_) rfl (by kernel_rfl) (by kernel_rfl) (by kernel_rfl) (fun _ _ _ h => h) (Or.inl ⟨by rfl, ?hy⟩) hHeld ?_
      case hy =>
        intro w hSw
        (try dsimp only at hSw)
        go_simp
        (try with_reducible rfl)
      try simp only [Act.put, List.getElem_toArray, List.getElem_cons_succ, List.getElem_cons_zero, List.setIfInBounds_toArray, List.set_cons_zero, List.set_cons_succ]
      refine wpAnyH_take (i := 11) (v := ?_) rfl (by kernel_rfl) (by kernel_rfl) (by kernel_rfl) (fun _ _ _ h => h) (Or.inl ⟨by rfl, ?hy⟩) hHeld ?_
      case hy =>
        intro w hSw
        (try dsimp only at hSw)
        go_simp
        (try with_reducible rfl)
      try simp only [Act.put, List.getElem_toArray, List.getElem_cons_succ, List.getElem_cons_zero, List.setIfInBounds_toArray, List.set_cons_zero, List.set_cons_succ]
      refine wpAnyH_done (by kernel_rfl) ?_ _
      simp only [Exit.then]
      clear hHeld s1 s2 s3 s4 s5 s6 r2 hd hmask j0 m0 m1
      replace hM := hM.drew
      replace hW := hW.drew
      replace hI : IntsIn wr.drew A1 ls := hI
      replace hown := own_past hown (Below.refl wr.heap.size wr).drew
      have hlt := fun r hr => (hown.lt r hr)
      replace hWs : W.heap.size ≤ wr.drew.heap.size := hWs
      generalize wr.drew = wr at *
      have m0 : wr.cell? ⟨w.heap.size, 0, none⟩ = some (.int .i64 bk) := hM.cell 0
      have m1 : wr.cell? ⟨w.heap.size, 1, none⟩ = some (.int .i64 bw) := hM.cell 1
      cases hal : allowW ⟨bk, bw⟩ ls t
      · simp only [hal, Bool.false_eq_true, if_false] at D1 D2
        go_wp2_with fail
        refine (D1.out _ hI).mono ?_
        rintro r w2 ⟨v, rfl, hX, hbw, -⟩; dsimp only
        replace hM := Blk.past hM hbw
        replace hW := below_to hW hbw
        replace hI := ints_past hI hbw
        replace hown := own_past hown hbw
        replace hWs := Nat.le_trans hWs hbw.size
        clear hbw m0 m1 hX
        have m0 : w2.cell? ⟨w.heap.size, 0, none⟩ = some (.int .i64 bk) := hM.cell 0
        have m1 : w2.cell? ⟨w.heap.size, 1, none⟩ = some (.int .i64 bw) := hM.cell 1
        go_wp2_with fail
        refine (D2.out _ hI).mono ?_
        rintro r w3 ⟨rfl, hbw⟩; dsimp only
        replace hM := Blk.past hM hbw
        replace hW := below_to hW hbw
        replace hI := ints_past hI hbw
        replace hown := own_past hown hbw
        replace hWs := Nat.le_trans hWs hbw.size
        clear hbw m0 m1 hst
        go_wp2_with fail
        go_roundw
        case rel => exact ⟨k + 1, ls, ds, t, by omega, by first | rfl | go_num, rfl, ⟨t2.1, by omega⟩, hlat, ⟨by omega, by omega⟩, ⟨A1, c1, rfl, hI⟩, hown, hM, hW, hWs⟩
        case measure => simp [intOf]; omega
      · simp only [hal, if_true] at D1 D2
        replace hst := Lib.hid (hst.out hal)
        go_wp2_with fail
        refine (D1.out _ hI).mono ?_
        rintro r w2 ⟨v, rfl, ⟨Ax, cx, rfl, hX⟩, hbw, hfr⟩; dsimp only
        replace hM := Blk.past hM hbw
        replace hW := below_to hW hbw
        replace hI := ints_past hI hbw
        replace hown := own_past hown hbw
        replace hWs := Nat.le_trans hWs hbw.size
        clear hbw m0 m1
        have m0 : w2.cell? ⟨w.heap.size, 0, none⟩ = some (.int .i64 bk) := hM.cell 0
        have m1 : w2.cell? ⟨w.heap.size, 1, none⟩ = some (.int .i64 bw) := hM.cell 1
        go_wp2_with fail
        refine (D2.out _ hI).mono ?_
        rintro r w3 ⟨rfl, hbw⟩; dsimp only
        replace hM := Blk.past hM hbw
        replace hW := below_to hW hbw
        replace hX := ints_past hX hbw
        replace hown := own_past hown hbw
        replace hWs := Nat.le_trans hWs hbw.size
        clear hbw m0 m1 hI hlat
        have hns := Lib.hid (nums_snoc ds t)
        go_wp2_with (at_builtin; refine wpList_append_own _ rfl _ _ 50 rfl W.heap.size 2 i0 (.int .i64 0) 1 8 Try.underlying50 hi hz0 hz1 hz2 rfl (by decide) _ _ _ rfl (hown.alloc _) ⟨w3.heap.size, 0, none⟩ 1 1 [.int .i64 t] rfl rfl ?c1 ?c2 ?c3 ?c4 ?c5 ?_)
        case c1 => exact one_num w3 t
        case c2 => intro u hu; simp at hu; subst hu; rfl
        case c3 => unfold maxLen; omega
        case c4 => omega
        case c5 => simp; omega
        intro v' w5 hown' hg _
        have hrow := own_row hown
        have hgs := hg.size
        simp only [World.size_alloc] at hgs
        replace hX := ints_grown (ints_past hX (below_own (Below.refl _ _) _)) hg (fun a ha e => by
          subst ha
          have h1 := hfr a.block rfl
          have h2 := (hlt a.block e.symm).2
          omega)
        replace hM := (hM.alloc _).grown hg (by intro e; have := hrow _ e.symm; omega)
        replace hW := Below.grown (below_own hW _) hg (by simp; omega) (fun r h => by have := hrow r h; omega)
        have hon : w5.ownsRow W.heap.size 2 1 v' (ds ++ [t]).length (nums (ds ++ [t])) := by
          rw [hns.out, List.length_append, List.length_singleton]
          exact hown'
        clear hg hown hown' hrow hfr hlt
        go_wp2
        go_roundw
        case rel => exact ⟨k + 1, wit bw t ls ++ [t], ds ++ [t], t, by omega, by first | rfl | go_num, rfl, ⟨t2.1, by omega⟩, hst, ⟨by simp; omega, by simp; omega⟩, ⟨Ax, cx, by simp, hX⟩, hon, hM, hW, by omega⟩
        case measure => simp [intOf]; omega
    · obtain rfl : n = k := by omega
      obtain ⟨Ad, cd, rfl, hD⟩ := own_ints hown rfl
      have q1 := hheld.out.len
      dsimp only at q1
      have q2 := hall.out ls ds tm hheld.out (by omega)
      have q3 := hheld.out.far
      dsimp only at q3
      have E := Lib.hid (fun w h => worst18 Ad ds.length cd bk.toNat bw ds rfl (by omega) (by omega) (fun x hx => by have := q2 x hx; omega) q3 w h)
      have d0 : decide ((ls.length : Int) ≤ bk) = true := by simpa using q1
      have m0 : wr.cell? ⟨w.heap.size, 0, none⟩ = some (.int .i64 bk) := hM.cell 0
      have m1 : wr.cell? ⟨w.heap.size, 1, none⟩ = some (.int .i64 bw) := hM.cell 1
      clear hown q2 q3 hheld hI C1 C2
      go_wp2_with fail
      replace hW := hW.drew
      replace hD : IntsIn wr.drew Ad ds := hD
      refine wp_region_held0 (S := fun w' => w'.cell? ⟨w.heap.size, 0, none⟩ = some (.int .i64 bk) ∧ w'.cell? ⟨w.heap.size, 1, none⟩ = some (.int .i64 bw)) (by kernel_rfl) ⟨m0, m1⟩ (fun hHeld => ?_)
      refine wpAnyH_take (i := 0) (v := ?_) rfl (by kernel_rfl) (by kernel_rfl) (by kernel_rfl) (fun _ _ _ h => h) (Or.inl ⟨by rfl, ?hy⟩) hHeld ?_
      case hy =>
        intro w hSw
        (try dsimp only at hSw)
        go_simp
        (try with_reducible rfl)
      try simp only [Act.put, List.getElem_toArray, List.getElem_cons_succ, List.getElem_cons_zero, List.setIfInBounds_toArray, List.set_cons_zero, List.set_cons_succ]
      refine wpAnyH_take (i := 1) (v := ?_) rfl (by kernel_rfl) (by kernel_rfl) (by kernel_rfl) (fun _ _ _ h => h) (Or.inl ⟨by rfl, ?hy⟩) hHeld ?_
      case hy =>
        intro w hSw
        (try dsimp only at hSw)
        go_simp
        (try with_reducible rfl)
      try simp only [Act.put, List.getElem_toArray, List.getElem_cons_succ, List.getElem_cons_zero, List.setIfInBounds_toArray, List.set_cons_zero, List.set_cons_succ]
      refine wpAnyH_take (i := 2) (v := ?_) rfl (by kernel_rfl) (by kernel_rfl) (by kernel_rfl) (fun _ _ _ h => h) (Or.inl ⟨by rfl, ?hy⟩) hHeld ?_
      case hy =>
        intro w hSw
        (try dsimp only at hSw)
        go_simp
        (try with_reducible rfl)
      try simp only [Act.put, List.getElem_toArray, List.getElem_cons_succ, List.getElem_cons_zero, List.setIfInBounds_toArray, List.set_cons_zero, List.set_cons_succ]
      refine wpAnyH_take (i := 3) (v := ?_) rfl (by kernel_rfl) (by kernel_rfl) (by kernel_rfl) (fun _ _ _ h => h) (Or.inl ⟨by rfl, ?hy⟩) hHeld ?_
      case hy =>
        intro w hSw
        (try dsimp only at hSw)
        go_simp
        (try with_reducible rfl)
      try simp only [Act.put, List.getElem_toArray, List.getElem_cons_succ, List.getElem_cons_zero, List.setIfInBounds_toArray, List.set_cons_zero, List.set_cons_succ]
      refine wpAnyH_take (i := 4) (v := ?_) rfl (by kernel_rfl) (by kernel_rfl) (by kernel_rfl) (fun _ _ _ h => h) (Or.inl ⟨by rfl, ?hy⟩) hHeld ?_
      case hy =>
        intro w hSw
        (try dsimp only at hSw)
        go_simp
        (try with_reducible rfl)
      try simp only [Act.put, List.getElem_toArray, List.getElem_cons_succ, List.getElem_cons_zero, List.setIfInBounds_toArray, List.set_cons_zero, List.set_cons_succ]
      refine wpAnyH_take (i := 5) (v := ?_) rfl (by kernel_rfl) (by kernel_rfl) (by kernel_rfl) (fun _ _ _ h => h) (Or.inl ⟨by rfl, ?hy⟩) hHeld ?_
      case hy =>
        intro w hSw
        (try dsimp only at hSw)
        go_simp
        (try with_reducible rfl)
      try simp only [Act.put, List.getElem_toArray, List.getElem_cons_succ, List.getElem_cons_zero, List.setIfInBounds_toArray, List.set_cons_zero, List.set_cons_succ]
      refine wpAnyH_take (i := 6) (v := ?_) rfl (by kernel_rfl) (by kernel_rfl) (by kernel_rfl) (fun _ _ _ h => h) (Or.inl ⟨by rfl, ?hy⟩) hHeld ?_
      case hy =>
        intro w hSw
        (try dsimp only at hSw)
        go_simp
        (try with_reducible rfl)
      try simp only [Act.put, List.getElem_toArray, List.getElem_cons_succ, List.getElem_cons_zero, List.setIfInBounds_toArray, List.set_cons_zero, List.set_cons_succ]
      refine wpAnyH_take (i := 7) (v := ?_) rfl (by kernel_rfl) (by kernel_rfl) (by kernel_rfl) (fun _ _ _ h => h) (Or.inl ⟨by rfl, ?hy⟩) hHeld ?_
      case hy =>
        intro w hSw
        (try dsimp only at hSw)
        go_simp
        (try with_reducible rfl)
      try simp only [Act.put, List.getElem_toArray, List.getElem_cons_succ, List.getElem_cons_zero, List.setIfInBounds_toArray, List.set_cons_zero, List.set_cons_succ]
      refine wpAnyH_take (i := 8) (v := ?_) rfl (by kernel_rfl) (by kernel_rfl) (by kernel_rfl) (fun _ _ _ h => h) (Or.inl ⟨by rfl, ?hy⟩) hHeld ?_
      case hy =>
        intro w hSw
        (try dsimp only at hSw)
        go_simp
        (try with_reducible rfl)
      try simp only [Act.put, List.getElem_toArray, List.getElem_cons_succ, List.getElem_cons_zero, List.setIfInBounds_toArray, List.set_cons_zero, List.set_cons_succ]
      refine wpAnyH_take (i := 10) (v := ?_) rfl (by kernel_rfl) (by kernel_rfl) (by kernel_rfl) (fun _ _ _ h => h) (Or.inl ⟨by rfl, ?hy⟩) hHeld ?_
      case hy =>
        intro w hSw
        (try dsimp only at hSw)
        go_simp
        (try with_reducible rfl)
      try simp only [Act.put, List.getElem_toArray, List.getElem_cons_succ, List.getElem_cons_zero, List.setIfInBounds_toArray, List.set_cons_zero, List.set_cons_succ]
      refine wpAnyH_take (i := 11) (v := ?_) rfl (by kernel_rfl) (by kernel_rfl) (by kernel_rfl) (fun _ _ _ h => h) (Or.inl ⟨by rfl, ?hy⟩) hHeld ?_
      case hy =>
        intro w hSw
        (try dsimp only at hSw)
        go_simp
        (try with_reducible rfl)
      try simp only [Act.put, List.getElem_toArray, List.getElem_cons_succ, List.getElem_cons_zero, List.setIfInBounds_toArray, List.set_cons_zero, List.set_cons_succ]
      refine wpAnyH_ready (rs := [9]) (by kernel_rfl) (by simp) ?_
      refine AllReadyH.cons rfl (fun K hK => ?_) AllReadyH.nil
      have hOld := hHeld
      clear hHeld
      go_simp
      refine (E.out _ hD).mono ?_
      rintro r w6 ⟨m, rfl, hm0, hm1, hbw⟩
      dsimp only
      refine hK.out _ _ (two_past hbw hOld) (fun hHeld => ?_)
      clear hK K hOld
      try simp only [Act.put, List.getElem_toArray, List.getElem_cons_succ, List.getElem_cons_zero, List.setIfInBounds_toArray, List.set_cons_zero, List.set_cons_succ]
      replace hW := below_to hW hbw
      clear hbw hD
      have d1 : decide (m ≤ bk) = true := by simp; omega
      refine wpAnyH_take (i := 12) (v := ?_) rfl (by kernel_rfl) (by kernel_rfl) (by kernel_rfl) (fun _ _ _ h => h) (Or.inl ⟨by rfl, ?hy⟩) hHeld ?_
      case hy =>
        intro w hSw
        (try dsimp only at hSw)
        go_simp
        (try with_reducible rfl)
      try simp only [Act.put, List.getElem_toArray, List.getElem_cons_succ, List.getElem_cons_zero, List.setIfInBounds_toArray, List.set_cons_zero, List.set_cons_succ]
      refine wpAnyH_take (i := 13) (v := ?_) rfl (by kernel_rfl) (by kernel_rfl) (by kernel_rfl) (fun _ _ _ h => h) (Or.inl ⟨by rfl, ?hy⟩) hHeld ?_
      case hy =>
        intro w hSw
        (try dsimp only at hSw)
        go_simp
        (try with_reducible rfl)
      try simp only [Act.put, List.getElem_toArray, List.getElem_cons_succ, List.getElem_cons_zero, List.setIfInBounds_toArray, List.set_cons_zero, List.set_cons_succ]
      refine wpAnyH_take (i := 14) (v := ?_) rfl (by kernel_rfl) (by kernel_rfl) (by kernel_rfl) (fun _ _ _ h => h) (Or.inl ⟨by rfl, ?hy⟩) hHeld ?_
      case hy =>
        intro w hSw
        (try dsimp only at hSw)
        go_simp
        (try with_reducible rfl)
      try simp only [Act.put, List.getElem_toArray, List.getElem_cons_succ, List.getElem_cons_zero, List.setIfInBounds_toArray, List.set_cons_zero, List.set_cons_succ]
      refine wpAnyH_ready (rs := [15]) (by kernel_rfl) (by simp) ?_
      refine AllReadyH.cons rfl (fun K hK => ?_) AllReadyH.nil
      have hOld := hHeld
      clear hHeld
      go_simp
      refine (alive18 _).mono ?_
      rintro r wa ⟨rfl, hbw⟩
      dsimp only
      refine hK.out _ _ (two_past hbw hOld) (fun hHeld => ?_)
      clear hK K hOld
      try simp only [Act.put, List.getElem_toArray, List.getElem_cons_succ, List.getElem_cons_zero, List.setIfInBounds_toArray, List.set_cons_zero, List.set_cons_succ]
      replace hW := below_to hW hbw
      clear hbw
      refine wpAnyH_take (i := 16) (v := ?_) rfl (by kernel_rfl) (by kernel_rfl) (by kernel_rfl) (fun _ _ _ h => h) (Or.inl ⟨by rfl, ?hy⟩) hHeld ?_
      case hy =>
        intro w hSw
        (try dsimp only at hSw)
        go_simp
        (try with_reducible rfl)
      try simp only [Act.put, List.getElem_toArray, List.getElem_cons_succ, List.getElem_cons_zero, List.setIfInBounds_toArray, List.set_cons_zero, List.set_cons_succ]
      refine wpAnyH_take (i := 17) (v := ?_) rfl (by kernel_rfl) (by kernel_rfl) (by kernel_rfl) (fun _ _ _ h => h) (Or.inl ⟨by rfl, ?hy⟩) hHeld ?_
      case hy =>
        intro w hSw
        (try dsimp only at hSw)
        go_simp
        (try with_reducible rfl)
      try simp only [Act.put, List.getElem_toArray, List.getElem_cons_succ, List.getElem_cons_zero, List.setIfInBounds_toArray, List.set_cons_zero, List.set_cons_succ]
      refine wpAnyH_done (by kernel_rfl) ?_ _
      simp only [Exit.then]
      go_wp2_with fail
      go_ret
      exact ⟨rfl, hW⟩
end Go.Proofs.Ythlninijnbmjfaa
