/- The law WindowNext of reevelaw18, walked. Conditions: the list is in memory. -/
import Derived.Test.YthlninijnbmjfaaWin15
namespace Go.Proofs.Ythlninijnbmjfaa
open Go.RowKit Go.Shelf

theorem mayW_later {b : Budget} {xs : List Int} {now t : Int} (h : mayW b xs now = true) (ht : now ≤ t) (ht2 : t ≤ 4611686018427387904) : mayW b xs t = true := by
  obtain ⟨h1, h2, h3, h4, h5⟩ := mayW_parts h
  unfold mayW mayBud timedB at h ⊢
  simp only [Bool.and_eq_true, decide_eq_true_eq] at h ⊢
  refine ⟨h.1, ⟨by omega, ht2⟩, h4, ?_⟩
  rw [inB_yes] at h5 ⊢
  intro i hi
  have := h5 i hi
  unfold oddB at this ⊢
  simp only [Bool.or_eq_false_iff, decide_eq_false_iff_not] at this ⊢
  omega
theorem next_zero {b : Budget} {xs : List Int} {now t : Int} (h : nextW b xs now = (t, 0)) : 0 ≤ now ∧ now ≤ t ∧ t ≤ 4611686018427387904 ∧ allowW b xs t = true ∧ ∀ m, now ≤ m → m < t → allowW b xs m = false := by
  unfold nextW at h
  by_cases hm : mayW b xs now = true
  · rw [if_pos hm] at h
    obtain ⟨h1, h2, h3, h4, h5⟩ := mayW_parts hm
    by_cases hk : b.k = 0
    · rw [if_pos hk] at h; cases h
    · rw [if_neg hk] at h
      by_cases ha : allowW b xs now = true
      · rw [if_pos ha] at h
        cases h
        exact ⟨h3.1, Int.le_refl _, h3.2, ha, fun m h1 h2 => by omega⟩
      · rw [if_neg ha] at h
        have ha' : allowW b xs now = false := by simpa using ha
        obtain ⟨hl, k1, k2, k3⟩ := lastK_in hm hk ha'
        by_cases hx : 4611686018427387904 < lastK b xs + b.window
        · rw [if_pos hx] at h; cases h
        · rw [if_neg hx] at h
          cases h
          refine ⟨h3.1, by omega, by omega, ?_, fun m q1 q2 => ?_⟩
          · unfold allowW
            rw [mayW_later hm (by omega) (by omega), Bool.true_and, decide_eq_true_eq]
            exact (cnt_later hm hk hl (by omega) (by omega)).2 (Int.le_refl _)
          · unfold allowW
            have : ¬ (cntW xs b.window m : Int) < b.k := fun hc => by
              have := (cnt_later hm hk hl q1 (by omega)).1 hc
              omega
            rw [decide_eq_false this, Bool.and_false]
  · rw [if_neg hm] at h; cases h
theorem next_err {b : Budget} {xs : List Int} {now t e : Int} (h : nextW b xs now = (t, e)) (he : e ≠ 0) : e = 2 ∨ (e = 5 ∧ allowW b xs now = false) := by
  unfold nextW at h
  by_cases hm : mayW b xs now = true
  · rw [if_pos hm] at h
    by_cases hk : b.k = 0
    · rw [if_pos hk] at h
      cases h
      right
      refine ⟨rfl, ?_⟩
      unfold allowW
      rw [decide_eq_false (by omega), Bool.and_false]
    · rw [if_neg hk] at h
      by_cases ha : allowW b xs now = true
      · rw [if_pos ha] at h
        cases h
        exact absurd rfl he
      · rw [if_neg ha] at h
        by_cases hx : 4611686018427387904 < lastK b xs + b.window
        · rw [if_pos hx] at h; cases h
          exact .inr ⟨rfl, by simpa using ha⟩
        · rw [if_neg hx] at h
          cases h
          exact absurd rfl he
  · rw [if_neg hm] at h; cases h; exact .inl rfl
set_option maxRecDepth 100000 in
set_option maxHeartbeats 4000000 in
theorem WindowNext_walk (b : Budget) (_hb : b.ok) (A : Option Addr) (n c : Nat) (xs : List Int) (hl : xs.length = n) (_hbd : n * 8 ≤ 140737488351232) (_hok : ∀ x ∈ xs, I64 x) {w : World} (hA : IntsIn w A xs) (now : Int) (hnow : I64 now) (btw : Int) (hbtw : I64 btw) :
    Calls Try.prog 9 #[b.v, .slice A n c, .int .i64 now, .int .i64 btw] w fun r w' => r = .returned (.bool true) ∧ Below w.heap.size w w' := by
  have hM := Blk.new w 49 #[.int .i64 b.k, .int .i64 b.window]
  have hW : Below w.heap.size w (w.alloc (.cells #[.int .i64 b.k, .int .i64 b.window] 49)) := by go_grown
  by_cases hbig : 200 < n
  · have hz : (200 : Int) < (n : Int) := by omega
    obtain ⟨bk, bw⟩ := b
    clear hM
    go_enter Try.func9, Try.ntmps9
    go_wp2_with fail
    refine (alive18 _).mono ?_
    rintro r wz ⟨rfl, hbw⟩; dsimp only
    replace hW := below_to hW hbw
    clear hbw
    go_wp2_with fail
    go_ret
    exact ⟨rfl, hW⟩
  have hz : ¬ (200 : Int) < (n : Int) := by omega
  have HA := Lib.hid hA
  clear hA
  have C1 := Lib.hid (fun w hA => w_Next b A n c now xs hl (by omega) w hA)
  have C2 := Lib.hid (fun t w hA => w_Allow b A n c t xs hl (by omega) w hA)
  have herr := Lib.hid (fun t e h he => @next_err b xs now t e h he)
  have hzero := Lib.hid (fun t h => @next_zero b xs now t h)
  generalize hnx : nextW b xs now = nx at *
  obtain ⟨t, e⟩ := nx
  obtain ⟨bk, bw⟩ := b
  dsimp only [Budget.v] at C1 C2 hM hW
  go_enter Try.func9, Try.ntmps9
  go_wp2_with fail
  refine (C1.out _ (ints_past HA.out hW)).mono ?_
  rintro r w2 ⟨rfl, hbw⟩; dsimp only
  replace hM := Blk.past hM hbw
  replace hW := below_to hW hbw
  clear hbw C1 hnx
  have m0 : w2.cell? ⟨w.heap.size, 0, none⟩ = some (.int .i64 bk) := hM.cell 0
  have m1 : w2.cell? ⟨w.heap.size, 1, none⟩ = some (.int .i64 bw) := hM.cell 1
  by_cases he : e = 0
  case neg =>
    have he0 : (e == 0) = false := by simpa using he
    have he1 : (e != 0) = true := by simpa using he
    rcases herr.out t e rfl he with rfl | ⟨rfl, ha⟩
    · clear m0 m1 hM herr hzero
      go_wp2_with fail
      refine (alive18 _).mono ?_
      rintro r wz ⟨rfl, hbw⟩; dsimp only
      replace hW := below_to hW hbw
      clear hbw
      go_wp2_with fail
      go_ret
      exact ⟨rfl, hW⟩
    · have D := Lib.hid (C2.out now w2 (ints_past HA.out hW))
      rw [ha] at D
      clear herr hzero hM
      go_wp2_with fail
      refine D.out.mono ?_
      rintro r w3 ⟨rfl, hbw⟩; dsimp only
      replace hW := below_to hW hbw
      clear hbw m0 m1 D
      go_wp2_with fail
      refine (alive18 _).mono ?_
      rintro r wz ⟨rfl, hbw⟩; dsimp only
      replace hW := below_to hW hbw
      clear hbw
      go_wp2_with fail
      go_ret
      exact ⟨rfl, hW⟩
  subst he
  obtain ⟨z0, z1, z2, z3, z4⟩ := hzero.out t rfl
  clear herr hzero
  replace z4 := Lib.hid z4
  have hz1 : ¬ t < now := by omega
  have D := Lib.hid (C2.out t w2 (ints_past HA.out hW))
  rw [z3] at D
  go_wp2_with fail
  refine D.out.mono ?_
  rintro r w3 ⟨rfl, hbw⟩; dsimp only
  replace hM := Blk.past hM hbw
  replace hW := below_to hW hbw
  clear hbw m0 m1 D z3
  by_cases hlt : now < t
  case neg =>
    clear hM
    go_wp2_with fail
    refine (alive18 _).mono ?_
    rintro r wz ⟨rfl, hbw⟩; dsimp only
    replace hW := below_to hW hbw
    clear hbw
    go_wp2_with fail
    go_ret
    exact ⟨rfl, hW⟩
  by_cases hb0 : 0 ≤ btw
  case neg =>
    clear hM
    go_wp2_with fail
    refine (alive18 _).mono ?_
    rintro r wz ⟨rfl, hbw⟩; dsimp only
    replace hW := below_to hW hbw
    clear hbw
    go_wp2_with fail
    go_ret
    exact ⟨rfl, hW⟩
  have m0 : w3.cell? ⟨w.heap.size, 0, none⟩ = some (.int .i64 bk) := hM.cell 0
  have m1 : w3.cell? ⟨w.heap.size, 1, none⟩ = some (.int .i64 bw) := hM.cell 1
  obtain ⟨r, hr⟩ : ∃ r, r = btw % (t - now) := ⟨_, rfl⟩
  have hr0 : 0 ≤ r := by rw [hr]; exact Int.emod_nonneg _ (by omega)
  have hr1 : r < t - now := by rw [hr]; exact Int.emod_lt_of_pos _ (by omega)
  have hr2 : btw.tmod (t - now) = r := by rw [hr]; exact Int.tmod_eq_emod_of_nonneg hb0
  have hd : ¬ t - now = 0 := by omega
  have s1 : wrap64 (t - now) = t - now := by unfold wrap64; omega
  have s2 : IntKind.i64.wrap (t - now) = t - now := IntWalk.i64_in _ (by omega)
  have s3 : wrap64 (now + r) = now + r := by unfold wrap64; omega
  have s4 : IntKind.i64.wrap (now + r) = now + r := IntWalk.i64_in _ (by omega)
  have s5 : wrap64 r = r := by unfold wrap64; omega
  have s6 : IntKind.i64.wrap r = r := IntWalk.i64_in _ (by omega)
  have D := Lib.hid (C2.out (now + r) w3 (ints_past HA.out hW))
  rw [z4.out (now + r) (by omega) (by omega)] at D
  clear hr z4 hM
  go_wp2_with fail
  refine D.out.mono ?_
  rintro q w4 ⟨rfl, hbw⟩; dsimp only
  replace hW := below_to hW hbw
  clear hbw m0 m1 D
  go_wp2_with fail
  refine (alive18 _).mono ?_
  rintro r wz ⟨rfl, hbw⟩; dsimp only
  replace hW := below_to hW hbw
  clear hbw
  go_wp2_with fail
  go_ret
  exact ⟨rfl, hW⟩
end Go.Proofs.Ythlninijnbmjfaa
