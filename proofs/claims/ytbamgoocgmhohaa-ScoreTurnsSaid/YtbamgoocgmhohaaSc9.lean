/- The law ScoreTurns of reevelaw20, walked. Conditions: the numbers are of their kinds, the lists are in memory. -/
import Derived.Test.YtbamgoocgmhohaaSc7
import Derived.Test.YtbamgoocgmhohaaK10
namespace Go.Proofs.Ytbamgoocgmhohaa
open Go.RowKit Go.Shelf

theorem vecs_none9 {w : World} {A : Option Addr} {xs : List Vec} {n : Nat} (h : VecsIn w A xs) (hl : xs.length = n) (hA : A = none) : n = 0 := by
  rcases Nat.eq_zero_or_pos n with h0 | h0
  · exact h0
  · obtain ⟨b, off, e, _⟩ := h (by intro e; rw [e] at hl; simp at hl; omega)
    rw [hA] at e
    cases e
theorem best_val (hs us : List Vec) (m : Vec) : ∃ a b c, bestR hs us m = .tuple #[.int .i64 a, .bool b, .int .i64 c] := by
  unfold bestR
  split
  · exact ⟨_, _, _, rfl⟩
  · exact ⟨_, _, _, rfl⟩
theorem score_val (x y z : Vec) : ∃ a b c, (if mayS x y z = true then Value.tuple #[.int .i64 (scoreN x y z), .bool (standsV x y z), .int .i64 0] else .tuple #[.int .i64 0, .bool false, .int .i64 2]) = .tuple #[.int .i64 a, .bool b, .int .i64 c] := by
  split
  · exact ⟨_, _, _, rfl⟩
  · exact ⟨_, _, _, rfl⟩
theorem turned_ok {x : Vec} (h : x.ok) : (turnedV x).ok := ⟨h.2.2, h.1, h.2.1⟩
theorem map_ok {xs : List Vec} (h : ∀ x ∈ xs, x.ok) : ∀ x ∈ xs.map turnedV, x.ok := fun x hx => by
  obtain ⟨y, hy, rfl⟩ := List.mem_map.1 hx
  exact turned_ok (h y hy)
theorem turn_snoc (xs : List Vec) (k : Nat) (h : k < xs.length) : flatV ((xs.map turnedV).take (k + 1)) = flatV ((xs.map turnedV).take k) ++ rowOf (turnedV xs[k]) := by
  rw [List.take_succ_eq_append_getElem (by simpa using h), List.getElem_map, flatV_snoc]
theorem own_past {w w' : World} {base e size n : Nat} {v : Value} {xs : List Value} (h : w.ownsRow base e size v n xs) (hb : Below w.heap.size w w') : w'.ownsRow base e size v n xs :=
  h.kept (row := none) ⟨hb.os, hb.tape, hb.output, hb.size, fun k hk _ => hb.block k hk⟩ (by cases v.ownBlock <;> simp)
set_option maxRecDepth 100000 in
set_option maxHeartbeats 4000000 in
theorem ScoreTurns_in (A B : Option Addr) (n n2 ca cb : Nat) (hs us : List Vec) (m : Vec) (hl : hs.length = n) (ul : us.length = n2) (hok : ∀ x ∈ hs, x.ok) (uok : ∀ x ∈ us, x.ok) (mok : m.ok) (w : World) (hA : VecsIn w A hs) (hB : VecsIn w B us) :
    Calls Try.prog 13 #[.slice A n ca, .slice B n2 cb, m.v] w fun r w' => r = .returned (.bool true) ∧ Below w.heap.size w w' := by
  obtain ⟨m0, m1, m2⟩ := m
  by_cases hbig : 50 < n
  · have hz : (50 : Int) < (n : Int) := by omega
    go_enter Try.func13, Try.ntmps13
    go_wp2_with fail
    have hW : Below w.heap.size w (w.alloc (.cells #[.int .i64 m0, .int .i64 m1, .int .i64 m2] 25)) := by go_grown
    refine (works20 _).mono ?_
    rintro r wz ⟨rfl, hb⟩; dsimp only
    replace hW := below_to hW hb
    go_wp2_with fail
    go_ret
    exact ⟨rfl, hW⟩
  by_cases hbig2 : 50 < n2
  · have hz : ¬ (50 : Int) < (n : Int) := by omega
    have hz2 : (50 : Int) < (n2 : Int) := by omega
    go_enter Try.func13, Try.ntmps13
    go_wp2_with fail
    have hW : Below w.heap.size w (w.alloc (.cells #[.int .i64 m0, .int .i64 m1, .int .i64 m2] 25)) := by go_grown
    refine (works20 _).mono ?_
    rintro r wz ⟨rfl, hb⟩; dsimp only
    replace hW := below_to hW hb
    go_wp2_with fail
    go_ret
    exact ⟨rfl, hW⟩
  have hz : ¬ (50 : Int) < (n : Int) := by omega
  have hz2 : ¬ (50 : Int) < (n2 : Int) := by omega
  have HA := Lib.hid hA
  have HB := Lib.hid hB
  clear hA hB
  obtain ⟨i0, hi, hz0, hz1, hz2i⟩ := info_parts vecInfo
  go_enter Try.func13, Try.ntmps13
  go_wp2
  have hW : Below w.heap.size w (w.alloc (.cells #[.int .i64 m0, .int .i64 m1, .int .i64 m2] 25)) := by go_grown
  have hM := Blk.new w 25 #[.int .i64 m0, .int .i64 m1, .int .i64 m2]
  refine wp_world (fun W => Blk W w.heap.size 25 #[.int .i64 m0, .int .i64 m1, .int .i64 m2] ∧ Below w.heap.size w W ∧ w.heap.size + 1 ≤ W.heap.size) ⟨hM, hW, by simp⟩ ?_
  clear hM hW
  rintro W ⟨hM, hW, hWs⟩
  have hQ := Below.refl W.heap.size W
  go_loopw [7, 9] (fun v i wr => ∃ k : Nat, k ≤ n ∧ i = .int .i64 k ∧ wr.ownsRow W.heap.size 25 3 v k (flatV ((hs.map turnedV).take k)) ∧ Blk wr w.heap.size 25 #[.int .i64 m0, .int .i64 m1, .int .i64 m2] ∧ Below w.heap.size w wr ∧ Below W.heap.size W wr) (fun _ i _ => n - (intOf i).toNat)
  case atStart => exact ⟨0, Nat.zero_le _, rfl, World.ownsRow_nil _ _ _ _, hM, hW, hQ⟩
  case round =>
    clear hM hW hQ
    obtain ⟨k, hk, rfl, hown, hM, hW, hQ⟩ := hrel
    by_cases hlt : k < n
    · skip
      obtain ⟨b, off, rfl, hb, hcell⟩ := HA.out (by intro e; rw [e] at hl; simp at hl; omega)
      obtain ⟨k0, k1, k2⟩ := hcell k (by omega)
      clear hcell
      have hsn := Lib.hid (turn_snoc hs k (by omega))
      have c1 := fun w => turned20 hs[k] w
      generalize hs[k] = x at *
      obtain ⟨x0, x1, x2⟩ := x
      unfold turnedV at c1
      dsimp only [Vec.v] at c1 k0 k1 k2
      have C1 := Lib.hid c1
      clear c1
      have j0 := (hW.cell (p := ⟨b, off + k * 3, none⟩) hb).trans k0
      have j1 := (hW.cell (p := ⟨b, off + k * 3 + 1, none⟩) hb).trans k1
      have j2 := (hW.cell (p := ⟨b, off + k * 3 + 2, none⟩) hb).trans k2
      clear k0 k1 k2
      go_wp2_with fail
      refine (C1.out _).mono ?_
      rintro r w1 ⟨rfl, hb1⟩; dsimp only
      replace hown := own_past hown hb1
      replace hM := Blk.past hM hb1
      replace hW := below_to hW hb1
      replace hQ := below_to hQ hb1
      have hsz := hQ.size
      clear hb1 j0 j1 j2 C1
      go_wp2_with (at_builtin; refine wpList_append_own _ rfl _ _ 28 rfl W.heap.size 25 i0 (.agg #[.int .i64 0, .int .i64 0, .int .i64 0]) 3 24 Try.underlying28 hi hz0 hz1 hz2i rfl (by decide) _ _ _ rfl (hown.alloc _) ⟨w1.heap.size, 0, none⟩ 1 1 (rowOf ⟨x2, x0, x1⟩) rfl rfl ?c1 ?c2 ?c3 ?c4 ?c5 ?_)
      case c1 =>
        intro j u hj
        match j, hj with
        | 0, hj => simp [rowOf] at hj; subst hj; simp [Addr.add]
        | 1, hj => simp [rowOf] at hj; subst hj; simp [Addr.add]
        | 2, hj => simp [rowOf] at hj; subst hj; simp [Addr.add]
      case c2 => intro u hu; simp [rowOf] at hu; rcases hu with rfl | rfl | rfl <;> rfl
      case c3 => unfold maxLen; omega
      case c4 => omega
      case c5 => simp; omega
      intro v' w2 hown' hg _
      have hrow : ∀ r, Value.ownBlock _ = some r → _ ≤ r := own_row hown
      replace hM := (hM.alloc _).grown hg (by intro e; have := hrow _ e.symm; omega)
      replace hW := Below.grown (below_own hW _) hg (by simp; omega) (fun r h => by have := hrow r h; omega)
      replace hQ := Below.grown (below_own hQ _) hg (by simp; omega) (fun r h => by have := hrow r h; omega)
      clear hg hown
      go_wp2
      go_roundw
      case rel => exact ⟨k + 1, by omega, by go_num, by rw [hsn.out]; exact hown', hM, hW, hQ⟩
      case measure => simp [intOf]; omega
    · obtain rfl : n = k := by omega
      rw [List.take_of_length_le (by simp; omega)] at hown
      obtain ⟨H, ch, rfl, hH⟩ := own_vecsL hown (by simp [hl])
      clear hown hQ hlt hk
      go_wp2_with fail
      refine wp_world (fun W3 => Blk W3 w.heap.size 25 #[.int .i64 m0, .int .i64 m1, .int .i64 m2] ∧ Below w.heap.size w W3 ∧ VecsIn W3 H (hs.map turnedV)) ⟨hM, hW, hH⟩ ?_
      clear hM hW hH hWs
      rintro W4 ⟨hM, hW, hH⟩
      have hQ := Below.refl W4.heap.size W4
      go_loopw [8, 10] (fun v i wr => ∃ k : Nat, k ≤ n2 ∧ i = .int .i64 k ∧ wr.ownsRow W4.heap.size 25 3 v k (flatV ((us.map turnedV).take k)) ∧ Blk wr w.heap.size 25 #[.int .i64 m0, .int .i64 m1, .int .i64 m2] ∧ Below w.heap.size w wr ∧ Below W4.heap.size W4 wr) (fun _ i _ => n2 - (intOf i).toNat)
      case atStart => exact ⟨0, Nat.zero_le _, rfl, World.ownsRow_nil _ _ _ _, hM, hW, hQ⟩
      case round =>
        have hMW := hM.lt
        clear hM hW hQ
        obtain ⟨k, hk, rfl, hown, hM, hW, hQ⟩ := hrel
        by_cases hlt : k < n2
        · skip
          obtain ⟨b, off, rfl, hb, hcell⟩ := HB.out (by intro e; rw [e] at ul; simp at ul; omega)
          obtain ⟨k0, k1, k2⟩ := hcell k (by omega)
          clear hcell
          have hsn := Lib.hid (turn_snoc us k (by omega))
          have c1 := fun w => turned20 us[k] w
          generalize us[k] = x at *
          obtain ⟨x0, x1, x2⟩ := x
          unfold turnedV at c1
          dsimp only [Vec.v] at c1 k0 k1 k2
          have C1 := Lib.hid c1
          clear c1
          have j0 := (hW.cell (p := ⟨b, off + k * 3, none⟩) hb).trans k0
          have j1 := (hW.cell (p := ⟨b, off + k * 3 + 1, none⟩) hb).trans k1
          have j2 := (hW.cell (p := ⟨b, off + k * 3 + 2, none⟩) hb).trans k2
          clear k0 k1 k2
          go_wp2_with fail
          refine (C1.out _).mono ?_
          rintro r w1 ⟨rfl, hb1⟩; dsimp only
          replace hown := own_past hown hb1
          replace hM := Blk.past hM hb1
          replace hW := below_to hW hb1
          replace hQ := below_to hQ hb1
          have hsz := hQ.size
          clear hb1 j0 j1 j2 C1
          go_wp2_with (at_builtin; refine wpList_append_own _ rfl _ _ 28 rfl W4.heap.size 25 i0 (.agg #[.int .i64 0, .int .i64 0, .int .i64 0]) 3 24 Try.underlying28 hi hz0 hz1 hz2i rfl (by decide) _ _ _ rfl (hown.alloc _) ⟨w1.heap.size, 0, none⟩ 1 1 (rowOf ⟨x2, x0, x1⟩) rfl rfl ?c1 ?c2 ?c3 ?c4 ?c5 ?_)
          case c1 =>
            intro j u hj
            match j, hj with
            | 0, hj => simp [rowOf] at hj; subst hj; simp [Addr.add]
            | 1, hj => simp [rowOf] at hj; subst hj; simp [Addr.add]
            | 2, hj => simp [rowOf] at hj; subst hj; simp [Addr.add]
          case c2 => intro u hu; simp [rowOf] at hu; rcases hu with rfl | rfl | rfl <;> rfl
          case c3 => unfold maxLen; omega
          case c4 => omega
          case c5 => simp; omega
          intro v' w2 hown' hg _
          have hrow : ∀ r, Value.ownBlock _ = some r → _ ≤ r := own_row hown
          replace hM := (hM.alloc _).grown hg (by intro e; have := hrow _ e.symm; omega)
          replace hW := Below.grown (below_own hW _) hg (by simp; omega) (fun r h => by have := hrow r h; omega)
          replace hQ := Below.grown (below_own hQ _) hg (by simp; omega) (fun r h => by have := hrow r h; omega)
          clear hg hown
          go_wp2
          go_roundw
          case rel => exact ⟨k + 1, by omega, by go_num, by rw [hsn.out]; exact hown', hM, hW, hQ⟩
          case measure => simp [intOf]; omega
        · obtain rfl : n2 = k := by omega
          rw [List.take_of_length_le (by simp; omega)] at hown
          obtain ⟨U, cu, rfl, hU⟩ := own_vecsL hown (by simp [ul])
          replace hH := vecs_past hH hQ
          clear hown hQ hlt hk hMW
          go_wp2_with fail
          refine wp_world (fun W3 => Blk W3 w.heap.size 25 #[.int .i64 m0, .int .i64 m1, .int .i64 m2] ∧ Below w.heap.size w W3 ∧ VecsIn W3 H (hs.map turnedV) ∧ VecsIn W3 U (us.map turnedV)) ⟨hM, hW, hH, hU⟩ ?_
          clear hM hW hH hU
          rintro W5 ⟨hM, hW, hH, hU⟩
          obtain ⟨ba, bb, bc, hR⟩ := best_val hs us ⟨m0, m1, m2⟩
          have cB := fun A1 B1 cc1 cc2 w h1 h2 => sc_Best A1 B1 n n2 cc1 cc2 hs us ⟨m0, m1, m2⟩ hl ul (by omega) (by omega) hok uok mok w h1 h2
          rw [hR] at cB
          have cT := fun cc1 cc2 w h1 h2 => sc_Best H U n n2 cc1 cc2 (hs.map turnedV) (us.map turnedV) (turnedV ⟨m0, m1, m2⟩) (by simp [hl]) (by simp [ul]) (by omega) (by omega) (map_ok hok) (map_ok uok) (turned_ok mok) w h1 h2
          rw [turned_bestR, hR] at cT
          have cV := fun w => turned20 ⟨m0, m1, m2⟩ w
          dsimp only [Vec.v, turnedV] at cV
          have CB := Lib.hid cB
          have CT := Lib.hid cT
          have CV := Lib.hid cV
          clear cB cT cV hR
          refine wp_region_held0 (S := fun w' => (VecsIn w' A hs ∧ VecsIn w' B us) ∧ (w'.cell? ⟨w.heap.size, 0, none⟩ = some (.int .i64 m0) ∧ w'.cell? ⟨w.heap.size, 1, none⟩ = some (.int .i64 m1) ∧ w'.cell? ⟨w.heap.size, 2, none⟩ = some (.int .i64 m2))) (by kernel_rfl) ⟨⟨vecs_past HA.out hW.drew, vecs_past HB.out hW.drew⟩, hM.cell 0, hM.cell 1, hM.cell 2⟩ (fun hHeld => ?_)
          replace hW := hW.drew
          replace hM := hM.drew
          replace hH : VecsIn W5.drew H (hs.map turnedV) := hH
          replace hU : VecsIn W5.drew U (us.map turnedV) := hU
          refine wpAnyH_take (i := 0) (v := ?_) rfl (by kernel_rfl) (by kernel_rfl) (by kernel_rfl) (fun _ _ _ h => h) (Or.inl ⟨by rfl, ?hy⟩) hHeld ?_
          case hy =>
            intro w hSw
            (try dsimp only at hSw)
            go_simp
            (try with_reducible rfl)
          try simp only [Act.put, List.getElem_toArray, List.getElem_cons_succ, List.getElem_cons_zero, List.setIfInBounds_toArray, List.set_cons_zero, List.set_cons_succ]
          refine wpAnyH_take (i := 2) (v := ?_) rfl (by kernel_rfl) (by kernel_rfl) (by kernel_rfl) (fun _ _ _ h => h) (Or.inl ⟨by rfl, ?hy⟩) hHeld ?_
          case hy =>
            intro w hSw
            (try dsimp only at hSw)
            go_simp
            (try with_reducible rfl)
          try simp only [Act.put, List.getElem_toArray, List.getElem_cons_succ, List.getElem_cons_zero, List.setIfInBounds_toArray, List.set_cons_zero, List.set_cons_succ]
          refine wpAnyH_take (i := 4) (v := ?_) rfl (by kernel_rfl) (by kernel_rfl) (by kernel_rfl) (fun _ _ _ h => h) (Or.inl ⟨by rfl, ?hy⟩) hHeld ?_
          case hy =>
            intro w hSw
            (try dsimp only at hSw)
            go_simp
            (try with_reducible rfl)
          try simp only [Act.put, List.getElem_toArray, List.getElem_cons_succ, List.getElem_cons_zero, List.setIfInBounds_toArray, List.set_cons_zero, List.set_cons_succ]
          refine wpAnyH_ready (rs := [1]) (by kernel_rfl) (by simp) ?_
          refine AllReadyH.cons rfl (fun K hK => ?_) AllReadyH.nil
          have hOld := hHeld
          clear hHeld
          refine step_copy rfl _ rfl A n ca hs (by rfl) hl (by omega) hOld.1.1 (vecs_none9 HA.out hl) ?_
          intro A1 cc1 W1 hA1 hbw
          replace hW := below_to hW hbw
          replace hM := Blk.past hM hbw
          replace hH := vecs_past hH hbw
          replace hU := vecs_past hU hbw
          refine hK.out _ _ (⟨⟨vecs_past hOld.1.1 hbw, vecs_past hOld.1.2 hbw⟩, cell_past hbw hOld.2.1, cell_past hbw hOld.2.2.1, cell_past hbw hOld.2.2.2⟩) (fun hHeld => ?_)
          clear hK K hOld
          try simp only [Act.put, List.getElem_toArray, List.getElem_cons_succ, List.getElem_cons_zero, List.setIfInBounds_toArray, List.set_cons_zero, List.set_cons_succ]
          clear hbw
          refine wpAnyH_strong (S' := fun w' => ((VecsIn w' A hs ∧ VecsIn w' B us) ∧ (w'.cell? ⟨w.heap.size, 0, none⟩ = some (.int .i64 m0) ∧ w'.cell? ⟨w.heap.size, 1, none⟩ = some (.int .i64 m1) ∧ w'.cell? ⟨w.heap.size, 2, none⟩ = some (.int .i64 m2))) ∧ VecsIn w' A1 hs) (fun _ h => h.1) _ _ _ _ ?_
          have hNew := And.intro hHeld hA1
          clear hHeld
          have hHeld := hNew
          clear hNew
          refine wpAnyH_ready (rs := [3]) (by kernel_rfl) (by simp) ?_
          refine AllReadyH.cons rfl (fun K hK => ?_) AllReadyH.nil
          have hOld := hHeld
          clear hHeld
          refine step_copy rfl _ rfl B n2 cb us (by rfl) ul (by omega) hOld.1.1.2 (vecs_none9 HB.out ul) ?_
          intro B1 cc2 W2 hB1 hbw
          replace hW := below_to hW hbw
          replace hM := Blk.past hM hbw
          replace hH := vecs_past hH hbw
          replace hU := vecs_past hU hbw
          refine hK.out _ _ (⟨⟨⟨vecs_past hOld.1.1.1 hbw, vecs_past hOld.1.1.2 hbw⟩, cell_past hbw hOld.1.2.1, cell_past hbw hOld.1.2.2.1, cell_past hbw hOld.1.2.2.2⟩, vecs_past hOld.2 hbw⟩) (fun hHeld => ?_)
          clear hK K hOld
          try simp only [Act.put, List.getElem_toArray, List.getElem_cons_succ, List.getElem_cons_zero, List.setIfInBounds_toArray, List.set_cons_zero, List.set_cons_succ]
          clear hbw
          refine wpAnyH_strong (S' := fun w' => (((VecsIn w' A hs ∧ VecsIn w' B us) ∧ (w'.cell? ⟨w.heap.size, 0, none⟩ = some (.int .i64 m0) ∧ w'.cell? ⟨w.heap.size, 1, none⟩ = some (.int .i64 m1) ∧ w'.cell? ⟨w.heap.size, 2, none⟩ = some (.int .i64 m2))) ∧ VecsIn w' A1 hs) ∧ VecsIn w' B1 us) (fun _ h => h.1) _ _ _ _ ?_
          have hNew := And.intro hHeld hB1
          clear hHeld
          have hHeld := hNew
          clear hNew
          refine wpAnyH_ready (rs := [5]) (by kernel_rfl) (by simp) ?_
          refine AllReadyH.cons rfl (fun K hK => ?_) AllReadyH.nil
          have hOld := hHeld
          clear hHeld
          go_simp
          refine (CB.out A1 B1 cc1 cc2 _ hOld.1.2 hOld.2).mono ?_
          rintro r wc ⟨rfl, hbw⟩
          dsimp only
          replace hW := below_to hW hbw
          replace hM := Blk.past hM hbw
          replace hH := vecs_past hH hbw
          replace hU := vecs_past hU hbw
          refine hK.out _ _ (⟨⟨⟨⟨vecs_past hOld.1.1.1.1 hbw, vecs_past hOld.1.1.1.2 hbw⟩, cell_past hbw hOld.1.1.2.1, cell_past hbw hOld.1.1.2.2.1, cell_past hbw hOld.1.1.2.2.2⟩, vecs_past hOld.1.2 hbw⟩, vecs_past hOld.2 hbw⟩) (fun hHeld => ?_)
          clear hK K hOld
          try simp only [Act.put, List.getElem_toArray, List.getElem_cons_succ, List.getElem_cons_zero, List.setIfInBounds_toArray, List.set_cons_zero, List.set_cons_succ]
          clear hbw
          refine wpAnyH_take (i := 6) (v := ?_) rfl (by kernel_rfl) (by kernel_rfl) (by kernel_rfl) (fun _ _ _ h => h) (Or.inl ⟨by rfl, ?hy⟩) hHeld ?_
          case hy =>
            intro w hSw
            (try dsimp only at hSw)
            go_simp
            (try with_reducible rfl)
          try simp only [Act.put, List.getElem_toArray, List.getElem_cons_succ, List.getElem_cons_zero, List.setIfInBounds_toArray, List.set_cons_zero, List.set_cons_succ]
          refine wpAnyH_take (i := 7) (v := ?_) rfl (by kernel_rfl) (by kernel_rfl) (by kernel_rfl) (fun _ _ _ h => h) (Or.inl ⟨by rfl, ?hy⟩) hHeld ?_
          case hy =>
            intro w hSw
            (try dsimp only at hSw)
            go_simp
            (try with_reducible rfl)
          try simp only [Act.put, List.getElem_toArray, List.getElem_cons_succ, List.getElem_cons_zero, List.setIfInBounds_toArray, List.set_cons_zero, List.set_cons_succ]
          refine wpAnyH_take (i := 8) (v := ?_) rfl (by kernel_rfl) (by kernel_rfl) (by kernel_rfl) (fun _ _ _ h => h) (Or.inl ⟨by rfl, ?hy⟩) hHeld ?_
          case hy =>
            intro w hSw
            (try dsimp only at hSw)
            go_simp
            (try with_reducible rfl)
          try simp only [Act.put, List.getElem_toArray, List.getElem_cons_succ, List.getElem_cons_zero, List.setIfInBounds_toArray, List.set_cons_zero, List.set_cons_succ]
          refine wpAnyH_take (i := 9) (v := ?_) rfl (by kernel_rfl) (by kernel_rfl) (by kernel_rfl) (fun _ _ _ h => h) (Or.inl ⟨by rfl, ?hy⟩) hHeld ?_
          case hy =>
            intro w hSw
            (try dsimp only at hSw)
            go_simp
            (try with_reducible rfl)
          try simp only [Act.put, List.getElem_toArray, List.getElem_cons_succ, List.getElem_cons_zero, List.setIfInBounds_toArray, List.set_cons_zero, List.set_cons_succ]
          refine wpAnyH_take (i := 10) (v := ?_) rfl (by kernel_rfl) (by kernel_rfl) (by kernel_rfl) (fun _ _ _ h => h) (Or.inl ⟨by rfl, ?hy⟩) hHeld ?_
          case hy =>
            intro w hSw
            (try dsimp only at hSw)
            go_simp
            (try with_reducible rfl)
          try simp only [Act.put, List.getElem_toArray, List.getElem_cons_succ, List.getElem_cons_zero, List.setIfInBounds_toArray, List.set_cons_zero, List.set_cons_succ]
          refine wpAnyH_take (i := 11) (v := ?_) rfl (by kernel_rfl) (by kernel_rfl) (by kernel_rfl) (fun _ _ _ h => h) (Or.inl ⟨by rfl, ?hy⟩) hHeld ?_
          case hy =>
            intro w hSw
            (try dsimp only at hSw)
            go_simp
            (try with_reducible rfl)
          try simp only [Act.put, List.getElem_toArray, List.getElem_cons_succ, List.getElem_cons_zero, List.setIfInBounds_toArray, List.set_cons_zero, List.set_cons_succ]
          refine wpAnyH_take (i := 12) (v := ?_) rfl (by kernel_rfl) (by kernel_rfl) (by kernel_rfl) (fun _ _ _ h => h) (Or.inl ⟨by rfl, ?hy⟩) hHeld ?_
          case hy =>
            intro w hSw
            (try dsimp only at hSw)
            go_simp
            (try with_reducible rfl)
          try simp only [Act.put, List.getElem_toArray, List.getElem_cons_succ, List.getElem_cons_zero, List.setIfInBounds_toArray, List.set_cons_zero, List.set_cons_succ]
          refine wpAnyH_done (by kernel_rfl) ?_ _
          simp only [Exit.then]
          clear hHeld hA1 hB1
          have q0 : wc.cell? ⟨w.heap.size, 0, none⟩ = some (.int .i64 m0) := hM.cell 0
          have q1 : wc.cell? ⟨w.heap.size, 1, none⟩ = some (.int .i64 m1) := hM.cell 1
          have q2 : wc.cell? ⟨w.heap.size, 2, none⟩ = some (.int .i64 m2) := hM.cell 2
          go_wp2_with fail
          refine (CV.out _).mono ?_
          rintro r wd ⟨rfl, hbw⟩; dsimp only
          replace hW := below_to hW hbw
          replace hM := Blk.past hM hbw
          replace hH := vecs_past hH hbw
          replace hU := vecs_past hU hbw
          clear hbw q0 q1 q2
          go_wp2_with fail
          refine (CT.out _ _ _ hH hU).mono ?_
          rintro r we ⟨rfl, hbw⟩; dsimp only
          replace hW := below_to hW hbw
          replace hM := Blk.past hM hbw
          replace hH := vecs_past hH hbw
          replace hU := vecs_past hU hbw
          clear hbw CV CT CB
          go_wp2_with fail
          go_loopw [17, 18, 19, 20, 21, 22, 23] (fun i _ _ _ _ _ _ wr => ∃ k : Nat, k ≤ n ∧ k ≤ n2 ∧ i = .int .i64 k ∧ Blk wr w.heap.size 25 #[.int .i64 m0, .int .i64 m1, .int .i64 m2] ∧ Below w.heap.size w wr ∧ VecsIn wr H (hs.map turnedV) ∧ VecsIn wr U (us.map turnedV)) (fun i _ _ _ _ _ _ _ => n - (intOf i).toNat)
          case atStart => exact ⟨0, Nat.zero_le _, Nat.zero_le _, rfl, hM, hW, hH, hU⟩
          case round =>
            clear hM hW hH hU
            obtain ⟨k, hk, hk2, rfl, hM, hW, hH, hU⟩ := hrel
            by_cases hlt : k < n ∧ k < n2
            · have hlt1 : (k : Int) < (n : Int) := by omega
              have hlt2 : (k : Int) < (n2 : Int) := by omega
              obtain ⟨b, off, rfl, hb, hcell⟩ := HA.out (by intro e; rw [e] at hl; simp at hl; omega)
              obtain ⟨k0, k1, k2⟩ := hcell k (by omega)
              obtain ⟨b', off', rfl, hb', hcell'⟩ := HB.out (by intro e; rw [e] at ul; simp at ul; omega)
              obtain ⟨j0, j1, j2⟩ := hcell' k (by omega)
              clear hcell hcell'
              obtain ⟨e, off2, rfl, he, hcell⟩ := hH (by intro e; have := congrArg List.length e; simp at this; rw [this] at hl; simp at hl; omega)
              obtain ⟨i0', i1', i2'⟩ := hcell k (by simp; omega)
              obtain ⟨e', off2', rfl, he', hcell'⟩ := hU (by intro e; have := congrArg List.length e; simp at this; rw [this] at ul; simp at ul; omega)
              obtain ⟨o0, o1, o2⟩ := hcell' k (by simp; omega)
              clear hcell hcell'
              simp only [List.getElem_map] at i0' i1' i2' o0 o1 o2
              have xok := hok _ (List.getElem_mem (show k < hs.length by omega))
              have yok := uok _ (List.getElem_mem (show k < us.length by omega))
              obtain ⟨sa, sb, sc, hS⟩ := score_val hs[k] us[k] ⟨m0, m1, m2⟩
              have c1 := fun w => sc_Score hs[k] us[k] ⟨m0, m1, m2⟩ xok yok mok w
              rw [hS] at c1
              have c2 := fun w => sc_Score (turnedV hs[k]) (turnedV us[k]) (turnedV ⟨m0, m1, m2⟩) (turned_ok xok) (turned_ok yok) (turned_ok mok) w
              rw [turned_mayS, turned_score, turned_stands, hS] at c2
              have c3 := fun w => turned20 ⟨m0, m1, m2⟩ w
              clear hS xok yok
              generalize hs[k] = x at *
              generalize us[k] = y at *
              obtain ⟨z0, z1, z2⟩ := x
              obtain ⟨u0, u1, u2⟩ := y
              dsimp only [Vec.v, turnedV] at c1 c2 c3 k0 k1 k2 j0 j1 j2 i0' i1' i2' o0 o1 o2
              have C1 := Lib.hid c1
              have C2 := Lib.hid c2
              have C3 := Lib.hid c3
              clear c1 c2 c3
              have hN : (fun w' => (w'.cell? ⟨b, off + k * 3, none⟩ = some (.int .i64 z0) ∧ w'.cell? ⟨b, off + k * 3 + 1, none⟩ = some (.int .i64 z1) ∧ w'.cell? ⟨b, off + k * 3 + 2, none⟩ = some (.int .i64 z2)) ∧ (w'.cell? ⟨b', off' + k * 3, none⟩ = some (.int .i64 u0) ∧ w'.cell? ⟨b', off' + k * 3 + 1, none⟩ = some (.int .i64 u1) ∧ w'.cell? ⟨b', off' + k * 3 + 2, none⟩ = some (.int .i64 u2)) ∧ (w'.cell? ⟨w.heap.size, 0, none⟩ = some (.int .i64 m0) ∧ w'.cell? ⟨w.heap.size, 1, none⟩ = some (.int .i64 m1) ∧ w'.cell? ⟨w.heap.size, 2, none⟩ = some (.int .i64 m2))) wr := ⟨⟨(hW.cell (p := ⟨b, off + k * 3, none⟩) hb).trans k0, (hW.cell (p := ⟨b, off + k * 3 + 1, none⟩) hb).trans k1, (hW.cell (p := ⟨b, off + k * 3 + 2, none⟩) hb).trans k2⟩, ⟨(hW.cell (p := ⟨b', off' + k * 3, none⟩) hb').trans j0, (hW.cell (p := ⟨b', off' + k * 3 + 1, none⟩) hb').trans j1, (hW.cell (p := ⟨b', off' + k * 3 + 2, none⟩) hb').trans j2⟩, hM.cell 0, hM.cell 1, hM.cell 2⟩
              have hT := Lib.hid (And.intro (And.intro i0' (And.intro i1' i2')) (And.intro (And.intro o0 (And.intro o1 o2)) hN.2.2))
              clear k0 k1 k2 j0 j1 j2 i0' i1' i2' o0 o1 o2
              go_wp2_with fail
              refine wp_region_held0 (S := fun w' => (w'.cell? ⟨b, off + k * 3, none⟩ = some (.int .i64 z0) ∧ w'.cell? ⟨b, off + k * 3 + 1, none⟩ = some (.int .i64 z1) ∧ w'.cell? ⟨b, off + k * 3 + 2, none⟩ = some (.int .i64 z2)) ∧ (w'.cell? ⟨b', off' + k * 3, none⟩ = some (.int .i64 u0) ∧ w'.cell? ⟨b', off' + k * 3 + 1, none⟩ = some (.int .i64 u1) ∧ w'.cell? ⟨b', off' + k * 3 + 2, none⟩ = some (.int .i64 u2)) ∧ (w'.cell? ⟨w.heap.size, 0, none⟩ = some (.int .i64 m0) ∧ w'.cell? ⟨w.heap.size, 1, none⟩ = some (.int .i64 m1) ∧ w'.cell? ⟨w.heap.size, 2, none⟩ = some (.int .i64 m2))) (by kernel_rfl) hN (fun hHeld => ?_)
              clear hN
              replace hW := hW.drew
              replace hM := hM.drew
              replace hH : VecsIn wr.drew (some ⟨e, off2, none⟩) (hs.map turnedV) := hH
              replace hU : VecsIn wr.drew (some ⟨e', off2', none⟩) (us.map turnedV) := hU
              refine wpAnyH_take (i := 0) (v := ?_) rfl (by kernel_rfl) (by kernel_rfl) (by kernel_rfl) (fun _ _ _ h => h) (Or.inl ⟨by rfl, ?hy⟩) hHeld ?_
              case hy =>
                intro w hSw
                (try dsimp only at hSw)
                go_simp
                (try with_reducible rfl)
              try simp only [Act.put, List.getElem_toArray, List.getElem_cons_succ, List.getElem_cons_zero, List.setIfInBounds_toArray, List.set_cons_zero, List.set_cons_succ]
              refine wpAnyH_take (i := 1) (v := ?_) rfl (by kernel_rfl) (by kernel_rfl) (by kernel_rfl) (fun _ _ _ h => h) (Or.inl ⟨by rfl, ?hy⟩) hHeld ?_
              case hy =>
                intro w hSw
                (try dsimp only at hSw)
                go_simp
                (try with_reducible rfl)
              try simp only [Act.put, List.getElem_toArray, List.getElem_cons_succ, List.getElem_cons_zero, List.setIfInBounds_toArray, List.set_cons_zero, List.set_cons_succ]
              refine wpAnyH_take (i := 2) (v := ?_) rfl (by kernel_rfl) (by kernel_rfl) (by kernel_rfl) (fun _ _ _ h => h) (Or.inl ⟨by rfl, ?hy⟩) hHeld ?_
              case hy =>
                intro w hSw
                (try dsimp only at hSw)
                go_simp
                (try with_reducible rfl)
              try simp only [Act.put, List.getElem_toArray, List.getElem_cons_succ, List.getElem_cons_zero, List.setIfInBounds_toArray, List.set_cons_zero, List.set_cons_succ]
              refine wpAnyH_take (i := 3) (v := ?_) rfl (by kernel_rfl) (by kernel_rfl) (by kernel_rfl) (fun _ _ _ h => h) (Or.inl ⟨by rfl, ?hy⟩) hHeld ?_
              case hy =>
                intro w hSw
                (try dsimp only at hSw)
                go_simp
                (try with_reducible rfl)
              try simp only [Act.put, List.getElem_toArray, List.getElem_cons_succ, List.getElem_cons_zero, List.setIfInBounds_toArray, List.set_cons_zero, List.set_cons_succ]
              refine wpAnyH_take (i := 4) (v := ?_) rfl (by kernel_rfl) (by kernel_rfl) (by kernel_rfl) (fun _ _ _ h => h) (Or.inl ⟨by rfl, ?hy⟩) hHeld ?_
              case hy =>
                intro w hSw
                (try dsimp only at hSw)
                go_simp
                (try with_reducible rfl)
              try simp only [Act.put, List.getElem_toArray, List.getElem_cons_succ, List.getElem_cons_zero, List.setIfInBounds_toArray, List.set_cons_zero, List.set_cons_succ]
              refine wpAnyH_take (i := 5) (v := ?_) rfl (by kernel_rfl) (by kernel_rfl) (by kernel_rfl) (fun _ _ _ h => h) (Or.inl ⟨by rfl, ?hy⟩) hHeld ?_
              case hy =>
                intro w hSw
                (try dsimp only at hSw)
                go_simp
                (try with_reducible rfl)
              try simp only [Act.put, List.getElem_toArray, List.getElem_cons_succ, List.getElem_cons_zero, List.setIfInBounds_toArray, List.set_cons_zero, List.set_cons_succ]
              refine wpAnyH_take (i := 6) (v := ?_) rfl (by kernel_rfl) (by kernel_rfl) (by kernel_rfl) (fun _ _ _ h => h) (Or.inl ⟨by rfl, ?hy⟩) hHeld ?_
              case hy =>
                intro w hSw
                (try dsimp only at hSw)
                go_simp
                (try with_reducible rfl)
              try simp only [Act.put, List.getElem_toArray, List.getElem_cons_succ, List.getElem_cons_zero, List.setIfInBounds_toArray, List.set_cons_zero, List.set_cons_succ]
              refine wpAnyH_take (i := 7) (v := ?_) rfl (by kernel_rfl) (by kernel_rfl) (by kernel_rfl) (fun _ _ _ h => h) (Or.inl ⟨by rfl, ?hy⟩) hHeld ?_
              case hy =>
                intro w hSw
                (try dsimp only at hSw)
                go_simp
                (try with_reducible rfl)
              try simp only [Act.put, List.getElem_toArray, List.getElem_cons_succ, List.getElem_cons_zero, List.setIfInBounds_toArray, List.set_cons_zero, List.set_cons_succ]
              refine wpAnyH_take (i := 8) (v := ?_) rfl (by kernel_rfl) (by kernel_rfl) (by kernel_rfl) (fun _ _ _ h => h) (Or.inl ⟨by rfl, ?hy⟩) hHeld ?_
              case hy =>
                intro w hSw
                (try dsimp only at hSw)
                go_simp
                (try with_reducible rfl)
              try simp only [Act.put, List.getElem_toArray, List.getElem_cons_succ, List.getElem_cons_zero, List.setIfInBounds_toArray, List.set_cons_zero, List.set_cons_succ]
              refine wpAnyH_ready (rs := [9]) (by kernel_rfl) (by simp) ?_
              refine AllReadyH.cons rfl (fun K hK => ?_) AllReadyH.nil
              have hOld := hHeld
              clear hHeld
              go_simp
              refine (C1.out _).mono ?_
              rintro r wf ⟨rfl, hbw⟩
              dsimp only
              replace hW := below_to hW hbw
              replace hM := Blk.past hM hbw
              replace hH := vecs_past hH hbw
              replace hU := vecs_past hU hbw
              replace hT := Lib.hid (nine_past hbw (show _ from hT.out))
              refine hK.out _ _ (nine_past hbw hOld) (fun hHeld => ?_)
              clear hK K hOld
              try simp only [Act.put, List.getElem_toArray, List.getElem_cons_succ, List.getElem_cons_zero, List.setIfInBounds_toArray, List.set_cons_zero, List.set_cons_succ]
              clear hbw
              refine wpAnyH_take (i := 10) (v := ?_) rfl (by kernel_rfl) (by kernel_rfl) (by kernel_rfl) (fun _ _ _ h => h) (Or.inl ⟨by rfl, ?hy⟩) hHeld ?_
              case hy =>
                intro w hSw
                (try dsimp only at hSw)
                go_simp
                (try with_reducible rfl)
              try simp only [Act.put, List.getElem_toArray, List.getElem_cons_succ, List.getElem_cons_zero, List.setIfInBounds_toArray, List.set_cons_zero, List.set_cons_succ]
              refine wpAnyH_take (i := 11) (v := ?_) rfl (by kernel_rfl) (by kernel_rfl) (by kernel_rfl) (fun _ _ _ h => h) (Or.inl ⟨by rfl, ?hy⟩) hHeld ?_
              case hy =>
                intro w hSw
                (try dsimp only at hSw)
                go_simp
                (try with_reducible rfl)
              try simp only [Act.put, List.getElem_toArray, List.getElem_cons_succ, List.getElem_cons_zero, List.setIfInBounds_toArray, List.set_cons_zero, List.set_cons_succ]
              refine wpAnyH_take (i := 12) (v := ?_) rfl (by kernel_rfl) (by kernel_rfl) (by kernel_rfl) (fun _ _ _ h => h) (Or.inl ⟨by rfl, ?hy⟩) hHeld ?_
              case hy =>
                intro w hSw
                (try dsimp only at hSw)
                go_simp
                (try with_reducible rfl)
              try simp only [Act.put, List.getElem_toArray, List.getElem_cons_succ, List.getElem_cons_zero, List.setIfInBounds_toArray, List.set_cons_zero, List.set_cons_succ]
              refine wpAnyH_take (i := 13) (v := ?_) rfl (by kernel_rfl) (by kernel_rfl) (by kernel_rfl) (fun _ _ _ h => h) (Or.inl ⟨by rfl, ?hy⟩) hHeld ?_
              case hy =>
                intro w hSw
                (try dsimp only at hSw)
                go_simp
                (try with_reducible rfl)
              try simp only [Act.put, List.getElem_toArray, List.getElem_cons_succ, List.getElem_cons_zero, List.setIfInBounds_toArray, List.set_cons_zero, List.set_cons_succ]
              refine wpAnyH_take (i := 14) (v := ?_) rfl (by kernel_rfl) (by kernel_rfl) (by kernel_rfl) (fun _ _ _ h => h) (Or.inl ⟨by rfl, ?hy⟩) hHeld ?_
              case hy =>
                intro w hSw
                (try dsimp only at hSw)
                go_simp
                (try with_reducible rfl)
              try simp only [Act.put, List.getElem_toArray, List.getElem_cons_succ, List.getElem_cons_zero, List.setIfInBounds_toArray, List.set_cons_zero, List.set_cons_succ]
              refine wpAnyH_take (i := 15) (v := ?_) rfl (by kernel_rfl) (by kernel_rfl) (by kernel_rfl) (fun _ _ _ h => h) (Or.inl ⟨by rfl, ?hy⟩) hHeld ?_
              case hy =>
                intro w hSw
                (try dsimp only at hSw)
                go_simp
                (try with_reducible rfl)
              try simp only [Act.put, List.getElem_toArray, List.getElem_cons_succ, List.getElem_cons_zero, List.setIfInBounds_toArray, List.set_cons_zero, List.set_cons_succ]
              refine wpAnyH_take (i := 16) (v := ?_) rfl (by kernel_rfl) (by kernel_rfl) (by kernel_rfl) (fun _ _ _ h => h) (Or.inl ⟨by rfl, ?hy⟩) hHeld ?_
              case hy =>
                intro w hSw
                (try dsimp only at hSw)
                go_simp
                (try with_reducible rfl)
              try simp only [Act.put, List.getElem_toArray, List.getElem_cons_succ, List.getElem_cons_zero, List.setIfInBounds_toArray, List.set_cons_zero, List.set_cons_succ]
              refine wpAnyH_done (by kernel_rfl) ?_ _
              simp only [Exit.then]
              clear hHeld
              go_wp2_with fail
              refine wp_region_held0 (S := fun w' => (w'.cell? ⟨e, off2 + k * 3, none⟩ = some (.int .i64 z2) ∧ w'.cell? ⟨e, off2 + k * 3 + 1, none⟩ = some (.int .i64 z0) ∧ w'.cell? ⟨e, off2 + k * 3 + 2, none⟩ = some (.int .i64 z1)) ∧ (w'.cell? ⟨e', off2' + k * 3, none⟩ = some (.int .i64 u2) ∧ w'.cell? ⟨e', off2' + k * 3 + 1, none⟩ = some (.int .i64 u0) ∧ w'.cell? ⟨e', off2' + k * 3 + 2, none⟩ = some (.int .i64 u1)) ∧ (w'.cell? ⟨w.heap.size, 0, none⟩ = some (.int .i64 m0) ∧ w'.cell? ⟨w.heap.size, 1, none⟩ = some (.int .i64 m1) ∧ w'.cell? ⟨w.heap.size, 2, none⟩ = some (.int .i64 m2))) (by kernel_rfl) hT.out (fun hHeld => ?_)
              replace hW := hW.drew
              replace hM := hM.drew
              replace hH : VecsIn wf.drew (some ⟨e, off2, none⟩) (hs.map turnedV) := hH
              replace hU : VecsIn wf.drew (some ⟨e', off2', none⟩) (us.map turnedV) := hU
              clear hT
              refine wpAnyH_take (i := 0) (v := ?_) rfl (by kernel_rfl) (by kernel_rfl) (by kernel_rfl) (fun _ _ _ h => h) (Or.inl ⟨by rfl, ?hy⟩) hHeld ?_
              case hy =>
                intro w hSw
                (try dsimp only at hSw)
                go_simp
                (try with_reducible rfl)
              try simp only [Act.put, List.getElem_toArray, List.getElem_cons_succ, List.getElem_cons_zero, List.setIfInBounds_toArray, List.set_cons_zero, List.set_cons_succ]
              refine wpAnyH_take (i := 1) (v := ?_) rfl (by kernel_rfl) (by kernel_rfl) (by kernel_rfl) (fun _ _ _ h => h) (Or.inl ⟨by rfl, ?hy⟩) hHeld ?_
              case hy =>
                intro w hSw
                (try dsimp only at hSw)
                go_simp
                (try with_reducible rfl)
              try simp only [Act.put, List.getElem_toArray, List.getElem_cons_succ, List.getElem_cons_zero, List.setIfInBounds_toArray, List.set_cons_zero, List.set_cons_succ]
              refine wpAnyH_take (i := 2) (v := ?_) rfl (by kernel_rfl) (by kernel_rfl) (by kernel_rfl) (fun _ _ _ h => h) (Or.inl ⟨by rfl, ?hy⟩) hHeld ?_
              case hy =>
                intro w hSw
                (try dsimp only at hSw)
                go_simp
                (try with_reducible rfl)
              try simp only [Act.put, List.getElem_toArray, List.getElem_cons_succ, List.getElem_cons_zero, List.setIfInBounds_toArray, List.set_cons_zero, List.set_cons_succ]
              refine wpAnyH_take (i := 3) (v := ?_) rfl (by kernel_rfl) (by kernel_rfl) (by kernel_rfl) (fun _ _ _ h => h) (Or.inl ⟨by rfl, ?hy⟩) hHeld ?_
              case hy =>
                intro w hSw
                (try dsimp only at hSw)
                go_simp
                (try with_reducible rfl)
              try simp only [Act.put, List.getElem_toArray, List.getElem_cons_succ, List.getElem_cons_zero, List.setIfInBounds_toArray, List.set_cons_zero, List.set_cons_succ]
              refine wpAnyH_take (i := 4) (v := ?_) rfl (by kernel_rfl) (by kernel_rfl) (by kernel_rfl) (fun _ _ _ h => h) (Or.inl ⟨by rfl, ?hy⟩) hHeld ?_
              case hy =>
                intro w hSw
                (try dsimp only at hSw)
                go_simp
                (try with_reducible rfl)
              try simp only [Act.put, List.getElem_toArray, List.getElem_cons_succ, List.getElem_cons_zero, List.setIfInBounds_toArray, List.set_cons_zero, List.set_cons_succ]
              refine wpAnyH_take (i := 5) (v := ?_) rfl (by kernel_rfl) (by kernel_rfl) (by kernel_rfl) (fun _ _ _ h => h) (Or.inl ⟨by rfl, ?hy⟩) hHeld ?_
              case hy =>
                intro w hSw
                (try dsimp only at hSw)
                go_simp
                (try with_reducible rfl)
              try simp only [Act.put, List.getElem_toArray, List.getElem_cons_succ, List.getElem_cons_zero, List.setIfInBounds_toArray, List.set_cons_zero, List.set_cons_succ]
              refine wpAnyH_take (i := 6) (v := ?_) rfl (by kernel_rfl) (by kernel_rfl) (by kernel_rfl) (fun _ _ _ h => h) (Or.inl ⟨by rfl, ?hy⟩) hHeld ?_
              case hy =>
                intro w hSw
                (try dsimp only at hSw)
                go_simp
                (try with_reducible rfl)
              try simp only [Act.put, List.getElem_toArray, List.getElem_cons_succ, List.getElem_cons_zero, List.setIfInBounds_toArray, List.set_cons_zero, List.set_cons_succ]
              refine wpAnyH_take (i := 7) (v := ?_) rfl (by kernel_rfl) (by kernel_rfl) (by kernel_rfl) (fun _ _ _ h => h) (Or.inl ⟨by rfl, ?hy⟩) hHeld ?_
              case hy =>
                intro w hSw
                (try dsimp only at hSw)
                go_simp
                (try with_reducible rfl)
              try simp only [Act.put, List.getElem_toArray, List.getElem_cons_succ, List.getElem_cons_zero, List.setIfInBounds_toArray, List.set_cons_zero, List.set_cons_succ]
              refine wpAnyH_take (i := 8) (v := ?_) rfl (by kernel_rfl) (by kernel_rfl) (by kernel_rfl) (fun _ _ _ h => h) (Or.inl ⟨by rfl, ?hy⟩) hHeld ?_
              case hy =>
                intro w hSw
                (try dsimp only at hSw)
                go_simp
                (try with_reducible rfl)
              try simp only [Act.put, List.getElem_toArray, List.getElem_cons_succ, List.getElem_cons_zero, List.setIfInBounds_toArray, List.set_cons_zero, List.set_cons_succ]
              refine wpAnyH_ready (rs := [9]) (by kernel_rfl) (by simp) ?_
              refine AllReadyH.cons rfl (fun K hK => ?_) AllReadyH.nil
              have hOld := hHeld
              clear hHeld
              go_simp
              refine (C3.out _).mono ?_
              rintro r wg ⟨rfl, hbw⟩
              dsimp only
              replace hW := below_to hW hbw
              replace hM := Blk.past hM hbw
              replace hH := vecs_past hH hbw
              replace hU := vecs_past hU hbw
              refine hK.out _ _ (nine_past hbw hOld) (fun hHeld => ?_)
              clear hK K hOld
              try simp only [Act.put, List.getElem_toArray, List.getElem_cons_succ, List.getElem_cons_zero, List.setIfInBounds_toArray, List.set_cons_zero, List.set_cons_succ]
              clear hbw
              refine wpAnyH_ready (rs := [10]) (by kernel_rfl) (by simp) ?_
              refine AllReadyH.cons rfl (fun K hK => ?_) AllReadyH.nil
              have hOld := hHeld
              clear hHeld
              go_simp
              refine (C2.out _).mono ?_
              rintro r wh ⟨rfl, hbw⟩
              dsimp only
              replace hW := below_to hW hbw
              replace hM := Blk.past hM hbw
              replace hH := vecs_past hH hbw
              replace hU := vecs_past hU hbw
              refine hK.out _ _ (nine_past hbw hOld) (fun hHeld => ?_)
              clear hK K hOld
              try simp only [Act.put, List.getElem_toArray, List.getElem_cons_succ, List.getElem_cons_zero, List.setIfInBounds_toArray, List.set_cons_zero, List.set_cons_succ]
              clear hbw
              refine wpAnyH_take (i := 11) (v := ?_) rfl (by kernel_rfl) (by kernel_rfl) (by kernel_rfl) (fun _ _ _ h => h) (Or.inl ⟨by rfl, ?hy⟩) hHeld ?_
              case hy =>
                intro w hSw
                (try dsimp only at hSw)
                go_simp
                (try with_reducible rfl)
              try simp only [Act.put, List.getElem_toArray, List.getElem_cons_succ, List.getElem_cons_zero, List.setIfInBounds_toArray, List.set_cons_zero, List.set_cons_succ]
              refine wpAnyH_take (i := 12) (v := ?_) rfl (by kernel_rfl) (by kernel_rfl) (by kernel_rfl) (fun _ _ _ h => h) (Or.inl ⟨by rfl, ?hy⟩) hHeld ?_
              case hy =>
                intro w hSw
                (try dsimp only at hSw)
                go_simp
                (try with_reducible rfl)
              try simp only [Act.put, List.getElem_toArray, List.getElem_cons_succ, List.getElem_cons_zero, List.setIfInBounds_toArray, List.set_cons_zero, List.set_cons_succ]
              refine wpAnyH_take (i := 13) (v := ?_) rfl (by kernel_rfl) (by kernel_rfl) (by kernel_rfl) (fun _ _ _ h => h) (Or.inl ⟨by rfl, ?hy⟩) hHeld ?_
              case hy =>
                intro w hSw
                (try dsimp only at hSw)
                go_simp
                (try with_reducible rfl)
              try simp only [Act.put, List.getElem_toArray, List.getElem_cons_succ, List.getElem_cons_zero, List.setIfInBounds_toArray, List.set_cons_zero, List.set_cons_succ]
              refine wpAnyH_take (i := 14) (v := ?_) rfl (by kernel_rfl) (by kernel_rfl) (by kernel_rfl) (fun _ _ _ h => h) (Or.inl ⟨by rfl, ?hy⟩) hHeld ?_
              case hy =>
                intro w hSw
                (try dsimp only at hSw)
                go_simp
                (try with_reducible rfl)
              try simp only [Act.put, List.getElem_toArray, List.getElem_cons_succ, List.getElem_cons_zero, List.setIfInBounds_toArray, List.set_cons_zero, List.set_cons_succ]
              refine wpAnyH_take (i := 15) (v := ?_) rfl (by kernel_rfl) (by kernel_rfl) (by kernel_rfl) (fun _ _ _ h => h) (Or.inl ⟨by rfl, ?hy⟩) hHeld ?_
              case hy =>
                intro w hSw
                (try dsimp only at hSw)
                go_simp
                (try with_reducible rfl)
              try simp only [Act.put, List.getElem_toArray, List.getElem_cons_succ, List.getElem_cons_zero, List.setIfInBounds_toArray, List.set_cons_zero, List.set_cons_succ]
              refine wpAnyH_take (i := 16) (v := ?_) rfl (by kernel_rfl) (by kernel_rfl) (by kernel_rfl) (fun _ _ _ h => h) (Or.inl ⟨by rfl, ?hy⟩) hHeld ?_
              case hy =>
                intro w hSw
                (try dsimp only at hSw)
                go_simp
                (try with_reducible rfl)
              try simp only [Act.put, List.getElem_toArray, List.getElem_cons_succ, List.getElem_cons_zero, List.setIfInBounds_toArray, List.set_cons_zero, List.set_cons_succ]
              refine wpAnyH_take (i := 17) (v := ?_) rfl (by kernel_rfl) (by kernel_rfl) (by kernel_rfl) (fun _ _ _ h => h) (Or.inl ⟨by rfl, ?hy⟩) hHeld ?_
              case hy =>
                intro w hSw
                (try dsimp only at hSw)
                go_simp
                (try with_reducible rfl)
              try simp only [Act.put, List.getElem_toArray, List.getElem_cons_succ, List.getElem_cons_zero, List.setIfInBounds_toArray, List.set_cons_zero, List.set_cons_succ]
              refine wpAnyH_done (by kernel_rfl) ?_ _
              simp only [Exit.then]
              clear hHeld
              go_wp2_with fail
              go_roundw
              case rel => exact ⟨k + 1, by omega, by omega, by first | rfl | go_num, hM, hW, hH, hU⟩
              case measure => simp [intOf]; omega
            · go_wp2_with fail
              all_goals
                refine (works20 _).mono ?_
                rintro r wz ⟨rfl, hb⟩; dsimp only
                have hW2 := below_to hW hb
                go_wp2_with fail
                go_ret
                exact ⟨rfl, hW2⟩
theorem ScoreTurns_walk (A : Option Addr) (n ca : Nat) (hs : List Vec) (hl : hs.length = n) (_hn : n * 24 ≤ 140737488351232) (hok : ∀ x ∈ hs, x.ok) {w : World} (hA : VecsIn w A hs) (B : Option Addr) (n2 cb : Nat) (us : List Vec) (ul : us.length = n2) (_hn2 : n2 * 24 ≤ 140737488351232) (uok : ∀ x ∈ us, x.ok) (hB : VecsIn w B us) (m : Vec) (mok : m.ok) :
    Calls Try.prog 13 #[.slice A n ca, .slice B n2 cb, m.v] w fun r w' => r = .returned (.bool true) ∧ Below w.heap.size w w' := ScoreTurns_in A B n n2 ca cb hs us m hl ul hok uok mok w hA hB
end Go.Proofs.Ytbamgoocgmhohaa
