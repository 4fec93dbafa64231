/- Scores: the reference's Score and Best, walked. Conditions: what is scored may be. -/
import Derived.Test.YtbamgoocgmhohaaSc2
namespace Go.Proofs.Ytbamgoocgmhohaa
open Go.RowKit

theorem scoreN_bd {x y z : Vec} (h : mayS x y z = true) : 0 ≤ scoreN x y z ∧ scoreN x y z ≤ 3000 := by
  unfold mayS at h
  simp only [Bool.and_eq_true] at h
  obtain ⟨hx, hy, hz⟩ := h
  rw [mayV_spec] at hx hz
  rw [mayUseV_spec] at hy
  unfold scoreN
  split
  · unfold fillN sumVec
    have b0 := fullN_bd (h := x.cpu) (u := y.cpu + z.cpu) (by omega) (by omega)
    have b1 := fullN_bd (h := x.mem) (u := y.mem + z.mem) (by omega) (by omega)
    have b2 := fullN_bd (h := x.disk) (u := y.disk + z.disk) (by omega) (by omega)
    dsimp only
    omega
  · omega
set_option maxHeartbeats 400000 in
theorem rs_Score (x y z : Vec) (h : mayS x y z = true) (w : World) : Calls Try.prog 43 #[x.v, y.v, z.v] w fun e w' => e = .returned (.tuple #[.int .i64 (scoreN x y z), .bool (standsV x y z)]) ∧ Below w.heap.size w w' := by
  have h' := h
  unfold mayS at h'
  simp only [Bool.and_eq_true] at h'
  obtain ⟨hx, hy, hz⟩ := h'
  have hS : standsV x y z = true → mayUseV (sumVec y z) = true := fun hs => sum_use hx hy hz hs
  have c5 := fun w => ref_Fits (sumVec y z) x w
  have c6 := fun (hs : standsV x y z = true) w => rs_Fill x (sumVec y z) hx (hS hs) w
  rw [mayV_spec] at hz
  rw [mayUseV_spec] at hy
  obtain ⟨N, hN⟩ : ∃ N, N = scoreN x y z := ⟨_, rfl⟩
  obtain ⟨f, hf⟩ : ∃ f, f = standsV x y z := ⟨_, rfl⟩
  rw [← hN, ← hf]
  unfold scoreN at hN
  rw [← hf] at c6 hN
  rw [← show standsV x y z = fitsV (sumVec y z) x from rfl, ← hf] at c5
  clear hx h hS hf
  obtain ⟨x0, x1, x2⟩ := x
  obtain ⟨y0, y1, y2⟩ := y
  obtain ⟨z0, z1, z2⟩ := z
  simp only [sumVec] at *
  obtain ⟨s0, e0⟩ : ∃ s, s = y0 + z0 := ⟨_, rfl⟩
  obtain ⟨s1, e1⟩ : ∃ s, s = y1 + z1 := ⟨_, rfl⟩
  obtain ⟨s2, e2⟩ : ∃ s, s = y2 + z2 := ⟨_, rfl⟩
  have w0 : wrap64 (y0 + z0) = s0 := by unfold wrap64; omega
  have w1 : wrap64 (y1 + z1) = s1 := by unfold wrap64; omega
  have w2 : wrap64 (y2 + z2) = s2 := by unfold wrap64; omega
  rw [← e0, ← e1, ← e2] at c5 c6 hN
  clear hy hz e0 e1 e2
  generalize fillN ⟨x0, x1, x2⟩ ⟨s0, s1, s2⟩ = M at *
  dsimp only [Vec.v] at c5 c6
  cases f
  · obtain rfl : N = 0 := by simpa using hN
    have C5 := Lib.hid c5
    clear c5 c6 hN
    go_enter Try.func43, Try.ntmps43
    go_wp2_with fail
    refine (C5.out _).mono ?_
    rintro r w1' ⟨rfl, hb1⟩; dsimp only
    have hB : Below w.heap.size w w1' := below_to (by go_grown) hb1
    go_wp2_with fail
    refine bodyPost_ret (v := .tuple #[.int .i64 0, .bool false]) (by simp [results, Try.results43, go_sem]) rfl ?_
    exact ⟨rfl, hB⟩
  · obtain rfl : N = M := by simpa using hN
    have C5 := Lib.hid c5
    have C6 := Lib.hid (c6 rfl)
    clear c5 c6 hN
    go_enter Try.func43, Try.ntmps43
    have E2 := Blk.new (((w.alloc (.cells #[.int .i64 x0, .int .i64 x1, .int .i64 x2] 25)).alloc (.cells #[.int .i64 y0, .int .i64 y1, .int .i64 y2] 25)).alloc (.cells #[.int .i64 z0, .int .i64 z1, .int .i64 z2] 25)) 25 #[.int .i64 s0, .int .i64 s1, .int .i64 s2]
    simp only [World.size_alloc] at E2
    have B1 := (((Blk.new w 25 #[.int .i64 x0, .int .i64 x1, .int .i64 x2]).alloc (.cells #[.int .i64 y0, .int .i64 y1, .int .i64 y2] 25)).alloc (.cells #[.int .i64 z0, .int .i64 z1, .int .i64 z2] 25))
    go_wp2_with fail
    refine (C5.out _).mono ?_
    rintro r w1' ⟨rfl, hb1⟩; dsimp only
    have hB : Below w.heap.size w w1' := below_to (by go_grown) hb1
    have D1 : Blk w1' w.heap.size 25 #[.int .i64 x0, .int .i64 x1, .int .i64 x2] := Blk.past (B1.alloc _) hb1
    have D2 : Blk w1' (w.heap.size + 1 + 1 + 1) 25 #[.int .i64 s0, .int .i64 s1, .int .i64 s2] := Blk.past E2 hb1
    obtain ⟨q1, q2, -⟩ := D1.facts
    obtain ⟨q3, q4, -⟩ := D2.facts
    clear E2 B1 hb1
    go_wp2_with fail
    refine (C6.out _).mono ?_
    rintro r w2' ⟨rfl, hb2⟩; dsimp only
    replace hB := below_to hB hb2
    go_wp2_with fail
    refine bodyPost_ret (v := .tuple #[.int .i64 N, .bool true]) (by simp [results, Try.results43, go_sem]) rfl ?_
    exact ⟨rfl, hB⟩
def scAt (hs us : List Vec) (m : Vec) (i : Nat) : Int := scoreN (hs.getD i zeroV) (us.getD i zeroV) m
def stAt (hs us : List Vec) (m : Vec) (i : Nat) : Bool := standsV (hs.getD i zeroV) (us.getD i zeroV) m
def mayAt (hs us : List Vec) (m : Vec) (i : Nat) : Bool := mayS (hs.getD i zeroV) (us.getD i zeroV) m
def betterP (hs us : List Vec) (m : Vec) (p : Int × Nat) (i : Nat) : Int × Nat := if p.1 < scAt hs us m i then (scAt hs us m i, i) else p
def scored (hs us : List Vec) (m : Vec) (k : Nat) : List Nat := (List.range k).filter (stAt hs us m)
def bestF (hs us : List Vec) (m : Vec) (l : List Nat) : Int × Nat := l.foldl (betterP hs us m) (-1, 0)
theorem bestF_snoc (hs us : List Vec) (m : Vec) (l : List Nat) (i : Nat) : bestF hs us m (l ++ [i]) = betterP hs us m (bestF hs us m l) i := by simp [bestF]
theorem scored_succ (hs us : List Vec) (m : Vec) (k : Nat) : scored hs us m (k + 1) = if stAt hs us m k then scored hs us m k ++ [k] else scored hs us m k := by
  unfold scored
  rw [List.range_succ, List.filter_append]
  cases h : stAt hs us m k <;> simp [h]
theorem cell_past {w w' : World} {p : Addr} {v : Value} (hb : Below w.heap.size w w') (h : w.cell? p = some v) : w'.cell? p = some v := (hb.cell (World.block_lt_of_cell? _ _ h)).trans h
theorem nine_past {w w' : World} {p0 p1 p2 p3 p4 p5 p6 p7 p8 : Addr} {v0 v1 v2 v3 v4 v5 v6 v7 v8 : Value} (hb : Below w.heap.size w w')
    (h : (w.cell? p0 = some v0 ∧ w.cell? p1 = some v1 ∧ w.cell? p2 = some v2) ∧ (w.cell? p3 = some v3 ∧ w.cell? p4 = some v4 ∧ w.cell? p5 = some v5) ∧ (w.cell? p6 = some v6 ∧ w.cell? p7 = some v7 ∧ w.cell? p8 = some v8)) :
    (w'.cell? p0 = some v0 ∧ w'.cell? p1 = some v1 ∧ w'.cell? p2 = some v2) ∧ (w'.cell? p3 = some v3 ∧ w'.cell? p4 = some v4 ∧ w'.cell? p5 = some v5) ∧ (w'.cell? p6 = some v6 ∧ w'.cell? p7 = some v7 ∧ w'.cell? p8 = some v8) :=
  ⟨⟨cell_past hb h.1.1, cell_past hb h.1.2.1, cell_past hb h.1.2.2⟩, ⟨cell_past hb h.2.1.1, cell_past hb h.2.1.2.1, cell_past hb h.2.1.2.2⟩, cell_past hb h.2.2.1, cell_past hb h.2.2.2.1, cell_past hb h.2.2.2.2⟩
theorem getD_of {α : Type} (l : List α) (k : Nat) (d : α) (h : k < l.length) : l.getD k d = l[k] := by simp [List.getD, h]
set_option maxHeartbeats 400000 in
theorem rs_Best (A B : Option Addr) (n ca cb : Nat) (hs us : List Vec) (m : Vec) (w : World) (hl : hs.length = n) (ul : us.length = n) (hn : n ≤ 1000000) (hA : VecsIn w A hs) (hB : VecsIn w B us) (hm : ∀ i, i < n → mayAt hs us m i = true) :
    Calls Try.prog 45 #[.slice A n ca, .slice B n cb, m.v] w fun e w' => e = .returned (.tuple #[.int .i64 (bestF hs us m (scored hs us m n)).2, .bool (decide (0 ≤ (bestF hs us m (scored hs us m n)).1))]) ∧ Below w.heap.size w w' := by
  have HA := Lib.hid hA
  have HB := Lib.hid hB
  have HM := Lib.hid hm
  clear hA hB hm
  obtain ⟨m0, m1, m2⟩ := m
  go_enter Try.func45, Try.ntmps45
  go_wp2
  have hW : Below w.heap.size w (w.alloc (.cells #[.int .i64 m0, .int .i64 m1, .int .i64 m2] 25)) := by go_grown
  have hM := Blk.new w 25 #[.int .i64 m0, .int .i64 m1, .int .i64 m2]
  refine wp_world (fun W => Blk W w.heap.size 25 #[.int .i64 m0, .int .i64 m1, .int .i64 m2] ∧ Below w.heap.size w W) ⟨hM, hW⟩ ?_
  clear hM hW
  rintro W ⟨hM, hW⟩
  go_loopw [8, 9, 10, 11, 12] (fun b a i _ _ wr => ∃ k : Nat, k ≤ n ∧ i = .int .i64 k ∧ a = .int .i64 (bestF hs us ⟨m0, m1, m2⟩ (scored hs us ⟨m0, m1, m2⟩ k)).2 ∧ b = .int .i64 (bestF hs us ⟨m0, m1, m2⟩ (scored hs us ⟨m0, m1, m2⟩ k)).1 ∧ Blk wr w.heap.size 25 #[.int .i64 m0, .int .i64 m1, .int .i64 m2] ∧ Below w.heap.size w wr) (fun _ _ i _ _ _ => n - (intOf i).toNat)
  case atStart => exact ⟨0, Nat.zero_le _, rfl, rfl, rfl, hM, hW⟩
  case round =>
    clear hM hW
    obtain ⟨k, hk, rfl, rfl, rfl, hM, hW⟩ := hrel
    by_cases hlt : k < n
    · obtain ⟨b, off, rfl, hb, hcell⟩ := HA.out (by intro e; rw [e] at hl; simp at hl; omega)
      obtain ⟨k0, k1, k2⟩ := hcell k (by omega)
      obtain ⟨b', off', rfl, hb', hcell'⟩ := HB.out (by intro e; rw [e] at ul; simp at ul; omega)
      obtain ⟨u0, u1, u2⟩ := hcell' k (by omega)
      clear hcell hcell'
      have hms := HM.out k hlt
      have hsc := scored_succ hs us ⟨m0, m1, m2⟩ k
      have hss := bestF_snoc hs us ⟨m0, m1, m2⟩ (scored hs us ⟨m0, m1, m2⟩ k) k
      unfold betterP at hss
      unfold mayAt at hms
      have c := fun w => rs_Score _ _ _ hms w
      rw [← show scAt hs us ⟨m0, m1, m2⟩ k = scoreN (hs.getD k zeroV) (us.getD k zeroV) ⟨m0, m1, m2⟩ from rfl, ← show stAt hs us ⟨m0, m1, m2⟩ k = standsV (hs.getD k zeroV) (us.getD k zeroV) ⟨m0, m1, m2⟩ from rfl] at c
      rw [getD_of _ _ _ (by omega), getD_of _ _ _ (by omega)] at c
      generalize scAt hs us ⟨m0, m1, m2⟩ k = sc at *
      generalize stAt hs us ⟨m0, m1, m2⟩ k = st at *
      generalize hs[k] = x at *
      generalize us[k] = y at *
      obtain ⟨x0, x1, x2⟩ := x
      obtain ⟨y0, y1, y2⟩ := y
      dsimp only [Vec.v] at c k0 k1 k2 u0 u1 u2
      have C := Lib.hid c
      replace hsc := Lib.hid hsc
      replace hss := Lib.hid hss
      clear c hms
      have j0 := (hW.cell (p := ⟨b, off + k * 3, none⟩) hb).trans k0
      have j1 := (hW.cell (p := ⟨b, off + k * 3 + 1, none⟩) hb).trans k1
      have j2 := (hW.cell (p := ⟨b, off + k * 3 + 2, none⟩) hb).trans k2
      have v0 := (hW.cell (p := ⟨b', off' + k * 3, none⟩) hb').trans u0
      have v1 := (hW.cell (p := ⟨b', off' + k * 3 + 1, none⟩) hb').trans u1
      have v2 := (hW.cell (p := ⟨b', off' + k * 3 + 2, none⟩) hb').trans u2
      clear k0 k1 k2 u0 u1 u2
      go_wp2_with fail
      refine wp_region_held0 (S := fun w' => (w'.cell? ⟨b, off + k * 3, none⟩ = some (.int .i64 x0) ∧ w'.cell? ⟨b, off + k * 3 + 1, none⟩ = some (.int .i64 x1) ∧ w'.cell? ⟨b, off + k * 3 + 2, none⟩ = some (.int .i64 x2)) ∧ (w'.cell? ⟨b', off' + k * 3, none⟩ = some (.int .i64 y0) ∧ w'.cell? ⟨b', off' + k * 3 + 1, none⟩ = some (.int .i64 y1) ∧ w'.cell? ⟨b', off' + k * 3 + 2, none⟩ = some (.int .i64 y2)) ∧ (w'.cell? ⟨w.heap.size, 0, none⟩ = some (.int .i64 m0) ∧ w'.cell? ⟨w.heap.size, 1, none⟩ = some (.int .i64 m1) ∧ w'.cell? ⟨w.heap.size, 2, none⟩ = some (.int .i64 m2))) (by kernel_rfl) ⟨⟨j0, j1, j2⟩, ⟨v0, v1, v2⟩, hM.cell 0, hM.cell 1, hM.cell 2⟩ (fun hHeld => ?_)
      refine wpAnyH_take (i := 0) (v := ?_) rfl (by kernel_rfl) (by kernel_rfl) (by kernel_rfl) (fun _ _ _ h => h) (Or.inl ⟨by rfl, ?hy⟩) hHeld ?_
      case hy =>
        intro w hSw
        (try dsimp only at hSw)
        go_simp
        (try with_reducible rfl)
      try simp only [Act.put, List.getElem_toArray, List.getElem_cons_succ, List.getElem_cons_zero, List.setIfInBounds_toArray, List.set_cons_zero, List.set_cons_succ]
      refine wpAnyH_take (i := 1) (v := ?_) rfl (by kernel_rfl) (by kernel_rfl) (by kernel_rfl) (fun _ _ _ h => h) (Or.inl ⟨by rfl, ?hy⟩) hHeld ?_
      case hy =>
        intro w hSw
        (try dsimp only at hSw)
        go_simp
        (try with_reducible rfl)
      try simp only [Act.put, List.getElem_toArray, List.getElem_cons_succ, List.getElem_cons_zero, List.setIfInBounds_toArray, List.set_cons_zero, List.set_cons_succ]
      refine wpAnyH_take (i := 2) (v := ?_) rfl (by kernel_rfl) (by kernel_rfl) (by kernel_rfl) (fun _ _ _ h => h) (Or.inl ⟨by rfl, ?hy⟩) hHeld ?_
      case hy =>
        intro w hSw
        (try dsimp only at hSw)
        go_simp
        (try with_reducible rfl)
      try simp only [Act.put, List.getElem_toArray, List.getElem_cons_succ, List.getElem_cons_zero, List.setIfInBounds_toArray, List.set_cons_zero, List.set_cons_succ]
      refine wpAnyH_take (i := 3) (v := ?_) rfl (by kernel_rfl) (by kernel_rfl) (by kernel_rfl) (fun _ _ _ h => h) (Or.inl ⟨by rfl, ?hy⟩) hHeld ?_
      case hy =>
        intro w hSw
        (try dsimp only at hSw)
        go_simp
        (try with_reducible rfl)
      try simp only [Act.put, List.getElem_toArray, List.getElem_cons_succ, List.getElem_cons_zero, List.setIfInBounds_toArray, List.set_cons_zero, List.set_cons_succ]
      refine wpAnyH_take (i := 4) (v := ?_) rfl (by kernel_rfl) (by kernel_rfl) (by kernel_rfl) (fun _ _ _ h => h) (Or.inl ⟨by rfl, ?hy⟩) hHeld ?_
      case hy =>
        intro w hSw
        (try dsimp only at hSw)
        go_simp
        (try with_reducible rfl)
      try simp only [Act.put, List.getElem_toArray, List.getElem_cons_succ, List.getElem_cons_zero, List.setIfInBounds_toArray, List.set_cons_zero, List.set_cons_succ]
      refine wpAnyH_take (i := 5) (v := ?_) rfl (by kernel_rfl) (by kernel_rfl) (by kernel_rfl) (fun _ _ _ h => h) (Or.inl ⟨by rfl, ?hy⟩) hHeld ?_
      case hy =>
        intro w hSw
        (try dsimp only at hSw)
        go_simp
        (try with_reducible rfl)
      try simp only [Act.put, List.getElem_toArray, List.getElem_cons_succ, List.getElem_cons_zero, List.setIfInBounds_toArray, List.set_cons_zero, List.set_cons_succ]
      refine wpAnyH_take (i := 6) (v := ?_) rfl (by kernel_rfl) (by kernel_rfl) (by kernel_rfl) (fun _ _ _ h => h) (Or.inl ⟨by rfl, ?hy⟩) hHeld ?_
      case hy =>
        intro w hSw
        (try dsimp only at hSw)
        go_simp
        (try with_reducible rfl)
      try simp only [Act.put, List.getElem_toArray, List.getElem_cons_succ, List.getElem_cons_zero, List.setIfInBounds_toArray, List.set_cons_zero, List.set_cons_succ]
      refine wpAnyH_take (i := 7) (v := ?_) rfl (by kernel_rfl) (by kernel_rfl) (by kernel_rfl) (fun _ _ _ h => h) (Or.inl ⟨by rfl, ?hy⟩) hHeld ?_
      case hy =>
        intro w hSw
        (try dsimp only at hSw)
        go_simp
        (try with_reducible rfl)
      try simp only [Act.put, List.getElem_toArray, List.getElem_cons_succ, List.getElem_cons_zero, List.setIfInBounds_toArray, List.set_cons_zero, List.set_cons_succ]
      refine wpAnyH_take (i := 8) (v := ?_) rfl (by kernel_rfl) (by kernel_rfl) (by kernel_rfl) (fun _ _ _ h => h) (Or.inl ⟨by rfl, ?hy⟩) hHeld ?_
      case hy =>
        intro w hSw
        (try dsimp only at hSw)
        go_simp
        (try with_reducible rfl)
      try simp only [Act.put, List.getElem_toArray, List.getElem_cons_succ, List.getElem_cons_zero, List.setIfInBounds_toArray, List.set_cons_zero, List.set_cons_succ]
      refine wpAnyH_ready (rs := [9]) (by kernel_rfl) (by simp) ?_
      refine AllReadyH.cons rfl (fun K hK => ?_) AllReadyH.nil
      have hOld := hHeld
      clear hHeld
      go_simp
      refine (C.out _).mono ?_
      rintro r ww ⟨rfl, hbw⟩
      dsimp only
      refine hK.out _ _ (nine_past hbw hOld) (fun hHeld => ?_)
      clear hK K hOld
      try simp only [Act.put, List.getElem_toArray, List.getElem_cons_succ, List.getElem_cons_zero, List.setIfInBounds_toArray, List.set_cons_zero, List.set_cons_succ]
      refine wpAnyH_take (i := 10) (v := ?_) rfl (by kernel_rfl) (by kernel_rfl) (by kernel_rfl) (fun _ _ _ h => h) (Or.inl ⟨by rfl, ?hy⟩) hHeld ?_
      case hy =>
        intro w hSw
        (try dsimp only at hSw)
        go_simp
        (try with_reducible rfl)
      try simp only [Act.put, List.getElem_toArray, List.getElem_cons_succ, List.getElem_cons_zero, List.setIfInBounds_toArray, List.set_cons_zero, List.set_cons_succ]
      refine wpAnyH_take (i := 11) (v := ?_) rfl (by kernel_rfl) (by kernel_rfl) (by kernel_rfl) (fun _ _ _ h => h) (Or.inl ⟨by rfl, ?hy⟩) hHeld ?_
      case hy =>
        intro w hSw
        (try dsimp only at hSw)
        go_simp
        (try with_reducible rfl)
      try simp only [Act.put, List.getElem_toArray, List.getElem_cons_succ, List.getElem_cons_zero, List.setIfInBounds_toArray, List.set_cons_zero, List.set_cons_succ]
      refine wpAnyH_take (i := 12) (v := ?_) rfl (by kernel_rfl) (by kernel_rfl) (by kernel_rfl) (fun _ _ _ h => h) (Or.inl ⟨by rfl, ?hy⟩) hHeld ?_
      case hy =>
        intro w hSw
        (try dsimp only at hSw)
        go_simp
        (try with_reducible rfl)
      try simp only [Act.put, List.getElem_toArray, List.getElem_cons_succ, List.getElem_cons_zero, List.setIfInBounds_toArray, List.set_cons_zero, List.set_cons_succ]
      refine wpAnyH_take (i := 13) (v := ?_) rfl (by kernel_rfl) (by kernel_rfl) (by kernel_rfl) (fun _ _ _ h => h) (Or.inl ⟨by rfl, ?hy⟩) hHeld ?_
      case hy =>
        intro w hSw
        (try dsimp only at hSw)
        go_simp
        (try with_reducible rfl)
      try simp only [Act.put, List.getElem_toArray, List.getElem_cons_succ, List.getElem_cons_zero, List.setIfInBounds_toArray, List.set_cons_zero, List.set_cons_succ]
      refine wpAnyH_take (i := 14) (v := ?_) rfl (by kernel_rfl) (by kernel_rfl) (by kernel_rfl) (fun _ _ _ h => h) (Or.inl ⟨by rfl, ?hy⟩) hHeld ?_
      case hy =>
        intro w hSw
        (try dsimp only at hSw)
        go_simp
        (try with_reducible rfl)
      try simp only [Act.put, List.getElem_toArray, List.getElem_cons_succ, List.getElem_cons_zero, List.setIfInBounds_toArray, List.set_cons_zero, List.set_cons_succ]
      refine wpAnyH_done (by kernel_rfl) ?_ _
      simp only [Exit.then]
      have hW1 := below_to hW.drew hbw
      have hM1 : Blk ww w.heap.size 25 #[.int .i64 m0, .int .i64 m1, .int .i64 m2] := Blk.past hM.drew hbw
      clear j0 j1 j2 v0 v1 v2 hM hW hHeld
      cases st
      · have hnx : scored hs us ⟨m0, m1, m2⟩ (k + 1) = scored hs us ⟨m0, m1, m2⟩ k := by rw [hsc.out]; rfl
        replace hnx := Lib.hid hnx
        go_wp2_with fail
        go_roundw
        case rel => exact ⟨k + 1, by omega, by first | rfl | go_num, by rw [hnx.out], by rw [hnx.out], hM1, hW1⟩
        case measure => simp [intOf]; omega
      · by_cases hgt : (bestF hs us ⟨m0, m1, m2⟩ (scored hs us ⟨m0, m1, m2⟩ k)).1 < sc
        · have hnx : bestF hs us ⟨m0, m1, m2⟩ (scored hs us ⟨m0, m1, m2⟩ (k + 1)) = (sc, k) := by rw [hsc.out, if_pos rfl, hss.out, if_pos hgt]
          replace hnx := Lib.hid hnx
          go_wp2_with fail
          go_roundw
          case rel => exact ⟨k + 1, by omega, by first | rfl | go_num, by rw [hnx.out], by rw [hnx.out], hM1, hW1⟩
          case measure => simp [intOf]; omega
        · have hnx : bestF hs us ⟨m0, m1, m2⟩ (scored hs us ⟨m0, m1, m2⟩ (k + 1)) = bestF hs us ⟨m0, m1, m2⟩ (scored hs us ⟨m0, m1, m2⟩ k) := by rw [hsc.out, if_pos rfl, hss.out, if_neg hgt]
          replace hnx := Lib.hid hnx
          go_wp2_with fail
          go_roundw
          case rel => exact ⟨k + 1, by omega, by first | rfl | go_num, by rw [hnx.out], by rw [hnx.out], hM1, hW1⟩
          case measure => simp [intOf]; omega
    · obtain rfl : k = n := by omega
      go_wp2_with fail
      refine bodyPost_ret (v := .tuple #[.int .i64 (bestF hs us ⟨m0, m1, m2⟩ (scored hs us ⟨m0, m1, m2⟩ k)).2, .bool (decide (0 ≤ (bestF hs us ⟨m0, m1, m2⟩ (scored hs us ⟨m0, m1, m2⟩ k)).1))]) (by simp [results, Try.results45, go_sem]) rfl ?_
      exact ⟨rfl, hW⟩
end Go.Proofs.Ytbamgoocgmhohaa
