/- The law of layer 17: what always holds; no ledger. Conditions: none. -/
import Derived.Test.YtcjgblopcfcakaaQt9
import Derived.Test.YtcjgblopcfcakaaQt5
import Derived.Test.YtcjgblopcfcakaaEq
namespace Go.Proofs.Ytcjgblopcfcakaa
open Go.RowKit Go.MapKept

theorem Led.tight {w : World} {P : Nat} {S : Nat → Prop} {L : List Share} (h : Led w P S L) : Led w P (fun b => S b ∧ b < w.heap.size) L := by
  obtain ⟨M, es, clock, bx, hM, hp, hr, hS⟩ := h
  refine ⟨M, es, clock, bx, hM, hp, hr, fun b hb => ⟨hS b hb, ?_⟩⟩
  rcases List.mem_cons.1 hb with rfl | hb
  · exact hM.top.lt
  · rcases List.mem_cons.1 hb with rfl | hb
    · exact hM.ltM
    · obtain ⟨x, hx, rfl⟩ := List.mem_map.1 hb
      exact (hM.boxes x hx).lt
theorem SharesIn.kept {w w' : World} {S : Nat → Prop} {A : Option Addr} {xs : List Share} (h : SharesIn w A xs) (hk : OnlyS S w w') (hA : ∀ p, A = some p → ¬ S p.block) : SharesIn w' A xs := fun hne => by
  obtain ⟨b, off, rfl, hb, hc⟩ := h hne
  have hn := hA _ rfl
  have e : ∀ o, w'.cell? ⟨b, o, none⟩ = w.cell? ⟨b, o, none⟩ := fun o => World.cell?_of_block (hk.block b hb hn)
  exact ⟨b, off, rfl, Nat.lt_of_lt_of_le hb hk.size, fun i hi => by simpa only [e] using hc i hi⟩
theorem SharesIn.past {w w' : World} {A : Option Addr} {xs : List Share} (h : SharesIn w A xs) (hb : Below w.heap.size w w') : SharesIn w' A xs := h.kept (S := fun _ => False) (OnlyS.below hb) (fun _ _ h => h)
theorem law_all (n : Int) (w : World) : Calls Try.prog 22 #[.int .i64 n] w fun e w' => e = .returned (.agg #[.int .i64 n, .int .i64 n, .int .i64 n]) ∧ Below w.heap.size w w' := by
  go_enter Try.func22, Try.ntmps22
  go_wp2
  go_returns
  exact ⟨rfl, by go_grown⟩

abbrev annB : ByteArray := { data := #[97, 110, 110] }
abbrev bobB : ByteArray := { data := #[98, 111, 98] }
def annS (u : Int) : Share := ⟨annB, 1, ⟨5, 5, 5⟩, ⟨u, u, u⟩⟩
theorem get_ann (u : Int) : getS [annS u] annB 1 = some (annS u) := by
  have h : isK annB 1 (annS u) = true := isK_iff.2 ⟨rfl, rfl⟩
  unfold getS
  rw [List.find?_cons_of_pos h]
theorem upd_ann (u : Int) (f : Share → Share) : updS [annS u] annB 1 f = [f (annS u)] := by
  show [if isK annB 1 (annS u) = true then f (annS u) else annS u] = _
  have h : isK annB 1 (annS u) = true := isK_iff.2 ⟨rfl, rfl⟩
  rw [if_pos h]
theorem ann_set : setE [] annB 1 ⟨5, 5, 5⟩ = 0 ∧ setL [] annB 1 ⟨5, 5, 5⟩ = [annS 0] := by
  have h : setE [] annB 1 ⟨5, 5, 5⟩ = 0 := by decide +kernel
  exact ⟨h, by unfold setL; rw [if_pos h]; rfl⟩
theorem ann_take : onE [annS 0] annB 1 (fun s => takeR s ⟨3, 3, 3⟩) = 0 ∧ onL [annS 0] annB 1 (fun s => takeS s ⟨3, 3, 3⟩) = [annS 3] := by
  unfold onE onL
  rw [get_ann, upd_ann]
  exact ⟨by decide +kernel, by decide +kernel⟩
theorem ann_over : onE [annS 3] annB 1 (fun s => takeR s ⟨3, 0, 0⟩) = 220 ∧ onL [annS 3] annB 1 (fun s => takeS s ⟨3, 0, 0⟩) = [annS 3] := by
  unfold onE onL
  rw [get_ann, upd_ann]
  exact ⟨by decide +kernel, by decide +kernel⟩
theorem ann_left : leftE [annS 3] annB 1 = 0 ∧ leftL [annS 3] annB 1 = ⟨2, 2, 2⟩ := by
  unfold leftE leftL
  rw [get_ann]
  exact ⟨rfl, by decide +kernel⟩
theorem ann_bob : onE [annS 3] bobB 1 (fun s => takeR s zeroV) = 5 ∧ onL [annS 3] bobB 1 (fun s => takeS s zeroV) = [annS 3] := by
  have h : getS [annS 3] bobB 1 = none := by decide +kernel
  unfold onE onL
  rw [h]
  exact ⟨rfl, rfl⟩
theorem ann_give : onE [annS 3] annB 1 (fun s => giveR s ⟨3, 3, 3⟩) = 0 ∧ onL [annS 3] annB 1 (fun s => giveS s ⟨3, 3, 3⟩) = [annS 0] := by
  unfold onE onL
  rw [get_ann, upd_ann]
  exact ⟨by decide +kernel, by decide +kernel⟩
set_option maxHeartbeats 4000000 in
theorem law17_alive (w : World) : Calls Try.prog 8 #[] w fun e w' => e = .returned (.bool true) ∧ Below w.heap.size w w' := by
  go_enter Try.func8, Try.ntmps8
  go_wp2_with fail
  refine (q_New w).mono ?_
  rintro r w1 ⟨rfl, hL, hB⟩; dsimp only
  have hS : Hid (∀ c, w.heap.size ≤ c → w.heap.size ≤ c) := Lib.hid (fun _ h => h)
  generalize w.heap.size + 1 = P at *
  go_wp2_with fail
  refine (law_all 5 _).mono ?_
  rintro r w2 ⟨rfl, hb⟩; dsimp only
  replace hL := hL.past hb
  replace hB := below_to hB hb
  clear hb
  go_wp2_with fail
  have hs := q_Set w2 P _ _ hL annB 1 ⟨5, 5, 5⟩ (by decide) (by decide) (by decide)
  rw [ann_set.1, ann_set.2] at hs
  refine hs.mono ?_
  clear hs
  rintro r w3 ⟨rfl, S', hL2, hS', hO⟩; dsimp only
  replace hL : Led w3 P (fun b => w.heap.size ≤ b) [annS 0] := hL2.mono (fun c hc => (hS' c hc).elim id (fun h => Nat.le_trans hB.size h))
  replace hB := hB.trans (hO.to hB.size hS.out)
  clear hL2 hO hS' S'
  go_wp2_with fail
  refine (law_all 3 _).mono ?_
  rintro r w4 ⟨rfl, hb⟩; dsimp only
  replace hL := hL.past hb
  replace hB := below_to hB hb
  clear hb
  go_wp2_with fail
  have hs := q_Take w4 P _ _ hL annB 1 ⟨3, 3, 3⟩ (by decide) (by decide) (by decide)
  rw [ann_take.1, ann_take.2] at hs
  refine (hs).mono ?_
  rintro r w5 ⟨rfl, hL2, hO⟩; dsimp only
  replace hB := hB.trans (hO.to hB.size hS.out)
  replace hL := hL2
  clear hL2 hO
  clear hs
  go_wp2_with fail
  have hs := q_Take w5 P _ _ hL annB 1 ⟨3, 0, 0⟩ (by decide) (by decide) (by decide)
  rw [ann_over.1, ann_over.2] at hs
  refine (hs).mono ?_
  rintro r w6 ⟨rfl, hL2, hO⟩; dsimp only
  replace hB := hB.trans (hO.to hB.size hS.out)
  replace hL := hL2
  clear hL2 hO
  clear hs
  go_wp2_with fail
  replace hL := hL.tight
  have hs := q_Left w6 P _ _ hL annB 1 (by decide) (by decide)
  rw [ann_left.1, ann_left.2] at hs
  refine hs.mono ?_
  clear hs
  rintro r w7 ⟨rfl, hb⟩; dsimp only
  replace hL := hL.past hb
  replace hB := below_to hB hb
  have h67 := hb.size
  clear hb
  go_wp2_with fail
  have hV := Blk.new w7 28 #[.int .i64 2, .int .i64 2, .int .i64 2]
  replace hL := hL.past (below_own (below_self w7) (.cells #[.int .i64 2, .int .i64 2, .int .i64 2] 28))
  replace hB := below_to hB (below_own (below_self w7) (.cells #[.int .i64 2, .int .i64 2, .int .i64 2] 28))
  refine (q_Rows _ P _ _ hL).mono ?_
  rintro r w8 ⟨⟨A, c, rfl, hsh, hA⟩, hb⟩; dsimp only
  obtain ⟨g, off, rfl, hglt, hcell⟩ := hsh (by simp)
  have hg : w7.heap.size < g := by have := hA _ rfl; simp at this; omega
  obtain ⟨k0, k1, k2, k3, k4, k5, k6, k7⟩ := hcell 0 (by simp)
  replace hL := hL.past hb
  replace hB := below_to hB hb
  replace hV := hV.past hb
  have h78 := hb.size
  simp only [Nat.zero_mul, Nat.add_zero, List.getElem_cons_zero, annS] at k0 k1 k2 k3 k4 k5 k6 k7
  clear hsh hA hcell hb
  have hVS : ¬ (w.heap.size ≤ w7.heap.size ∧ w7.heap.size < w6.heap.size) := by omega
  have hGS : ¬ (w.heap.size ≤ g ∧ g < w6.heap.size) := by omega
  obtain ⟨Vc, Vf, Vl⟩ := hV.facts
  go_wp2_with fail
  refine wp_region_held_drew (S := (fun w' => w'.cell? ⟨w7.heap.size, 0, none⟩ = some (.int .i64 2) ∧ w'.cell? ⟨w7.heap.size, 1, none⟩ = some (.int .i64 2) ∧ w'.cell? ⟨w7.heap.size, 2, none⟩ = some (.int .i64 2) ∧ w'.cell? ⟨g, off, none⟩ = some (.string annB) ∧ w'.cell? ⟨g, off + 1, none⟩ = some (.int .u8 1) ∧ w'.cell? ⟨g, off + 2, none⟩ = some (.int .i64 5) ∧ w'.cell? ⟨g, off + 3, none⟩ = some (.int .i64 5) ∧ w'.cell? ⟨g, off + 4, none⟩ = some (.int .i64 5) ∧ w'.cell? ⟨g, off + 5, none⟩ = some (.int .i64 3) ∧ w'.cell? ⟨g, off + 6, none⟩ = some (.int .i64 3) ∧ w'.cell? ⟨g, off + 7, none⟩ = some (.int .i64 3))) (by kernel_rfl) ⟨Vc 0, Vc 1, Vc 2, k0, k1, k2, k3, k4, k5, k6, k7⟩ (fun hHeld => ?_)
  have hk : Hid (∀ W, OnlyS (fun b => w.heap.size ≤ b ∧ b < w6.heap.size) w8 W → (W.cell? ⟨w7.heap.size, 0, none⟩ = some (.int .i64 2) ∧ W.cell? ⟨w7.heap.size, 1, none⟩ = some (.int .i64 2) ∧ W.cell? ⟨w7.heap.size, 2, none⟩ = some (.int .i64 2) ∧ W.cell? ⟨g, off, none⟩ = some (.string annB) ∧ W.cell? ⟨g, off + 1, none⟩ = some (.int .u8 1) ∧ W.cell? ⟨g, off + 2, none⟩ = some (.int .i64 5) ∧ W.cell? ⟨g, off + 3, none⟩ = some (.int .i64 5) ∧ W.cell? ⟨g, off + 4, none⟩ = some (.int .i64 5) ∧ W.cell? ⟨g, off + 5, none⟩ = some (.int .i64 3) ∧ W.cell? ⟨g, off + 6, none⟩ = some (.int .i64 3) ∧ W.cell? ⟨g, off + 7, none⟩ = some (.int .i64 3))) := Lib.hid (fun W hO => by
    have e1 : ∀ o, W.cell? ⟨w7.heap.size, o, none⟩ = w8.cell? ⟨w7.heap.size, o, none⟩ := fun o => World.cell?_of_block (hO.block _ Vl hVS)
    have e2 : ∀ o, W.cell? ⟨g, o, none⟩ = w8.cell? ⟨g, o, none⟩ := fun o => World.cell?_of_block (hO.block _ hglt hGS)
    exact ⟨(e1 0).trans (Vc 0), (e1 1).trans (Vc 1), (e1 2).trans (Vc 2), (e2 _).trans k0, (e2 _).trans k1, (e2 _).trans k2, (e2 _).trans k3, (e2 _).trans k4, (e2 _).trans k5, (e2 _).trans k6, (e2 _).trans k7⟩)
  have hO8 := Lib.hid (OnlyS.below (S := fun b => w.heap.size ≤ b ∧ b < w6.heap.size) (Below.refl w8.heap.size w8).drew)
  replace hL := Lib.hid (hL.past (Below.refl w8.heap.size w8).drew)
  clear hV Vc Vf Vl k0 k1 k2 k3 k4 k5 k6 k7 hVS hGS hg hglt h67 h78
  refine wpAnyH_take (i := 0) (v := ?_) rfl (by kernel_rfl) (by kernel_rfl) (by kernel_rfl) (fun _ _ _ h => h) (Or.inl ⟨by rfl, ?hy⟩) hHeld ?_
  case hy =>
    intro w hSw
    (try dsimp only at hSw)
    go_simp
    (try with_reducible rfl)
  try simp only [Act.put, List.getElem_toArray, List.getElem_cons_zero, List.setIfInBounds_toArray, List.set_cons_zero, List.set_cons_succ]
  refine wpAnyH_ready (rs := [1]) (by kernel_rfl) (by simp) ?_
  refine AllReadyH.cons rfl (fun K hK => ?_) AllReadyH.nil
  have hOld := hHeld
  clear hHeld
  go_simp
  refine (law_all 2 _).mono ?_
  rintro r wa ⟨rfl, hb⟩
  dsimp only
  replace hL := Lib.hid (hL.out.past hb)
  replace hO8 := Lib.hid (hO8.out.trans (OnlyS.below (S := fun b => w.heap.size ≤ b ∧ b < w6.heap.size) hb) (fun _ h => Or.inl h))
  clear hb
  refine hK.out _ _ (hk.out _ hO8.out) (fun hHeld => ?_)
  clear hK K hOld
  try simp only [Act.put, List.getElem_toArray, List.getElem_cons_succ, List.getElem_cons_zero, List.setIfInBounds_toArray, List.set_cons_zero, List.set_cons_succ]
  refine wpAnyH_take (i := 2) (v := ?_) rfl (by kernel_rfl) (by kernel_rfl) (by kernel_rfl) (fun _ _ _ h => h) (Or.inl ⟨by rfl, ?hy⟩) hHeld ?_
  case hy =>
    intro w hSw
    (try dsimp only at hSw)
    go_simp
    (try with_reducible rfl)
  try simp only [Act.put, List.getElem_toArray, List.getElem_cons_succ, List.getElem_cons_zero, List.setIfInBounds_toArray, List.set_cons_zero, List.set_cons_succ]
  refine wpAnyH_take (i := 3) (v := ?_) rfl (by kernel_rfl) (by kernel_rfl) (by kernel_rfl) (fun _ _ _ h => h) (Or.inl ⟨by rfl, ?hy⟩) hHeld ?_
  case hy =>
    intro w hSw
    (try dsimp only at hSw)
    go_simp
    (try with_reducible rfl)
  try simp only [Act.put, List.getElem_toArray, List.getElem_cons_succ, List.getElem_cons_zero, List.setIfInBounds_toArray, List.set_cons_zero, List.set_cons_succ]
  refine wpAnyH_take (i := 4) (v := ?_) rfl (by kernel_rfl) (by kernel_rfl) (by kernel_rfl) (fun _ _ _ h => h) (Or.inl ⟨by rfl, ?hy⟩) hHeld ?_
  case hy =>
    intro w hSw
    (try dsimp only at hSw)
    go_simp
    (try with_reducible rfl)
  try simp only [Act.put, List.getElem_toArray, List.getElem_cons_succ, List.getElem_cons_zero, List.setIfInBounds_toArray, List.set_cons_zero, List.set_cons_succ]
  refine wpAnyH_take (i := 5) (v := ?_) rfl (by kernel_rfl) (by kernel_rfl) (by kernel_rfl) (fun _ _ _ h => h) (Or.inl ⟨by rfl, ?hy⟩) hHeld ?_
  case hy =>
    intro w hSw
    (try dsimp only at hSw)
    go_simp
    (try with_reducible rfl)
  try simp only [Act.put, List.getElem_toArray, List.getElem_cons_succ, List.getElem_cons_zero, List.setIfInBounds_toArray, List.set_cons_zero, List.set_cons_succ]
  refine wpAnyH_take (i := 6) (v := ?_) rfl (by kernel_rfl) (by kernel_rfl) (by kernel_rfl) (fun _ _ _ h => h) (Or.inl ⟨by rfl, ?hy⟩) hHeld ?_
  case hy =>
    intro w hSw
    (try dsimp only at hSw)
    go_simp
    (try with_reducible rfl)
  try simp only [Act.put, List.getElem_toArray, List.getElem_cons_succ, List.getElem_cons_zero, List.setIfInBounds_toArray, List.set_cons_zero, List.set_cons_succ]
  refine wpAnyH_take (i := 7) (v := ?_) rfl (by kernel_rfl) (by kernel_rfl) (by kernel_rfl) (fun _ _ _ h => h) (Or.inl ⟨by rfl, ?hy⟩) hHeld ?_
  case hy =>
    intro w hSw
    (try dsimp only at hSw)
    go_simp
    (try with_reducible rfl)
  try simp only [Act.put, List.getElem_toArray, List.getElem_cons_succ, List.getElem_cons_zero, List.setIfInBounds_toArray, List.set_cons_zero, List.set_cons_succ]
  refine wpAnyH_take (i := 8) (v := ?_) rfl (by kernel_rfl) (by kernel_rfl) (by kernel_rfl) (fun _ _ _ h => h) (Or.inl ⟨by rfl, ?hy⟩) hHeld ?_
  case hy =>
    intro w hSw
    (try dsimp only at hSw)
    go_simp
    (try with_reducible rfl)
  try simp only [Act.put, List.getElem_toArray, List.getElem_cons_succ, List.getElem_cons_zero, List.setIfInBounds_toArray, List.set_cons_zero, List.set_cons_succ]
  refine wpAnyH_take (i := 9) (v := ?_) rfl (by kernel_rfl) (by kernel_rfl) (by kernel_rfl) (fun _ _ _ h => h) (Or.inl ⟨by rfl, ?hy⟩) hHeld ?_
  case hy =>
    intro w hSw
    (try dsimp only at hSw)
    go_simp
    (try with_reducible rfl)
  try simp only [Act.put, List.getElem_toArray, List.getElem_cons_succ, List.getElem_cons_zero, List.setIfInBounds_toArray, List.set_cons_zero, List.set_cons_succ]
  have hs := q_Take wa P _ _ hL.out bobB 1 zeroV (by decide) (by decide) (by decide)
  rw [ann_bob.1, ann_bob.2] at hs
  refine wpAnyH_ready (rs := [10]) (by kernel_rfl) (by simp) ?_
  refine AllReadyH.cons rfl (fun K hK => ?_) AllReadyH.nil
  have hOld := hHeld
  clear hHeld
  go_simp
  refine (hs).mono ?_
  rintro r wb ⟨rfl, hL2, hO⟩
  dsimp only
  replace hL := Lib.hid hL2
  replace hO8 := Lib.hid (hO8.out.trans hO (fun _ h => Or.inl h))
  clear hL2 hO hs
  refine hK.out _ _ (hk.out _ hO8.out) (fun hHeld => ?_)
  clear hK K hOld
  try simp only [Act.put, List.getElem_toArray, List.getElem_cons_succ, List.getElem_cons_zero, List.setIfInBounds_toArray, List.set_cons_zero, List.set_cons_succ]
  refine wpAnyH_take (i := 11) (v := ?_) rfl (by kernel_rfl) (by kernel_rfl) (by kernel_rfl) (fun _ _ _ h => h) (Or.inl ⟨by rfl, ?hy⟩) hHeld ?_
  case hy =>
    intro w hSw
    (try dsimp only at hSw)
    go_simp
    (try with_reducible rfl)
  try simp only [Act.put, List.getElem_toArray, List.getElem_cons_succ, List.getElem_cons_zero, List.setIfInBounds_toArray, List.set_cons_zero, List.set_cons_succ]
  refine wpAnyH_take (i := 12) (v := ?_) rfl (by kernel_rfl) (by kernel_rfl) (by kernel_rfl) (fun _ _ _ h => h) (Or.inl ⟨by rfl, ?hy⟩) hHeld ?_
  case hy =>
    intro w hSw
    (try dsimp only at hSw)
    go_simp
    (try with_reducible rfl)
  try simp only [Act.put, List.getElem_toArray, List.getElem_cons_succ, List.getElem_cons_zero, List.setIfInBounds_toArray, List.set_cons_zero, List.set_cons_succ]
  refine wpAnyH_take (i := 13) (v := ?_) rfl (by kernel_rfl) (by kernel_rfl) (by kernel_rfl) (fun _ _ _ h => h) (Or.inl ⟨by rfl, ?hy⟩) hHeld ?_
  case hy =>
    intro w hSw
    (try dsimp only at hSw)
    go_simp
    (try with_reducible rfl)
  try simp only [Act.put, List.getElem_toArray, List.getElem_cons_succ, List.getElem_cons_zero, List.setIfInBounds_toArray, List.set_cons_zero, List.set_cons_succ]
  refine wpAnyH_take (i := 14) (v := ?_) rfl (by kernel_rfl) (by kernel_rfl) (by kernel_rfl) (fun _ _ _ h => h) (Or.inl ⟨by rfl, ?hy⟩) hHeld ?_
  case hy =>
    intro w hSw
    (try dsimp only at hSw)
    go_simp
    (try with_reducible rfl)
  try simp only [Act.put, List.getElem_toArray, List.getElem_cons_succ, List.getElem_cons_zero, List.setIfInBounds_toArray, List.set_cons_zero, List.set_cons_succ]
  refine wpAnyH_ready (rs := [15]) (by kernel_rfl) (by simp) ?_
  refine AllReadyH.cons rfl (fun K hK => ?_) AllReadyH.nil
  have hOld := hHeld
  clear hHeld
  go_simp
  refine (law_all 3 _).mono ?_
  rintro r wc ⟨rfl, hb⟩
  dsimp only
  replace hL := Lib.hid (hL.out.past hb)
  replace hO8 := Lib.hid (hO8.out.trans (OnlyS.below (S := fun b => w.heap.size ≤ b ∧ b < w6.heap.size) hb) (fun _ h => Or.inl h))
  clear hb
  refine hK.out _ _ (hk.out _ hO8.out) (fun hHeld => ?_)
  clear hK K hOld
  try simp only [Act.put, List.getElem_toArray, List.getElem_cons_succ, List.getElem_cons_zero, List.setIfInBounds_toArray, List.set_cons_zero, List.set_cons_succ]
  have hs := q_Give wc P _ _ hL.out annB 1 ⟨3, 3, 3⟩ (by decide) (by decide) (by decide)
  rw [ann_give.1, ann_give.2] at hs
  refine wpAnyH_ready (rs := [16]) (by kernel_rfl) (by simp) ?_
  refine AllReadyH.cons rfl (fun K hK => ?_) AllReadyH.nil
  have hOld := hHeld
  clear hHeld
  go_simp
  refine (hs).mono ?_
  rintro r wd ⟨rfl, hL2, hO⟩
  dsimp only
  replace hL := Lib.hid hL2
  replace hO8 := Lib.hid (hO8.out.trans hO (fun _ h => Or.inl h))
  clear hL2 hO hs
  refine hK.out _ _ (hk.out _ hO8.out) (fun hHeld => ?_)
  clear hK K hOld
  try simp only [Act.put, List.getElem_toArray, List.getElem_cons_succ, List.getElem_cons_zero, List.setIfInBounds_toArray, List.set_cons_zero, List.set_cons_succ]
  refine wpAnyH_take (i := 17) (v := ?_) rfl (by kernel_rfl) (by kernel_rfl) (by kernel_rfl) (fun _ _ _ h => h) (Or.inl ⟨by rfl, ?hy⟩) hHeld ?_
  case hy =>
    intro w hSw
    (try dsimp only at hSw)
    go_simp
    (try with_reducible rfl)
  try simp only [Act.put, List.getElem_toArray, List.getElem_cons_succ, List.getElem_cons_zero, List.setIfInBounds_toArray, List.set_cons_zero, List.set_cons_succ]
  refine wpAnyH_take (i := 18) (v := ?_) rfl (by kernel_rfl) (by kernel_rfl) (by kernel_rfl) (fun _ _ _ h => h) (Or.inl ⟨by rfl, ?hy⟩) hHeld ?_
  case hy =>
    intro w hSw
    (try dsimp only at hSw)
    go_simp
    (try with_reducible rfl)
  try simp only [Act.put, List.getElem_toArray, List.getElem_cons_succ, List.getElem_cons_zero, List.setIfInBounds_toArray, List.set_cons_zero, List.set_cons_succ]
  refine wpAnyH_take (i := 19) (v := ?_) rfl (by kernel_rfl) (by kernel_rfl) (by kernel_rfl) (fun _ _ _ h => h) (Or.inl ⟨by rfl, ?hy⟩) hHeld ?_
  case hy =>
    intro w hSw
    (try dsimp only at hSw)
    go_simp
    (try with_reducible rfl)
  try simp only [Act.put, List.getElem_toArray, List.getElem_cons_succ, List.getElem_cons_zero, List.setIfInBounds_toArray, List.set_cons_zero, List.set_cons_succ]
  refine wpAnyH_take (i := 20) (v := ?_) rfl (by kernel_rfl) (by kernel_rfl) (by kernel_rfl) (fun _ _ _ h => h) (Or.inl ⟨by rfl, ?hy⟩) hHeld ?_
  case hy =>
    intro w hSw
    (try dsimp only at hSw)
    go_simp
    (try with_reducible rfl)
  try simp only [Act.put, List.getElem_toArray, List.getElem_cons_succ, List.getElem_cons_zero, List.setIfInBounds_toArray, List.set_cons_zero, List.set_cons_succ]
  refine wpAnyH_take (i := 21) (v := ?_) rfl (by kernel_rfl) (by kernel_rfl) (by kernel_rfl) (fun _ _ _ h => h) (Or.inl ⟨by rfl, ?hy⟩) hHeld ?_
  case hy =>
    intro w hSw
    (try dsimp only at hSw)
    go_simp
    (try with_reducible rfl)
  try simp only [Act.put, List.getElem_toArray, List.getElem_cons_succ, List.getElem_cons_zero, List.setIfInBounds_toArray, List.set_cons_zero, List.set_cons_succ]
  refine wpAnyH_take (i := 22) (v := ?_) rfl (by kernel_rfl) (by kernel_rfl) (by kernel_rfl) (fun _ _ _ h => h) (Or.inl ⟨by rfl, ?hy⟩) hHeld ?_
  case hy =>
    intro w hSw
    (try dsimp only at hSw)
    go_simp
    (try with_reducible rfl)
  try simp only [Act.put, List.getElem_toArray, List.getElem_cons_succ, List.getElem_cons_zero, List.setIfInBounds_toArray, List.set_cons_zero, List.set_cons_succ]
  refine wpAnyH_take (i := 23) (v := ?_) rfl (by kernel_rfl) (by kernel_rfl) (by kernel_rfl) (fun _ _ _ h => h) (Or.inl ⟨by rfl, ?hy⟩) hHeld ?_
  case hy =>
    intro w hSw
    (try dsimp only at hSw)
    go_simp
    (try with_reducible rfl)
  try simp only [Act.put, List.getElem_toArray, List.getElem_cons_succ, List.getElem_cons_zero, List.setIfInBounds_toArray, List.set_cons_zero, List.set_cons_succ]
  refine wpAnyH_take (i := 24) (v := ?_) rfl (by kernel_rfl) (by kernel_rfl) (by kernel_rfl) (fun _ _ _ h => h) (Or.inl ⟨by rfl, ?hy⟩) hHeld ?_
  case hy =>
    intro w hSw
    (try dsimp only at hSw)
    go_simp
    (try with_reducible rfl)
  try simp only [Act.put, List.getElem_toArray, List.getElem_cons_succ, List.getElem_cons_zero, List.setIfInBounds_toArray, List.set_cons_zero, List.set_cons_succ]
  refine wpAnyH_take (i := 25) (v := ?_) rfl (by kernel_rfl) (by kernel_rfl) (by kernel_rfl) (fun _ _ _ h => h) (Or.inl ⟨by rfl, ?hy⟩) hHeld ?_
  case hy =>
    intro w hSw
    (try dsimp only at hSw)
    go_simp
    (try with_reducible rfl)
  try simp only [Act.put, List.getElem_toArray, List.getElem_cons_succ, List.getElem_cons_zero, List.setIfInBounds_toArray, List.set_cons_zero, List.set_cons_succ]
  refine wpAnyH_take (i := 26) (v := ?_) rfl (by kernel_rfl) (by kernel_rfl) (by kernel_rfl) (fun _ _ _ h => h) (Or.inl ⟨by rfl, ?hy⟩) hHeld ?_
  case hy =>
    intro w hSw
    (try dsimp only at hSw)
    go_simp
    (try with_reducible rfl)
  try simp only [Act.put, List.getElem_toArray, List.getElem_cons_succ, List.getElem_cons_zero, List.setIfInBounds_toArray, List.set_cons_zero, List.set_cons_succ]
  refine wpAnyH_take (i := 27) (v := ?_) rfl (by kernel_rfl) (by kernel_rfl) (by kernel_rfl) (fun _ _ _ h => h) (Or.inl ⟨by rfl, ?hy⟩) hHeld ?_
  case hy =>
    intro w hSw
    (try dsimp only at hSw)
    go_simp
    (try with_reducible rfl)
  try simp only [Act.put, List.getElem_toArray, List.getElem_cons_succ, List.getElem_cons_zero, List.setIfInBounds_toArray, List.set_cons_zero, List.set_cons_succ]
  refine wpAnyH_ready (rs := [28]) (by kernel_rfl) (by simp) ?_
  refine AllReadyH.cons rfl (fun K hK => ?_) AllReadyH.nil
  have hOld := hHeld
  clear hHeld
  go_simp
  refine (law_all 5 _).mono ?_
  rintro r we ⟨rfl, hb⟩
  dsimp only
  replace hL := Lib.hid (hL.out.past hb)
  replace hO8 := Lib.hid (hO8.out.trans (OnlyS.below (S := fun b => w.heap.size ≤ b ∧ b < w6.heap.size) hb) (fun _ h => Or.inl h))
  clear hb
  refine hK.out _ _ (hk.out _ hO8.out) (fun hHeld => ?_)
  clear hK K hOld
  try simp only [Act.put, List.getElem_toArray, List.getElem_cons_succ, List.getElem_cons_zero, List.setIfInBounds_toArray, List.set_cons_zero, List.set_cons_succ]
  refine wpAnyH_ready (rs := [29]) (by kernel_rfl) (by simp) ?_
  refine AllReadyH.cons rfl (fun K hK => ?_) AllReadyH.nil
  have hOld := hHeld
  clear hHeld
  go_simp
  refine (law_all 3 _).mono ?_
  rintro r wf ⟨rfl, hb⟩
  dsimp only
  replace hL := Lib.hid (hL.out.past hb)
  replace hO8 := Lib.hid (hO8.out.trans (OnlyS.below (S := fun b => w.heap.size ≤ b ∧ b < w6.heap.size) hb) (fun _ h => Or.inl h))
  clear hb
  refine hK.out _ _ (hk.out _ hO8.out) (fun hHeld => ?_)
  clear hK K hOld
  try simp only [Act.put, List.getElem_toArray, List.getElem_cons_succ, List.getElem_cons_zero, List.setIfInBounds_toArray, List.set_cons_zero, List.set_cons_succ]
  refine wpAnyH_take (i := 30) (v := ?_) rfl (by kernel_rfl) (by kernel_rfl) (by kernel_rfl) (fun _ _ _ h => h) (Or.inl ⟨by rfl, ?hy⟩) hHeld ?_
  case hy =>
    intro w hSw
    (try dsimp only at hSw)
    go_simp
    (try with_reducible rfl)
  try simp only [Act.put, List.getElem_toArray, List.getElem_cons_succ, List.getElem_cons_zero, List.setIfInBounds_toArray, List.set_cons_zero, List.set_cons_succ]
  refine wpAnyH_take (i := 31) (v := ?_) rfl (by kernel_rfl) (by kernel_rfl) (by kernel_rfl) (fun _ _ _ h => h) (Or.inl ⟨by rfl, ?hy⟩) hHeld ?_
  case hy =>
    intro w hSw
    (try dsimp only at hSw)
    go_simp
    (try with_reducible rfl)
  try simp only [Act.put, List.getElem_toArray, List.getElem_cons_succ, List.getElem_cons_zero, List.setIfInBounds_toArray, List.set_cons_zero, List.set_cons_succ]
  refine wpAnyH_take (i := 32) (v := ?_) rfl (by kernel_rfl) (by kernel_rfl) (by kernel_rfl) (fun _ _ _ h => h) (Or.inl ⟨by rfl, ?hy⟩) hHeld ?_
  case hy =>
    intro w hSw
    (try dsimp only at hSw)
    go_simp
    (try with_reducible rfl)
  try simp only [Act.put, List.getElem_toArray, List.getElem_cons_succ, List.getElem_cons_zero, List.setIfInBounds_toArray, List.set_cons_zero, List.set_cons_succ]
  refine wpAnyH_take (i := 33) (v := ?_) rfl (by kernel_rfl) (by kernel_rfl) (by kernel_rfl) (fun _ _ _ h => h) (Or.inl ⟨by rfl, ?hy⟩) hHeld ?_
  case hy =>
    intro w hSw
    (try dsimp only at hSw)
    go_simp
    (try with_reducible rfl)
  try simp only [Act.put, List.getElem_toArray, List.getElem_cons_succ, List.getElem_cons_zero, List.setIfInBounds_toArray, List.set_cons_zero, List.set_cons_succ]
  refine wpAnyH_done (by kernel_rfl) ?_ _
  simp only [Exit.then]
  clear hHeld
  replace hB := Lib.hid (hB.trans (hO8.out.to hB.size (fun _ h => h.1)))
  clear hk hO8 hL hS
  go_wp2_with fail
  go_ret
  exact ⟨rfl, hB.out⟩
end Go.Proofs.Ytcjgblopcfcakaa
