/- Commands: how the reference reads what a kind has, walked, of some kinds. Conditions: the bytes are in memory. -/
import Derived.Test.YteglieoeblehpaaCmd25j
namespace Go.Proofs.Yteglieoeblehpaa
open Go.RowKit

set_option maxRecDepth 100000 in
set_option maxHeartbeats 8000000 in
theorem read_4 (R : Nat) (x : RS) (c : Command) (hq : c.kind = 4) (w : World) (hs : x.1.size ≤ 140737488351232) (h : RR w R x) : Calls Try.prog 67 #[.pointer (some ⟨R, 0, none⟩), .agg (csC c)] w fun e w' => e = .returned (.agg (csC (rdK (fieldsOf c.kind) 13 (x, c)).2)) ∧ RR w' R (rdK (fieldsOf c.kind) 13 (x, c)).1 ∧ Kept R w w' := by
  have hr : rdK (fieldsOf c.kind) 13 (x, c) = ((nT x), { c with name := gT x }) := by
    rw [show fieldsOf c.kind = fieldsOf 4 by rw [hq]]
    kernel_rfl
  rw [hr]
  clear hr
  have hRl := Blk.lt h
  have hD := (Blk.new w 64 (csC c)).alloc (.cells #[.int .u8 0, .int .u64 0, .int .u64 0, .string ⟨#[]⟩, .int .u8 0, .int .i64 0, .int .i64 0, .int .i64 0, .int .i64 0, .string ⟨#[]⟩, .string ⟨#[]⟩, .int .u8 0, .int .i64 0, .int .i64 0, .int .i64 0, .int .i64 0, .string ⟨#[]⟩, .int .i64 0, .int .i64 0, .string ⟨#[]⟩, .string ⟨#[]⟩, .int .i64 0, .int .i64 0, .int .i64 0, .int .i64 0, .string ⟨#[]⟩, .int .i64 0, .string ⟨#[]⟩, .int .i64 0, .int .i64 0, .int .i64 0, .int .u8 0, .int .i64 0] 64)
  have hB : Blk ((w.alloc (.cells (csC c) 64)).alloc (.cells #[.int .u8 0, .int .u64 0, .int .u64 0, .string ⟨#[]⟩, .int .u8 0, .int .i64 0, .int .i64 0, .int .i64 0, .int .i64 0, .string ⟨#[]⟩, .string ⟨#[]⟩, .int .u8 0, .int .i64 0, .int .i64 0, .int .i64 0, .int .i64 0, .string ⟨#[]⟩, .int .i64 0, .int .i64 0, .string ⟨#[]⟩, .string ⟨#[]⟩, .int .i64 0, .int .i64 0, .int .i64 0, .int .i64 0, .string ⟨#[]⟩, .int .i64 0, .string ⟨#[]⟩, .int .i64 0, .int .i64 0, .int .i64 0, .int .u8 0, .int .i64 0] 64)) (w.heap.size + 1) 64 (csC zeroC) := Blk.new1 w (.cells (csC c) 64) 64 #[.int .u8 0, .int .u64 0, .int .u64 0, .string ⟨#[]⟩, .int .u8 0, .int .i64 0, .int .i64 0, .int .i64 0, .int .i64 0, .string ⟨#[]⟩, .string ⟨#[]⟩, .int .u8 0, .int .i64 0, .int .i64 0, .int .i64 0, .int .i64 0, .string ⟨#[]⟩, .int .i64 0, .int .i64 0, .string ⟨#[]⟩, .string ⟨#[]⟩, .int .i64 0, .int .i64 0, .int .i64 0, .int .i64 0, .string ⟨#[]⟩, .int .i64 0, .string ⟨#[]⟩, .int .i64 0, .int .i64 0, .int .i64 0, .int .u8 0, .int .i64 0]
  have hk := ((Kept.refl R w).own (.cells (csC c) 64)).own (.cells #[.int .u8 0, .int .u64 0, .int .u64 0, .string ⟨#[]⟩, .int .u8 0, .int .i64 0, .int .i64 0, .int .i64 0, .int .i64 0, .string ⟨#[]⟩, .string ⟨#[]⟩, .int .u8 0, .int .i64 0, .int .i64 0, .int .i64 0, .int .i64 0, .string ⟨#[]⟩, .int .i64 0, .int .i64 0, .string ⟨#[]⟩, .string ⟨#[]⟩, .int .i64 0, .int .i64 0, .int .i64 0, .int .i64 0, .string ⟨#[]⟩, .int .i64 0, .string ⟨#[]⟩, .int .i64 0, .int .i64 0, .int .i64 0, .int .u8 0, .int .i64 0] 64)
  have h0 : RR _ R x := Blk.alloc (Blk.alloc h (.cells (csC c) 64)) (.cells #[.int .u8 0, .int .u64 0, .int .u64 0, .string ⟨#[]⟩, .int .u8 0, .int .i64 0, .int .i64 0, .int .i64 0, .int .i64 0, .string ⟨#[]⟩, .string ⟨#[]⟩, .int .u8 0, .int .i64 0, .int .i64 0, .int .i64 0, .int .i64 0, .string ⟨#[]⟩, .int .i64 0, .int .i64 0, .string ⟨#[]⟩, .string ⟨#[]⟩, .int .i64 0, .int .i64 0, .int .i64 0, .int .i64 0, .string ⟨#[]⟩, .int .i64 0, .string ⟨#[]⟩, .int .i64 0, .int .i64 0, .int .i64 0, .int .u8 0, .int .i64 0] 64)
  have q0 : ((w.alloc (.cells (csC c) 64)).alloc (.cells #[.int .u8 0, .int .u64 0, .int .u64 0, .string ⟨#[]⟩, .int .u8 0, .int .i64 0, .int .i64 0, .int .i64 0, .int .i64 0, .string ⟨#[]⟩, .string ⟨#[]⟩, .int .u8 0, .int .i64 0, .int .i64 0, .int .i64 0, .int .i64 0, .string ⟨#[]⟩, .int .i64 0, .int .i64 0, .string ⟨#[]⟩, .string ⟨#[]⟩, .int .i64 0, .int .i64 0, .int .i64 0, .int .i64 0, .string ⟨#[]⟩, .int .i64 0, .string ⟨#[]⟩, .int .i64 0, .int .i64 0, .int .i64 0, .int .u8 0, .int .i64 0] 64)).cell? ⟨w.heap.size, 0, none⟩ = some (.int .u8 4) := by
    have q := blk_cell hD (show (csC c)[0]? = some (.int .u8 c.kind) from rfl)
    rw [hq] at q
    exact q
  have hRD : R ≠ w.heap.size := by omega
  have hRB : R ≠ w.heap.size + 1 := by omega
  have hDR : w.heap.size ≠ R := by omega
  have hBR : w.heap.size + 1 ≠ R := by omega
  clear hq
  go_enter Try.func67, Try.ntmps67
  go_wp2_with fail
  refine calls_world (F := fun W => RR W R x ∧ Blk W w.heap.size 64 (csC c) ∧ Blk W (w.heap.size + 1) 64 (csC zeroC) ∧ Kept R w W) ⟨h0, hD, hB, hk⟩ ?_
  clear h0 hD hB hk q0
  rintro W0 ⟨h0, hD, hB, hk⟩
  refine (rT R x W0 (hs) h0).mono ?_
  rintro r w1 ⟨rfl, h1, hk1⟩; dsimp only
  replace hD := hk1.blk hD hDR
  replace hB := hk1.blk hB hBR
  replace hk := hk.trans hk1
  clear h0 hk1
  have d25 : ∃ v, w1.cell? ⟨w.heap.size, 25, none⟩ = some v := ⟨_, blk_cell hD rfl⟩
  obtain ⟨v25, d25⟩ := d25
  have fD : ∀ i, w1.frozen? ⟨w.heap.size, i, none⟩ = false := hD.frozen
  have lD := hD.lt
  obtain ⟨FF, hFF⟩ : ∃ FF : World → Prop, FF = (fun W => RR W R (nT x) ∧ Blk W w.heap.size 64 (csC { c with name := gT x }) ∧ Blk W (w.heap.size + 1) 64 (csC zeroC) ∧ Kept R w W) := ⟨_, rfl⟩
  replace hFF := Lib.hid hFF
  go_wp2_with (with_reducible refine ops_at 120 rfl FF ?_ ?_)
  · rw [hFF.out]
    exact Lib.hid ⟨(Blk.far h1 (p := ⟨w.heap.size, 25, none⟩) hRD (.string (gT x))), (Blk.set_ hD 25 (.string (gT x))), (hB.far (p := ⟨w.heap.size, 25, none⟩) (by show w.heap.size + 1 ≠ w.heap.size; omega) (.string (gT x))), (hk.fresh (Nat.le_refl _) 25 (.string (gT x)))⟩
  · refine Lib.hid ?_
    clear h1 hD hB hk d25 fD lD
    intro W hW
    rw [hFF.out] at hW
    obtain ⟨h0, hD, hB, hk⟩ := hW
    have hlD := load_cmd hD rfl
    go_wp2_with (first | (with_reducible refine wpList_load_rowW 64 (.tmp 3) w.heap.size ?_ (csC { c with name := gT x }) hlD ?_ ?_) | (with_reducible refine st_cmd (.tmp 4) (.tmp 120) (w.heap.size + 1) { c with name := gT x } ?_ ?_ (csC zeroC) hB (csC_size zeroC) ?_ ?_) | fail)
    rotate_right
    · skip
      refine bodyPost_ret (results_cell_row Try.results67 _ _ (w.heap.size + 1) 64 (csC { c with name := gT x }) (0, 0) _ rfl hB.rowK Try.underlying64 rfl info_cmd) rfl ?_
      exact ⟨rfl, Blk.offRow h0 hRB, hk.freshRow (by omega) _⟩
    all_goals first | rfl | (simp [Region.wanted, yielded, Act.put]; done)
set_option maxRecDepth 100000 in
set_option maxHeartbeats 8000000 in
theorem read_5 (R : Nat) (x : RS) (c : Command) (hq : c.kind = 5) (w : World) (hs : x.1.size ≤ 140737488351232) (h : RR w R x) : Calls Try.prog 67 #[.pointer (some ⟨R, 0, none⟩), .agg (csC c)] w fun e w' => e = .returned (.agg (csC (rdK (fieldsOf c.kind) 13 (x, c)).2)) ∧ RR w' R (rdK (fieldsOf c.kind) 13 (x, c)).1 ∧ Kept R w w' := by
  have hr : rdK (fieldsOf c.kind) 13 (x, c) = ((nV (nI (nT (nT x)))), { c with alloc := gA x }) := by
    rw [show fieldsOf c.kind = fieldsOf 5 by rw [hq]]
    kernel_rfl
  rw [hr]
  clear hr
  have hRl := Blk.lt h
  have hD := (Blk.new w 64 (csC c)).alloc (.cells #[.int .u8 0, .int .u64 0, .int .u64 0, .string ⟨#[]⟩, .int .u8 0, .int .i64 0, .int .i64 0, .int .i64 0, .int .i64 0, .string ⟨#[]⟩, .string ⟨#[]⟩, .int .u8 0, .int .i64 0, .int .i64 0, .int .i64 0, .int .i64 0, .string ⟨#[]⟩, .int .i64 0, .int .i64 0, .string ⟨#[]⟩, .string ⟨#[]⟩, .int .i64 0, .int .i64 0, .int .i64 0, .int .i64 0, .string ⟨#[]⟩, .int .i64 0, .string ⟨#[]⟩, .int .i64 0, .int .i64 0, .int .i64 0, .int .u8 0, .int .i64 0] 64)
  have hB : Blk ((w.alloc (.cells (csC c) 64)).alloc (.cells #[.int .u8 0, .int .u64 0, .int .u64 0, .string ⟨#[]⟩, .int .u8 0, .int .i64 0, .int .i64 0, .int .i64 0, .int .i64 0, .string ⟨#[]⟩, .string ⟨#[]⟩, .int .u8 0, .int .i64 0, .int .i64 0, .int .i64 0, .int .i64 0, .string ⟨#[]⟩, .int .i64 0, .int .i64 0, .string ⟨#[]⟩, .string ⟨#[]⟩, .int .i64 0, .int .i64 0, .int .i64 0, .int .i64 0, .string ⟨#[]⟩, .int .i64 0, .string ⟨#[]⟩, .int .i64 0, .int .i64 0, .int .i64 0, .int .u8 0, .int .i64 0] 64)) (w.heap.size + 1) 64 (csC zeroC) := Blk.new1 w (.cells (csC c) 64) 64 #[.int .u8 0, .int .u64 0, .int .u64 0, .string ⟨#[]⟩, .int .u8 0, .int .i64 0, .int .i64 0, .int .i64 0, .int .i64 0, .string ⟨#[]⟩, .string ⟨#[]⟩, .int .u8 0, .int .i64 0, .int .i64 0, .int .i64 0, .int .i64 0, .string ⟨#[]⟩, .int .i64 0, .int .i64 0, .string ⟨#[]⟩, .string ⟨#[]⟩, .int .i64 0, .int .i64 0, .int .i64 0, .int .i64 0, .string ⟨#[]⟩, .int .i64 0, .string ⟨#[]⟩, .int .i64 0, .int .i64 0, .int .i64 0, .int .u8 0, .int .i64 0]
  have hk := ((Kept.refl R w).own (.cells (csC c) 64)).own (.cells #[.int .u8 0, .int .u64 0, .int .u64 0, .string ⟨#[]⟩, .int .u8 0, .int .i64 0, .int .i64 0, .int .i64 0, .int .i64 0, .string ⟨#[]⟩, .string ⟨#[]⟩, .int .u8 0, .int .i64 0, .int .i64 0, .int .i64 0, .int .i64 0, .string ⟨#[]⟩, .int .i64 0, .int .i64 0, .string ⟨#[]⟩, .string ⟨#[]⟩, .int .i64 0, .int .i64 0, .int .i64 0, .int .i64 0, .string ⟨#[]⟩, .int .i64 0, .string ⟨#[]⟩, .int .i64 0, .int .i64 0, .int .i64 0, .int .u8 0, .int .i64 0] 64)
  have h0 : RR _ R x := Blk.alloc (Blk.alloc h (.cells (csC c) 64)) (.cells #[.int .u8 0, .int .u64 0, .int .u64 0, .string ⟨#[]⟩, .int .u8 0, .int .i64 0, .int .i64 0, .int .i64 0, .int .i64 0, .string ⟨#[]⟩, .string ⟨#[]⟩, .int .u8 0, .int .i64 0, .int .i64 0, .int .i64 0, .int .i64 0, .string ⟨#[]⟩, .int .i64 0, .int .i64 0, .string ⟨#[]⟩, .string ⟨#[]⟩, .int .i64 0, .int .i64 0, .int .i64 0, .int .i64 0, .string ⟨#[]⟩, .int .i64 0, .string ⟨#[]⟩, .int .i64 0, .int .i64 0, .int .i64 0, .int .u8 0, .int .i64 0] 64)
  have q0 : ((w.alloc (.cells (csC c) 64)).alloc (.cells #[.int .u8 0, .int .u64 0, .int .u64 0, .string ⟨#[]⟩, .int .u8 0, .int .i64 0, .int .i64 0, .int .i64 0, .int .i64 0, .string ⟨#[]⟩, .string ⟨#[]⟩, .int .u8 0, .int .i64 0, .int .i64 0, .int .i64 0, .int .i64 0, .string ⟨#[]⟩, .int .i64 0, .int .i64 0, .string ⟨#[]⟩, .string ⟨#[]⟩, .int .i64 0, .int .i64 0, .int .i64 0, .int .i64 0, .string ⟨#[]⟩, .int .i64 0, .string ⟨#[]⟩, .int .i64 0, .int .i64 0, .int .i64 0, .int .u8 0, .int .i64 0] 64)).cell? ⟨w.heap.size, 0, none⟩ = some (.int .u8 5) := by
    have q := blk_cell hD (show (csC c)[0]? = some (.int .u8 c.kind) from rfl)
    rw [hq] at q
    exact q
  have hRD : R ≠ w.heap.size := by omega
  have hRB : R ≠ w.heap.size + 1 := by omega
  have hDR : w.heap.size ≠ R := by omega
  have hBR : w.heap.size + 1 ≠ R := by omega
  clear hq
  go_enter Try.func67, Try.ntmps67
  go_wp2_with fail
  refine calls_world (F := fun W => RR W R x ∧ Blk W w.heap.size 64 (csC c) ∧ Blk W (w.heap.size + 1) 64 (csC zeroC) ∧ Kept R w W) ⟨h0, hD, hB, hk⟩ ?_
  clear h0 hD hB hk q0
  rintro W0 ⟨h0, hD, hB, hk⟩
  refine (rT R x W0 (hs) h0).mono ?_
  rintro r w1 ⟨rfl, h1, hk1⟩; dsimp only
  replace hD := hk1.blk hD hDR
  replace hB := hk1.blk hB hBR
  replace hk := hk.trans hk1
  clear h0 hk1
  have d19 : ∃ v, w1.cell? ⟨w.heap.size, 19, none⟩ = some v := ⟨_, blk_cell hD rfl⟩
  obtain ⟨v19, d19⟩ := d19
  have fD : ∀ i, w1.frozen? ⟨w.heap.size, i, none⟩ = false := hD.frozen
  have lD := hD.lt
  go_wp2_with fail
  refine calls_world (F := fun W => RR W R (nT x) ∧ Blk W w.heap.size 64 (csC { c with alloc := { c.alloc with name := gT x } }) ∧ Blk W (w.heap.size + 1) 64 (csC zeroC) ∧ Kept R w W) ⟨(Blk.far h1 (p := ⟨w.heap.size, 19, none⟩) hRD (.string (gT x))), (Blk.set_ hD 19 (.string (gT x))), (hB.far (p := ⟨w.heap.size, 19, none⟩) (by show w.heap.size + 1 ≠ w.heap.size; omega) (.string (gT x))), (hk.fresh (Nat.le_refl _) 19 (.string (gT x)))⟩ ?_
  clear h1 hD hB hk d19 fD lD
  rintro W1 ⟨h0, hD, hB, hk⟩
  refine (rT R (nT x) W1 (nT_sz _ (hs)) h0).mono ?_
  rintro r w2 ⟨rfl, h1, hk1⟩; dsimp only
  replace hD := hk1.blk hD hDR
  replace hB := hk1.blk hB hBR
  replace hk := hk.trans hk1
  clear h0 hk1
  have d20 : ∃ v, w2.cell? ⟨w.heap.size, 20, none⟩ = some v := ⟨_, blk_cell hD rfl⟩
  obtain ⟨v20, d20⟩ := d20
  have fD : ∀ i, w2.frozen? ⟨w.heap.size, i, none⟩ = false := hD.frozen
  have lD := hD.lt
  go_wp2_with fail
  refine calls_world (F := fun W => RR W R (nT (nT x)) ∧ Blk W w.heap.size 64 (csC { c with alloc := { c.alloc with name := gT x, user := gT (nT x) } }) ∧ Blk W (w.heap.size + 1) 64 (csC zeroC) ∧ Kept R w W) ⟨(Blk.far h1 (p := ⟨w.heap.size, 20, none⟩) hRD (.string (gT (nT x)))), (Blk.set_ hD 20 (.string (gT (nT x)))), (hB.far (p := ⟨w.heap.size, 20, none⟩) (by show w.heap.size + 1 ≠ w.heap.size; omega) (.string (gT (nT x)))), (hk.fresh (Nat.le_refl _) 20 (.string (gT (nT x))))⟩ ?_
  clear h1 hD hB hk d20 fD lD
  rintro W2 ⟨h0, hD, hB, hk⟩
  refine (r_num R (nT (nT x)) W2 (nT_sz _ (nT_sz _ (hs))) h0).mono ?_
  rintro r w3 ⟨rfl, h1, hk1⟩; dsimp only
  replace hD := hk1.blk hD hDR
  replace hB := hk1.blk hB hBR
  replace hk := hk.trans hk1
  clear h0 hk1
  have d21 : ∃ v, w3.cell? ⟨w.heap.size, 21, none⟩ = some v := ⟨_, blk_cell hD rfl⟩
  obtain ⟨v21, d21⟩ := d21
  have fD : ∀ i, w3.frozen? ⟨w.heap.size, i, none⟩ = false := hD.frozen
  have lD := hD.lt
  go_wp2_with fail
  refine calls_world (F := fun W => RR W R (nI (nT (nT x))) ∧ Blk W w.heap.size 64 (csC { c with alloc := { c.alloc with name := gT x, user := gT (nT x), count := gI (nT (nT x)) } }) ∧ Blk W (w.heap.size + 1) 64 (csC zeroC) ∧ Kept R w W) ⟨(Blk.far h1 (p := ⟨w.heap.size, 21, none⟩) hRD (.int .i64 (gI (nT (nT x))))), (Blk.set_ hD 21 (.int .i64 (gI (nT (nT x))))), (hB.far (p := ⟨w.heap.size, 21, none⟩) (by show w.heap.size + 1 ≠ w.heap.size; omega) (.int .i64 (gI (nT (nT x))))), (hk.fresh (Nat.le_refl _) 21 (.int .i64 (gI (nT (nT x)))))⟩ ?_
  clear h1 hD hB hk d21 fD lD
  rintro W3 ⟨h0, hD, hB, hk⟩
  refine (r_readVec R (nI (nT (nT x))) W3 (nI_sz _ (nT_sz _ (nT_sz _ (hs)))) h0).mono ?_
  rintro r w4 ⟨rfl, h1, hk1⟩; dsimp only
  replace hD := hk1.blk hD hDR
  replace hB := hk1.blk hB hBR
  replace hk := hk.trans hk1
  clear h0 hk1
  have d22 : ∃ v, w4.cell? ⟨w.heap.size, 22, none⟩ = some v := ⟨_, blk_cell hD rfl⟩
  obtain ⟨v22, d22⟩ := d22
  have d23 : ∃ v, w4.cell? ⟨w.heap.size, 23, none⟩ = some v := ⟨_, blk_cell hD rfl⟩
  obtain ⟨v23, d23⟩ := d23
  have d24 : ∃ v, w4.cell? ⟨w.heap.size, 24, none⟩ = some v := ⟨_, blk_cell hD rfl⟩
  obtain ⟨v24, d24⟩ := d24
  have fD : ∀ i, w4.frozen? ⟨w.heap.size, i, none⟩ = false := hD.frozen
  have lD := hD.lt
  obtain ⟨FF, hFF⟩ : ∃ FF : World → Prop, FF = (fun W => RR W R (nV (nI (nT (nT x)))) ∧ Blk W w.heap.size 64 (csC { c with alloc := gA x }) ∧ Blk W (w.heap.size + 1) 64 (csC zeroC) ∧ Kept R w W) := ⟨_, rfl⟩
  replace hFF := Lib.hid hFF
  go_wp2_with (with_reducible refine ops_at 120 rfl FF ?_ ?_)
  · rw [hFF.out]
    exact Lib.hid ⟨(Blk.far (Blk.far (Blk.far h1 (p := ⟨w.heap.size, 22, none⟩) hRD (.int .i64 (gV (nI (nT (nT x)))).cpu)) (p := ⟨w.heap.size, 23, none⟩) hRD (.int .i64 (gV (nI (nT (nT x)))).mem)) (p := ⟨w.heap.size, 24, none⟩) hRD (.int .i64 (gV (nI (nT (nT x)))).disk)), (Blk.set_ (Blk.set_ (Blk.set_ hD 22 (.int .i64 (gV (nI (nT (nT x)))).cpu)) 23 (.int .i64 (gV (nI (nT (nT x)))).mem)) 24 (.int .i64 (gV (nI (nT (nT x)))).disk)), (((hB.far (p := ⟨w.heap.size, 22, none⟩) (by show w.heap.size + 1 ≠ w.heap.size; omega) (.int .i64 (gV (nI (nT (nT x)))).cpu)).far (p := ⟨w.heap.size, 23, none⟩) (by show w.heap.size + 1 ≠ w.heap.size; omega) (.int .i64 (gV (nI (nT (nT x)))).mem)).far (p := ⟨w.heap.size, 24, none⟩) (by show w.heap.size + 1 ≠ w.heap.size; omega) (.int .i64 (gV (nI (nT (nT x)))).disk)), (((hk.fresh (Nat.le_refl _) 22 (.int .i64 (gV (nI (nT (nT x)))).cpu)).fresh (Nat.le_refl _) 23 (.int .i64 (gV (nI (nT (nT x)))).mem)).fresh (Nat.le_refl _) 24 (.int .i64 (gV (nI (nT (nT x)))).disk))⟩
  · refine Lib.hid ?_
    clear h1 hD hB hk d22 d23 d24 fD lD
    intro W hW
    rw [hFF.out] at hW
    obtain ⟨h0, hD, hB, hk⟩ := hW
    have hlD := load_cmd hD rfl
    go_wp2_with (first | (with_reducible refine wpList_load_rowW 64 (.tmp 3) w.heap.size ?_ (csC { c with alloc := gA x }) hlD ?_ ?_) | (with_reducible refine st_cmd (.tmp 4) (.tmp 120) (w.heap.size + 1) { c with alloc := gA x } ?_ ?_ (csC zeroC) hB (csC_size zeroC) ?_ ?_) | fail)
    rotate_right
    · skip
      refine bodyPost_ret (results_cell_row Try.results67 _ _ (w.heap.size + 1) 64 (csC { c with alloc := gA x }) (0, 0) _ rfl hB.rowK Try.underlying64 rfl info_cmd) rfl ?_
      exact ⟨rfl, Blk.offRow h0 hRB, hk.freshRow (by omega) _⟩
    all_goals first | rfl | (simp [Region.wanted, yielded, Act.put]; done)
set_option maxRecDepth 100000 in
set_option maxHeartbeats 8000000 in
theorem read_6 (R : Nat) (x : RS) (c : Command) (hq : c.kind = 6) (w : World) (hs : x.1.size ≤ 140737488351232) (h : RR w R x) : Calls Try.prog 67 #[.pointer (some ⟨R, 0, none⟩), .agg (csC c)] w fun e w' => e = .returned (.agg (csC (rdK (fieldsOf c.kind) 13 (x, c)).2)) ∧ RR w' R (rdK (fieldsOf c.kind) 13 (x, c)).1 ∧ Kept R w w' := by
  have hr : rdK (fieldsOf c.kind) 13 (x, c) = ((nT x), { c with name := gT x }) := by
    rw [show fieldsOf c.kind = fieldsOf 6 by rw [hq]]
    kernel_rfl
  rw [hr]
  clear hr
  have hRl := Blk.lt h
  have hD := (Blk.new w 64 (csC c)).alloc (.cells #[.int .u8 0, .int .u64 0, .int .u64 0, .string ⟨#[]⟩, .int .u8 0, .int .i64 0, .int .i64 0, .int .i64 0, .int .i64 0, .string ⟨#[]⟩, .string ⟨#[]⟩, .int .u8 0, .int .i64 0, .int .i64 0, .int .i64 0, .int .i64 0, .string ⟨#[]⟩, .int .i64 0, .int .i64 0, .string ⟨#[]⟩, .string ⟨#[]⟩, .int .i64 0, .int .i64 0, .int .i64 0, .int .i64 0, .string ⟨#[]⟩, .int .i64 0, .string ⟨#[]⟩, .int .i64 0, .int .i64 0, .int .i64 0, .int .u8 0, .int .i64 0] 64)
  have hB : Blk ((w.alloc (.cells (csC c) 64)).alloc (.cells #[.int .u8 0, .int .u64 0, .int .u64 0, .string ⟨#[]⟩, .int .u8 0, .int .i64 0, .int .i64 0, .int .i64 0, .int .i64 0, .string ⟨#[]⟩, .string ⟨#[]⟩, .int .u8 0, .int .i64 0, .int .i64 0, .int .i64 0, .int .i64 0, .string ⟨#[]⟩, .int .i64 0, .int .i64 0, .string ⟨#[]⟩, .string ⟨#[]⟩, .int .i64 0, .int .i64 0, .int .i64 0, .int .i64 0, .string ⟨#[]⟩, .int .i64 0, .string ⟨#[]⟩, .int .i64 0, .int .i64 0, .int .i64 0, .int .u8 0, .int .i64 0] 64)) (w.heap.size + 1) 64 (csC zeroC) := Blk.new1 w (.cells (csC c) 64) 64 #[.int .u8 0, .int .u64 0, .int .u64 0, .string ⟨#[]⟩, .int .u8 0, .int .i64 0, .int .i64 0, .int .i64 0, .int .i64 0, .string ⟨#[]⟩, .string ⟨#[]⟩, .int .u8 0, .int .i64 0, .int .i64 0, .int .i64 0, .int .i64 0, .string ⟨#[]⟩, .int .i64 0, .int .i64 0, .string ⟨#[]⟩, .string ⟨#[]⟩, .int .i64 0, .int .i64 0, .int .i64 0, .int .i64 0, .string ⟨#[]⟩, .int .i64 0, .string ⟨#[]⟩, .int .i64 0, .int .i64 0, .int .i64 0, .int .u8 0, .int .i64 0]
  have hk := ((Kept.refl R w).own (.cells (csC c) 64)).own (.cells #[.int .u8 0, .int .u64 0, .int .u64 0, .string ⟨#[]⟩, .int .u8 0, .int .i64 0, .int .i64 0, .int .i64 0, .int .i64 0, .string ⟨#[]⟩, .string ⟨#[]⟩, .int .u8 0, .int .i64 0, .int .i64 0, .int .i64 0, .int .i64 0, .string ⟨#[]⟩, .int .i64 0, .int .i64 0, .string ⟨#[]⟩, .string ⟨#[]⟩, .int .i64 0, .int .i64 0, .int .i64 0, .int .i64 0, .string ⟨#[]⟩, .int .i64 0, .string ⟨#[]⟩, .int .i64 0, .int .i64 0, .int .i64 0, .int .u8 0, .int .i64 0] 64)
  have h0 : RR _ R x := Blk.alloc (Blk.alloc h (.cells (csC c) 64)) (.cells #[.int .u8 0, .int .u64 0, .int .u64 0, .string ⟨#[]⟩, .int .u8 0, .int .i64 0, .int .i64 0, .int .i64 0, .int .i64 0, .string ⟨#[]⟩, .string ⟨#[]⟩, .int .u8 0, .int .i64 0, .int .i64 0, .int .i64 0, .int .i64 0, .string ⟨#[]⟩, .int .i64 0, .int .i64 0, .string ⟨#[]⟩, .string ⟨#[]⟩, .int .i64 0, .int .i64 0, .int .i64 0, .int .i64 0, .string ⟨#[]⟩, .int .i64 0, .string ⟨#[]⟩, .int .i64 0, .int .i64 0, .int .i64 0, .int .u8 0, .int .i64 0] 64)
  have q0 : ((w.alloc (.cells (csC c) 64)).alloc (.cells #[.int .u8 0, .int .u64 0, .int .u64 0, .string ⟨#[]⟩, .int .u8 0, .int .i64 0, .int .i64 0, .int .i64 0, .int .i64 0, .string ⟨#[]⟩, .string ⟨#[]⟩, .int .u8 0, .int .i64 0, .int .i64 0, .int .i64 0, .int .i64 0, .string ⟨#[]⟩, .int .i64 0, .int .i64 0, .string ⟨#[]⟩, .string ⟨#[]⟩, .int .i64 0, .int .i64 0, .int .i64 0, .int .i64 0, .string ⟨#[]⟩, .int .i64 0, .string ⟨#[]⟩, .int .i64 0, .int .i64 0, .int .i64 0, .int .u8 0, .int .i64 0] 64)).cell? ⟨w.heap.size, 0, none⟩ = some (.int .u8 6) := by
    have q := blk_cell hD (show (csC c)[0]? = some (.int .u8 c.kind) from rfl)
    rw [hq] at q
    exact q
  have hRD : R ≠ w.heap.size := by omega
  have hRB : R ≠ w.heap.size + 1 := by omega
  have hDR : w.heap.size ≠ R := by omega
  have hBR : w.heap.size + 1 ≠ R := by omega
  clear hq
  go_enter Try.func67, Try.ntmps67
  go_wp2_with fail
  refine calls_world (F := fun W => RR W R x ∧ Blk W w.heap.size 64 (csC c) ∧ Blk W (w.heap.size + 1) 64 (csC zeroC) ∧ Kept R w W) ⟨h0, hD, hB, hk⟩ ?_
  clear h0 hD hB hk q0
  rintro W0 ⟨h0, hD, hB, hk⟩
  refine (rT R x W0 (hs) h0).mono ?_
  rintro r w1 ⟨rfl, h1, hk1⟩; dsimp only
  replace hD := hk1.blk hD hDR
  replace hB := hk1.blk hB hBR
  replace hk := hk.trans hk1
  clear h0 hk1
  have d25 : ∃ v, w1.cell? ⟨w.heap.size, 25, none⟩ = some v := ⟨_, blk_cell hD rfl⟩
  obtain ⟨v25, d25⟩ := d25
  have fD : ∀ i, w1.frozen? ⟨w.heap.size, i, none⟩ = false := hD.frozen
  have lD := hD.lt
  obtain ⟨FF, hFF⟩ : ∃ FF : World → Prop, FF = (fun W => RR W R (nT x) ∧ Blk W w.heap.size 64 (csC { c with name := gT x }) ∧ Blk W (w.heap.size + 1) 64 (csC zeroC) ∧ Kept R w W) := ⟨_, rfl⟩
  replace hFF := Lib.hid hFF
  go_wp2_with (with_reducible refine ops_at 120 rfl FF ?_ ?_)
  · rw [hFF.out]
    exact Lib.hid ⟨(Blk.far h1 (p := ⟨w.heap.size, 25, none⟩) hRD (.string (gT x))), (Blk.set_ hD 25 (.string (gT x))), (hB.far (p := ⟨w.heap.size, 25, none⟩) (by show w.heap.size + 1 ≠ w.heap.size; omega) (.string (gT x))), (hk.fresh (Nat.le_refl _) 25 (.string (gT x)))⟩
  · refine Lib.hid ?_
    clear h1 hD hB hk d25 fD lD
    intro W hW
    rw [hFF.out] at hW
    obtain ⟨h0, hD, hB, hk⟩ := hW
    have hlD := load_cmd hD rfl
    go_wp2_with (first | (with_reducible refine wpList_load_rowW 64 (.tmp 3) w.heap.size ?_ (csC { c with name := gT x }) hlD ?_ ?_) | (with_reducible refine st_cmd (.tmp 4) (.tmp 120) (w.heap.size + 1) { c with name := gT x } ?_ ?_ (csC zeroC) hB (csC_size zeroC) ?_ ?_) | fail)
    rotate_right
    · skip
      refine bodyPost_ret (results_cell_row Try.results67 _ _ (w.heap.size + 1) 64 (csC { c with name := gT x }) (0, 0) _ rfl hB.rowK Try.underlying64 rfl info_cmd) rfl ?_
      exact ⟨rfl, Blk.offRow h0 hRB, hk.freshRow (by omega) _⟩
    all_goals first | rfl | (simp [Region.wanted, yielded, Act.put]; done)
set_option maxRecDepth 100000 in
set_option maxHeartbeats 8000000 in
theorem read_7 (R : Nat) (x : RS) (c : Command) (hq : c.kind = 7) (w : World) (hs : x.1.size ≤ 140737488351232) (h : RR w R x) : Calls Try.prog 67 #[.pointer (some ⟨R, 0, none⟩), .agg (csC c)] w fun e w' => e = .returned (.agg (csC (rdK (fieldsOf c.kind) 13 (x, c)).2)) ∧ RR w' R (rdK (fieldsOf c.kind) 13 (x, c)).1 ∧ Kept R w w' := by
  have hr : rdK (fieldsOf c.kind) 13 (x, c) = ((nI (nI (nK x))), { c with task := gK x, machine := gI (nK x), in_ := gI (nI (nK x)) }) := by
    rw [show fieldsOf c.kind = fieldsOf 7 by rw [hq]]
    kernel_rfl
  rw [hr]
  clear hr
  have hRl := Blk.lt h
  have hD := (Blk.new w 64 (csC c)).alloc (.cells #[.int .u8 0, .int .u64 0, .int .u64 0, .string ⟨#[]⟩, .int .u8 0, .int .i64 0, .int .i64 0, .int .i64 0, .int .i64 0, .string ⟨#[]⟩, .string ⟨#[]⟩, .int .u8 0, .int .i64 0, .int .i64 0, .int .i64 0, .int .i64 0, .string ⟨#[]⟩, .int .i64 0, .int .i64 0, .string ⟨#[]⟩, .string ⟨#[]⟩, .int .i64 0, .int .i64 0, .int .i64 0, .int .i64 0, .string ⟨#[]⟩, .int .i64 0, .string ⟨#[]⟩, .int .i64 0, .int .i64 0, .int .i64 0, .int .u8 0, .int .i64 0] 64)
  have hB : Blk ((w.alloc (.cells (csC c) 64)).alloc (.cells #[.int .u8 0, .int .u64 0, .int .u64 0, .string ⟨#[]⟩, .int .u8 0, .int .i64 0, .int .i64 0, .int .i64 0, .int .i64 0, .string ⟨#[]⟩, .string ⟨#[]⟩, .int .u8 0, .int .i64 0, .int .i64 0, .int .i64 0, .int .i64 0, .string ⟨#[]⟩, .int .i64 0, .int .i64 0, .string ⟨#[]⟩, .string ⟨#[]⟩, .int .i64 0, .int .i64 0, .int .i64 0, .int .i64 0, .string ⟨#[]⟩, .int .i64 0, .string ⟨#[]⟩, .int .i64 0, .int .i64 0, .int .i64 0, .int .u8 0, .int .i64 0] 64)) (w.heap.size + 1) 64 (csC zeroC) := Blk.new1 w (.cells (csC c) 64) 64 #[.int .u8 0, .int .u64 0, .int .u64 0, .string ⟨#[]⟩, .int .u8 0, .int .i64 0, .int .i64 0, .int .i64 0, .int .i64 0, .string ⟨#[]⟩, .string ⟨#[]⟩, .int .u8 0, .int .i64 0, .int .i64 0, .int .i64 0, .int .i64 0, .string ⟨#[]⟩, .int .i64 0, .int .i64 0, .string ⟨#[]⟩, .string ⟨#[]⟩, .int .i64 0, .int .i64 0, .int .i64 0, .int .i64 0, .string ⟨#[]⟩, .int .i64 0, .string ⟨#[]⟩, .int .i64 0, .int .i64 0, .int .i64 0, .int .u8 0, .int .i64 0]
  have hk := ((Kept.refl R w).own (.cells (csC c) 64)).own (.cells #[.int .u8 0, .int .u64 0, .int .u64 0, .string ⟨#[]⟩, .int .u8 0, .int .i64 0, .int .i64 0, .int .i64 0, .int .i64 0, .string ⟨#[]⟩, .string ⟨#[]⟩, .int .u8 0, .int .i64 0, .int .i64 0, .int .i64 0, .int .i64 0, .string ⟨#[]⟩, .int .i64 0, .int .i64 0, .string ⟨#[]⟩, .string ⟨#[]⟩, .int .i64 0, .int .i64 0, .int .i64 0, .int .i64 0, .string ⟨#[]⟩, .int .i64 0, .string ⟨#[]⟩, .int .i64 0, .int .i64 0, .int .i64 0, .int .u8 0, .int .i64 0] 64)
  have h0 : RR _ R x := Blk.alloc (Blk.alloc h (.cells (csC c) 64)) (.cells #[.int .u8 0, .int .u64 0, .int .u64 0, .string ⟨#[]⟩, .int .u8 0, .int .i64 0, .int .i64 0, .int .i64 0, .int .i64 0, .string ⟨#[]⟩, .string ⟨#[]⟩, .int .u8 0, .int .i64 0, .int .i64 0, .int .i64 0, .int .i64 0, .string ⟨#[]⟩, .int .i64 0, .int .i64 0, .string ⟨#[]⟩, .string ⟨#[]⟩, .int .i64 0, .int .i64 0, .int .i64 0, .int .i64 0, .string ⟨#[]⟩, .int .i64 0, .string ⟨#[]⟩, .int .i64 0, .int .i64 0, .int .i64 0, .int .u8 0, .int .i64 0] 64)
  have q0 : ((w.alloc (.cells (csC c) 64)).alloc (.cells #[.int .u8 0, .int .u64 0, .int .u64 0, .string ⟨#[]⟩, .int .u8 0, .int .i64 0, .int .i64 0, .int .i64 0, .int .i64 0, .string ⟨#[]⟩, .string ⟨#[]⟩, .int .u8 0, .int .i64 0, .int .i64 0, .int .i64 0, .int .i64 0, .string ⟨#[]⟩, .int .i64 0, .int .i64 0, .string ⟨#[]⟩, .string ⟨#[]⟩, .int .i64 0, .int .i64 0, .int .i64 0, .int .i64 0, .string ⟨#[]⟩, .int .i64 0, .string ⟨#[]⟩, .int .i64 0, .int .i64 0, .int .i64 0, .int .u8 0, .int .i64 0] 64)).cell? ⟨w.heap.size, 0, none⟩ = some (.int .u8 7) := by
    have q := blk_cell hD (show (csC c)[0]? = some (.int .u8 c.kind) from rfl)
    rw [hq] at q
    exact q
  have hRD : R ≠ w.heap.size := by omega
  have hRB : R ≠ w.heap.size + 1 := by omega
  have hDR : w.heap.size ≠ R := by omega
  have hBR : w.heap.size + 1 ≠ R := by omega
  clear hq
  go_enter Try.func67, Try.ntmps67
  go_wp2_with fail
  refine calls_world (F := fun W => RR W R x ∧ Blk W w.heap.size 64 (csC c) ∧ Blk W (w.heap.size + 1) 64 (csC zeroC) ∧ Kept R w W) ⟨h0, hD, hB, hk⟩ ?_
  clear h0 hD hB hk q0
  rintro W0 ⟨h0, hD, hB, hk⟩
  refine (r_readTask R x W0 (hs) h0).mono ?_
  rintro r w1 ⟨rfl, h1, hk1⟩; dsimp only
  replace hD := hk1.blk hD hDR
  replace hB := hk1.blk hB hBR
  replace hk := hk.trans hk1
  clear h0 hk1
  have d27 : ∃ v, w1.cell? ⟨w.heap.size, 27, none⟩ = some v := ⟨_, blk_cell hD rfl⟩
  obtain ⟨v27, d27⟩ := d27
  have d28 : ∃ v, w1.cell? ⟨w.heap.size, 28, none⟩ = some v := ⟨_, blk_cell hD rfl⟩
  obtain ⟨v28, d28⟩ := d28
  have fD : ∀ i, w1.frozen? ⟨w.heap.size, i, none⟩ = false := hD.frozen
  have lD := hD.lt
  go_wp2_with fail
  refine calls_world (F := fun W => RR W R (nK x) ∧ Blk W w.heap.size 64 (csC { c with task := gK x }) ∧ Blk W (w.heap.size + 1) 64 (csC zeroC) ∧ Kept R w W) ⟨(Blk.far (Blk.far h1 (p := ⟨w.heap.size, 27, none⟩) hRD (.string (gK x).job)) (p := ⟨w.heap.size, 28, none⟩) hRD (.int .i64 (gK x).n)), (Blk.set_ (Blk.set_ hD 27 (.string (gK x).job)) 28 (.int .i64 (gK x).n)), ((hB.far (p := ⟨w.heap.size, 27, none⟩) (by show w.heap.size + 1 ≠ w.heap.size; omega) (.string (gK x).job)).far (p := ⟨w.heap.size, 28, none⟩) (by show w.heap.size + 1 ≠ w.heap.size; omega) (.int .i64 (gK x).n)), ((hk.fresh (Nat.le_refl _) 27 (.string (gK x).job)).fresh (Nat.le_refl _) 28 (.int .i64 (gK x).n))⟩ ?_
  clear h1 hD hB hk d27 d28 fD lD
  rintro W1 ⟨h0, hD, hB, hk⟩
  refine (r_num R (nK x) W1 (nK_sz _ (hs)) h0).mono ?_
  rintro r w2 ⟨rfl, h1, hk1⟩; dsimp only
  replace hD := hk1.blk hD hDR
  replace hB := hk1.blk hB hBR
  replace hk := hk.trans hk1
  clear h0 hk1
  have d8 : ∃ v, w2.cell? ⟨w.heap.size, 8, none⟩ = some v := ⟨_, blk_cell hD rfl⟩
  obtain ⟨v8, d8⟩ := d8
  have fD : ∀ i, w2.frozen? ⟨w.heap.size, i, none⟩ = false := hD.frozen
  have lD := hD.lt
  go_wp2_with fail
  refine calls_world (F := fun W => RR W R (nI (nK x)) ∧ Blk W w.heap.size 64 (csC { c with task := gK x, machine := gI (nK x) }) ∧ Blk W (w.heap.size + 1) 64 (csC zeroC) ∧ Kept R w W) ⟨(Blk.far h1 (p := ⟨w.heap.size, 8, none⟩) hRD (.int .i64 (gI (nK x)))), (Blk.set_ hD 8 (.int .i64 (gI (nK x)))), (hB.far (p := ⟨w.heap.size, 8, none⟩) (by show w.heap.size + 1 ≠ w.heap.size; omega) (.int .i64 (gI (nK x)))), (hk.fresh (Nat.le_refl _) 8 (.int .i64 (gI (nK x))))⟩ ?_
  clear h1 hD hB hk d8 fD lD
  rintro W2 ⟨h0, hD, hB, hk⟩
  refine (r_num R (nI (nK x)) W2 (nI_sz _ (nK_sz _ (hs))) h0).mono ?_
  rintro r w3 ⟨rfl, h1, hk1⟩; dsimp only
  replace hD := hk1.blk hD hDR
  replace hB := hk1.blk hB hBR
  replace hk := hk.trans hk1
  clear h0 hk1
  have d29 : ∃ v, w3.cell? ⟨w.heap.size, 29, none⟩ = some v := ⟨_, blk_cell hD rfl⟩
  obtain ⟨v29, d29⟩ := d29
  have fD : ∀ i, w3.frozen? ⟨w.heap.size, i, none⟩ = false := hD.frozen
  have lD := hD.lt
  obtain ⟨FF, hFF⟩ : ∃ FF : World → Prop, FF = (fun W => RR W R (nI (nI (nK x))) ∧ Blk W w.heap.size 64 (csC { c with task := gK x, machine := gI (nK x), in_ := gI (nI (nK x)) }) ∧ Blk W (w.heap.size + 1) 64 (csC zeroC) ∧ Kept R w W) := ⟨_, rfl⟩
  replace hFF := Lib.hid hFF
  go_wp2_with (with_reducible refine ops_at 120 rfl FF ?_ ?_)
  · rw [hFF.out]
    exact Lib.hid ⟨(Blk.far h1 (p := ⟨w.heap.size, 29, none⟩) hRD (.int .i64 (gI (nI (nK x))))), (Blk.set_ hD 29 (.int .i64 (gI (nI (nK x))))), (hB.far (p := ⟨w.heap.size, 29, none⟩) (by show w.heap.size + 1 ≠ w.heap.size; omega) (.int .i64 (gI (nI (nK x))))), (hk.fresh (Nat.le_refl _) 29 (.int .i64 (gI (nI (nK x)))))⟩
  · refine Lib.hid ?_
    clear h1 hD hB hk d29 fD lD
    intro W hW
    rw [hFF.out] at hW
    obtain ⟨h0, hD, hB, hk⟩ := hW
    have hlD := load_cmd hD rfl
    go_wp2_with (first | (with_reducible refine wpList_load_rowW 64 (.tmp 3) w.heap.size ?_ (csC { c with task := gK x, machine := gI (nK x), in_ := gI (nI (nK x)) }) hlD ?_ ?_) | (with_reducible refine st_cmd (.tmp 4) (.tmp 120) (w.heap.size + 1) { c with task := gK x, machine := gI (nK x), in_ := gI (nI (nK x)) } ?_ ?_ (csC zeroC) hB (csC_size zeroC) ?_ ?_) | fail)
    rotate_right
    · skip
      refine bodyPost_ret (results_cell_row Try.results67 _ _ (w.heap.size + 1) 64 (csC { c with task := gK x, machine := gI (nK x), in_ := gI (nI (nK x)) }) (0, 0) _ rfl hB.rowK Try.underlying64 rfl info_cmd) rfl ?_
      exact ⟨rfl, Blk.offRow h0 hRB, hk.freshRow (by omega) _⟩
    all_goals first | rfl | (simp [Region.wanted, yielded, Act.put]; done)
end Go.Proofs.Yteglieoeblehpaa
