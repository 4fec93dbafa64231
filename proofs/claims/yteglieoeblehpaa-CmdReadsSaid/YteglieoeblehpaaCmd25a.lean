/- Commands: how the reference reads what a kind has, walked, of some kinds. Conditions: the bytes are in memory. -/
import Derived.Test.YteglieoeblehpaaCmd25j
namespace Go.Proofs.Yteglieoeblehpaa
open Go.RowKit

set_option maxRecDepth 100000 in
set_option maxHeartbeats 8000000 in
theorem read_0 (R : Nat) (x : RS) (c : Command) (hq : c.kind = 0) (w : World) (hs : x.1.size ≤ 140737488351232) (h : RR w R x) : Calls Try.prog 67 #[.pointer (some ⟨R, 0, none⟩), .agg (csC c)] w fun e w' => e = .returned (.agg (csC (rdK (fieldsOf c.kind) 13 (x, c)).2)) ∧ RR w' R (rdK (fieldsOf c.kind) 13 (x, c)).1 ∧ Kept R w w' := by
  have hr : rdK (fieldsOf c.kind) 13 (x, c) = (x, c) := by
    rw [show fieldsOf c.kind = fieldsOf 0 by rw [hq]]
    kernel_rfl
  rw [hr]
  clear hr
  have hRl := Blk.lt h
  have hD := (Blk.new w 64 (csC c)).alloc (.cells #[.int .u8 0, .int .u64 0, .int .u64 0, .string ⟨#[]⟩, .int .u8 0, .int .i64 0, .int .i64 0, .int .i64 0, .int .i64 0, .string ⟨#[]⟩, .string ⟨#[]⟩, .int .u8 0, .int .i64 0, .int .i64 0, .int .i64 0, .int .i64 0, .string ⟨#[]⟩, .int .i64 0, .int .i64 0, .string ⟨#[]⟩, .string ⟨#[]⟩, .int .i64 0, .int .i64 0, .int .i64 0, .int .i64 0, .string ⟨#[]⟩, .int .i64 0, .string ⟨#[]⟩, .int .i64 0, .int .i64 0, .int .i64 0, .int .u8 0, .int .i64 0] 64)
  have hB : Blk ((w.alloc (.cells (csC c) 64)).alloc (.cells #[.int .u8 0, .int .u64 0, .int .u64 0, .string ⟨#[]⟩, .int .u8 0, .int .i64 0, .int .i64 0, .int .i64 0, .int .i64 0, .string ⟨#[]⟩, .string ⟨#[]⟩, .int .u8 0, .int .i64 0, .int .i64 0, .int .i64 0, .int .i64 0, .string ⟨#[]⟩, .int .i64 0, .int .i64 0, .string ⟨#[]⟩, .string ⟨#[]⟩, .int .i64 0, .int .i64 0, .int .i64 0, .int .i64 0, .string ⟨#[]⟩, .int .i64 0, .string ⟨#[]⟩, .int .i64 0, .int .i64 0, .int .i64 0, .int .u8 0, .int .i64 0] 64)) (w.heap.size + 1) 64 (csC zeroC) := Blk.new1 w (.cells (csC c) 64) 64 #[.int .u8 0, .int .u64 0, .int .u64 0, .string ⟨#[]⟩, .int .u8 0, .int .i64 0, .int .i64 0, .int .i64 0, .int .i64 0, .string ⟨#[]⟩, .string ⟨#[]⟩, .int .u8 0, .int .i64 0, .int .i64 0, .int .i64 0, .int .i64 0, .string ⟨#[]⟩, .int .i64 0, .int .i64 0, .string ⟨#[]⟩, .string ⟨#[]⟩, .int .i64 0, .int .i64 0, .int .i64 0, .int .i64 0, .string ⟨#[]⟩, .int .i64 0, .string ⟨#[]⟩, .int .i64 0, .int .i64 0, .int .i64 0, .int .u8 0, .int .i64 0]
  have hk := ((Kept.refl R w).own (.cells (csC c) 64)).own (.cells #[.int .u8 0, .int .u64 0, .int .u64 0, .string ⟨#[]⟩, .int .u8 0, .int .i64 0, .int .i64 0, .int .i64 0, .int .i64 0, .string ⟨#[]⟩, .string ⟨#[]⟩, .int .u8 0, .int .i64 0, .int .i64 0, .int .i64 0, .int .i64 0, .string ⟨#[]⟩, .int .i64 0, .int .i64 0, .string ⟨#[]⟩, .string ⟨#[]⟩, .int .i64 0, .int .i64 0, .int .i64 0, .int .i64 0, .string ⟨#[]⟩, .int .i64 0, .string ⟨#[]⟩, .int .i64 0, .int .i64 0, .int .i64 0, .int .u8 0, .int .i64 0] 64)
  have h0 : RR _ R x := Blk.alloc (Blk.alloc h (.cells (csC c) 64)) (.cells #[.int .u8 0, .int .u64 0, .int .u64 0, .string ⟨#[]⟩, .int .u8 0, .int .i64 0, .int .i64 0, .int .i64 0, .int .i64 0, .string ⟨#[]⟩, .string ⟨#[]⟩, .int .u8 0, .int .i64 0, .int .i64 0, .int .i64 0, .int .i64 0, .string ⟨#[]⟩, .int .i64 0, .int .i64 0, .string ⟨#[]⟩, .string ⟨#[]⟩, .int .i64 0, .int .i64 0, .int .i64 0, .int .i64 0, .string ⟨#[]⟩, .int .i64 0, .string ⟨#[]⟩, .int .i64 0, .int .i64 0, .int .i64 0, .int .u8 0, .int .i64 0] 64)
  have q0 : ((w.alloc (.cells (csC c) 64)).alloc (.cells #[.int .u8 0, .int .u64 0, .int .u64 0, .string ⟨#[]⟩, .int .u8 0, .int .i64 0, .int .i64 0, .int .i64 0, .int .i64 0, .string ⟨#[]⟩, .string ⟨#[]⟩, .int .u8 0, .int .i64 0, .int .i64 0, .int .i64 0, .int .i64 0, .string ⟨#[]⟩, .int .i64 0, .int .i64 0, .string ⟨#[]⟩, .string ⟨#[]⟩, .int .i64 0, .int .i64 0, .int .i64 0, .int .i64 0, .string ⟨#[]⟩, .int .i64 0, .string ⟨#[]⟩, .int .i64 0, .int .i64 0, .int .i64 0, .int .u8 0, .int .i64 0] 64)).cell? ⟨w.heap.size, 0, none⟩ = some (.int .u8 0) := by
    have q := blk_cell hD (show (csC c)[0]? = some (.int .u8 c.kind) from rfl)
    rw [hq] at q
    exact q
  have hRD : R ≠ w.heap.size := by omega
  have hRB : R ≠ w.heap.size + 1 := by omega
  have hDR : w.heap.size ≠ R := by omega
  have hBR : w.heap.size + 1 ≠ R := by omega
  clear hq
  go_enter Try.func67, Try.ntmps67
  obtain ⟨FF, hFF⟩ : ∃ FF : World → Prop, FF = (fun W => RR W R x ∧ Blk W w.heap.size 64 (csC c) ∧ Blk W (w.heap.size + 1) 64 (csC zeroC) ∧ Kept R w W) := ⟨_, rfl⟩
  replace hFF := Lib.hid hFF
  go_wp2_with (with_reducible refine ops_at 120 rfl FF ?_ ?_)
  · rw [hFF.out]
    exact Lib.hid ⟨h0, hD, hB, hk⟩
  · refine Lib.hid ?_
    clear h0 hD hB hk q0
    intro W hW
    rw [hFF.out] at hW
    obtain ⟨h0, hD, hB, hk⟩ := hW
    have hlD := load_cmd hD rfl
    go_wp2_with (first | (with_reducible refine wpList_load_rowW 64 (.tmp 3) w.heap.size ?_ (csC c) hlD ?_ ?_) | (with_reducible refine st_cmd (.tmp 4) (.tmp 120) (w.heap.size + 1) c ?_ ?_ (csC zeroC) hB (csC_size zeroC) ?_ ?_) | fail)
    rotate_right
    · skip
      refine bodyPost_ret (results_cell_row Try.results67 _ _ (w.heap.size + 1) 64 (csC c) (0, 0) _ rfl hB.rowK Try.underlying64 rfl info_cmd) rfl ?_
      exact ⟨rfl, Blk.offRow h0 hRB, hk.freshRow (by omega) _⟩
    all_goals first | rfl | (simp [Region.wanted, yielded, Act.put]; done)
set_option maxRecDepth 100000 in
set_option maxHeartbeats 8000000 in
theorem read_1 (R : Nat) (x : RS) (c : Command) (hq : c.kind = 1) (w : World) (hs : x.1.size ≤ 140737488351232) (h : RR w R x) : Calls Try.prog 67 #[.pointer (some ⟨R, 0, none⟩), .agg (csC c)] w fun e w' => e = .returned (.agg (csC (rdK (fieldsOf c.kind) 13 (x, c)).2)) ∧ RR w' R (rdK (fieldsOf c.kind) 13 (x, c)).1 ∧ Kept R w w' := by
  have hr : rdK (fieldsOf c.kind) 13 (x, c) = ((nV (nS (nT x))), { c with user := gT x, band := gS (nT x), vec := gV (nS (nT x)) }) := by
    rw [show fieldsOf c.kind = fieldsOf 1 by rw [hq]]
    kernel_rfl
  rw [hr]
  clear hr
  have hRl := Blk.lt h
  have hD := (Blk.new w 64 (csC c)).alloc (.cells #[.int .u8 0, .int .u64 0, .int .u64 0, .string ⟨#[]⟩, .int .u8 0, .int .i64 0, .int .i64 0, .int .i64 0, .int .i64 0, .string ⟨#[]⟩, .string ⟨#[]⟩, .int .u8 0, .int .i64 0, .int .i64 0, .int .i64 0, .int .i64 0, .string ⟨#[]⟩, .int .i64 0, .int .i64 0, .string ⟨#[]⟩, .string ⟨#[]⟩, .int .i64 0, .int .i64 0, .int .i64 0, .int .i64 0, .string ⟨#[]⟩, .int .i64 0, .string ⟨#[]⟩, .int .i64 0, .int .i64 0, .int .i64 0, .int .u8 0, .int .i64 0] 64)
  have hB : Blk ((w.alloc (.cells (csC c) 64)).alloc (.cells #[.int .u8 0, .int .u64 0, .int .u64 0, .string ⟨#[]⟩, .int .u8 0, .int .i64 0, .int .i64 0, .int .i64 0, .int .i64 0, .string ⟨#[]⟩, .string ⟨#[]⟩, .int .u8 0, .int .i64 0, .int .i64 0, .int .i64 0, .int .i64 0, .string ⟨#[]⟩, .int .i64 0, .int .i64 0, .string ⟨#[]⟩, .string ⟨#[]⟩, .int .i64 0, .int .i64 0, .int .i64 0, .int .i64 0, .string ⟨#[]⟩, .int .i64 0, .string ⟨#[]⟩, .int .i64 0, .int .i64 0, .int .i64 0, .int .u8 0, .int .i64 0] 64)) (w.heap.size + 1) 64 (csC zeroC) := Blk.new1 w (.cells (csC c) 64) 64 #[.int .u8 0, .int .u64 0, .int .u64 0, .string ⟨#[]⟩, .int .u8 0, .int .i64 0, .int .i64 0, .int .i64 0, .int .i64 0, .string ⟨#[]⟩, .string ⟨#[]⟩, .int .u8 0, .int .i64 0, .int .i64 0, .int .i64 0, .int .i64 0, .string ⟨#[]⟩, .int .i64 0, .int .i64 0, .string ⟨#[]⟩, .string ⟨#[]⟩, .int .i64 0, .int .i64 0, .int .i64 0, .int .i64 0, .string ⟨#[]⟩, .int .i64 0, .string ⟨#[]⟩, .int .i64 0, .int .i64 0, .int .i64 0, .int .u8 0, .int .i64 0]
  have hk := ((Kept.refl R w).own (.cells (csC c) 64)).own (.cells #[.int .u8 0, .int .u64 0, .int .u64 0, .string ⟨#[]⟩, .int .u8 0, .int .i64 0, .int .i64 0, .int .i64 0, .int .i64 0, .string ⟨#[]⟩, .string ⟨#[]⟩, .int .u8 0, .int .i64 0, .int .i64 0, .int .i64 0, .int .i64 0, .string ⟨#[]⟩, .int .i64 0, .int .i64 0, .string ⟨#[]⟩, .string ⟨#[]⟩, .int .i64 0, .int .i64 0, .int .i64 0, .int .i64 0, .string ⟨#[]⟩, .int .i64 0, .string ⟨#[]⟩, .int .i64 0, .int .i64 0, .int .i64 0, .int .u8 0, .int .i64 0] 64)
  have h0 : RR _ R x := Blk.alloc (Blk.alloc h (.cells (csC c) 64)) (.cells #[.int .u8 0, .int .u64 0, .int .u64 0, .string ⟨#[]⟩, .int .u8 0, .int .i64 0, .int .i64 0, .int .i64 0, .int .i64 0, .string ⟨#[]⟩, .string ⟨#[]⟩, .int .u8 0, .int .i64 0, .int .i64 0, .int .i64 0, .int .i64 0, .string ⟨#[]⟩, .int .i64 0, .int .i64 0, .string ⟨#[]⟩, .string ⟨#[]⟩, .int .i64 0, .int .i64 0, .int .i64 0, .int .i64 0, .string ⟨#[]⟩, .int .i64 0, .string ⟨#[]⟩, .int .i64 0, .int .i64 0, .int .i64 0, .int .u8 0, .int .i64 0] 64)
  have q0 : ((w.alloc (.cells (csC c) 64)).alloc (.cells #[.int .u8 0, .int .u64 0, .int .u64 0, .string ⟨#[]⟩, .int .u8 0, .int .i64 0, .int .i64 0, .int .i64 0, .int .i64 0, .string ⟨#[]⟩, .string ⟨#[]⟩, .int .u8 0, .int .i64 0, .int .i64 0, .int .i64 0, .int .i64 0, .string ⟨#[]⟩, .int .i64 0, .int .i64 0, .string ⟨#[]⟩, .string ⟨#[]⟩, .int .i64 0, .int .i64 0, .int .i64 0, .int .i64 0, .string ⟨#[]⟩, .int .i64 0, .string ⟨#[]⟩, .int .i64 0, .int .i64 0, .int .i64 0, .int .u8 0, .int .i64 0] 64)).cell? ⟨w.heap.size, 0, none⟩ = some (.int .u8 1) := by
    have q := blk_cell hD (show (csC c)[0]? = some (.int .u8 c.kind) from rfl)
    rw [hq] at q
    exact q
  have hRD : R ≠ w.heap.size := by omega
  have hRB : R ≠ w.heap.size + 1 := by omega
  have hDR : w.heap.size ≠ R := by omega
  have hBR : w.heap.size + 1 ≠ R := by omega
  clear hq
  go_enter Try.func67, Try.ntmps67
  go_wp2_with fail
  refine calls_world (F := fun W => RR W R x ∧ Blk W w.heap.size 64 (csC c) ∧ Blk W (w.heap.size + 1) 64 (csC zeroC) ∧ Kept R w W) ⟨h0, hD, hB, hk⟩ ?_
  clear h0 hD hB hk q0
  rintro W0 ⟨h0, hD, hB, hk⟩
  refine (rT R x W0 (hs) h0).mono ?_
  rintro r w1 ⟨rfl, h1, hk1⟩; dsimp only
  replace hD := hk1.blk hD hDR
  replace hB := hk1.blk hB hBR
  replace hk := hk.trans hk1
  clear h0 hk1
  have d3 : ∃ v, w1.cell? ⟨w.heap.size, 3, none⟩ = some v := ⟨_, blk_cell hD rfl⟩
  obtain ⟨v3, d3⟩ := d3
  have fD : ∀ i, w1.frozen? ⟨w.heap.size, i, none⟩ = false := hD.frozen
  have lD := hD.lt
  go_wp2_with fail
  refine calls_world (F := fun W => RR W R (nT x) ∧ Blk W w.heap.size 64 (csC { c with user := gT x }) ∧ Blk W (w.heap.size + 1) 64 (csC zeroC) ∧ Kept R w W) ⟨(Blk.far h1 (p := ⟨w.heap.size, 3, none⟩) hRD (.string (gT x))), (Blk.set_ hD 3 (.string (gT x))), (hB.far (p := ⟨w.heap.size, 3, none⟩) (by show w.heap.size + 1 ≠ w.heap.size; omega) (.string (gT x))), (hk.fresh (Nat.le_refl _) 3 (.string (gT x)))⟩ ?_
  clear h1 hD hB hk d3 fD lD
  rintro W1 ⟨h0, hD, hB, hk⟩
  refine (rS R (nT x) W1 (nT_sz _ (hs)) h0).mono ?_
  rintro r w2 ⟨rfl, h1, hk1⟩; dsimp only
  replace hD := hk1.blk hD hDR
  replace hB := hk1.blk hB hBR
  replace hk := hk.trans hk1
  clear h0 hk1
  have hw : IntKind.u8.wrap (gS (nT x)) = gS (nT x) := IntWalk.u8_in _ (by have := gS_ok (nT x); unfold U8 at this; omega)
  have d4 : ∃ v, w2.cell? ⟨w.heap.size, 4, none⟩ = some v := ⟨_, blk_cell hD rfl⟩
  obtain ⟨v4, d4⟩ := d4
  have fD : ∀ i, w2.frozen? ⟨w.heap.size, i, none⟩ = false := hD.frozen
  have lD := hD.lt
  go_wp2_with fail
  refine calls_world (F := fun W => RR W R (nS (nT x)) ∧ Blk W w.heap.size 64 (csC { c with user := gT x, band := gS (nT x) }) ∧ Blk W (w.heap.size + 1) 64 (csC zeroC) ∧ Kept R w W) ⟨(Blk.far h1 (p := ⟨w.heap.size, 4, none⟩) hRD (.int .u8 (gS (nT x)))), (Blk.set_ hD 4 (.int .u8 (gS (nT x)))), (hB.far (p := ⟨w.heap.size, 4, none⟩) (by show w.heap.size + 1 ≠ w.heap.size; omega) (.int .u8 (gS (nT x)))), (hk.fresh (Nat.le_refl _) 4 (.int .u8 (gS (nT x))))⟩ ?_
  clear h1 hD hB hk hw d4 fD lD
  rintro W2 ⟨h0, hD, hB, hk⟩
  refine (r_readVec R (nS (nT x)) W2 (nS_sz _ (nT_sz _ (hs))) h0).mono ?_
  rintro r w3 ⟨rfl, h1, hk1⟩; dsimp only
  replace hD := hk1.blk hD hDR
  replace hB := hk1.blk hB hBR
  replace hk := hk.trans hk1
  clear h0 hk1
  have d5 : ∃ v, w3.cell? ⟨w.heap.size, 5, none⟩ = some v := ⟨_, blk_cell hD rfl⟩
  obtain ⟨v5, d5⟩ := d5
  have d6 : ∃ v, w3.cell? ⟨w.heap.size, 6, none⟩ = some v := ⟨_, blk_cell hD rfl⟩
  obtain ⟨v6, d6⟩ := d6
  have d7 : ∃ v, w3.cell? ⟨w.heap.size, 7, none⟩ = some v := ⟨_, blk_cell hD rfl⟩
  obtain ⟨v7, d7⟩ := d7
  have fD : ∀ i, w3.frozen? ⟨w.heap.size, i, none⟩ = false := hD.frozen
  have lD := hD.lt
  obtain ⟨FF, hFF⟩ : ∃ FF : World → Prop, FF = (fun W => RR W R (nV (nS (nT x))) ∧ Blk W w.heap.size 64 (csC { c with user := gT x, band := gS (nT x), vec := gV (nS (nT x)) }) ∧ Blk W (w.heap.size + 1) 64 (csC zeroC) ∧ Kept R w W) := ⟨_, rfl⟩
  replace hFF := Lib.hid hFF
  go_wp2_with (with_reducible refine ops_at 120 rfl FF ?_ ?_)
  · rw [hFF.out]
    exact Lib.hid ⟨(Blk.far (Blk.far (Blk.far h1 (p := ⟨w.heap.size, 5, none⟩) hRD (.int .i64 (gV (nS (nT x))).cpu)) (p := ⟨w.heap.size, 6, none⟩) hRD (.int .i64 (gV (nS (nT x))).mem)) (p := ⟨w.heap.size, 7, none⟩) hRD (.int .i64 (gV (nS (nT x))).disk)), (Blk.set_ (Blk.set_ (Blk.set_ hD 5 (.int .i64 (gV (nS (nT x))).cpu)) 6 (.int .i64 (gV (nS (nT x))).mem)) 7 (.int .i64 (gV (nS (nT x))).disk)), (((hB.far (p := ⟨w.heap.size, 5, none⟩) (by show w.heap.size + 1 ≠ w.heap.size; omega) (.int .i64 (gV (nS (nT x))).cpu)).far (p := ⟨w.heap.size, 6, none⟩) (by show w.heap.size + 1 ≠ w.heap.size; omega) (.int .i64 (gV (nS (nT x))).mem)).far (p := ⟨w.heap.size, 7, none⟩) (by show w.heap.size + 1 ≠ w.heap.size; omega) (.int .i64 (gV (nS (nT x))).disk)), (((hk.fresh (Nat.le_refl _) 5 (.int .i64 (gV (nS (nT x))).cpu)).fresh (Nat.le_refl _) 6 (.int .i64 (gV (nS (nT x))).mem)).fresh (Nat.le_refl _) 7 (.int .i64 (gV (nS (nT x))).disk))⟩
  · refine Lib.hid ?_
    clear h1 hD hB hk d5 d6 d7 fD lD
    intro W hW
    rw [hFF.out] at hW
    obtain ⟨h0, hD, hB, hk⟩ := hW
    have hlD := load_cmd hD rfl
    go_wp2_with (first | (with_reducible refine wpList_load_rowW 64 (.tmp 3) w.heap.size ?_ (csC { c with user := gT x, band := gS (nT x), vec := gV (nS (nT x)) }) hlD ?_ ?_) | (with_reducible refine st_cmd (.tmp 4) (.tmp 120) (w.heap.size + 1) { c with user := gT x, band := gS (nT x), vec := gV (nS (nT x)) } ?_ ?_ (csC zeroC) hB (csC_size zeroC) ?_ ?_) | fail)
    rotate_right
    · skip
      refine bodyPost_ret (results_cell_row Try.results67 _ _ (w.heap.size + 1) 64 (csC { c with user := gT x, band := gS (nT x), vec := gV (nS (nT x)) }) (0, 0) _ rfl hB.rowK Try.underlying64 rfl info_cmd) rfl ?_
      exact ⟨rfl, Blk.offRow h0 hRB, hk.freshRow (by omega) _⟩
    all_goals first | rfl | (simp [Region.wanted, yielded, Act.put]; done)
set_option maxRecDepth 100000 in
set_option maxHeartbeats 8000000 in
theorem read_2 (R : Nat) (x : RS) (c : Command) (hq : c.kind = 2) (w : World) (hs : x.1.size ≤ 140737488351232) (h : RR w R x) : Calls Try.prog 67 #[.pointer (some ⟨R, 0, none⟩), .agg (csC c)] w fun e w' => e = .returned (.agg (csC (rdK (fieldsOf c.kind) 13 (x, c)).2)) ∧ RR w' R (rdK (fieldsOf c.kind) 13 (x, c)).1 ∧ Kept R w w' := by
  have hr : rdK (fieldsOf c.kind) 13 (x, c) = ((nV (nI x)), { c with machine := gI x, vec := gV (nI x) }) := by
    rw [show fieldsOf c.kind = fieldsOf 2 by rw [hq]]
    kernel_rfl
  rw [hr]
  clear hr
  have hRl := Blk.lt h
  have hD := (Blk.new w 64 (csC c)).alloc (.cells #[.int .u8 0, .int .u64 0, .int .u64 0, .string ⟨#[]⟩, .int .u8 0, .int .i64 0, .int .i64 0, .int .i64 0, .int .i64 0, .string ⟨#[]⟩, .string ⟨#[]⟩, .int .u8 0, .int .i64 0, .int .i64 0, .int .i64 0, .int .i64 0, .string ⟨#[]⟩, .int .i64 0, .int .i64 0, .string ⟨#[]⟩, .string ⟨#[]⟩, .int .i64 0, .int .i64 0, .int .i64 0, .int .i64 0, .string ⟨#[]⟩, .int .i64 0, .string ⟨#[]⟩, .int .i64 0, .int .i64 0, .int .i64 0, .int .u8 0, .int .i64 0] 64)
  have hB : Blk ((w.alloc (.cells (csC c) 64)).alloc (.cells #[.int .u8 0, .int .u64 0, .int .u64 0, .string ⟨#[]⟩, .int .u8 0, .int .i64 0, .int .i64 0, .int .i64 0, .int .i64 0, .string ⟨#[]⟩, .string ⟨#[]⟩, .int .u8 0, .int .i64 0, .int .i64 0, .int .i64 0, .int .i64 0, .string ⟨#[]⟩, .int .i64 0, .int .i64 0, .string ⟨#[]⟩, .string ⟨#[]⟩, .int .i64 0, .int .i64 0, .int .i64 0, .int .i64 0, .string ⟨#[]⟩, .int .i64 0, .string ⟨#[]⟩, .int .i64 0, .int .i64 0, .int .i64 0, .int .u8 0, .int .i64 0] 64)) (w.heap.size + 1) 64 (csC zeroC) := Blk.new1 w (.cells (csC c) 64) 64 #[.int .u8 0, .int .u64 0, .int .u64 0, .string ⟨#[]⟩, .int .u8 0, .int .i64 0, .int .i64 0, .int .i64 0, .int .i64 0, .string ⟨#[]⟩, .string ⟨#[]⟩, .int .u8 0, .int .i64 0, .int .i64 0, .int .i64 0, .int .i64 0, .string ⟨#[]⟩, .int .i64 0, .int .i64 0, .string ⟨#[]⟩, .string ⟨#[]⟩, .int .i64 0, .int .i64 0, .int .i64 0, .int .i64 0, .string ⟨#[]⟩, .int .i64 0, .string ⟨#[]⟩, .int .i64 0, .int .i64 0, .int .i64 0, .int .u8 0, .int .i64 0]
  have hk := ((Kept.refl R w).own (.cells (csC c) 64)).own (.cells #[.int .u8 0, .int .u64 0, .int .u64 0, .string ⟨#[]⟩, .int .u8 0, .int .i64 0, .int .i64 0, .int .i64 0, .int .i64 0, .string ⟨#[]⟩, .string ⟨#[]⟩, .int .u8 0, .int .i64 0, .int .i64 0, .int .i64 0, .int .i64 0, .string ⟨#[]⟩, .int .i64 0, .int .i64 0, .string ⟨#[]⟩, .string ⟨#[]⟩, .int .i64 0, .int .i64 0, .int .i64 0, .int .i64 0, .string ⟨#[]⟩, .int .i64 0, .string ⟨#[]⟩, .int .i64 0, .int .i64 0, .int .i64 0, .int .u8 0, .int .i64 0] 64)
  have h0 : RR _ R x := Blk.alloc (Blk.alloc h (.cells (csC c) 64)) (.cells #[.int .u8 0, .int .u64 0, .int .u64 0, .string ⟨#[]⟩, .int .u8 0, .int .i64 0, .int .i64 0, .int .i64 0, .int .i64 0, .string ⟨#[]⟩, .string ⟨#[]⟩, .int .u8 0, .int .i64 0, .int .i64 0, .int .i64 0, .int .i64 0, .string ⟨#[]⟩, .int .i64 0, .int .i64 0, .string ⟨#[]⟩, .string ⟨#[]⟩, .int .i64 0, .int .i64 0, .int .i64 0, .int .i64 0, .string ⟨#[]⟩, .int .i64 0, .string ⟨#[]⟩, .int .i64 0, .int .i64 0, .int .i64 0, .int .u8 0, .int .i64 0] 64)
  have q0 : ((w.alloc (.cells (csC c) 64)).alloc (.cells #[.int .u8 0, .int .u64 0, .int .u64 0, .string ⟨#[]⟩, .int .u8 0, .int .i64 0, .int .i64 0, .int .i64 0, .int .i64 0, .string ⟨#[]⟩, .string ⟨#[]⟩, .int .u8 0, .int .i64 0, .int .i64 0, .int .i64 0, .int .i64 0, .string ⟨#[]⟩, .int .i64 0, .int .i64 0, .string ⟨#[]⟩, .string ⟨#[]⟩, .int .i64 0, .int .i64 0, .int .i64 0, .int .i64 0, .string ⟨#[]⟩, .int .i64 0, .string ⟨#[]⟩, .int .i64 0, .int .i64 0, .int .i64 0, .int .u8 0, .int .i64 0] 64)).cell? ⟨w.heap.size, 0, none⟩ = some (.int .u8 2) := by
    have q := blk_cell hD (show (csC c)[0]? = some (.int .u8 c.kind) from rfl)
    rw [hq] at q
    exact q
  have hRD : R ≠ w.heap.size := by omega
  have hRB : R ≠ w.heap.size + 1 := by omega
  have hDR : w.heap.size ≠ R := by omega
  have hBR : w.heap.size + 1 ≠ R := by omega
  clear hq
  go_enter Try.func67, Try.ntmps67
  go_wp2_with fail
  refine calls_world (F := fun W => RR W R x ∧ Blk W w.heap.size 64 (csC c) ∧ Blk W (w.heap.size + 1) 64 (csC zeroC) ∧ Kept R w W) ⟨h0, hD, hB, hk⟩ ?_
  clear h0 hD hB hk q0
  rintro W0 ⟨h0, hD, hB, hk⟩
  refine (r_num R x W0 (hs) h0).mono ?_
  rintro r w1 ⟨rfl, h1, hk1⟩; dsimp only
  replace hD := hk1.blk hD hDR
  replace hB := hk1.blk hB hBR
  replace hk := hk.trans hk1
  clear h0 hk1
  have d8 : ∃ v, w1.cell? ⟨w.heap.size, 8, none⟩ = some v := ⟨_, blk_cell hD rfl⟩
  obtain ⟨v8, d8⟩ := d8
  have fD : ∀ i, w1.frozen? ⟨w.heap.size, i, none⟩ = false := hD.frozen
  have lD := hD.lt
  go_wp2_with fail
  refine calls_world (F := fun W => RR W R (nI x) ∧ Blk W w.heap.size 64 (csC { c with machine := gI x }) ∧ Blk W (w.heap.size + 1) 64 (csC zeroC) ∧ Kept R w W) ⟨(Blk.far h1 (p := ⟨w.heap.size, 8, none⟩) hRD (.int .i64 (gI x))), (Blk.set_ hD 8 (.int .i64 (gI x))), (hB.far (p := ⟨w.heap.size, 8, none⟩) (by show w.heap.size + 1 ≠ w.heap.size; omega) (.int .i64 (gI x))), (hk.fresh (Nat.le_refl _) 8 (.int .i64 (gI x)))⟩ ?_
  clear h1 hD hB hk d8 fD lD
  rintro W1 ⟨h0, hD, hB, hk⟩
  refine (r_readVec R (nI x) W1 (nI_sz _ (hs)) h0).mono ?_
  rintro r w2 ⟨rfl, h1, hk1⟩; dsimp only
  replace hD := hk1.blk hD hDR
  replace hB := hk1.blk hB hBR
  replace hk := hk.trans hk1
  clear h0 hk1
  have d5 : ∃ v, w2.cell? ⟨w.heap.size, 5, none⟩ = some v := ⟨_, blk_cell hD rfl⟩
  obtain ⟨v5, d5⟩ := d5
  have d6 : ∃ v, w2.cell? ⟨w.heap.size, 6, none⟩ = some v := ⟨_, blk_cell hD rfl⟩
  obtain ⟨v6, d6⟩ := d6
  have d7 : ∃ v, w2.cell? ⟨w.heap.size, 7, none⟩ = some v := ⟨_, blk_cell hD rfl⟩
  obtain ⟨v7, d7⟩ := d7
  have fD : ∀ i, w2.frozen? ⟨w.heap.size, i, none⟩ = false := hD.frozen
  have lD := hD.lt
  obtain ⟨FF, hFF⟩ : ∃ FF : World → Prop, FF = (fun W => RR W R (nV (nI x)) ∧ Blk W w.heap.size 64 (csC { c with machine := gI x, vec := gV (nI x) }) ∧ Blk W (w.heap.size + 1) 64 (csC zeroC) ∧ Kept R w W) := ⟨_, rfl⟩
  replace hFF := Lib.hid hFF
  go_wp2_with (with_reducible refine ops_at 120 rfl FF ?_ ?_)
  · rw [hFF.out]
    exact Lib.hid ⟨(Blk.far (Blk.far (Blk.far h1 (p := ⟨w.heap.size, 5, none⟩) hRD (.int .i64 (gV (nI x)).cpu)) (p := ⟨w.heap.size, 6, none⟩) hRD (.int .i64 (gV (nI x)).mem)) (p := ⟨w.heap.size, 7, none⟩) hRD (.int .i64 (gV (nI x)).disk)), (Blk.set_ (Blk.set_ (Blk.set_ hD 5 (.int .i64 (gV (nI x)).cpu)) 6 (.int .i64 (gV (nI x)).mem)) 7 (.int .i64 (gV (nI x)).disk)), (((hB.far (p := ⟨w.heap.size, 5, none⟩) (by show w.heap.size + 1 ≠ w.heap.size; omega) (.int .i64 (gV (nI x)).cpu)).far (p := ⟨w.heap.size, 6, none⟩) (by show w.heap.size + 1 ≠ w.heap.size; omega) (.int .i64 (gV (nI x)).mem)).far (p := ⟨w.heap.size, 7, none⟩) (by show w.heap.size + 1 ≠ w.heap.size; omega) (.int .i64 (gV (nI x)).disk)), (((hk.fresh (Nat.le_refl _) 5 (.int .i64 (gV (nI x)).cpu)).fresh (Nat.le_refl _) 6 (.int .i64 (gV (nI x)).mem)).fresh (Nat.le_refl _) 7 (.int .i64 (gV (nI x)).disk))⟩
  · refine Lib.hid ?_
    clear h1 hD hB hk d5 d6 d7 fD lD
    intro W hW
    rw [hFF.out] at hW
    obtain ⟨h0, hD, hB, hk⟩ := hW
    have hlD := load_cmd hD rfl
    go_wp2_with (first | (with_reducible refine wpList_load_rowW 64 (.tmp 3) w.heap.size ?_ (csC { c with machine := gI x, vec := gV (nI x) }) hlD ?_ ?_) | (with_reducible refine st_cmd (.tmp 4) (.tmp 120) (w.heap.size + 1) { c with machine := gI x, vec := gV (nI x) } ?_ ?_ (csC zeroC) hB (csC_size zeroC) ?_ ?_) | fail)
    rotate_right
    · skip
      refine bodyPost_ret (results_cell_row Try.results67 _ _ (w.heap.size + 1) 64 (csC { c with machine := gI x, vec := gV (nI x) }) (0, 0) _ rfl hB.rowK Try.underlying64 rfl info_cmd) rfl ?_
      exact ⟨rfl, Blk.offRow h0 hRB, hk.freshRow (by omega) _⟩
    all_goals first | rfl | (simp [Region.wanted, yielded, Act.put]; done)
set_option maxRecDepth 100000 in
set_option maxHeartbeats 8000000 in
theorem read_3 (R : Nat) (x : RS) (c : Command) (hq : c.kind = 3) (w : World) (hs : x.1.size ≤ 140737488351232) (h : RR w R x) : Calls Try.prog 67 #[.pointer (some ⟨R, 0, none⟩), .agg (csC c)] w fun e w' => e = .returned (.agg (csC (rdK (fieldsOf c.kind) 13 (x, c)).2)) ∧ RR w' R (rdK (fieldsOf c.kind) 13 (x, c)).1 ∧ Kept R w w' := by
  have hr : rdK (fieldsOf c.kind) 13 (x, c) = ((nJ x), { c with job := gJ x }) := by
    rw [show fieldsOf c.kind = fieldsOf 3 by rw [hq]]
    kernel_rfl
  rw [hr]
  clear hr
  have hRl := Blk.lt h
  have hD := (Blk.new w 64 (csC c)).alloc (.cells #[.int .u8 0, .int .u64 0, .int .u64 0, .string ⟨#[]⟩, .int .u8 0, .int .i64 0, .int .i64 0, .int .i64 0, .int .i64 0, .string ⟨#[]⟩, .string ⟨#[]⟩, .int .u8 0, .int .i64 0, .int .i64 0, .int .i64 0, .int .i64 0, .string ⟨#[]⟩, .int .i64 0, .int .i64 0, .string ⟨#[]⟩, .string ⟨#[]⟩, .int .i64 0, .int .i64 0, .int .i64 0, .int .i64 0, .string ⟨#[]⟩, .int .i64 0, .string ⟨#[]⟩, .int .i64 0, .int .i64 0, .int .i64 0, .int .u8 0, .int .i64 0] 64)
  have hB : Blk ((w.alloc (.cells (csC c) 64)).alloc (.cells #[.int .u8 0, .int .u64 0, .int .u64 0, .string ⟨#[]⟩, .int .u8 0, .int .i64 0, .int .i64 0, .int .i64 0, .int .i64 0, .string ⟨#[]⟩, .string ⟨#[]⟩, .int .u8 0, .int .i64 0, .int .i64 0, .int .i64 0, .int .i64 0, .string ⟨#[]⟩, .int .i64 0, .int .i64 0, .string ⟨#[]⟩, .string ⟨#[]⟩, .int .i64 0, .int .i64 0, .int .i64 0, .int .i64 0, .string ⟨#[]⟩, .int .i64 0, .string ⟨#[]⟩, .int .i64 0, .int .i64 0, .int .i64 0, .int .u8 0, .int .i64 0] 64)) (w.heap.size + 1) 64 (csC zeroC) := Blk.new1 w (.cells (csC c) 64) 64 #[.int .u8 0, .int .u64 0, .int .u64 0, .string ⟨#[]⟩, .int .u8 0, .int .i64 0, .int .i64 0, .int .i64 0, .int .i64 0, .string ⟨#[]⟩, .string ⟨#[]⟩, .int .u8 0, .int .i64 0, .int .i64 0, .int .i64 0, .int .i64 0, .string ⟨#[]⟩, .int .i64 0, .int .i64 0, .string ⟨#[]⟩, .string ⟨#[]⟩, .int .i64 0, .int .i64 0, .int .i64 0, .int .i64 0, .string ⟨#[]⟩, .int .i64 0, .string ⟨#[]⟩, .int .i64 0, .int .i64 0, .int .i64 0, .int .u8 0, .int .i64 0]
  have hk := ((Kept.refl R w).own (.cells (csC c) 64)).own (.cells #[.int .u8 0, .int .u64 0, .int .u64 0, .string ⟨#[]⟩, .int .u8 0, .int .i64 0, .int .i64 0, .int .i64 0, .int .i64 0, .string ⟨#[]⟩, .string ⟨#[]⟩, .int .u8 0, .int .i64 0, .int .i64 0, .int .i64 0, .int .i64 0, .string ⟨#[]⟩, .int .i64 0, .int .i64 0, .string ⟨#[]⟩, .string ⟨#[]⟩, .int .i64 0, .int .i64 0, .int .i64 0, .int .i64 0, .string ⟨#[]⟩, .int .i64 0, .string ⟨#[]⟩, .int .i64 0, .int .i64 0, .int .i64 0, .int .u8 0, .int .i64 0] 64)
  have h0 : RR _ R x := Blk.alloc (Blk.alloc h (.cells (csC c) 64)) (.cells #[.int .u8 0, .int .u64 0, .int .u64 0, .string ⟨#[]⟩, .int .u8 0, .int .i64 0, .int .i64 0, .int .i64 0, .int .i64 0, .string ⟨#[]⟩, .string ⟨#[]⟩, .int .u8 0, .int .i64 0, .int .i64 0, .int .i64 0, .int .i64 0, .string ⟨#[]⟩, .int .i64 0, .int .i64 0, .string ⟨#[]⟩, .string ⟨#[]⟩, .int .i64 0, .int .i64 0, .int .i64 0, .int .i64 0, .string ⟨#[]⟩, .int .i64 0, .string ⟨#[]⟩, .int .i64 0, .int .i64 0, .int .i64 0, .int .u8 0, .int .i64 0] 64)
  have q0 : ((w.alloc (.cells (csC c) 64)).alloc (.cells #[.int .u8 0, .int .u64 0, .int .u64 0, .string ⟨#[]⟩, .int .u8 0, .int .i64 0, .int .i64 0, .int .i64 0, .int .i64 0, .string ⟨#[]⟩, .string ⟨#[]⟩, .int .u8 0, .int .i64 0, .int .i64 0, .int .i64 0, .int .i64 0, .string ⟨#[]⟩, .int .i64 0, .int .i64 0, .string ⟨#[]⟩, .string ⟨#[]⟩, .int .i64 0, .int .i64 0, .int .i64 0, .int .i64 0, .string ⟨#[]⟩, .int .i64 0, .string ⟨#[]⟩, .int .i64 0, .int .i64 0, .int .i64 0, .int .u8 0, .int .i64 0] 64)).cell? ⟨w.heap.size, 0, none⟩ = some (.int .u8 3) := by
    have q := blk_cell hD (show (csC c)[0]? = some (.int .u8 c.kind) from rfl)
    rw [hq] at q
    exact q
  have hRD : R ≠ w.heap.size := by omega
  have hRB : R ≠ w.heap.size + 1 := by omega
  have hDR : w.heap.size ≠ R := by omega
  have hBR : w.heap.size + 1 ≠ R := by omega
  have CT := Lib.hid (r_readJobL R x)
  generalize gJ x = jv at *
  generalize nJ x = xn at *
  clear hq
  go_enter Try.func67, Try.ntmps67
  go_wp2_with fail
  refine calls_world (F := fun W => RR W R x ∧ Blk W w.heap.size 64 (csC c) ∧ Blk W (w.heap.size + 1) 64 (csC zeroC) ∧ Kept R w W) ⟨h0, hD, hB, hk⟩ ?_
  clear h0 hD hB hk q0
  rintro W0 ⟨h0, hD, hB, hk⟩
  refine (CT.out W0 hs h0).mono ?_
  rintro r w1 ⟨rfl, h1, hk1⟩; dsimp only
  replace hD := hk1.blk hD hDR
  replace hB := hk1.blk hB hBR
  replace hk := hk.trans hk1
  clear h0 hk1
  have d9 : ∃ v, w1.cell? ⟨w.heap.size, 9, none⟩ = some v := ⟨_, blk_cell hD rfl⟩
  obtain ⟨v9, d9⟩ := d9
  have d10 : ∃ v, w1.cell? ⟨w.heap.size, 10, none⟩ = some v := ⟨_, blk_cell hD rfl⟩
  obtain ⟨v10, d10⟩ := d10
  have d11 : ∃ v, w1.cell? ⟨w.heap.size, 11, none⟩ = some v := ⟨_, blk_cell hD rfl⟩
  obtain ⟨v11, d11⟩ := d11
  have d12 : ∃ v, w1.cell? ⟨w.heap.size, 12, none⟩ = some v := ⟨_, blk_cell hD rfl⟩
  obtain ⟨v12, d12⟩ := d12
  have d13 : ∃ v, w1.cell? ⟨w.heap.size, 13, none⟩ = some v := ⟨_, blk_cell hD rfl⟩
  obtain ⟨v13, d13⟩ := d13
  have d14 : ∃ v, w1.cell? ⟨w.heap.size, 14, none⟩ = some v := ⟨_, blk_cell hD rfl⟩
  obtain ⟨v14, d14⟩ := d14
  have d15 : ∃ v, w1.cell? ⟨w.heap.size, 15, none⟩ = some v := ⟨_, blk_cell hD rfl⟩
  obtain ⟨v15, d15⟩ := d15
  have d16 : ∃ v, w1.cell? ⟨w.heap.size, 16, none⟩ = some v := ⟨_, blk_cell hD rfl⟩
  obtain ⟨v16, d16⟩ := d16
  have d17 : ∃ v, w1.cell? ⟨w.heap.size, 17, none⟩ = some v := ⟨_, blk_cell hD rfl⟩
  obtain ⟨v17, d17⟩ := d17
  have d18 : ∃ v, w1.cell? ⟨w.heap.size, 18, none⟩ = some v := ⟨_, blk_cell hD rfl⟩
  obtain ⟨v18, d18⟩ := d18
  have fD : ∀ i, w1.frozen? ⟨w.heap.size, i, none⟩ = false := hD.frozen
  have lD := hD.lt
  have hDs := (Blk.set_ (Blk.set_ (Blk.set_ (Blk.set_ (Blk.set_ (Blk.set_ (Blk.set_ (Blk.set_ (Blk.set_ (Blk.set_ hD 9 (.string jv.name)) 10 (.string jv.user)) 11 (.int .u8 jv.band)) 12 (.int .i64 jv.count)) 13 (.int .i64 jv.limit.cpu)) 14 (.int .i64 jv.limit.mem)) 15 (.int .i64 jv.limit.disk)) 16 (.string jv.alloc)) 17 (.int .i64 jv.budget.k)) 18 (.int .i64 jv.budget.window))
  have hDe : (((((((((((csC c).setIfInBounds 9 (.string jv.name)).setIfInBounds 10 (.string jv.user)).setIfInBounds 11 (.int .u8 jv.band)).setIfInBounds 12 (.int .i64 jv.count)).setIfInBounds 13 (.int .i64 jv.limit.cpu)).setIfInBounds 14 (.int .i64 jv.limit.mem)).setIfInBounds 15 (.int .i64 jv.limit.disk)).setIfInBounds 16 (.string jv.alloc)).setIfInBounds 17 (.int .i64 jv.budget.k)).setIfInBounds 18 (.int .i64 jv.budget.window)) = csC { c with job := jv } := by simp only [csC, List.setIfInBounds_toArray, List.set_cons_succ, List.set_cons_zero]
  rw [hDe] at hDs
  clear hDe
  obtain ⟨FF, hFF⟩ : ∃ FF : World → Prop, FF = (fun W => RR W R xn ∧ Blk W w.heap.size 64 (csC { c with job := jv }) ∧ Blk W (w.heap.size + 1) 64 (csC zeroC) ∧ Kept R w W) := ⟨_, rfl⟩
  replace hFF := Lib.hid hFF
  go_wp2_with (with_reducible refine ops_at 120 rfl FF ?_ ?_)
  · rw [hFF.out]
    exact Lib.hid ⟨(Blk.far (Blk.far (Blk.far (Blk.far (Blk.far (Blk.far (Blk.far (Blk.far (Blk.far (Blk.far h1 (p := ⟨w.heap.size, 9, none⟩) hRD (.string jv.name)) (p := ⟨w.heap.size, 10, none⟩) hRD (.string jv.user)) (p := ⟨w.heap.size, 11, none⟩) hRD (.int .u8 jv.band)) (p := ⟨w.heap.size, 12, none⟩) hRD (.int .i64 jv.count)) (p := ⟨w.heap.size, 13, none⟩) hRD (.int .i64 jv.limit.cpu)) (p := ⟨w.heap.size, 14, none⟩) hRD (.int .i64 jv.limit.mem)) (p := ⟨w.heap.size, 15, none⟩) hRD (.int .i64 jv.limit.disk)) (p := ⟨w.heap.size, 16, none⟩) hRD (.string jv.alloc)) (p := ⟨w.heap.size, 17, none⟩) hRD (.int .i64 jv.budget.k)) (p := ⟨w.heap.size, 18, none⟩) hRD (.int .i64 jv.budget.window)), hDs, ((((((((((hB.far (p := ⟨w.heap.size, 9, none⟩) (by show w.heap.size + 1 ≠ w.heap.size; omega) (.string jv.name)).far (p := ⟨w.heap.size, 10, none⟩) (by show w.heap.size + 1 ≠ w.heap.size; omega) (.string jv.user)).far (p := ⟨w.heap.size, 11, none⟩) (by show w.heap.size + 1 ≠ w.heap.size; omega) (.int .u8 jv.band)).far (p := ⟨w.heap.size, 12, none⟩) (by show w.heap.size + 1 ≠ w.heap.size; omega) (.int .i64 jv.count)).far (p := ⟨w.heap.size, 13, none⟩) (by show w.heap.size + 1 ≠ w.heap.size; omega) (.int .i64 jv.limit.cpu)).far (p := ⟨w.heap.size, 14, none⟩) (by show w.heap.size + 1 ≠ w.heap.size; omega) (.int .i64 jv.limit.mem)).far (p := ⟨w.heap.size, 15, none⟩) (by show w.heap.size + 1 ≠ w.heap.size; omega) (.int .i64 jv.limit.disk)).far (p := ⟨w.heap.size, 16, none⟩) (by show w.heap.size + 1 ≠ w.heap.size; omega) (.string jv.alloc)).far (p := ⟨w.heap.size, 17, none⟩) (by show w.heap.size + 1 ≠ w.heap.size; omega) (.int .i64 jv.budget.k)).far (p := ⟨w.heap.size, 18, none⟩) (by show w.heap.size + 1 ≠ w.heap.size; omega) (.int .i64 jv.budget.window)), ((((((((((hk.fresh (Nat.le_refl _) 9 (.string jv.name)).fresh (Nat.le_refl _) 10 (.string jv.user)).fresh (Nat.le_refl _) 11 (.int .u8 jv.band)).fresh (Nat.le_refl _) 12 (.int .i64 jv.count)).fresh (Nat.le_refl _) 13 (.int .i64 jv.limit.cpu)).fresh (Nat.le_refl _) 14 (.int .i64 jv.limit.mem)).fresh (Nat.le_refl _) 15 (.int .i64 jv.limit.disk)).fresh (Nat.le_refl _) 16 (.string jv.alloc)).fresh (Nat.le_refl _) 17 (.int .i64 jv.budget.k)).fresh (Nat.le_refl _) 18 (.int .i64 jv.budget.window))⟩
  · refine Lib.hid ?_
    clear h1 hD hB hk d9 d10 d11 d12 d13 d14 d15 d16 d17 d18 fD lD hDs
    intro W hW
    rw [hFF.out] at hW
    obtain ⟨h0, hD, hB, hk⟩ := hW
    have hlD := load_cmd hD rfl
    go_wp2_with (first | (with_reducible refine wpList_load_rowW 64 (.tmp 3) w.heap.size ?_ (csC { c with job := jv }) hlD ?_ ?_) | (with_reducible refine st_cmd (.tmp 4) (.tmp 120) (w.heap.size + 1) { c with job := jv } ?_ ?_ (csC zeroC) hB (csC_size zeroC) ?_ ?_) | fail)
    rotate_right
    · skip
      refine bodyPost_ret (results_cell_row Try.results67 _ _ (w.heap.size + 1) 64 (csC { c with job := jv }) (0, 0) _ rfl hB.rowK Try.underlying64 rfl info_cmd) rfl ?_
      exact ⟨rfl, Blk.offRow h0 hRB, hk.freshRow (by omega) _⟩
    all_goals first | rfl | (simp [Region.wanted, yielded, Act.put]; done)
end Go.Proofs.Yteglieoeblehpaa
