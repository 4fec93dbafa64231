/- Commands: how the reference reads what a kind has, walked, of some kinds. Conditions: the bytes are in memory. -/
import Derived.Test.YteglieoeblehpaaCmd25j
namespace Go.Proofs.Yteglieoeblehpaa
open Go.RowKit

set_option maxRecDepth 100000 in
set_option maxHeartbeats 8000000 in
theorem read_12 (R : Nat) (x : RS) (c : Command) (hq : c.kind = 12) (w : World) (hs : x.1.size ≤ 140737488351232) (h : RR w R x) : Calls Try.prog 67 #[.pointer (some ⟨R, 0, none⟩), .agg (csC c)] w fun e w' => e = .returned (.agg (csC (rdK (fieldsOf c.kind) 13 (x, c)).2)) ∧ RR w' R (rdK (fieldsOf c.kind) 13 (x, c)).1 ∧ Kept R w w' := by
  have hr : rdK (fieldsOf c.kind) 13 (x, c) = ((nI x), { c with machine := gI x }) := by
    rw [show fieldsOf c.kind = fieldsOf 12 by rw [hq]]
    kernel_rfl
  rw [hr]
  clear hr
  have hRl := Blk.lt h
  have hD := (Blk.new w 64 (csC c)).alloc (.cells #[.int .u8 0, .int .u64 0, .int .u64 0, .string ⟨#[]⟩, .int .u8 0, .int .i64 0, .int .i64 0, .int .i64 0, .int .i64 0, .string ⟨#[]⟩, .string ⟨#[]⟩, .int .u8 0, .int .i64 0, .int .i64 0, .int .i64 0, .int .i64 0, .string ⟨#[]⟩, .int .i64 0, .int .i64 0, .string ⟨#[]⟩, .string ⟨#[]⟩, .int .i64 0, .int .i64 0, .int .i64 0, .int .i64 0, .string ⟨#[]⟩, .int .i64 0, .string ⟨#[]⟩, .int .i64 0, .int .i64 0, .int .i64 0, .int .u8 0, .int .i64 0] 64)
  have hB : Blk ((w.alloc (.cells (csC c) 64)).alloc (.cells #[.int .u8 0, .int .u64 0, .int .u64 0, .string ⟨#[]⟩, .int .u8 0, .int .i64 0, .int .i64 0, .int .i64 0, .int .i64 0, .string ⟨#[]⟩, .string ⟨#[]⟩, .int .u8 0, .int .i64 0, .int .i64 0, .int .i64 0, .int .i64 0, .string ⟨#[]⟩, .int .i64 0, .int .i64 0, .string ⟨#[]⟩, .string ⟨#[]⟩, .int .i64 0, .int .i64 0, .int .i64 0, .int .i64 0, .string ⟨#[]⟩, .int .i64 0, .string ⟨#[]⟩, .int .i64 0, .int .i64 0, .int .i64 0, .int .u8 0, .int .i64 0] 64)) (w.heap.size + 1) 64 (csC zeroC) := Blk.new1 w (.cells (csC c) 64) 64 #[.int .u8 0, .int .u64 0, .int .u64 0, .string ⟨#[]⟩, .int .u8 0, .int .i64 0, .int .i64 0, .int .i64 0, .int .i64 0, .string ⟨#[]⟩, .string ⟨#[]⟩, .int .u8 0, .int .i64 0, .int .i64 0, .int .i64 0, .int .i64 0, .string ⟨#[]⟩, .int .i64 0, .int .i64 0, .string ⟨#[]⟩, .string ⟨#[]⟩, .int .i64 0, .int .i64 0, .int .i64 0, .int .i64 0, .string ⟨#[]⟩, .int .i64 0, .string ⟨#[]⟩, .int .i64 0, .int .i64 0, .int .i64 0, .int .u8 0, .int .i64 0]
  have hk := ((Kept.refl R w).own (.cells (csC c) 64)).own (.cells #[.int .u8 0, .int .u64 0, .int .u64 0, .string ⟨#[]⟩, .int .u8 0, .int .i64 0, .int .i64 0, .int .i64 0, .int .i64 0, .string ⟨#[]⟩, .string ⟨#[]⟩, .int .u8 0, .int .i64 0, .int .i64 0, .int .i64 0, .int .i64 0, .string ⟨#[]⟩, .int .i64 0, .int .i64 0, .string ⟨#[]⟩, .string ⟨#[]⟩, .int .i64 0, .int .i64 0, .int .i64 0, .int .i64 0, .string ⟨#[]⟩, .int .i64 0, .string ⟨#[]⟩, .int .i64 0, .int .i64 0, .int .i64 0, .int .u8 0, .int .i64 0] 64)
  have h0 : RR _ R x := Blk.alloc (Blk.alloc h (.cells (csC c) 64)) (.cells #[.int .u8 0, .int .u64 0, .int .u64 0, .string ⟨#[]⟩, .int .u8 0, .int .i64 0, .int .i64 0, .int .i64 0, .int .i64 0, .string ⟨#[]⟩, .string ⟨#[]⟩, .int .u8 0, .int .i64 0, .int .i64 0, .int .i64 0, .int .i64 0, .string ⟨#[]⟩, .int .i64 0, .int .i64 0, .string ⟨#[]⟩, .string ⟨#[]⟩, .int .i64 0, .int .i64 0, .int .i64 0, .int .i64 0, .string ⟨#[]⟩, .int .i64 0, .string ⟨#[]⟩, .int .i64 0, .int .i64 0, .int .i64 0, .int .u8 0, .int .i64 0] 64)
  have q0 : ((w.alloc (.cells (csC c) 64)).alloc (.cells #[.int .u8 0, .int .u64 0, .int .u64 0, .string ⟨#[]⟩, .int .u8 0, .int .i64 0, .int .i64 0, .int .i64 0, .int .i64 0, .string ⟨#[]⟩, .string ⟨#[]⟩, .int .u8 0, .int .i64 0, .int .i64 0, .int .i64 0, .int .i64 0, .string ⟨#[]⟩, .int .i64 0, .int .i64 0, .string ⟨#[]⟩, .string ⟨#[]⟩, .int .i64 0, .int .i64 0, .int .i64 0, .int .i64 0, .string ⟨#[]⟩, .int .i64 0, .string ⟨#[]⟩, .int .i64 0, .int .i64 0, .int .i64 0, .int .u8 0, .int .i64 0] 64)).cell? ⟨w.heap.size, 0, none⟩ = some (.int .u8 12) := by
    have q := blk_cell hD (show (csC c)[0]? = some (.int .u8 c.kind) from rfl)
    rw [hq] at q
    exact q
  have hRD : R ≠ w.heap.size := by omega
  have hRB : R ≠ w.heap.size + 1 := by omega
  have hDR : w.heap.size ≠ R := by omega
  have hBR : w.heap.size + 1 ≠ R := by omega
  clear hq
  go_enter Try.func67, Try.ntmps67
  go_wp2_with fail
  refine calls_world (F := fun W => RR W R x ∧ Blk W w.heap.size 64 (csC c) ∧ Blk W (w.heap.size + 1) 64 (csC zeroC) ∧ Kept R w W) ⟨h0, hD, hB, hk⟩ ?_
  clear h0 hD hB hk q0
  rintro W0 ⟨h0, hD, hB, hk⟩
  refine (r_num R x W0 (hs) h0).mono ?_
  rintro r w1 ⟨rfl, h1, hk1⟩; dsimp only
  replace hD := hk1.blk hD hDR
  replace hB := hk1.blk hB hBR
  replace hk := hk.trans hk1
  clear h0 hk1
  have d8 : ∃ v, w1.cell? ⟨w.heap.size, 8, none⟩ = some v := ⟨_, blk_cell hD rfl⟩
  obtain ⟨v8, d8⟩ := d8
  have fD : ∀ i, w1.frozen? ⟨w.heap.size, i, none⟩ = false := hD.frozen
  have lD := hD.lt
  obtain ⟨FF, hFF⟩ : ∃ FF : World → Prop, FF = (fun W => RR W R (nI x) ∧ Blk W w.heap.size 64 (csC { c with machine := gI x }) ∧ Blk W (w.heap.size + 1) 64 (csC zeroC) ∧ Kept R w W) := ⟨_, rfl⟩
  replace hFF := Lib.hid hFF
  go_wp2_with (with_reducible refine ops_at 120 rfl FF ?_ ?_)
  · rw [hFF.out]
    exact Lib.hid ⟨(Blk.far h1 (p := ⟨w.heap.size, 8, none⟩) hRD (.int .i64 (gI x))), (Blk.set_ hD 8 (.int .i64 (gI x))), (hB.far (p := ⟨w.heap.size, 8, none⟩) (by show w.heap.size + 1 ≠ w.heap.size; omega) (.int .i64 (gI x))), (hk.fresh (Nat.le_refl _) 8 (.int .i64 (gI x)))⟩
  · refine Lib.hid ?_
    clear h1 hD hB hk d8 fD lD
    intro W hW
    rw [hFF.out] at hW
    obtain ⟨h0, hD, hB, hk⟩ := hW
    have hlD := load_cmd hD rfl
    go_wp2_with (first | (with_reducible refine wpList_load_rowW 64 (.tmp 3) w.heap.size ?_ (csC { c with machine := gI x }) hlD ?_ ?_) | (with_reducible refine st_cmd (.tmp 4) (.tmp 120) (w.heap.size + 1) { c with machine := gI x } ?_ ?_ (csC zeroC) hB (csC_size zeroC) ?_ ?_) | fail)
    rotate_right
    · skip
      refine bodyPost_ret (results_cell_row Try.results67 _ _ (w.heap.size + 1) 64 (csC { c with machine := gI x }) (0, 0) _ rfl hB.rowK Try.underlying64 rfl info_cmd) rfl ?_
      exact ⟨rfl, Blk.offRow h0 hRB, hk.freshRow (by omega) _⟩
    all_goals first | rfl | (simp [Region.wanted, yielded, Act.put]; done)
set_option maxRecDepth 100000 in
set_option maxHeartbeats 8000000 in
theorem read_13 (R : Nat) (x : RS) (c : Command) (hq : c.kind = 13) (w : World) (hs : x.1.size ≤ 140737488351232) (h : RR w R x) : Calls Try.prog 67 #[.pointer (some ⟨R, 0, none⟩), .agg (csC c)] w fun e w' => e = .returned (.agg (csC (rdK (fieldsOf c.kind) 13 (x, c)).2)) ∧ RR w' R (rdK (fieldsOf c.kind) 13 (x, c)).1 ∧ Kept R w w' := by
  have hr : rdK (fieldsOf c.kind) 13 (x, c) = ((nI (nK x)), { c with task := gK x, gen := gI (nK x) }) := by
    rw [show fieldsOf c.kind = fieldsOf 13 by rw [hq]]
    kernel_rfl
  rw [hr]
  clear hr
  have hRl := Blk.lt h
  have hD := (Blk.new w 64 (csC c)).alloc (.cells #[.int .u8 0, .int .u64 0, .int .u64 0, .string ⟨#[]⟩, .int .u8 0, .int .i64 0, .int .i64 0, .int .i64 0, .int .i64 0, .string ⟨#[]⟩, .string ⟨#[]⟩, .int .u8 0, .int .i64 0, .int .i64 0, .int .i64 0, .int .i64 0, .string ⟨#[]⟩, .int .i64 0, .int .i64 0, .string ⟨#[]⟩, .string ⟨#[]⟩, .int .i64 0, .int .i64 0, .int .i64 0, .int .i64 0, .string ⟨#[]⟩, .int .i64 0, .string ⟨#[]⟩, .int .i64 0, .int .i64 0, .int .i64 0, .int .u8 0, .int .i64 0] 64)
  have hB : Blk ((w.alloc (.cells (csC c) 64)).alloc (.cells #[.int .u8 0, .int .u64 0, .int .u64 0, .string ⟨#[]⟩, .int .u8 0, .int .i64 0, .int .i64 0, .int .i64 0, .int .i64 0, .string ⟨#[]⟩, .string ⟨#[]⟩, .int .u8 0, .int .i64 0, .int .i64 0, .int .i64 0, .int .i64 0, .string ⟨#[]⟩, .int .i64 0, .int .i64 0, .string ⟨#[]⟩, .string ⟨#[]⟩, .int .i64 0, .int .i64 0, .int .i64 0, .int .i64 0, .string ⟨#[]⟩, .int .i64 0, .string ⟨#[]⟩, .int .i64 0, .int .i64 0, .int .i64 0, .int .u8 0, .int .i64 0] 64)) (w.heap.size + 1) 64 (csC zeroC) := Blk.new1 w (.cells (csC c) 64) 64 #[.int .u8 0, .int .u64 0, .int .u64 0, .string ⟨#[]⟩, .int .u8 0, .int .i64 0, .int .i64 0, .int .i64 0, .int .i64 0, .string ⟨#[]⟩, .string ⟨#[]⟩, .int .u8 0, .int .i64 0, .int .i64 0, .int .i64 0, .int .i64 0, .string ⟨#[]⟩, .int .i64 0, .int .i64 0, .string ⟨#[]⟩, .string ⟨#[]⟩, .int .i64 0, .int .i64 0, .int .i64 0, .int .i64 0, .string ⟨#[]⟩, .int .i64 0, .string ⟨#[]⟩, .int .i64 0, .int .i64 0, .int .i64 0, .int .u8 0, .int .i64 0]
  have hk := ((Kept.refl R w).own (.cells (csC c) 64)).own (.cells #[.int .u8 0, .int .u64 0, .int .u64 0, .string ⟨#[]⟩, .int .u8 0, .int .i64 0, .int .i64 0, .int .i64 0, .int .i64 0, .string ⟨#[]⟩, .string ⟨#[]⟩, .int .u8 0, .int .i64 0, .int .i64 0, .int .i64 0, .int .i64 0, .string ⟨#[]⟩, .int .i64 0, .int .i64 0, .string ⟨#[]⟩, .string ⟨#[]⟩, .int .i64 0, .int .i64 0, .int .i64 0, .int .i64 0, .string ⟨#[]⟩, .int .i64 0, .string ⟨#[]⟩, .int .i64 0, .int .i64 0, .int .i64 0, .int .u8 0, .int .i64 0] 64)
  have h0 : RR _ R x := Blk.alloc (Blk.alloc h (.cells (csC c) 64)) (.cells #[.int .u8 0, .int .u64 0, .int .u64 0, .string ⟨#[]⟩, .int .u8 0, .int .i64 0, .int .i64 0, .int .i64 0, .int .i64 0, .string ⟨#[]⟩, .string ⟨#[]⟩, .int .u8 0, .int .i64 0, .int .i64 0, .int .i64 0, .int .i64 0, .string ⟨#[]⟩, .int .i64 0, .int .i64 0, .string ⟨#[]⟩, .string ⟨#[]⟩, .int .i64 0, .int .i64 0, .int .i64 0, .int .i64 0, .string ⟨#[]⟩, .int .i64 0, .string ⟨#[]⟩, .int .i64 0, .int .i64 0, .int .i64 0, .int .u8 0, .int .i64 0] 64)
  have q0 : ((w.alloc (.cells (csC c) 64)).alloc (.cells #[.int .u8 0, .int .u64 0, .int .u64 0, .string ⟨#[]⟩, .int .u8 0, .int .i64 0, .int .i64 0, .int .i64 0, .int .i64 0, .string ⟨#[]⟩, .string ⟨#[]⟩, .int .u8 0, .int .i64 0, .int .i64 0, .int .i64 0, .int .i64 0, .string ⟨#[]⟩, .int .i64 0, .int .i64 0, .string ⟨#[]⟩, .string ⟨#[]⟩, .int .i64 0, .int .i64 0, .int .i64 0, .int .i64 0, .string ⟨#[]⟩, .int .i64 0, .string ⟨#[]⟩, .int .i64 0, .int .i64 0, .int .i64 0, .int .u8 0, .int .i64 0] 64)).cell? ⟨w.heap.size, 0, none⟩ = some (.int .u8 13) := by
    have q := blk_cell hD (show (csC c)[0]? = some (.int .u8 c.kind) from rfl)
    rw [hq] at q
    exact q
  have hRD : R ≠ w.heap.size := by omega
  have hRB : R ≠ w.heap.size + 1 := by omega
  have hDR : w.heap.size ≠ R := by omega
  have hBR : w.heap.size + 1 ≠ R := by omega
  clear hq
  go_enter Try.func67, Try.ntmps67
  go_wp2_with fail
  refine calls_world (F := fun W => RR W R x ∧ Blk W w.heap.size 64 (csC c) ∧ Blk W (w.heap.size + 1) 64 (csC zeroC) ∧ Kept R w W) ⟨h0, hD, hB, hk⟩ ?_
  clear h0 hD hB hk q0
  rintro W0 ⟨h0, hD, hB, hk⟩
  refine (r_readTask R x W0 (hs) h0).mono ?_
  rintro r w1 ⟨rfl, h1, hk1⟩; dsimp only
  replace hD := hk1.blk hD hDR
  replace hB := hk1.blk hB hBR
  replace hk := hk.trans hk1
  clear h0 hk1
  have d27 : ∃ v, w1.cell? ⟨w.heap.size, 27, none⟩ = some v := ⟨_, blk_cell hD rfl⟩
  obtain ⟨v27, d27⟩ := d27
  have d28 : ∃ v, w1.cell? ⟨w.heap.size, 28, none⟩ = some v := ⟨_, blk_cell hD rfl⟩
  obtain ⟨v28, d28⟩ := d28
  have fD : ∀ i, w1.frozen? ⟨w.heap.size, i, none⟩ = false := hD.frozen
  have lD := hD.lt
  go_wp2_with fail
  refine calls_world (F := fun W => RR W R (nK x) ∧ Blk W w.heap.size 64 (csC { c with task := gK x }) ∧ Blk W (w.heap.size + 1) 64 (csC zeroC) ∧ Kept R w W) ⟨(Blk.far (Blk.far h1 (p := ⟨w.heap.size, 27, none⟩) hRD (.string (gK x).job)) (p := ⟨w.heap.size, 28, none⟩) hRD (.int .i64 (gK x).n)), (Blk.set_ (Blk.set_ hD 27 (.string (gK x).job)) 28 (.int .i64 (gK x).n)), ((hB.far (p := ⟨w.heap.size, 27, none⟩) (by show w.heap.size + 1 ≠ w.heap.size; omega) (.string (gK x).job)).far (p := ⟨w.heap.size, 28, none⟩) (by show w.heap.size + 1 ≠ w.heap.size; omega) (.int .i64 (gK x).n)), ((hk.fresh (Nat.le_refl _) 27 (.string (gK x).job)).fresh (Nat.le_refl _) 28 (.int .i64 (gK x).n))⟩ ?_
  clear h1 hD hB hk d27 d28 fD lD
  rintro W1 ⟨h0, hD, hB, hk⟩
  refine (r_num R (nK x) W1 (nK_sz _ (hs)) h0).mono ?_
  rintro r w2 ⟨rfl, h1, hk1⟩; dsimp only
  replace hD := hk1.blk hD hDR
  replace hB := hk1.blk hB hBR
  replace hk := hk.trans hk1
  clear h0 hk1
  have d30 : ∃ v, w2.cell? ⟨w.heap.size, 30, none⟩ = some v := ⟨_, blk_cell hD rfl⟩
  obtain ⟨v30, d30⟩ := d30
  have fD : ∀ i, w2.frozen? ⟨w.heap.size, i, none⟩ = false := hD.frozen
  have lD := hD.lt
  obtain ⟨FF, hFF⟩ : ∃ FF : World → Prop, FF = (fun W => RR W R (nI (nK x)) ∧ Blk W w.heap.size 64 (csC { c with task := gK x, gen := gI (nK x) }) ∧ Blk W (w.heap.size + 1) 64 (csC zeroC) ∧ Kept R w W) := ⟨_, rfl⟩
  replace hFF := Lib.hid hFF
  go_wp2_with (with_reducible refine ops_at 120 rfl FF ?_ ?_)
  · rw [hFF.out]
    exact Lib.hid ⟨(Blk.far h1 (p := ⟨w.heap.size, 30, none⟩) hRD (.int .i64 (gI (nK x)))), (Blk.set_ hD 30 (.int .i64 (gI (nK x)))), (hB.far (p := ⟨w.heap.size, 30, none⟩) (by show w.heap.size + 1 ≠ w.heap.size; omega) (.int .i64 (gI (nK x)))), (hk.fresh (Nat.le_refl _) 30 (.int .i64 (gI (nK x))))⟩
  · refine Lib.hid ?_
    clear h1 hD hB hk d30 fD lD
    intro W hW
    rw [hFF.out] at hW
    obtain ⟨h0, hD, hB, hk⟩ := hW
    have hlD := load_cmd hD rfl
    go_wp2_with (first | (with_reducible refine wpList_load_rowW 64 (.tmp 3) w.heap.size ?_ (csC { c with task := gK x, gen := gI (nK x) }) hlD ?_ ?_) | (with_reducible refine st_cmd (.tmp 4) (.tmp 120) (w.heap.size + 1) { c with task := gK x, gen := gI (nK x) } ?_ ?_ (csC zeroC) hB (csC_size zeroC) ?_ ?_) | fail)
    rotate_right
    · skip
      refine bodyPost_ret (results_cell_row Try.results67 _ _ (w.heap.size + 1) 64 (csC { c with task := gK x, gen := gI (nK x) }) (0, 0) _ rfl hB.rowK Try.underlying64 rfl info_cmd) rfl ?_
      exact ⟨rfl, Blk.offRow h0 hRB, hk.freshRow (by omega) _⟩
    all_goals first | rfl | (simp [Region.wanted, yielded, Act.put]; done)
set_option maxRecDepth 100000 in
set_option maxHeartbeats 8000000 in
theorem read_14 (R : Nat) (x : RS) (c : Command) (hq : c.kind = 14) (w : World) (hs : x.1.size ≤ 140737488351232) (h : RR w R x) : Calls Try.prog 67 #[.pointer (some ⟨R, 0, none⟩), .agg (csC c)] w fun e w' => e = .returned (.agg (csC (rdK (fieldsOf c.kind) 13 (x, c)).2)) ∧ RR w' R (rdK (fieldsOf c.kind) 13 (x, c)).1 ∧ Kept R w w' := by
  have hr : rdK (fieldsOf c.kind) 13 (x, c) = ((nI x), { c with tick := gI x }) := by
    rw [show fieldsOf c.kind = fieldsOf 14 by rw [hq]]
    kernel_rfl
  rw [hr]
  clear hr
  have hRl := Blk.lt h
  have hD := (Blk.new w 64 (csC c)).alloc (.cells #[.int .u8 0, .int .u64 0, .int .u64 0, .string ⟨#[]⟩, .int .u8 0, .int .i64 0, .int .i64 0, .int .i64 0, .int .i64 0, .string ⟨#[]⟩, .string ⟨#[]⟩, .int .u8 0, .int .i64 0, .int .i64 0, .int .i64 0, .int .i64 0, .string ⟨#[]⟩, .int .i64 0, .int .i64 0, .string ⟨#[]⟩, .string ⟨#[]⟩, .int .i64 0, .int .i64 0, .int .i64 0, .int .i64 0, .string ⟨#[]⟩, .int .i64 0, .string ⟨#[]⟩, .int .i64 0, .int .i64 0, .int .i64 0, .int .u8 0, .int .i64 0] 64)
  have hB : Blk ((w.alloc (.cells (csC c) 64)).alloc (.cells #[.int .u8 0, .int .u64 0, .int .u64 0, .string ⟨#[]⟩, .int .u8 0, .int .i64 0, .int .i64 0, .int .i64 0, .int .i64 0, .string ⟨#[]⟩, .string ⟨#[]⟩, .int .u8 0, .int .i64 0, .int .i64 0, .int .i64 0, .int .i64 0, .string ⟨#[]⟩, .int .i64 0, .int .i64 0, .string ⟨#[]⟩, .string ⟨#[]⟩, .int .i64 0, .int .i64 0, .int .i64 0, .int .i64 0, .string ⟨#[]⟩, .int .i64 0, .string ⟨#[]⟩, .int .i64 0, .int .i64 0, .int .i64 0, .int .u8 0, .int .i64 0] 64)) (w.heap.size + 1) 64 (csC zeroC) := Blk.new1 w (.cells (csC c) 64) 64 #[.int .u8 0, .int .u64 0, .int .u64 0, .string ⟨#[]⟩, .int .u8 0, .int .i64 0, .int .i64 0, .int .i64 0, .int .i64 0, .string ⟨#[]⟩, .string ⟨#[]⟩, .int .u8 0, .int .i64 0, .int .i64 0, .int .i64 0, .int .i64 0, .string ⟨#[]⟩, .int .i64 0, .int .i64 0, .string ⟨#[]⟩, .string ⟨#[]⟩, .int .i64 0, .int .i64 0, .int .i64 0, .int .i64 0, .string ⟨#[]⟩, .int .i64 0, .string ⟨#[]⟩, .int .i64 0, .int .i64 0, .int .i64 0, .int .u8 0, .int .i64 0]
  have hk := ((Kept.refl R w).own (.cells (csC c) 64)).own (.cells #[.int .u8 0, .int .u64 0, .int .u64 0, .string ⟨#[]⟩, .int .u8 0, .int .i64 0, .int .i64 0, .int .i64 0, .int .i64 0, .string ⟨#[]⟩, .string ⟨#[]⟩, .int .u8 0, .int .i64 0, .int .i64 0, .int .i64 0, .int .i64 0, .string ⟨#[]⟩, .int .i64 0, .int .i64 0, .string ⟨#[]⟩, .string ⟨#[]⟩, .int .i64 0, .int .i64 0, .int .i64 0, .int .i64 0, .string ⟨#[]⟩, .int .i64 0, .string ⟨#[]⟩, .int .i64 0, .int .i64 0, .int .i64 0, .int .u8 0, .int .i64 0] 64)
  have h0 : RR _ R x := Blk.alloc (Blk.alloc h (.cells (csC c) 64)) (.cells #[.int .u8 0, .int .u64 0, .int .u64 0, .string ⟨#[]⟩, .int .u8 0, .int .i64 0, .int .i64 0, .int .i64 0, .int .i64 0, .string ⟨#[]⟩, .string ⟨#[]⟩, .int .u8 0, .int .i64 0, .int .i64 0, .int .i64 0, .int .i64 0, .string ⟨#[]⟩, .int .i64 0, .int .i64 0, .string ⟨#[]⟩, .string ⟨#[]⟩, .int .i64 0, .int .i64 0, .int .i64 0, .int .i64 0, .string ⟨#[]⟩, .int .i64 0, .string ⟨#[]⟩, .int .i64 0, .int .i64 0, .int .i64 0, .int .u8 0, .int .i64 0] 64)
  have q0 : ((w.alloc (.cells (csC c) 64)).alloc (.cells #[.int .u8 0, .int .u64 0, .int .u64 0, .string ⟨#[]⟩, .int .u8 0, .int .i64 0, .int .i64 0, .int .i64 0, .int .i64 0, .string ⟨#[]⟩, .string ⟨#[]⟩, .int .u8 0, .int .i64 0, .int .i64 0, .int .i64 0, .int .i64 0, .string ⟨#[]⟩, .int .i64 0, .int .i64 0, .string ⟨#[]⟩, .string ⟨#[]⟩, .int .i64 0, .int .i64 0, .int .i64 0, .int .i64 0, .string ⟨#[]⟩, .int .i64 0, .string ⟨#[]⟩, .int .i64 0, .int .i64 0, .int .i64 0, .int .u8 0, .int .i64 0] 64)).cell? ⟨w.heap.size, 0, none⟩ = some (.int .u8 14) := by
    have q := blk_cell hD (show (csC c)[0]? = some (.int .u8 c.kind) from rfl)
    rw [hq] at q
    exact q
  have hRD : R ≠ w.heap.size := by omega
  have hRB : R ≠ w.heap.size + 1 := by omega
  have hDR : w.heap.size ≠ R := by omega
  have hBR : w.heap.size + 1 ≠ R := by omega
  clear hq
  go_enter Try.func67, Try.ntmps67
  go_wp2_with fail
  refine calls_world (F := fun W => RR W R x ∧ Blk W w.heap.size 64 (csC c) ∧ Blk W (w.heap.size + 1) 64 (csC zeroC) ∧ Kept R w W) ⟨h0, hD, hB, hk⟩ ?_
  clear h0 hD hB hk q0
  rintro W0 ⟨h0, hD, hB, hk⟩
  refine (rI R x W0 (hs) h0).mono ?_
  rintro r w1 ⟨rfl, h1, hk1⟩; dsimp only
  replace hD := hk1.blk hD hDR
  replace hB := hk1.blk hB hBR
  replace hk := hk.trans hk1
  clear h0 hk1
  have d32 : ∃ v, w1.cell? ⟨w.heap.size, 32, none⟩ = some v := ⟨_, blk_cell hD rfl⟩
  obtain ⟨v32, d32⟩ := d32
  have fD : ∀ i, w1.frozen? ⟨w.heap.size, i, none⟩ = false := hD.frozen
  have lD := hD.lt
  obtain ⟨FF, hFF⟩ : ∃ FF : World → Prop, FF = (fun W => RR W R (nI x) ∧ Blk W w.heap.size 64 (csC { c with tick := gI x }) ∧ Blk W (w.heap.size + 1) 64 (csC zeroC) ∧ Kept R w W) := ⟨_, rfl⟩
  replace hFF := Lib.hid hFF
  go_wp2_with (with_reducible refine ops_at 120 rfl FF ?_ ?_)
  · rw [hFF.out]
    exact Lib.hid ⟨(Blk.far h1 (p := ⟨w.heap.size, 32, none⟩) hRD (.int .i64 (gI x))), (Blk.set_ hD 32 (.int .i64 (gI x))), (hB.far (p := ⟨w.heap.size, 32, none⟩) (by show w.heap.size + 1 ≠ w.heap.size; omega) (.int .i64 (gI x))), (hk.fresh (Nat.le_refl _) 32 (.int .i64 (gI x)))⟩
  · refine Lib.hid ?_
    clear h1 hD hB hk d32 fD lD
    intro W hW
    rw [hFF.out] at hW
    obtain ⟨h0, hD, hB, hk⟩ := hW
    have hlD := load_cmd hD rfl
    go_wp2_with (first | (with_reducible refine wpList_load_rowW 64 (.tmp 3) w.heap.size ?_ (csC { c with tick := gI x }) hlD ?_ ?_) | (with_reducible refine st_cmd (.tmp 4) (.tmp 120) (w.heap.size + 1) { c with tick := gI x } ?_ ?_ (csC zeroC) hB (csC_size zeroC) ?_ ?_) | fail)
    rotate_right
    · skip
      refine bodyPost_ret (results_cell_row Try.results67 _ _ (w.heap.size + 1) 64 (csC { c with tick := gI x }) (0, 0) _ rfl hB.rowK Try.underlying64 rfl info_cmd) rfl ?_
      exact ⟨rfl, Blk.offRow h0 hRB, hk.freshRow (by omega) _⟩
    all_goals first | rfl | (simp [Region.wanted, yielded, Act.put]; done)
end Go.Proofs.Yteglieoeblehpaa
