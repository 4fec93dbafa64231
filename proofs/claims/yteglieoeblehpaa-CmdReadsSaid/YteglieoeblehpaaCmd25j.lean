/- Commands: how the reference reads a job, walked. Conditions: the bytes are in memory. -/
import Derived.Test.YteglieoeblehpaaCmd25r
import Derived.Test.YteglieoeblehpaaK6
namespace Go.Proofs.Yteglieoeblehpaa
open Go.RowKit

theorem nV_sz (x : RS) {n : Nat} (h : x.1.size ≤ n) : (nV x).1.size ≤ n := nI_sz _ (nI_sz _ (nI_sz _ h))
theorem nK_sz (x : RS) {n : Nat} (h : x.1.size ≤ n) : (nK x).1.size ≤ n := nI_sz _ (nT_sz _ h)
theorem nJ_sz (x : RS) {n : Nat} (h : x.1.size ≤ n) : (nJ x).1.size ≤ n := nI_sz _ (nI_sz _ (nT_sz _ (nV_sz _ (nI_sz _ (nS_sz _ (nT_sz _ (nT_sz _ h)))))))
def jC (j : JobSpec) : Array Value := #[.string j.name, .string j.user, .int .u8 j.band, .int .i64 j.count, .int .i64 j.limit.cpu, .int .i64 j.limit.mem, .int .i64 j.limit.disk, .string j.alloc, .int .i64 j.budget.k, .int .i64 j.budget.window]
theorem jC_one (j : JobSpec) : (jC j).all (·.oneCell') = true := by simp [jC, Value.oneCell']
theorem jC_size (j : JobSpec) : (jC j).size = 10 := rfl
theorem info_job : (Try.prog.info? 58).map (·.size) = some 10 := by kernel_rfl
set_option maxRecDepth 100000 in
theorem load_job {W : World} {g : Nat} {cs : Array Value} (h : Blk W g 58 cs) (hs : cs.size = 10) : (loadVar 58 ⟨g, 0, none⟩).run Try.prog W = .ok (.agg cs) W :=
  run_loadVar_row (P := Try.prog) W g 58 58 cs (0, 0) _ h Try.underlying58 rfl (by rw [hs]; kernel_rfl)
theorem st_job {ops : Array Oper} {rest : List Oper} {dst : Option Nat} {t' : TypeId} {pos : String} {af : Array Edge} {gd : Option (Nat × Bool)} {a : Act} {w : World} {Q : Exit → Act → World → Prop} (x y : Operand)
    (g : Nat) (c : JobSpec) (hx : a.eval x = .pointer (some ⟨g, 0, none⟩)) (hy : a.eval y = .agg (jC c)) (old : Array Value) (hg : Blk w g 58 old) (hold : old.size = 10)
    (hw : Region.wanted { dst := dst, op := .store 58 x y, type := t', pos := pos, after := af, guard := gd } (yielded ops a.tmps) = true)
    (h : wpList Try.prog ops Q rest (a.put dst undef) (w.setRow g (jC c))) : wpList Try.prog ops Q ({ dst := dst, op := .store 58 x y, type := t', pos := pos, after := af, guard := gd } :: rest) a w :=
  wpList_store_rowW 58 x y g (jC c) hx hy 58 old hg info_job hold (jC_one c) hw h
set_option maxRecDepth 100000 in
set_option maxHeartbeats 8000000 in
theorem r_readJob (R : Nat) (x : RS) (w : World) (hs : x.1.size ≤ 140737488351232) (h : RR w R x) : Calls Try.prog 101 #[.pointer (some ⟨R, 0, none⟩)] w fun e w' => e = .returned (.agg (jC (gJ x))) ∧ RR w' R (nJ x) ∧ Kept R w w' := by
  have hRl := Blk.lt h
  have hB : Blk ((w.alloc (.cells #[.string ⟨#[]⟩, .string ⟨#[]⟩, .int .u8 0, .int .i64 0, .int .i64 0, .int .i64 0, .int .i64 0, .string ⟨#[]⟩, .int .i64 0, .int .i64 0] 58)).alloc (.cells #[.string ⟨#[]⟩, .string ⟨#[]⟩, .int .u8 0, .int .i64 0, .int .i64 0, .int .i64 0, .int .i64 0, .string ⟨#[]⟩, .int .i64 0, .int .i64 0] 58)) w.heap.size 58 (jC zeroC.job) := (Blk.new w 58 #[.string ⟨#[]⟩, .string ⟨#[]⟩, .int .u8 0, .int .i64 0, .int .i64 0, .int .i64 0, .int .i64 0, .string ⟨#[]⟩, .int .i64 0, .int .i64 0]).alloc (.cells #[.string ⟨#[]⟩, .string ⟨#[]⟩, .int .u8 0, .int .i64 0, .int .i64 0, .int .i64 0, .int .i64 0, .string ⟨#[]⟩, .int .i64 0, .int .i64 0] 58)
  have hD : Blk ((w.alloc (.cells #[.string ⟨#[]⟩, .string ⟨#[]⟩, .int .u8 0, .int .i64 0, .int .i64 0, .int .i64 0, .int .i64 0, .string ⟨#[]⟩, .int .i64 0, .int .i64 0] 58)).alloc (.cells #[.string ⟨#[]⟩, .string ⟨#[]⟩, .int .u8 0, .int .i64 0, .int .i64 0, .int .i64 0, .int .i64 0, .string ⟨#[]⟩, .int .i64 0, .int .i64 0] 58)) (w.heap.size + 1) 58 (jC zeroC.job) := Blk.new1 w (.cells #[.string ⟨#[]⟩, .string ⟨#[]⟩, .int .u8 0, .int .i64 0, .int .i64 0, .int .i64 0, .int .i64 0, .string ⟨#[]⟩, .int .i64 0, .int .i64 0] 58) 58 #[.string ⟨#[]⟩, .string ⟨#[]⟩, .int .u8 0, .int .i64 0, .int .i64 0, .int .i64 0, .int .i64 0, .string ⟨#[]⟩, .int .i64 0, .int .i64 0]
  have hk := ((Kept.refl R w).own (.cells #[.string ⟨#[]⟩, .string ⟨#[]⟩, .int .u8 0, .int .i64 0, .int .i64 0, .int .i64 0, .int .i64 0, .string ⟨#[]⟩, .int .i64 0, .int .i64 0] 58)).own (.cells #[.string ⟨#[]⟩, .string ⟨#[]⟩, .int .u8 0, .int .i64 0, .int .i64 0, .int .i64 0, .int .i64 0, .string ⟨#[]⟩, .int .i64 0, .int .i64 0] 58)
  have h0 : RR ((w.alloc (.cells #[.string ⟨#[]⟩, .string ⟨#[]⟩, .int .u8 0, .int .i64 0, .int .i64 0, .int .i64 0, .int .i64 0, .string ⟨#[]⟩, .int .i64 0, .int .i64 0] 58)).alloc (.cells #[.string ⟨#[]⟩, .string ⟨#[]⟩, .int .u8 0, .int .i64 0, .int .i64 0, .int .i64 0, .int .i64 0, .string ⟨#[]⟩, .int .i64 0, .int .i64 0] 58)) R x := (Blk.alloc h (.cells #[.string ⟨#[]⟩, .string ⟨#[]⟩, .int .u8 0, .int .i64 0, .int .i64 0, .int .i64 0, .int .i64 0, .string ⟨#[]⟩, .int .i64 0, .int .i64 0] 58)).alloc (.cells #[.string ⟨#[]⟩, .string ⟨#[]⟩, .int .u8 0, .int .i64 0, .int .i64 0, .int .i64 0, .int .i64 0, .string ⟨#[]⟩, .int .i64 0, .int .i64 0] 58)
  have hRD : R ≠ w.heap.size + 1 := by omega
  have hRB : R ≠ w.heap.size := by omega
  have hDR : w.heap.size + 1 ≠ R := by omega
  have hBR : w.heap.size ≠ R := by omega
  show Calls Try.prog 101 #[.pointer (some ⟨R, 0, none⟩)] w fun e w' => e = .returned (.agg (jC (gJ x))) ∧ RR w' R (nI (nI (nT (nV (nI (nS (nT (nT x)))))))) ∧ Kept R w w'
  go_enter Try.func101, Try.ntmps101
  go_wp2_with fail
  refine calls_world (F := fun W => RR W R x ∧ Blk W (w.heap.size + 1) 58 (jC zeroC.job) ∧ Blk W w.heap.size 58 (jC zeroC.job) ∧ Kept R w W) ⟨h0, hD, hB, hk⟩ ?_
  clear h0 hD hB hk
  rintro W0 ⟨h0, hD, hB, hk⟩
  refine (rT R x W0 (hs) h0).mono ?_
  rintro r w1 ⟨rfl, h1, hk1⟩; dsimp only
  replace hD := hk1.blk hD hDR
  replace hB := hk1.blk hB hBR
  replace hk := hk.trans hk1
  clear h0 hk1
  have d0 : ∃ v, w1.cell? ⟨w.heap.size + 1, 0, none⟩ = some v := ⟨_, blk_cell hD rfl⟩
  obtain ⟨v0, d0⟩ := d0
  have fD : ∀ i, w1.frozen? ⟨w.heap.size + 1, i, none⟩ = false := hD.frozen
  have lD := hD.lt
  go_wp2_with fail
  refine calls_world (F := fun W => RR W R (nT x) ∧ Blk W (w.heap.size + 1) 58 (jC { zeroC.job with name := gT x }) ∧ Blk W w.heap.size 58 (jC zeroC.job) ∧ Kept R w W) ⟨(Blk.far h1 (p := ⟨w.heap.size + 1, 0, none⟩) hRD (.string (gT x))), (Blk.set_ hD 0 (.string (gT x))), (hB.far (p := ⟨w.heap.size + 1, 0, none⟩) (by show w.heap.size ≠ w.heap.size + 1; omega) (.string (gT x))), (hk.fresh (Nat.le_succ _) 0 (.string (gT x)))⟩ ?_
  clear h1 hD hB hk d0 fD lD
  rintro W1 ⟨h0, hD, hB, hk⟩
  refine (rT R (nT x) W1 (nT_sz _ (hs)) h0).mono ?_
  rintro r w2 ⟨rfl, h1, hk1⟩; dsimp only
  replace hD := hk1.blk hD hDR
  replace hB := hk1.blk hB hBR
  replace hk := hk.trans hk1
  clear h0 hk1
  have d1 : ∃ v, w2.cell? ⟨w.heap.size + 1, 1, none⟩ = some v := ⟨_, blk_cell hD rfl⟩
  obtain ⟨v1, d1⟩ := d1
  have fD : ∀ i, w2.frozen? ⟨w.heap.size + 1, i, none⟩ = false := hD.frozen
  have lD := hD.lt
  go_wp2_with fail
  refine calls_world (F := fun W => RR W R (nT (nT x)) ∧ Blk W (w.heap.size + 1) 58 (jC { zeroC.job with name := gT x, user := gT (nT x) }) ∧ Blk W w.heap.size 58 (jC zeroC.job) ∧ Kept R w W) ⟨(Blk.far h1 (p := ⟨w.heap.size + 1, 1, none⟩) hRD (.string (gT (nT x)))), (Blk.set_ hD 1 (.string (gT (nT x)))), (hB.far (p := ⟨w.heap.size + 1, 1, none⟩) (by show w.heap.size ≠ w.heap.size + 1; omega) (.string (gT (nT x)))), (hk.fresh (Nat.le_succ _) 1 (.string (gT (nT x))))⟩ ?_
  clear h1 hD hB hk d1 fD lD
  rintro W2 ⟨h0, hD, hB, hk⟩
  refine (rS R (nT (nT x)) W2 (nT_sz _ (nT_sz _ (hs))) h0).mono ?_
  rintro r w3 ⟨rfl, h1, hk1⟩; dsimp only
  replace hD := hk1.blk hD hDR
  replace hB := hk1.blk hB hBR
  replace hk := hk.trans hk1
  clear h0 hk1
  have hw : IntKind.u8.wrap (gS (nT (nT x))) = gS (nT (nT x)) := IntWalk.u8_in _ (by have := gS_ok (nT (nT x)); unfold U8 at this; omega)
  have d2 : ∃ v, w3.cell? ⟨w.heap.size + 1, 2, none⟩ = some v := ⟨_, blk_cell hD rfl⟩
  obtain ⟨v2, d2⟩ := d2
  have fD : ∀ i, w3.frozen? ⟨w.heap.size + 1, i, none⟩ = false := hD.frozen
  have lD := hD.lt
  go_wp2_with fail
  refine calls_world (F := fun W => RR W R (nS (nT (nT x))) ∧ Blk W (w.heap.size + 1) 58 (jC { zeroC.job with name := gT x, user := gT (nT x), band := gS (nT (nT x)) }) ∧ Blk W w.heap.size 58 (jC zeroC.job) ∧ Kept R w W) ⟨(Blk.far h1 (p := ⟨w.heap.size + 1, 2, none⟩) hRD (.int .u8 (gS (nT (nT x))))), (Blk.set_ hD 2 (.int .u8 (gS (nT (nT x))))), (hB.far (p := ⟨w.heap.size + 1, 2, none⟩) (by show w.heap.size ≠ w.heap.size + 1; omega) (.int .u8 (gS (nT (nT x))))), (hk.fresh (Nat.le_succ _) 2 (.int .u8 (gS (nT (nT x)))))⟩ ?_
  clear h1 hD hB hk hw d2 fD lD
  rintro W3 ⟨h0, hD, hB, hk⟩
  refine (r_num R (nS (nT (nT x))) W3 (nS_sz _ (nT_sz _ (nT_sz _ (hs)))) h0).mono ?_
  rintro r w4 ⟨rfl, h1, hk1⟩; dsimp only
  replace hD := hk1.blk hD hDR
  replace hB := hk1.blk hB hBR
  replace hk := hk.trans hk1
  clear h0 hk1
  have d3 : ∃ v, w4.cell? ⟨w.heap.size + 1, 3, none⟩ = some v := ⟨_, blk_cell hD rfl⟩
  obtain ⟨v3, d3⟩ := d3
  have fD : ∀ i, w4.frozen? ⟨w.heap.size + 1, i, none⟩ = false := hD.frozen
  have lD := hD.lt
  go_wp2_with fail
  refine calls_world (F := fun W => RR W R (nI (nS (nT (nT x)))) ∧ Blk W (w.heap.size + 1) 58 (jC { zeroC.job with name := gT x, user := gT (nT x), band := gS (nT (nT x)), count := gI (nS (nT (nT x))) }) ∧ Blk W w.heap.size 58 (jC zeroC.job) ∧ Kept R w W) ⟨(Blk.far h1 (p := ⟨w.heap.size + 1, 3, none⟩) hRD (.int .i64 (gI (nS (nT (nT x)))))), (Blk.set_ hD 3 (.int .i64 (gI (nS (nT (nT x)))))), (hB.far (p := ⟨w.heap.size + 1, 3, none⟩) (by show w.heap.size ≠ w.heap.size + 1; omega) (.int .i64 (gI (nS (nT (nT x)))))), (hk.fresh (Nat.le_succ _) 3 (.int .i64 (gI (nS (nT (nT x))))))⟩ ?_
  clear h1 hD hB hk d3 fD lD
  rintro W4 ⟨h0, hD, hB, hk⟩
  refine (r_readVec R (nI (nS (nT (nT x)))) W4 (nI_sz _ (nS_sz _ (nT_sz _ (nT_sz _ (hs))))) h0).mono ?_
  rintro r w5 ⟨rfl, h1, hk1⟩; dsimp only
  replace hD := hk1.blk hD hDR
  replace hB := hk1.blk hB hBR
  replace hk := hk.trans hk1
  clear h0 hk1
  have d4 : ∃ v, w5.cell? ⟨w.heap.size + 1, 4, none⟩ = some v := ⟨_, blk_cell hD rfl⟩
  obtain ⟨v4, d4⟩ := d4
  have d5 : ∃ v, w5.cell? ⟨w.heap.size + 1, 5, none⟩ = some v := ⟨_, blk_cell hD rfl⟩
  obtain ⟨v5, d5⟩ := d5
  have d6 : ∃ v, w5.cell? ⟨w.heap.size + 1, 6, none⟩ = some v := ⟨_, blk_cell hD rfl⟩
  obtain ⟨v6, d6⟩ := d6
  have fD : ∀ i, w5.frozen? ⟨w.heap.size + 1, i, none⟩ = false := hD.frozen
  have lD := hD.lt
  go_wp2_with fail
  refine calls_world (F := fun W => RR W R (nV (nI (nS (nT (nT x))))) ∧ Blk W (w.heap.size + 1) 58 (jC { zeroC.job with name := gT x, user := gT (nT x), band := gS (nT (nT x)), count := gI (nS (nT (nT x))), limit := gV (nI (nS (nT (nT x)))) }) ∧ Blk W w.heap.size 58 (jC zeroC.job) ∧ Kept R w W) ⟨(Blk.far (Blk.far (Blk.far h1 (p := ⟨w.heap.size + 1, 4, none⟩) hRD (.int .i64 (gV (nI (nS (nT (nT x))))).cpu)) (p := ⟨w.heap.size + 1, 5, none⟩) hRD (.int .i64 (gV (nI (nS (nT (nT x))))).mem)) (p := ⟨w.heap.size + 1, 6, none⟩) hRD (.int .i64 (gV (nI (nS (nT (nT x))))).disk)), (Blk.set_ (Blk.set_ (Blk.set_ hD 4 (.int .i64 (gV (nI (nS (nT (nT x))))).cpu)) 5 (.int .i64 (gV (nI (nS (nT (nT x))))).mem)) 6 (.int .i64 (gV (nI (nS (nT (nT x))))).disk)), (((hB.far (p := ⟨w.heap.size + 1, 4, none⟩) (by show w.heap.size ≠ w.heap.size + 1; omega) (.int .i64 (gV (nI (nS (nT (nT x))))).cpu)).far (p := ⟨w.heap.size + 1, 5, none⟩) (by show w.heap.size ≠ w.heap.size + 1; omega) (.int .i64 (gV (nI (nS (nT (nT x))))).mem)).far (p := ⟨w.heap.size + 1, 6, none⟩) (by show w.heap.size ≠ w.heap.size + 1; omega) (.int .i64 (gV (nI (nS (nT (nT x))))).disk)), (((hk.fresh (Nat.le_succ _) 4 (.int .i64 (gV (nI (nS (nT (nT x))))).cpu)).fresh (Nat.le_succ _) 5 (.int .i64 (gV (nI (nS (nT (nT x))))).mem)).fresh (Nat.le_succ _) 6 (.int .i64 (gV (nI (nS (nT (nT x))))).disk))⟩ ?_
  clear h1 hD hB hk d4 d5 d6 fD lD
  rintro W5 ⟨h0, hD, hB, hk⟩
  refine (rT R (nV (nI (nS (nT (nT x))))) W5 (nV_sz _ (nI_sz _ (nS_sz _ (nT_sz _ (nT_sz _ (hs)))))) h0).mono ?_
  rintro r w6 ⟨rfl, h1, hk1⟩; dsimp only
  replace hD := hk1.blk hD hDR
  replace hB := hk1.blk hB hBR
  replace hk := hk.trans hk1
  clear h0 hk1
  have d7 : ∃ v, w6.cell? ⟨w.heap.size + 1, 7, none⟩ = some v := ⟨_, blk_cell hD rfl⟩
  obtain ⟨v7, d7⟩ := d7
  have fD : ∀ i, w6.frozen? ⟨w.heap.size + 1, i, none⟩ = false := hD.frozen
  have lD := hD.lt
  go_wp2_with fail
  refine calls_world (F := fun W => RR W R (nT (nV (nI (nS (nT (nT x)))))) ∧ Blk W (w.heap.size + 1) 58 (jC { zeroC.job with name := gT x, user := gT (nT x), band := gS (nT (nT x)), count := gI (nS (nT (nT x))), limit := gV (nI (nS (nT (nT x)))), alloc := gT (nV (nI (nS (nT (nT x))))) }) ∧ Blk W w.heap.size 58 (jC zeroC.job) ∧ Kept R w W) ⟨(Blk.far h1 (p := ⟨w.heap.size + 1, 7, none⟩) hRD (.string (gT (nV (nI (nS (nT (nT x)))))))), (Blk.set_ hD 7 (.string (gT (nV (nI (nS (nT (nT x)))))))), (hB.far (p := ⟨w.heap.size + 1, 7, none⟩) (by show w.heap.size ≠ w.heap.size + 1; omega) (.string (gT (nV (nI (nS (nT (nT x)))))))), (hk.fresh (Nat.le_succ _) 7 (.string (gT (nV (nI (nS (nT (nT x))))))))⟩ ?_
  clear h1 hD hB hk d7 fD lD
  rintro W6 ⟨h0, hD, hB, hk⟩
  refine (r_num R (nT (nV (nI (nS (nT (nT x)))))) W6 (nT_sz _ (nV_sz _ (nI_sz _ (nS_sz _ (nT_sz _ (nT_sz _ (hs))))))) h0).mono ?_
  rintro r w7 ⟨rfl, h1, hk1⟩; dsimp only
  replace hD := hk1.blk hD hDR
  replace hB := hk1.blk hB hBR
  replace hk := hk.trans hk1
  clear h0 hk1
  have d8 : ∃ v, w7.cell? ⟨w.heap.size + 1, 8, none⟩ = some v := ⟨_, blk_cell hD rfl⟩
  obtain ⟨v8, d8⟩ := d8
  have fD : ∀ i, w7.frozen? ⟨w.heap.size + 1, i, none⟩ = false := hD.frozen
  have lD := hD.lt
  go_wp2_with fail
  refine calls_world (F := fun W => RR W R (nI (nT (nV (nI (nS (nT (nT x))))))) ∧ Blk W (w.heap.size + 1) 58 (jC { zeroC.job with name := gT x, user := gT (nT x), band := gS (nT (nT x)), count := gI (nS (nT (nT x))), limit := gV (nI (nS (nT (nT x)))), alloc := gT (nV (nI (nS (nT (nT x))))), budget := { zeroC.job.budget with k := gI (nT (nV (nI (nS (nT (nT x)))))) } }) ∧ Blk W w.heap.size 58 (jC zeroC.job) ∧ Kept R w W) ⟨(Blk.far h1 (p := ⟨w.heap.size + 1, 8, none⟩) hRD (.int .i64 (gI (nT (nV (nI (nS (nT (nT x))))))))), (Blk.set_ hD 8 (.int .i64 (gI (nT (nV (nI (nS (nT (nT x))))))))), (hB.far (p := ⟨w.heap.size + 1, 8, none⟩) (by show w.heap.size ≠ w.heap.size + 1; omega) (.int .i64 (gI (nT (nV (nI (nS (nT (nT x))))))))), (hk.fresh (Nat.le_succ _) 8 (.int .i64 (gI (nT (nV (nI (nS (nT (nT x)))))))))⟩ ?_
  clear h1 hD hB hk d8 fD lD
  rintro W7 ⟨h0, hD, hB, hk⟩
  refine (rI R (nI (nT (nV (nI (nS (nT (nT x))))))) W7 (nI_sz _ (nT_sz _ (nV_sz _ (nI_sz _ (nS_sz _ (nT_sz _ (nT_sz _ (hs)))))))) h0).mono ?_
  rintro r w8 ⟨rfl, h1, hk1⟩; dsimp only
  replace hD := hk1.blk hD hDR
  replace hB := hk1.blk hB hBR
  replace hk := hk.trans hk1
  clear h0 hk1
  have d9 : ∃ v, w8.cell? ⟨w.heap.size + 1, 9, none⟩ = some v := ⟨_, blk_cell hD rfl⟩
  obtain ⟨v9, d9⟩ := d9
  have fD : ∀ i, w8.frozen? ⟨w.heap.size + 1, i, none⟩ = false := hD.frozen
  have lD := hD.lt
  go_wp2_with (refine ops_at 31 rfl (fun W => RR W R (nI (nI (nT (nV (nI (nS (nT (nT x)))))))) ∧ Blk W (w.heap.size + 1) 58 (jC (gJ x)) ∧ Blk W w.heap.size 58 (jC zeroC.job) ∧ Kept R w W) ?_ ?_)
  · exact Lib.hid ⟨(Blk.far h1 (p := ⟨w.heap.size + 1, 9, none⟩) hRD (.int .i64 (gI (nI (nT (nV (nI (nS (nT (nT x)))))))))), (Blk.set_ hD 9 (.int .i64 (gI (nI (nT (nV (nI (nS (nT (nT x)))))))))), (hB.far (p := ⟨w.heap.size + 1, 9, none⟩) (by show w.heap.size ≠ w.heap.size + 1; omega) (.int .i64 (gI (nI (nT (nV (nI (nS (nT (nT x)))))))))), (hk.fresh (Nat.le_succ _) 9 (.int .i64 (gI (nI (nT (nV (nI (nS (nT (nT x))))))))))⟩
  · refine Lib.hid ?_
    clear h1 hD hB hk d9 fD lD
    intro W h0 hD hB hk
    have hlD := load_job hD rfl
    go_wp2_with (first | (with_reducible refine wpList_load_rowW 58 (.tmp 3) (w.heap.size + 1) ?_ (jC (gJ x)) hlD ?_ ?_) | (with_reducible refine st_job (.tmp 2) (.tmp 31) w.heap.size (gJ x) ?_ ?_ (jC zeroC.job) hB (jC_size _) ?_ ?_) | fail)
    rotate_right
    · skip
      refine bodyPost_ret (results_cell_row Try.results101 _ _ w.heap.size 58 (jC (gJ x)) (0, 0) _ rfl hB.rowK Try.underlying58 rfl info_job) rfl ?_
      exact ⟨rfl, Blk.offRow h0 hRB, hk.freshRow (Nat.le_refl _) _⟩
    all_goals first | rfl | (simp [Region.wanted, yielded, Act.put]; done)
theorem r_readJobL (R : Nat) (x : RS) (w : World) (hs : x.1.size ≤ 140737488351232) (h : RR w R x) : Calls Try.prog 101 #[.pointer (some ⟨R, 0, none⟩)] w fun e w' => e = .returned (.agg #[.string (gJ x).name, .string (gJ x).user, .int .u8 (gJ x).band, .int .i64 (gJ x).count, .int .i64 (gJ x).limit.cpu, .int .i64 (gJ x).limit.mem, .int .i64 (gJ x).limit.disk, .string (gJ x).alloc, .int .i64 (gJ x).budget.k, .int .i64 (gJ x).budget.window]) ∧ RR w' R (nJ x) ∧ Kept R w w' := r_readJob R x w hs h
end Go.Proofs.Yteglieoeblehpaa
