/- Commands: how the reference reads parts, walked. Conditions: the bytes are in memory. -/
import Derived.Test.YteglieoeblehpaaCmd21
namespace Go.Proofs.Yteglieoeblehpaa
open Go.RowKit

abbrev RR (w : World) (R : Nat) (x : RS) : Prop := RRd w R x.1 x.2
theorem nI_sz (x : RS) {n : Nat} (h : x.1.size ≤ n) : (nI x).1.size ≤ n := Nat.le_trans (rdS_size _ _ _) h
theorem nT_sz (x : RS) {n : Nat} (h : x.1.size ≤ n) : (nT x).1.size ≤ n := Nat.le_trans (rdS_size _ _ _) h
theorem nS_sz (x : RS) {n : Nat} (h : x.1.size ≤ n) : (nS x).1.size ≤ n := Nat.le_trans (rdS_size _ _ _) h
theorem nG_sz (x : RS) {n : Nat} (h : x.1.size ≤ n) : (nG x).1.size ≤ n := Nat.le_trans (rdS_size _ _ _) h
theorem Kept.fresh {P : Nat} {w W : World} (h : Kept P w W) {J : Nat} (hJ : w.heap.size ≤ J) (i : Nat) (v : Value) : Kept P w (W.setCell ⟨J, i, none⟩ v) :=
  ⟨fun B a c => (h.1 B a c).setCell (show B ≤ J by omega) v, by simpa using h.2.1, fun g t cs a b => (h.2.2 g t cs a b).far (p := ⟨J, i, none⟩) (by have := b.lt; show g ≠ J; omega) v⟩
theorem Kept.own {P : Nat} {w W : World} (h : Kept P w W) (o : Obj) : Kept P w (W.alloc o) := h.trans (Kept.of (below_own (Below.refl _ W) o))
theorem Kept.freshRow {P : Nat} {w W : World} (h : Kept P w W) {J : Nat} (hJ : w.heap.size ≤ J) (cs : Array Value) : Kept P w (W.setRow J cs) :=
  ⟨fun B a c => below_setRow (h.1 B a c) (show B ≤ J by omega) cs, by simpa using h.2.1, fun g t cs' a b => (h.2.2 g t cs' a b).offRow (by have := b.lt; omega)⟩
theorem rI (R : Nat) (x : RS) (w : World) (hs : x.1.size ≤ 140737488351232) (h : RR w R x) : Calls Try.prog 49 #[.pointer (some ⟨R, 0, none⟩), .int .i64 (-9223372036854775808), .int .i64 9223372036854775807] w fun r w' => r = .returned (.int .i64 (gI x)) ∧ RR w' R (nI x) ∧ Kept R w w' := rx_Int R x.1 x.2 _ _ w hs h
theorem rT (R : Nat) (x : RS) (w : World) (hs : x.1.size ≤ 140737488351232) (h : RR w R x) : Calls Try.prog 50 #[.pointer (some ⟨R, 0, none⟩), .int .i64 64] w fun r w' => r = .returned (.string (gT x)) ∧ RR w' R (nT x) ∧ Kept R w w' := rx_Text R x.1 x.2 64 (by decide) (by decide) w hs h
theorem rS (R : Nat) (x : RS) (w : World) (hs : x.1.size ≤ 140737488351232) (h : RR w R x) : Calls Try.prog 48 #[.pointer (some ⟨R, 0, none⟩), .int .u64 255] w fun r w' => r = .returned (.int .u64 (gS x)) ∧ RR w' R (nS x) ∧ Kept R w w' := rx_Uint R x.1 x.2 255 w hs h
theorem rG (R : Nat) (x : RS) (w : World) (hs : x.1.size ≤ 140737488351232) (h : RR w R x) : Calls Try.prog 48 #[.pointer (some ⟨R, 0, none⟩), .int .u64 18446744073709551615] w fun r w' => r = .returned (.int .u64 (gG x)) ∧ RR w' R (nG x) ∧ Kept R w w' := rx_Uint R x.1 x.2 18446744073709551615 w hs h
theorem r_num (R : Nat) (x : RS) (w : World) (hs : x.1.size ≤ 140737488351232) (h : RR w R x) : Calls Try.prog 100 #[.pointer (some ⟨R, 0, none⟩)] w fun r w' => r = .returned (.int .i64 (gI x)) ∧ RR w' R (nI x) ∧ Kept R w w' := by
  have C := Lib.hid (rI R x w hs h)
  go_enter Try.func100, Try.ntmps100
  go_wp2_with fail
  refine C.out.mono ?_
  rintro r w1 ⟨rfl, h1, hk⟩; dsimp only
  go_wp2_with fail
  go_ret
  exact ⟨rfl, h1, hk⟩
set_option maxHeartbeats 4000000 in
theorem r_readVec (R : Nat) (x : RS) (w : World) (hs : x.1.size ≤ 140737488351232) (h : RR w R x) : Calls Try.prog 99 #[.pointer (some ⟨R, 0, none⟩)] w fun r w' => r = .returned (.agg #[.int .i64 (gV x).cpu, .int .i64 (gV x).mem, .int .i64 (gV x).disk]) ∧ RR w' R (nV x) ∧ Kept R w w' := by
  have hJ := Blk.new w 54 #[.int .i64 0, .int .i64 0, .int .i64 0]
  have hk0 := (Kept.refl R w).own (.cells #[.int .i64 0, .int .i64 0, .int .i64 0] 54)
  have h0 : RR _ R x := Blk.alloc h (.cells #[.int .i64 0, .int .i64 0, .int .i64 0] 54)
  have hRl := Blk.lt h
  have C1 := Lib.hid (rI R x _ hs h0)
  have C2 := fun W h => Lib.hid (rI R (nI x) W (nI_sz _ hs) h)
  have C3 := fun W h => Lib.hid (rI R (nI (nI x)) W (nI_sz _ (nI_sz _ hs)) h)
  unfold gV nV
  generalize gI (nI (nI x)) = v3 at *
  generalize gI (nI x) = v2 at *
  generalize gI x = v1 at *
  generalize nI (nI (nI x)) = x3 at *
  generalize nI (nI x) = x2 at *
  generalize nI x = x1 at *
  clear h h0
  go_enter Try.func99, Try.ntmps99
  go_wp2_with fail
  refine C1.out.mono ?_
  rintro r w1 ⟨rfl, h1, hk1⟩; dsimp only
  replace hJ := hk1.blk hJ (by omega)
  replace hk0 := hk0.trans hk1
  replace C2 := C2 _ h1
  clear hk1 C1 h1
  go_wp2_with fail
  refine C2.out.mono ?_
  rintro r w2 ⟨rfl, h1, hk1⟩; dsimp only
  replace hJ := hk1.blk hJ (by omega)
  replace hk0 := hk0.trans hk1
  replace C3 := C3 _ h1
  clear hk1 C2 h1
  go_wp2_with fail
  refine C3.out.mono ?_
  rintro r w3 ⟨rfl, h1, hk1⟩; dsimp only
  replace hJ := hk1.blk hJ (by omega)
  replace hk0 := hk0.trans hk1
  clear hk1 C3
  obtain ⟨Jc, Jf, Jl⟩ := hJ.facts
  have hRJ : R ≠ w.heap.size := by omega
  go_wp2_with fail
  refine bodyPost_ret (results_cell_row Try.results99 _ _ w.heap.size 54 #[.int .i64 v1, .int .i64 v2, .int .i64 v3] (0, 0) _ rfl (((hJ.set_ 0 (.int .i64 v1)).set_ 1 (.int .i64 v2)).set_ 2 (.int .i64 v3)) Try.underlying54 rfl (by kernel_rfl)) rfl ?_
  exact ⟨rfl, ((Blk.far h1 hRJ _).far hRJ _).far hRJ _, ((hk0.fresh (Nat.le_refl _) _ _).fresh (Nat.le_refl _) _ _).fresh (Nat.le_refl _) _ _⟩
set_option maxHeartbeats 4000000 in
theorem r_readTask (R : Nat) (x : RS) (w : World) (hs : x.1.size ≤ 140737488351232) (h : RR w R x) : Calls Try.prog 102 #[.pointer (some ⟨R, 0, none⟩)] w fun r w' => r = .returned (.agg #[.string (gK x).job, .int .i64 (gK x).n]) ∧ RR w' R (nK x) ∧ Kept R w w' := by
  have hJ := Blk.new w 62 #[.string ByteArray.empty, .int .i64 0]
  have hk0 := (Kept.refl R w).own (.cells #[.string ByteArray.empty, .int .i64 0] 62)
  have h0 : RR _ R x := Blk.alloc h (.cells #[.string ByteArray.empty, .int .i64 0] 62)
  have hRl := Blk.lt h
  have C1 := Lib.hid (rT R x _ hs h0)
  have C2 := fun W h => Lib.hid (r_num R (nT x) W (nT_sz _ hs) h)
  unfold gK nK
  generalize gI (nT x) = v2 at *
  generalize gT x = v1 at *
  generalize nI (nT x) = x2 at *
  generalize nT x = x1 at *
  clear h h0
  go_enter Try.func102, Try.ntmps102
  go_wp2_with fail
  refine C1.out.mono ?_
  rintro r w1 ⟨rfl, h1, hk1⟩; dsimp only
  replace hJ := hk1.blk hJ (by omega)
  replace hk0 := hk0.trans hk1
  replace C2 := C2 _ h1
  clear hk1 C1 h1
  go_wp2_with fail
  refine C2.out.mono ?_
  rintro r w2 ⟨rfl, h1, hk1⟩; dsimp only
  replace hJ := hk1.blk hJ (by omega)
  replace hk0 := hk0.trans hk1
  clear hk1 C2
  obtain ⟨Jc, Jf, Jl⟩ := hJ.facts
  have hRJ : R ≠ w.heap.size := by omega
  go_wp2_with fail
  refine bodyPost_ret (results_cell_row Try.results102 _ _ w.heap.size 62 #[.string v1, .int .i64 v2] (0, 0) _ rfl ((hJ.set_ 0 (.string v1)).set_ 1 (.int .i64 v2)) Try.underlying62 rfl (by kernel_rfl)) rfl ?_
  exact ⟨rfl, (Blk.far h1 hRJ _).far hRJ _, (hk0.fresh (Nat.le_refl _) _ _).fresh (Nat.le_refl _) _ _⟩
end Go.Proofs.Yteglieoeblehpaa
