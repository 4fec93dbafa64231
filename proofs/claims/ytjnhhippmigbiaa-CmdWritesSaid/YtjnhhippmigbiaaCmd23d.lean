/- Commands: the reference's bytes, walked, of some kinds. Conditions: the texts are short. -/
import Derived.Test.YtjnhhippmigbiaaCmd23
namespace Go.Proofs.Ytjnhhippmigbiaa
open Go.RowKit

set_option maxRecDepth 100000 in
set_option maxHeartbeats 8000000 in
theorem bytes_12 (c : Command) (hc : c.ok) (hl : shortC c) (hk : c.kind = 12) (w : World) : Calls Try.prog 18 #[.agg (csC c)] w fun e w' => e = .returned (.string (encC c)) ∧ Below w.heap.size w w' := by
  have hr : encC c = encU 12 ++ encI c.machine := by
    unfold encC headB
    rw [hk]
    kernel_rfl
  rw [hr]
  clear hr
  have hcc := hc
  obtain ⟨o0, o1, o2, o3, o4, o5, o6, o7, o8, o9, o10, o11, o12, o13, o14, o15⟩ := hcc
  have K1 := Lib.hid (fun W => r_u 12 (by unfold U64; omega) W)
  have zk := encU_size 12 (by omega)
  have P0 := Lib.hid (fun W => r_i c.machine o6 W)
  have z0 := encI_size c.machine o6
  have hA := Blk.new w 34 (csC c)
  have hb : Below w.heap.size w (w.alloc (.cells (csC c) 34)) := by go_grown
  have q0 : (w.alloc (.cells (csC c) 34)).cell? ⟨w.heap.size, 0, none⟩ = some (.int .u8 12) := by
    have q := blk_cell hA (show (csC c)[0]? = some (.int .u8 c.kind) from rfl)
    rw [hk] at q
    exact q
  clear o0 o1 o2 o3 o4 o5 o6 o7 o8 o9 o10 o11 o12 o13 o14 o15 hl hc
  generalize encU 12 = ek at *
  generalize encI c.machine = e0 at *
  go_enter Try.func18, Try.ntmps18
  go_wp2_with fail
  refine (K1.out _).mono ?_
  rintro r w1 ⟨rfl, hb1⟩; dsimp only
  replace hb := hb.trans (hb1.mono hb.size)
  replace hA := hA.past hb1
  clear hb1 q0 K1
  have q0 : w1.cell? ⟨w.heap.size, 0, none⟩ = some (.int .u8 12) := by
    have q := blk_cell hA (show (csC c)[0]? = some (.int .u8 c.kind) from rfl)
    rw [hk] at q
    exact q
  go_wp2_with fail
  refine (r_Client 12 _).mono ?_
  rintro r w2 ⟨rfl, rfl⟩; dsimp only
  rw [show clientB 12 = false by decide]
  have lA := hA.lt
  have a8 : w1.cell? ⟨w.heap.size, 8, none⟩ = some (.int .i64 c.machine) := blk_cell hA rfl
  have x0 : (ek ++ e0).size ≤ 20 := by rw [ByteArray.size_append]; omega
  go_wp2_with fail
  refine (P0.out _).mono ?_
  rintro r w4 ⟨rfl, hk4⟩; dsimp only
  replace hb := hb.trans (hk4.mono hb.size)
  go_wp2_with fail
  go_ret
  exact ⟨rfl, hb⟩
set_option maxRecDepth 100000 in
set_option maxHeartbeats 8000000 in
theorem bytes_13 (c : Command) (hc : c.ok) (hl : shortC c) (hk : c.kind = 13) (w : World) : Calls Try.prog 18 #[.agg (csC c)] w fun e w' => e = .returned (.string (encC c)) ∧ Below w.heap.size w w' := by
  have hr : encC c = encU 13 ++ (encT c.task.job ++ encI c.task.n) ++ encI c.gen := by
    unfold encC headB
    rw [hk]
    kernel_rfl
  rw [hr]
  clear hr
  have hcc := hc
  obtain ⟨o0, o1, o2, o3, o4, o5, o6, o7, o8, o9, o10, o11, o12, o13, o14, o15⟩ := hcc
  have K1 := Lib.hid (fun W => r_u 13 (by unfold U64; omega) W)
  have zk := encU_size 13 (by omega)
  have P0 := Lib.hid (fun W => r_task c.task.job c.task.n hl.2.2.1 o11.2 W)
  have z0 := task_size c.task.job c.task.n hl.2.2.1 o11.2
  have P1 := Lib.hid (fun W => r_i c.gen o13 W)
  have z1 := encI_size c.gen o13
  have hA := Blk.new w 34 (csC c)
  have hb : Below w.heap.size w (w.alloc (.cells (csC c) 34)) := by go_grown
  have q0 : (w.alloc (.cells (csC c) 34)).cell? ⟨w.heap.size, 0, none⟩ = some (.int .u8 13) := by
    have q := blk_cell hA (show (csC c)[0]? = some (.int .u8 c.kind) from rfl)
    rw [hk] at q
    exact q
  clear o0 o1 o2 o3 o4 o5 o6 o7 o8 o9 o10 o11 o12 o13 o14 o15 hl hc
  generalize encU 13 = ek at *
  generalize (encT c.task.job ++ encI c.task.n) = e0 at *
  generalize encI c.gen = e1 at *
  go_enter Try.func18, Try.ntmps18
  go_wp2_with fail
  refine (K1.out _).mono ?_
  rintro r w1 ⟨rfl, hb1⟩; dsimp only
  replace hb := hb.trans (hb1.mono hb.size)
  replace hA := hA.past hb1
  clear hb1 q0 K1
  have q0 : w1.cell? ⟨w.heap.size, 0, none⟩ = some (.int .u8 13) := by
    have q := blk_cell hA (show (csC c)[0]? = some (.int .u8 c.kind) from rfl)
    rw [hk] at q
    exact q
  go_wp2_with fail
  refine (r_Client 13 _).mono ?_
  rintro r w2 ⟨rfl, rfl⟩; dsimp only
  rw [show clientB 13 = false by decide]
  have lA := hA.lt
  have a27 : w1.cell? ⟨w.heap.size, 27, none⟩ = some (.string c.task.job) := blk_cell hA rfl
  have a28 : w1.cell? ⟨w.heap.size, 28, none⟩ = some (.int .i64 c.task.n) := blk_cell hA rfl
  have a30 : w1.cell? ⟨w.heap.size, 30, none⟩ = some (.int .i64 c.gen) := blk_cell hA rfl
  have x0 : (ek ++ e0).size ≤ 1054 := by rw [ByteArray.size_append]; omega
  have x1 : (ek ++ e0 ++ e1).size ≤ 1064 := by rw [ByteArray.size_append]; omega
  go_wp2_with fail
  refine wp_region_ext (by kernel_rfl) (by kernel_rfl) ?_
  repeat (go_big_quiet_step ((first | (go_at_call 54; first | with_reducible exact ext_of (P0.out _)) | (go_at_call 51; first | with_reducible exact ext_of (P1.out _)))))
  refine wpQuiet_nil ?_
  intro w4 hx
  have hk4 := (after_region hx).2.2.2.2
  replace hb := hb.trans (hk4.mono hb.size)
  clear hx
  go_wp2_with fail
  go_ret
  exact ⟨rfl, hb⟩
set_option maxRecDepth 100000 in
set_option maxHeartbeats 8000000 in
theorem bytes_14 (c : Command) (hc : c.ok) (hl : shortC c) (hk : c.kind = 14) (w : World) : Calls Try.prog 18 #[.agg (csC c)] w fun e w' => e = .returned (.string (encC c)) ∧ Below w.heap.size w w' := by
  have hr : encC c = encU 14 ++ encI c.tick := by
    unfold encC headB
    rw [hk]
    kernel_rfl
  rw [hr]
  clear hr
  have hcc := hc
  obtain ⟨o0, o1, o2, o3, o4, o5, o6, o7, o8, o9, o10, o11, o12, o13, o14, o15⟩ := hcc
  have K1 := Lib.hid (fun W => r_u 14 (by unfold U64; omega) W)
  have zk := encU_size 14 (by omega)
  have P0 := Lib.hid (fun W => rr_I c.tick o15 W)
  have z0 := encI_size c.tick o15
  have hA := Blk.new w 34 (csC c)
  have hb : Below w.heap.size w (w.alloc (.cells (csC c) 34)) := by go_grown
  have q0 : (w.alloc (.cells (csC c) 34)).cell? ⟨w.heap.size, 0, none⟩ = some (.int .u8 14) := by
    have q := blk_cell hA (show (csC c)[0]? = some (.int .u8 c.kind) from rfl)
    rw [hk] at q
    exact q
  clear o0 o1 o2 o3 o4 o5 o6 o7 o8 o9 o10 o11 o12 o13 o14 o15 hl hc
  generalize encU 14 = ek at *
  generalize encI c.tick = e0 at *
  go_enter Try.func18, Try.ntmps18
  go_wp2_with fail
  refine (K1.out _).mono ?_
  rintro r w1 ⟨rfl, hb1⟩; dsimp only
  replace hb := hb.trans (hb1.mono hb.size)
  replace hA := hA.past hb1
  clear hb1 q0 K1
  have q0 : w1.cell? ⟨w.heap.size, 0, none⟩ = some (.int .u8 14) := by
    have q := blk_cell hA (show (csC c)[0]? = some (.int .u8 c.kind) from rfl)
    rw [hk] at q
    exact q
  go_wp2_with fail
  refine (r_Client 14 _).mono ?_
  rintro r w2 ⟨rfl, rfl⟩; dsimp only
  rw [show clientB 14 = false by decide]
  have lA := hA.lt
  have a32 : w1.cell? ⟨w.heap.size, 32, none⟩ = some (.int .i64 c.tick) := blk_cell hA rfl
  have x0 : (ek ++ e0).size ≤ 20 := by rw [ByteArray.size_append]; omega
  go_wp2_with fail
  refine (P0.out _).mono ?_
  rintro r w4 ⟨rfl, hk4⟩; dsimp only
  replace hb := hb.trans (hk4.mono hb.size)
  go_wp2_with fail
  go_ret
  exact ⟨rfl, hb⟩
end Go.Proofs.Ytjnhhippmigbiaa
