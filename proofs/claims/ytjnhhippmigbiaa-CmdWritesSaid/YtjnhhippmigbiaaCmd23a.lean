/- Commands: the reference's bytes, walked, of some kinds. Conditions: the texts are short. -/
import Derived.Test.YtjnhhippmigbiaaCmd23
namespace Go.Proofs.Ytjnhhippmigbiaa
open Go.RowKit

set_option maxRecDepth 100000 in
set_option maxHeartbeats 8000000 in
theorem bytes_0 (c : Command) (hc : c.ok) (hl : shortC c) (hk : c.kind = 0) (w : World) : Calls Try.prog 18 #[.agg (csC c)] w fun e w' => e = .returned (.string (encC c)) ∧ Below w.heap.size w w' := by
  have hr : encC c = encU 0 := by
    unfold encC headB
    rw [hk]
    kernel_rfl
  rw [hr]
  clear hr
  have hcc := hc
  obtain ⟨o0, o1, o2, o3, o4, o5, o6, o7, o8, o9, o10, o11, o12, o13, o14, o15⟩ := hcc
  have K1 := Lib.hid (fun W => r_u 0 (by unfold U64; omega) W)
  have zk := encU_size 0 (by omega)
  have hA := Blk.new w 34 (csC c)
  have hb : Below w.heap.size w (w.alloc (.cells (csC c) 34)) := by go_grown
  have q0 : (w.alloc (.cells (csC c) 34)).cell? ⟨w.heap.size, 0, none⟩ = some (.int .u8 0) := by
    have q := blk_cell hA (show (csC c)[0]? = some (.int .u8 c.kind) from rfl)
    rw [hk] at q
    exact q
  clear o0 o1 o2 o3 o4 o5 o6 o7 o8 o9 o10 o11 o12 o13 o14 o15 hl hc
  generalize encU 0 = ek at *
  go_enter Try.func18, Try.ntmps18
  go_wp2_with fail
  refine (K1.out _).mono ?_
  rintro r w1 ⟨rfl, hb1⟩; dsimp only
  replace hb := hb.trans (hb1.mono hb.size)
  replace hA := hA.past hb1
  clear hb1 q0 K1
  have q0 : w1.cell? ⟨w.heap.size, 0, none⟩ = some (.int .u8 0) := by
    have q := blk_cell hA (show (csC c)[0]? = some (.int .u8 c.kind) from rfl)
    rw [hk] at q
    exact q
  go_wp2_with fail
  refine (r_Client 0 _).mono ?_
  rintro r w2 ⟨rfl, rfl⟩; dsimp only
  rw [show clientB 0 = false by decide]
  have lA := hA.lt
  go_wp2_with fail
  go_ret
  exact ⟨rfl, hb⟩
set_option maxRecDepth 100000 in
set_option maxHeartbeats 8000000 in
theorem bytes_1 (c : Command) (hc : c.ok) (hl : shortC c) (hk : c.kind = 1) (w : World) : Calls Try.prog 18 #[.agg (csC c)] w fun e w' => e = .returned (.string (encC c)) ∧ Below w.heap.size w w' := by
  have hr : encC c = encU 1 ++ encU c.client ++ encU c.seq ++ encT c.user ++ encU c.band ++ encV c.vec.cpu c.vec.mem c.vec.disk := by
    unfold encC headB
    rw [hk]
    kernel_rfl
  rw [hr]
  clear hr
  have hcc := hc
  obtain ⟨o0, o1, o2, o3, o4, o5, o6, o7, o8, o9, o10, o11, o12, o13, o14, o15⟩ := hcc
  have K1 := Lib.hid (fun W => r_u 1 (by unfold U64; omega) W)
  have zk := encU_size 1 (by omega)
  have C1 := Lib.hid (fun W => r_u c.client o1 W)
  have C2 := Lib.hid (fun W => r_u c.seq o2 W)
  have zc := encU_size c.client (by have := o1.2; omega)
  have zs := encU_size c.seq (by have := o2.2; omega)
  have P0 := Lib.hid (fun W => rr_T c.user hl.1 W)
  have z0 := encT_size c.user hl.1
  have P1 := Lib.hid (fun W => r_u c.band (by have := o4; unfold U8 at this; unfold U64; omega) W)
  have z1 := encU_size c.band (by have := o4; unfold U8 at this; omega)
  have hu1 := u8w o4
  have P2 := Lib.hid (fun W => r_vec c.vec.cpu c.vec.mem c.vec.disk o5.1 o5.2.1 o5.2.2 W)
  have z2 := encV_size c.vec.cpu c.vec.mem c.vec.disk o5.1 o5.2.1 o5.2.2
  have hA := Blk.new w 34 (csC c)
  have hb : Below w.heap.size w (w.alloc (.cells (csC c) 34)) := by go_grown
  have q0 : (w.alloc (.cells (csC c) 34)).cell? ⟨w.heap.size, 0, none⟩ = some (.int .u8 1) := by
    have q := blk_cell hA (show (csC c)[0]? = some (.int .u8 c.kind) from rfl)
    rw [hk] at q
    exact q
  clear o0 o1 o2 o3 o4 o5 o6 o7 o8 o9 o10 o11 o12 o13 o14 o15 hl hc
  generalize encU 1 = ek at *
  generalize encU c.client = ec at *
  generalize encU c.seq = es at *
  generalize encT c.user = e0 at *
  generalize encU c.band = e1 at *
  generalize encV c.vec.cpu c.vec.mem c.vec.disk = e2 at *
  go_enter Try.func18, Try.ntmps18
  go_wp2_with fail
  refine (K1.out _).mono ?_
  rintro r w1 ⟨rfl, hb1⟩; dsimp only
  replace hb := hb.trans (hb1.mono hb.size)
  replace hA := hA.past hb1
  clear hb1 q0 K1
  have q0 : w1.cell? ⟨w.heap.size, 0, none⟩ = some (.int .u8 1) := by
    have q := blk_cell hA (show (csC c)[0]? = some (.int .u8 c.kind) from rfl)
    rw [hk] at q
    exact q
  go_wp2_with fail
  refine (r_Client 1 _).mono ?_
  rintro r w2 ⟨rfl, rfl⟩; dsimp only
  rw [show clientB 1 = true by decide]
  have lA := hA.lt
  have a1 : w1.cell? ⟨w.heap.size, 1, none⟩ = some (.int .u64 c.client) := blk_cell hA rfl
  have a2 : w1.cell? ⟨w.heap.size, 2, none⟩ = some (.int .u64 c.seq) := blk_cell hA rfl
  have y1 : (ek ++ ec).size ≤ 20 := by rw [ByteArray.size_append]; omega
  have y2 : (ek ++ ec ++ es).size ≤ 30 := by rw [ByteArray.size_append]; omega
  go_wp2_with fail
  refine wp_region_ext (by kernel_rfl) (by kernel_rfl) ?_
  repeat (go_big_quiet_step ((go_at_call 48; first | with_reducible exact ext_of (C1.out _) | with_reducible exact ext_of (C2.out _))))
  refine wpQuiet_nil ?_
  intro w3 hx
  have hk3 := (after_region hx).2.2.2.2
  replace hb := hb.trans (hk3.mono hb.size)
  replace hA := hA.past hk3
  clear hx hk3 a1 a2 q0 lA zc zs y1 C1 C2
  generalize hHH : ek ++ ec ++ es = hd at *
  replace hHH := Lib.hid hHH
  have q0 : w3.cell? ⟨w.heap.size, 0, none⟩ = some (.int .u8 1) := by
    have q := blk_cell hA (show (csC c)[0]? = some (.int .u8 c.kind) from rfl)
    rw [hk] at q
    exact q
  have lA := hA.lt
  have a3 : w3.cell? ⟨w.heap.size, 3, none⟩ = some (.string c.user) := blk_cell hA rfl
  have a4 : w3.cell? ⟨w.heap.size, 4, none⟩ = some (.int .u8 c.band) := blk_cell hA rfl
  have a5 : w3.cell? ⟨w.heap.size, 5, none⟩ = some (.int .i64 c.vec.cpu) := blk_cell hA rfl
  have a6 : w3.cell? ⟨w.heap.size, 6, none⟩ = some (.int .i64 c.vec.mem) := blk_cell hA rfl
  have a7 : w3.cell? ⟨w.heap.size, 7, none⟩ = some (.int .i64 c.vec.disk) := blk_cell hA rfl
  have x0 : (hd ++ e0).size ≤ 1064 := by rw [ByteArray.size_append]; omega
  have x1 : (hd ++ e0 ++ e1).size ≤ 1074 := by rw [ByteArray.size_append]; omega
  have x2 : (hd ++ e0 ++ e1 ++ e2).size ≤ 1104 := by rw [ByteArray.size_append]; omega
  go_wp2_with fail
  refine wp_region_ext (by kernel_rfl) (by kernel_rfl) ?_
  repeat (go_big_quiet_step ((first | (go_at_call 49; first | with_reducible exact ext_of (P0.out _)) | (go_at_call 48; first | with_reducible exact ext_of (P1.out _)) | (go_at_call 50; first | with_reducible exact ext_of (P2.out _)))))
  refine wpQuiet_nil ?_
  intro w4 hx
  have hk4 := (after_region hx).2.2.2.2
  replace hb := hb.trans (hk4.mono hb.size)
  clear hx
  go_wp2_with fail
  go_ret
  exact ⟨by rw [hHH.out]; rfl, hb⟩
set_option maxRecDepth 100000 in
set_option maxHeartbeats 8000000 in
theorem bytes_2 (c : Command) (hc : c.ok) (hl : shortC c) (hk : c.kind = 2) (w : World) : Calls Try.prog 18 #[.agg (csC c)] w fun e w' => e = .returned (.string (encC c)) ∧ Below w.heap.size w w' := by
  have hr : encC c = encU 2 ++ encU c.client ++ encU c.seq ++ encI c.machine ++ encV c.vec.cpu c.vec.mem c.vec.disk := by
    unfold encC headB
    rw [hk]
    kernel_rfl
  rw [hr]
  clear hr
  have hcc := hc
  obtain ⟨o0, o1, o2, o3, o4, o5, o6, o7, o8, o9, o10, o11, o12, o13, o14, o15⟩ := hcc
  have K1 := Lib.hid (fun W => r_u 2 (by unfold U64; omega) W)
  have zk := encU_size 2 (by omega)
  have C1 := Lib.hid (fun W => r_u c.client o1 W)
  have C2 := Lib.hid (fun W => r_u c.seq o2 W)
  have zc := encU_size c.client (by have := o1.2; omega)
  have zs := encU_size c.seq (by have := o2.2; omega)
  have P0 := Lib.hid (fun W => r_i c.machine o6 W)
  have z0 := encI_size c.machine o6
  have P1 := Lib.hid (fun W => r_vec c.vec.cpu c.vec.mem c.vec.disk o5.1 o5.2.1 o5.2.2 W)
  have z1 := encV_size c.vec.cpu c.vec.mem c.vec.disk o5.1 o5.2.1 o5.2.2
  have hA := Blk.new w 34 (csC c)
  have hb : Below w.heap.size w (w.alloc (.cells (csC c) 34)) := by go_grown
  have q0 : (w.alloc (.cells (csC c) 34)).cell? ⟨w.heap.size, 0, none⟩ = some (.int .u8 2) := by
    have q := blk_cell hA (show (csC c)[0]? = some (.int .u8 c.kind) from rfl)
    rw [hk] at q
    exact q
  clear o0 o1 o2 o3 o4 o5 o6 o7 o8 o9 o10 o11 o12 o13 o14 o15 hl hc
  generalize encU 2 = ek at *
  generalize encU c.client = ec at *
  generalize encU c.seq = es at *
  generalize encI c.machine = e0 at *
  generalize encV c.vec.cpu c.vec.mem c.vec.disk = e1 at *
  go_enter Try.func18, Try.ntmps18
  go_wp2_with fail
  refine (K1.out _).mono ?_
  rintro r w1 ⟨rfl, hb1⟩; dsimp only
  replace hb := hb.trans (hb1.mono hb.size)
  replace hA := hA.past hb1
  clear hb1 q0 K1
  have q0 : w1.cell? ⟨w.heap.size, 0, none⟩ = some (.int .u8 2) := by
    have q := blk_cell hA (show (csC c)[0]? = some (.int .u8 c.kind) from rfl)
    rw [hk] at q
    exact q
  go_wp2_with fail
  refine (r_Client 2 _).mono ?_
  rintro r w2 ⟨rfl, rfl⟩; dsimp only
  rw [show clientB 2 = true by decide]
  have lA := hA.lt
  have a1 : w1.cell? ⟨w.heap.size, 1, none⟩ = some (.int .u64 c.client) := blk_cell hA rfl
  have a2 : w1.cell? ⟨w.heap.size, 2, none⟩ = some (.int .u64 c.seq) := blk_cell hA rfl
  have y1 : (ek ++ ec).size ≤ 20 := by rw [ByteArray.size_append]; omega
  have y2 : (ek ++ ec ++ es).size ≤ 30 := by rw [ByteArray.size_append]; omega
  go_wp2_with fail
  refine wp_region_ext (by kernel_rfl) (by kernel_rfl) ?_
  repeat (go_big_quiet_step ((go_at_call 48; first | with_reducible exact ext_of (C1.out _) | with_reducible exact ext_of (C2.out _))))
  refine wpQuiet_nil ?_
  intro w3 hx
  have hk3 := (after_region hx).2.2.2.2
  replace hb := hb.trans (hk3.mono hb.size)
  replace hA := hA.past hk3
  clear hx hk3 a1 a2 q0 lA zc zs y1 C1 C2
  generalize hHH : ek ++ ec ++ es = hd at *
  replace hHH := Lib.hid hHH
  have q0 : w3.cell? ⟨w.heap.size, 0, none⟩ = some (.int .u8 2) := by
    have q := blk_cell hA (show (csC c)[0]? = some (.int .u8 c.kind) from rfl)
    rw [hk] at q
    exact q
  have lA := hA.lt
  have a8 : w3.cell? ⟨w.heap.size, 8, none⟩ = some (.int .i64 c.machine) := blk_cell hA rfl
  have a5 : w3.cell? ⟨w.heap.size, 5, none⟩ = some (.int .i64 c.vec.cpu) := blk_cell hA rfl
  have a6 : w3.cell? ⟨w.heap.size, 6, none⟩ = some (.int .i64 c.vec.mem) := blk_cell hA rfl
  have a7 : w3.cell? ⟨w.heap.size, 7, none⟩ = some (.int .i64 c.vec.disk) := blk_cell hA rfl
  have x0 : (hd ++ e0).size ≤ 40 := by rw [ByteArray.size_append]; omega
  have x1 : (hd ++ e0 ++ e1).size ≤ 70 := by rw [ByteArray.size_append]; omega
  go_wp2_with fail
  refine wp_region_ext (by kernel_rfl) (by kernel_rfl) ?_
  repeat (go_big_quiet_step ((first | (go_at_call 51; first | with_reducible exact ext_of (P0.out _)) | (go_at_call 50; first | with_reducible exact ext_of (P1.out _)))))
  refine wpQuiet_nil ?_
  intro w4 hx
  have hk4 := (after_region hx).2.2.2.2
  replace hb := hb.trans (hk4.mono hb.size)
  clear hx
  go_wp2_with fail
  go_ret
  exact ⟨by rw [hHH.out]; rfl, hb⟩
set_option maxRecDepth 100000 in
set_option maxHeartbeats 8000000 in
theorem bytes_3 (c : Command) (hc : c.ok) (hl : shortC c) (hk : c.kind = 3) (w : World) : Calls Try.prog 18 #[.agg (csC c)] w fun e w' => e = .returned (.string (encC c)) ∧ Below w.heap.size w w' := by
  have hr : encC c = encU 3 ++ encU c.client ++ encU c.seq ++ jobB c.job.name c.job.user c.job.band c.job.count c.job.limit.cpu c.job.limit.mem c.job.limit.disk c.job.alloc c.job.budget.k c.job.budget.window := by
    unfold encC headB
    rw [hk]
    kernel_rfl
  rw [hr]
  clear hr
  have hcc := hc
  obtain ⟨o0, o1, o2, o3, o4, o5, o6, o7, o8, o9, o10, o11, o12, o13, o14, o15⟩ := hcc
  have K1 := Lib.hid (fun W => r_u 3 (by unfold U64; omega) W)
  have zk := encU_size 3 (by omega)
  have C1 := Lib.hid (fun W => r_u c.client o1 W)
  have C2 := Lib.hid (fun W => r_u c.seq o2 W)
  have zc := encU_size c.client (by have := o1.2; omega)
  have zs := encU_size c.seq (by have := o2.2; omega)
  have P0 := Lib.hid (fun W => r_job c.job.name c.job.user c.job.band c.job.count c.job.limit.cpu c.job.limit.mem c.job.limit.disk c.job.alloc c.job.budget.k c.job.budget.window hl.2.2.2.1 hl.2.2.2.2.1 hl.2.2.2.2.2.1 (u8w o7.2.2.1) o7.2.2.2.1 o7.2.2.2.2.1.1 o7.2.2.2.2.1.2.1 o7.2.2.2.2.1.2.2 o7.2.2.2.2.2.2.1 o7.2.2.2.2.2.2.2 W)
  have z0 := encG_size10 c hc hl
  have hA := Blk.new w 34 (csC c)
  have hb : Below w.heap.size w (w.alloc (.cells (csC c) 34)) := by go_grown
  have q0 : (w.alloc (.cells (csC c) 34)).cell? ⟨w.heap.size, 0, none⟩ = some (.int .u8 3) := by
    have q := blk_cell hA (show (csC c)[0]? = some (.int .u8 c.kind) from rfl)
    rw [hk] at q
    exact q
  clear o0 o1 o2 o3 o4 o5 o6 o7 o8 o9 o10 o11 o12 o13 o14 o15 hl hc
  generalize encU 3 = ek at *
  generalize encU c.client = ec at *
  generalize encU c.seq = es at *
  generalize jobB c.job.name c.job.user c.job.band c.job.count c.job.limit.cpu c.job.limit.mem c.job.limit.disk c.job.alloc c.job.budget.k c.job.budget.window = e0 at *
  go_enter Try.func18, Try.ntmps18
  go_wp2_with fail
  refine (K1.out _).mono ?_
  rintro r w1 ⟨rfl, hb1⟩; dsimp only
  replace hb := hb.trans (hb1.mono hb.size)
  replace hA := hA.past hb1
  clear hb1 q0 K1
  have q0 : w1.cell? ⟨w.heap.size, 0, none⟩ = some (.int .u8 3) := by
    have q := blk_cell hA (show (csC c)[0]? = some (.int .u8 c.kind) from rfl)
    rw [hk] at q
    exact q
  go_wp2_with fail
  refine (r_Client 3 _).mono ?_
  rintro r w2 ⟨rfl, rfl⟩; dsimp only
  rw [show clientB 3 = true by decide]
  have lA := hA.lt
  have a1 : w1.cell? ⟨w.heap.size, 1, none⟩ = some (.int .u64 c.client) := blk_cell hA rfl
  have a2 : w1.cell? ⟨w.heap.size, 2, none⟩ = some (.int .u64 c.seq) := blk_cell hA rfl
  have y1 : (ek ++ ec).size ≤ 20 := by rw [ByteArray.size_append]; omega
  have y2 : (ek ++ ec ++ es).size ≤ 30 := by rw [ByteArray.size_append]; omega
  go_wp2_with fail
  refine wp_region_ext (by kernel_rfl) (by kernel_rfl) ?_
  repeat (go_big_quiet_step ((go_at_call 48; first | with_reducible exact ext_of (C1.out _) | with_reducible exact ext_of (C2.out _))))
  refine wpQuiet_nil ?_
  intro w3 hx
  have hk3 := (after_region hx).2.2.2.2
  replace hb := hb.trans (hk3.mono hb.size)
  replace hA := hA.past hk3
  clear hx hk3 a1 a2 q0 lA zc zs y1 C1 C2
  generalize hHH : ek ++ ec ++ es = hd at *
  replace hHH := Lib.hid hHH
  have q0 : w3.cell? ⟨w.heap.size, 0, none⟩ = some (.int .u8 3) := by
    have q := blk_cell hA (show (csC c)[0]? = some (.int .u8 c.kind) from rfl)
    rw [hk] at q
    exact q
  have lA := hA.lt
  have a9 : w3.cell? ⟨w.heap.size, 9, none⟩ = some (.string c.job.name) := blk_cell hA rfl
  have a10 : w3.cell? ⟨w.heap.size, 10, none⟩ = some (.string c.job.user) := blk_cell hA rfl
  have a11 : w3.cell? ⟨w.heap.size, 11, none⟩ = some (.int .u8 c.job.band) := blk_cell hA rfl
  have a12 : w3.cell? ⟨w.heap.size, 12, none⟩ = some (.int .i64 c.job.count) := blk_cell hA rfl
  have a13 : w3.cell? ⟨w.heap.size, 13, none⟩ = some (.int .i64 c.job.limit.cpu) := blk_cell hA rfl
  have a14 : w3.cell? ⟨w.heap.size, 14, none⟩ = some (.int .i64 c.job.limit.mem) := blk_cell hA rfl
  have a15 : w3.cell? ⟨w.heap.size, 15, none⟩ = some (.int .i64 c.job.limit.disk) := blk_cell hA rfl
  have a16 : w3.cell? ⟨w.heap.size, 16, none⟩ = some (.string c.job.alloc) := blk_cell hA rfl
  have a17 : w3.cell? ⟨w.heap.size, 17, none⟩ = some (.int .i64 c.job.budget.k) := blk_cell hA rfl
  have a18 : w3.cell? ⟨w.heap.size, 18, none⟩ = some (.int .i64 c.job.budget.window) := blk_cell hA rfl
  have x0 : (hd ++ e0).size ≤ 5030 := by rw [ByteArray.size_append]; omega
  go_wp2_with fail
  refine (P0.out _).mono ?_
  rintro r w4 ⟨rfl, hk4⟩; dsimp only
  replace hb := hb.trans (hk4.mono hb.size)
  go_wp2_with fail
  go_ret
  exact ⟨by rw [hHH.out]; rfl, hb⟩
end Go.Proofs.Ytjnhhippmigbiaa
