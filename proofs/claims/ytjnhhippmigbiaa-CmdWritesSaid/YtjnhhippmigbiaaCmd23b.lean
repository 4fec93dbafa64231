/- Commands: the reference's bytes, walked, of some kinds. Conditions: the texts are short. -/
import Derived.Test.YtjnhhippmigbiaaCmd23
namespace Go.Proofs.Ytjnhhippmigbiaa
open Go.RowKit

set_option maxRecDepth 100000 in
set_option maxHeartbeats 8000000 in
theorem bytes_4 (c : Command) (hc : c.ok) (hl : shortC c) (hk : c.kind = 4) (w : World) : Calls Try.prog 18 #[.agg (csC c)] w fun e w' => e = .returned (.string (encC c)) ∧ Below w.heap.size w w' := by
  have hr : encC c = encU 4 ++ encU c.client ++ encU c.seq ++ encT c.name := by
    unfold encC headB
    rw [hk]
    kernel_rfl
  rw [hr]
  clear hr
  have hcc := hc
  obtain ⟨o0, o1, o2, o3, o4, o5, o6, o7, o8, o9, o10, o11, o12, o13, o14, o15⟩ := hcc
  have K1 := Lib.hid (fun W => r_u 4 (by unfold U64; omega) W)
  have zk := encU_size 4 (by omega)
  have C1 := Lib.hid (fun W => r_u c.client o1 W)
  have C2 := Lib.hid (fun W => r_u c.seq o2 W)
  have zc := encU_size c.client (by have := o1.2; omega)
  have zs := encU_size c.seq (by have := o2.2; omega)
  have P0 := Lib.hid (fun W => rr_T c.name hl.2.1 W)
  have z0 := encT_size c.name hl.2.1
  have hA := Blk.new w 34 (csC c)
  have hb : Below w.heap.size w (w.alloc (.cells (csC c) 34)) := by go_grown
  have q0 : (w.alloc (.cells (csC c) 34)).cell? ⟨w.heap.size, 0, none⟩ = some (.int .u8 4) := by
    have q := blk_cell hA (show (csC c)[0]? = some (.int .u8 c.kind) from rfl)
    rw [hk] at q
    exact q
  clear o0 o1 o2 o3 o4 o5 o6 o7 o8 o9 o10 o11 o12 o13 o14 o15 hl hc
  generalize encU 4 = ek at *
  generalize encU c.client = ec at *
  generalize encU c.seq = es at *
  generalize encT c.name = e0 at *
  go_enter Try.func18, Try.ntmps18
  go_wp2_with fail
  refine (K1.out _).mono ?_
  rintro r w1 ⟨rfl, hb1⟩; dsimp only
  replace hb := hb.trans (hb1.mono hb.size)
  replace hA := hA.past hb1
  clear hb1 q0 K1
  have q0 : w1.cell? ⟨w.heap.size, 0, none⟩ = some (.int .u8 4) := by
    have q := blk_cell hA (show (csC c)[0]? = some (.int .u8 c.kind) from rfl)
    rw [hk] at q
    exact q
  go_wp2_with fail
  refine (r_Client 4 _).mono ?_
  rintro r w2 ⟨rfl, rfl⟩; dsimp only
  rw [show clientB 4 = true by decide]
  have lA := hA.lt
  have a1 : w1.cell? ⟨w.heap.size, 1, none⟩ = some (.int .u64 c.client) := blk_cell hA rfl
  have a2 : w1.cell? ⟨w.heap.size, 2, none⟩ = some (.int .u64 c.seq) := blk_cell hA rfl
  have y1 : (ek ++ ec).size ≤ 20 := by rw [ByteArray.size_append]; omega
  have y2 : (ek ++ ec ++ es).size ≤ 30 := by rw [ByteArray.size_append]; omega
  go_wp2_with fail
  refine wp_region_ext (by kernel_rfl) (by kernel_rfl) ?_
  repeat (go_big_quiet_step ((go_at_call 48; first | with_reducible exact ext_of (C1.out _) | with_reducible exact ext_of (C2.out _))))
  refine wpQuiet_nil ?_
  intro w3 hx
  have hk3 := (after_region hx).2.2.2.2
  replace hb := hb.trans (hk3.mono hb.size)
  replace hA := hA.past hk3
  clear hx hk3 a1 a2 q0 lA zc zs y1 C1 C2
  generalize hHH : ek ++ ec ++ es = hd at *
  replace hHH := Lib.hid hHH
  have q0 : w3.cell? ⟨w.heap.size, 0, none⟩ = some (.int .u8 4) := by
    have q := blk_cell hA (show (csC c)[0]? = some (.int .u8 c.kind) from rfl)
    rw [hk] at q
    exact q
  have lA := hA.lt
  have a25 : w3.cell? ⟨w.heap.size, 25, none⟩ = some (.string c.name) := blk_cell hA rfl
  have x0 : (hd ++ e0).size ≤ 1064 := by rw [ByteArray.size_append]; omega
  go_wp2_with fail
  refine (P0.out _).mono ?_
  rintro r w4 ⟨rfl, hk4⟩; dsimp only
  replace hb := hb.trans (hk4.mono hb.size)
  go_wp2_with fail
  go_ret
  exact ⟨by rw [hHH.out]; rfl, hb⟩
set_option maxRecDepth 100000 in
set_option maxHeartbeats 8000000 in
theorem bytes_5 (c : Command) (hc : c.ok) (hl : shortC c) (hk : c.kind = 5) (w : World) : Calls Try.prog 18 #[.agg (csC c)] w fun e w' => e = .returned (.string (encC c)) ∧ Below w.heap.size w w' := by
  have hr : encC c = encU 5 ++ encU c.client ++ encU c.seq ++ allocB c.alloc.name c.alloc.user c.alloc.count c.alloc.limit.cpu c.alloc.limit.mem c.alloc.limit.disk := by
    unfold encC headB
    rw [hk]
    kernel_rfl
  rw [hr]
  clear hr
  have hcc := hc
  obtain ⟨o0, o1, o2, o3, o4, o5, o6, o7, o8, o9, o10, o11, o12, o13, o14, o15⟩ := hcc
  have K1 := Lib.hid (fun W => r_u 5 (by unfold U64; omega) W)
  have zk := encU_size 5 (by omega)
  have C1 := Lib.hid (fun W => r_u c.client o1 W)
  have C2 := Lib.hid (fun W => r_u c.seq o2 W)
  have zc := encU_size c.client (by have := o1.2; omega)
  have zs := encU_size c.seq (by have := o2.2; omega)
  have P0 := Lib.hid (fun W => r_alloc c.alloc.name c.alloc.user c.alloc.count c.alloc.limit.cpu c.alloc.limit.mem c.alloc.limit.disk hl.2.2.2.2.2.2.1 hl.2.2.2.2.2.2.2 o8.2.2.1 o8.2.2.2.1 o8.2.2.2.2.1 o8.2.2.2.2.2 W)
  have z0 := encG_size11 c hc hl
  have hA := Blk.new w 34 (csC c)
  have hb : Below w.heap.size w (w.alloc (.cells (csC c) 34)) := by go_grown
  have q0 : (w.alloc (.cells (csC c) 34)).cell? ⟨w.heap.size, 0, none⟩ = some (.int .u8 5) := by
    have q := blk_cell hA (show (csC c)[0]? = some (.int .u8 c.kind) from rfl)
    rw [hk] at q
    exact q
  clear o0 o1 o2 o3 o4 o5 o6 o7 o8 o9 o10 o11 o12 o13 o14 o15 hl hc
  generalize encU 5 = ek at *
  generalize encU c.client = ec at *
  generalize encU c.seq = es at *
  generalize allocB c.alloc.name c.alloc.user c.alloc.count c.alloc.limit.cpu c.alloc.limit.mem c.alloc.limit.disk = e0 at *
  go_enter Try.func18, Try.ntmps18
  go_wp2_with fail
  refine (K1.out _).mono ?_
  rintro r w1 ⟨rfl, hb1⟩; dsimp only
  replace hb := hb.trans (hb1.mono hb.size)
  replace hA := hA.past hb1
  clear hb1 q0 K1
  have q0 : w1.cell? ⟨w.heap.size, 0, none⟩ = some (.int .u8 5) := by
    have q := blk_cell hA (show (csC c)[0]? = some (.int .u8 c.kind) from rfl)
    rw [hk] at q
    exact q
  go_wp2_with fail
  refine (r_Client 5 _).mono ?_
  rintro r w2 ⟨rfl, rfl⟩; dsimp only
  rw [show clientB 5 = true by decide]
  have lA := hA.lt
  have a1 : w1.cell? ⟨w.heap.size, 1, none⟩ = some (.int .u64 c.client) := blk_cell hA rfl
  have a2 : w1.cell? ⟨w.heap.size, 2, none⟩ = some (.int .u64 c.seq) := blk_cell hA rfl
  have y1 : (ek ++ ec).size ≤ 20 := by rw [ByteArray.size_append]; omega
  have y2 : (ek ++ ec ++ es).size ≤ 30 := by rw [ByteArray.size_append]; omega
  go_wp2_with fail
  refine wp_region_ext (by kernel_rfl) (by kernel_rfl) ?_
  repeat (go_big_quiet_step ((go_at_call 48; first | with_reducible exact ext_of (C1.out _) | with_reducible exact ext_of (C2.out _))))
  refine wpQuiet_nil ?_
  intro w3 hx
  have hk3 := (after_region hx).2.2.2.2
  replace hb := hb.trans (hk3.mono hb.size)
  replace hA := hA.past hk3
  clear hx hk3 a1 a2 q0 lA zc zs y1 C1 C2
  generalize hHH : ek ++ ec ++ es = hd at *
  replace hHH := Lib.hid hHH
  have q0 : w3.cell? ⟨w.heap.size, 0, none⟩ = some (.int .u8 5) := by
    have q := blk_cell hA (show (csC c)[0]? = some (.int .u8 c.kind) from rfl)
    rw [hk] at q
    exact q
  have lA := hA.lt
  have a19 : w3.cell? ⟨w.heap.size, 19, none⟩ = some (.string c.alloc.name) := blk_cell hA rfl
  have a20 : w3.cell? ⟨w.heap.size, 20, none⟩ = some (.string c.alloc.user) := blk_cell hA rfl
  have a21 : w3.cell? ⟨w.heap.size, 21, none⟩ = some (.int .i64 c.alloc.count) := blk_cell hA rfl
  have a22 : w3.cell? ⟨w.heap.size, 22, none⟩ = some (.int .i64 c.alloc.limit.cpu) := blk_cell hA rfl
  have a23 : w3.cell? ⟨w.heap.size, 23, none⟩ = some (.int .i64 c.alloc.limit.mem) := blk_cell hA rfl
  have a24 : w3.cell? ⟨w.heap.size, 24, none⟩ = some (.int .i64 c.alloc.limit.disk) := blk_cell hA rfl
  have x0 : (hd ++ e0).size ≤ 5030 := by rw [ByteArray.size_append]; omega
  go_wp2_with fail
  refine (P0.out _).mono ?_
  rintro r w4 ⟨rfl, hk4⟩; dsimp only
  replace hb := hb.trans (hk4.mono hb.size)
  go_wp2_with fail
  go_ret
  exact ⟨by rw [hHH.out]; rfl, hb⟩
set_option maxRecDepth 100000 in
set_option maxHeartbeats 8000000 in
theorem bytes_6 (c : Command) (hc : c.ok) (hl : shortC c) (hk : c.kind = 6) (w : World) : Calls Try.prog 18 #[.agg (csC c)] w fun e w' => e = .returned (.string (encC c)) ∧ Below w.heap.size w w' := by
  have hr : encC c = encU 6 ++ encU c.client ++ encU c.seq ++ encT c.name := by
    unfold encC headB
    rw [hk]
    kernel_rfl
  rw [hr]
  clear hr
  have hcc := hc
  obtain ⟨o0, o1, o2, o3, o4, o5, o6, o7, o8, o9, o10, o11, o12, o13, o14, o15⟩ := hcc
  have K1 := Lib.hid (fun W => r_u 6 (by unfold U64; omega) W)
  have zk := encU_size 6 (by omega)
  have C1 := Lib.hid (fun W => r_u c.client o1 W)
  have C2 := Lib.hid (fun W => r_u c.seq o2 W)
  have zc := encU_size c.client (by have := o1.2; omega)
  have zs := encU_size c.seq (by have := o2.2; omega)
  have P0 := Lib.hid (fun W => rr_T c.name hl.2.1 W)
  have z0 := encT_size c.name hl.2.1
  have hA := Blk.new w 34 (csC c)
  have hb : Below w.heap.size w (w.alloc (.cells (csC c) 34)) := by go_grown
  have q0 : (w.alloc (.cells (csC c) 34)).cell? ⟨w.heap.size, 0, none⟩ = some (.int .u8 6) := by
    have q := blk_cell hA (show (csC c)[0]? = some (.int .u8 c.kind) from rfl)
    rw [hk] at q
    exact q
  clear o0 o1 o2 o3 o4 o5 o6 o7 o8 o9 o10 o11 o12 o13 o14 o15 hl hc
  generalize encU 6 = ek at *
  generalize encU c.client = ec at *
  generalize encU c.seq = es at *
  generalize encT c.name = e0 at *
  go_enter Try.func18, Try.ntmps18
  go_wp2_with fail
  refine (K1.out _).mono ?_
  rintro r w1 ⟨rfl, hb1⟩; dsimp only
  replace hb := hb.trans (hb1.mono hb.size)
  replace hA := hA.past hb1
  clear hb1 q0 K1
  have q0 : w1.cell? ⟨w.heap.size, 0, none⟩ = some (.int .u8 6) := by
    have q := blk_cell hA (show (csC c)[0]? = some (.int .u8 c.kind) from rfl)
    rw [hk] at q
    exact q
  go_wp2_with fail
  refine (r_Client 6 _).mono ?_
  rintro r w2 ⟨rfl, rfl⟩; dsimp only
  rw [show clientB 6 = true by decide]
  have lA := hA.lt
  have a1 : w1.cell? ⟨w.heap.size, 1, none⟩ = some (.int .u64 c.client) := blk_cell hA rfl
  have a2 : w1.cell? ⟨w.heap.size, 2, none⟩ = some (.int .u64 c.seq) := blk_cell hA rfl
  have y1 : (ek ++ ec).size ≤ 20 := by rw [ByteArray.size_append]; omega
  have y2 : (ek ++ ec ++ es).size ≤ 30 := by rw [ByteArray.size_append]; omega
  go_wp2_with fail
  refine wp_region_ext (by kernel_rfl) (by kernel_rfl) ?_
  repeat (go_big_quiet_step ((go_at_call 48; first | with_reducible exact ext_of (C1.out _) | with_reducible exact ext_of (C2.out _))))
  refine wpQuiet_nil ?_
  intro w3 hx
  have hk3 := (after_region hx).2.2.2.2
  replace hb := hb.trans (hk3.mono hb.size)
  replace hA := hA.past hk3
  clear hx hk3 a1 a2 q0 lA zc zs y1 C1 C2
  generalize hHH : ek ++ ec ++ es = hd at *
  replace hHH := Lib.hid hHH
  have q0 : w3.cell? ⟨w.heap.size, 0, none⟩ = some (.int .u8 6) := by
    have q := blk_cell hA (show (csC c)[0]? = some (.int .u8 c.kind) from rfl)
    rw [hk] at q
    exact q
  have lA := hA.lt
  have a25 : w3.cell? ⟨w.heap.size, 25, none⟩ = some (.string c.name) := blk_cell hA rfl
  have x0 : (hd ++ e0).size ≤ 1064 := by rw [ByteArray.size_append]; omega
  go_wp2_with fail
  refine (P0.out _).mono ?_
  rintro r w4 ⟨rfl, hk4⟩; dsimp only
  replace hb := hb.trans (hk4.mono hb.size)
  go_wp2_with fail
  go_ret
  exact ⟨by rw [hHH.out]; rfl, hb⟩
set_option maxRecDepth 100000 in
set_option maxHeartbeats 8000000 in
theorem bytes_7 (c : Command) (hc : c.ok) (hl : shortC c) (hk : c.kind = 7) (w : World) : Calls Try.prog 18 #[.agg (csC c)] w fun e w' => e = .returned (.string (encC c)) ∧ Below w.heap.size w w' := by
  have hr : encC c = encU 7 ++ (encT c.task.job ++ encI c.task.n) ++ encI c.machine ++ encI c.in_ := by
    unfold encC headB
    rw [hk]
    kernel_rfl
  rw [hr]
  clear hr
  have hcc := hc
  obtain ⟨o0, o1, o2, o3, o4, o5, o6, o7, o8, o9, o10, o11, o12, o13, o14, o15⟩ := hcc
  have K1 := Lib.hid (fun W => r_u 7 (by unfold U64; omega) W)
  have zk := encU_size 7 (by omega)
  have P0 := Lib.hid (fun W => r_task c.task.job c.task.n hl.2.2.1 o11.2 W)
  have z0 := task_size c.task.job c.task.n hl.2.2.1 o11.2
  have P1 := Lib.hid (fun W => r_i c.machine o6 W)
  have z1 := encI_size c.machine o6
  have P2 := Lib.hid (fun W => r_i c.in_ o12 W)
  have z2 := encI_size c.in_ o12
  have hA := Blk.new w 34 (csC c)
  have hb : Below w.heap.size w (w.alloc (.cells (csC c) 34)) := by go_grown
  have q0 : (w.alloc (.cells (csC c) 34)).cell? ⟨w.heap.size, 0, none⟩ = some (.int .u8 7) := by
    have q := blk_cell hA (show (csC c)[0]? = some (.int .u8 c.kind) from rfl)
    rw [hk] at q
    exact q
  clear o0 o1 o2 o3 o4 o5 o6 o7 o8 o9 o10 o11 o12 o13 o14 o15 hl hc
  generalize encU 7 = ek at *
  generalize (encT c.task.job ++ encI c.task.n) = e0 at *
  generalize encI c.machine = e1 at *
  generalize encI c.in_ = e2 at *
  go_enter Try.func18, Try.ntmps18
  go_wp2_with fail
  refine (K1.out _).mono ?_
  rintro r w1 ⟨rfl, hb1⟩; dsimp only
  replace hb := hb.trans (hb1.mono hb.size)
  replace hA := hA.past hb1
  clear hb1 q0 K1
  have q0 : w1.cell? ⟨w.heap.size, 0, none⟩ = some (.int .u8 7) := by
    have q := blk_cell hA (show (csC c)[0]? = some (.int .u8 c.kind) from rfl)
    rw [hk] at q
    exact q
  go_wp2_with fail
  refine (r_Client 7 _).mono ?_
  rintro r w2 ⟨rfl, rfl⟩; dsimp only
  rw [show clientB 7 = false by decide]
  have lA := hA.lt
  have a27 : w1.cell? ⟨w.heap.size, 27, none⟩ = some (.string c.task.job) := blk_cell hA rfl
  have a28 : w1.cell? ⟨w.heap.size, 28, none⟩ = some (.int .i64 c.task.n) := blk_cell hA rfl
  have a8 : w1.cell? ⟨w.heap.size, 8, none⟩ = some (.int .i64 c.machine) := blk_cell hA rfl
  have a29 : w1.cell? ⟨w.heap.size, 29, none⟩ = some (.int .i64 c.in_) := blk_cell hA rfl
  have x0 : (ek ++ e0).size ≤ 1054 := by rw [ByteArray.size_append]; omega
  have x1 : (ek ++ e0 ++ e1).size ≤ 1064 := by rw [ByteArray.size_append]; omega
  have x2 : (ek ++ e0 ++ e1 ++ e2).size ≤ 1074 := by rw [ByteArray.size_append]; omega
  go_wp2_with fail
  refine wp_region_ext (by kernel_rfl) (by kernel_rfl) ?_
  repeat (go_big_quiet_step ((first | (go_at_call 54; first | with_reducible exact ext_of (P0.out _)) | (go_at_call 51; first | with_reducible exact ext_of (P1.out _) | with_reducible exact ext_of (P2.out _)))))
  refine wpQuiet_nil ?_
  intro w4 hx
  have hk4 := (after_region hx).2.2.2.2
  replace hb := hb.trans (hk4.mono hb.size)
  clear hx
  go_wp2_with fail
  go_ret
  exact ⟨rfl, hb⟩
end Go.Proofs.Ytjnhhippmigbiaa
