/- Commands: Encode, walked. Conditions: the texts are short. -/
import Derived.Test.YteglieoeblehpaaCmd16
namespace Go.Proofs.Yteglieoeblehpaa
open Go.RowKit

def shortC (c : Command) : Prop := c.user.size ≤ 1024 ∧ c.name.size ≤ 1024 ∧ c.task.job.size ≤ 1024 ∧ c.job.name.size ≤ 1024 ∧ c.job.user.size ≤ 1024 ∧ c.job.alloc.size ≤ 1024 ∧ c.alloc.name.size ≤ 1024 ∧ c.alloc.user.size ≤ 1024
theorem u8w {x : Int} (h : U8 x) : 0 ≤ x ∧ x < 256 := by unfold U8 at h; omega
theorem allW_c (P C : Nat) (c : Command) (hc : c.ok) (hl : shortC c) : AllW P C (csC c) (encG c) (badG c) := by
  obtain ⟨o0, o1, o2, o3, o4, ⟨o51, o52, o53⟩, o6, ⟨_, _, o71, o72, ⟨o73, o74, o75⟩, _, o76, o77⟩, ⟨_, _, o81, o82, o83, o84⟩, o9, o10, ⟨_, o11⟩, o12, o13, o14, o15⟩ := hc
  obtain ⟨l1, l2, l3, l4, l5, l6, l7, l8⟩ := hl
  exact {
    w0 := fun K1 K2 => cl_user P C K1 K2 _ c.user l1 rfl
    w1 := fun K1 K2 => cl_band P C K1 K2 _ c.band (u8w o4) rfl
    w2 := fun K1 K2 => cl_name P C K1 K2 _ c.name l2 rfl
    w3 := fun K1 K2 => cl_task P C K1 K2 _ c.task.job c.task.n l3 o11 rfl rfl
    w4 := fun K1 K2 => cl_n P C K1 K2 _ c.n o10 rfl
    w5 := fun K1 K2 => cl_machine P C K1 K2 _ c.machine o6 rfl
    w6 := fun K1 K2 => cl_in P C K1 K2 _ c.in_ o12 rfl
    w7 := fun K1 K2 => cl_gen P C K1 K2 _ c.gen o13 rfl
    w8 := fun K1 K2 => cl_why P C K1 K2 _ c.why (u8w o14) rfl
    w9 := fun K1 K2 => cl_vec P C K1 K2 _ c.vec.cpu c.vec.mem c.vec.disk o51 o52 o53 rfl rfl rfl
    w10 := fun K1 K2 => cl_job P C K1 K2 _ c.job.name c.job.user c.job.band c.job.count c.job.limit.cpu c.job.limit.mem c.job.limit.disk c.job.alloc c.job.budget.k c.job.budget.window l4 l5 l6 (u8w o71) o72 o73 o74 o75 o76 o77 rfl rfl rfl rfl rfl rfl rfl rfl rfl rfl
    w11 := fun K1 K2 => cl_alloc P C K1 K2 _ c.alloc.name c.alloc.user c.alloc.count c.alloc.limit.cpu c.alloc.limit.mem c.alloc.limit.disk l7 l8 o81 o82 o83 o84 rfl rfl rfl rfl rfl rfl
    w12 := fun K1 K2 => cl_tick P C K1 K2 _ c.tick o15 rfl }
theorem encG_size (c : Command) (hc : c.ok) (hl : shortC c) (i : Nat) : (encG c i).size ≤ 5000 := by
  obtain ⟨o0, o1, o2, o3, o4, ⟨o51, o52, o53⟩, o6, ⟨_, _, o71, o72, ⟨o73, o74, o75⟩, _, o76, o77⟩, ⟨_, _, o81, o82, o83, o84⟩, o9, o10, ⟨_, o11⟩, o12, o13, o14, o15⟩ := hc
  obtain ⟨l1, l2, l3, l4, l5, l6, l7, l8⟩ := hl
  match i with
  | 0 => exact Nat.le_trans (encT_size _ l1) (by omega)
  | 1 => exact Nat.le_trans (encU_size _ (by have := (u8w o4).2; omega)) (by omega)
  | 2 => exact Nat.le_trans (encT_size _ l2) (by omega)
  | 3 =>
    have a := encT_size _ l3
    have b := encI_size _ o11
    show (encT c.task.job ++ encI c.task.n).size ≤ 5000
    rw [ByteArray.size_append]; omega
  | 4 => exact Nat.le_trans (encI_size _ o10) (by omega)
  | 5 => exact Nat.le_trans (encI_size _ o6) (by omega)
  | 6 => exact Nat.le_trans (encI_size _ o12) (by omega)
  | 7 => exact Nat.le_trans (encI_size _ o13) (by omega)
  | 8 => exact Nat.le_trans (encU_size _ (by have := (u8w o14).2; omega)) (by omega)
  | 9 => exact Nat.le_trans (encV_size _ _ _ o51 o52 o53) (by omega)
  | 10 =>
    have a1 := encT_size _ l4
    have a2 := encT_size _ l5
    have a3 := encU_size c.job.band (by have := (u8w o71).2; omega)
    have a4 := encI_size _ o72
    have a5 := encV_size _ _ _ o73 o74 o75
    have a6 := encT_size _ l6
    have a7 := encI_size _ o76
    have a8 := encI_size _ o77
    show (jobB _ _ _ _ _ _ _ _ _ _).size ≤ 5000
    unfold jobB
    simp only [ByteArray.size_append]
    omega
  | 11 =>
    have a1 := encT_size _ l7
    have a2 := encT_size _ l8
    have a4 := encI_size _ o81
    have a5 := encV_size _ _ _ o82 o83 o84
    show (allocB _ _ _ _ _ _).size ≤ 5000
    unfold allocB
    simp only [ByteArray.size_append]
    omega
  | k + 12 => exact Nat.le_trans (encI_size _ o15) (by omega)
theorem encC_size (c : Command) (hc : c.ok) (hl : shortC c) : (encC c).size ≤ 70000 := by
  have h := outK_size (fieldsOf c.kind) (encG c) (encG_size c hc hl) (headB c.kind c.client c.seq) 13
  obtain ⟨o0, o1, o2, _⟩ := hc
  have a1 := encU_size c.kind (by unfold U8 at o0; omega)
  have a2 := encU_size c.client (by unfold U64 at o1; omega)
  have a3 := encU_size c.seq (by unfold U64 at o2; omega)
  have : (headB c.kind c.client c.seq).size ≤ 30 := by
    unfold headB
    split
    · simp only [ByteArray.size_append]; omega
    · omega
  unfold encC
  omega
set_option maxRecDepth 100000 in
set_option maxHeartbeats 4000000 in
theorem cmd_Encode (c : Command) (hc : c.ok) (hl : shortC c) (w : World) :
    Calls Try.prog 34 #[c.v] w fun e w' => e = .returned (.tuple #[.string (if encOk c = true then encC c else ByteArray.empty), .int .i64 (if encOk c = true then 0 else 2)]) ∧ Below w.heap.size w w' := by
  have hA := fun P C => Lib.hid (allW_c P C c hc hl)
  have hE := Lib.hid (encG_size c hc hl)
  have hsz := encC_size c hc hl
  have hk : 0 ≤ c.kind ∧ c.kind < 256 := u8w hc.1
  have hcl : U64 c.client := hc.2.1
  have hsq : U64 c.seq := hc.2.2.1
  obtain ⟨R1, hR1⟩ : ∃ R, R = if encOk c = true then encC c else ByteArray.empty := ⟨_, rfl⟩
  obtain ⟨R2, hR2⟩ : ∃ R : Int, R = if encOk c = true then 0 else 2 := ⟨_, rfl⟩
  rw [← hR1, ← hR2]
  replace hR1 := Lib.hid hR1
  replace hR2 := Lib.hid hR2
  have hC0 : Blk (w.alloc (.cells (csC c) 64)) w.heap.size 64 (csC c) := Blk.new w _ _
  have hP0 := Blk.new1 w (.cells (csC c) 64) 99 #[.string ByteArray.empty, .pointer none, .bool false]
  have hC1 := hC0.alloc (.cells #[.string ByteArray.empty, .pointer none, .bool false] 99)
  have hb1 : Below w.heap.size w ((w.alloc (.cells (csC c) 64)).alloc (.cells #[.string ByteArray.empty, .pointer none, .bool false] 99)) := by go_grown
  go_enter Try.func34, Try.ntmps34
  go_wp2_with fail
  refine (cw_command (w.heap.size + 1) w.heap.size (csC c) (encG c) (badG c) hE.out c.kind c.client c.seq hk hcl hsq rfl rfl rfl (hA _ _).out _ hP0 hC1 (by omega)).mono ?_
  rintro r w2 ⟨⟨v, rfl⟩, hP2, hK2⟩; dsimp only
  have hP3 : Cw w2 (w.heap.size + 1) (encC c) (badC c) := hP2
  have hC3 := hK2.blk hC1 (by omega)
  have hb2 : Below w.heap.size w w2 := hb1.trans (hK2.1 _ (by omega) hb1.size)
  clear hP2 hK2 hb1 hC1 hP0 hC0 hA hE hcl hsq
  obtain ⟨o, ho⟩ : ∃ o, o = encC c := ⟨_, rfl⟩
  rw [← ho] at hP3 hsz
  replace ho := Lib.hid ho
  have hrd := Lib.hid (cmd_read o (by omega))
  obtain ⟨d, hd⟩ : ∃ d, d = (rdAll (o, 0)).2 := ⟨_, rfl⟩
  obtain ⟨is, his⟩ : ∃ is, is = isC (o, 0) := ⟨_, rfl⟩
  rw [← hd, ← his] at hrd
  replace hd := Lib.hid hd
  replace his := Lib.hid his
  obtain ⟨bd, hbd⟩ : ∃ bd, bd = badC c := ⟨_, rfl⟩
  rw [← hbd] at hP3
  replace hbd := Lib.hid hbd
  generalize hPe : w.heap.size + 1 = P at *
  generalize hCe : w.heap.size = C at *
  obtain ⟨p0, p1, p2⟩ := hP3.facts
  go_wp2_with fail
  refine (hrd.out _).mono ?_
  rintro r w3 ⟨rfl, hb3⟩; dsimp only
  clear p0 p1 p2 hrd
  have hi33 : (Try.prog.info? 64).map (·.size) = some 33 := by kernel_rfl
  go_wp2_with (refine wpList_store_row rfl 64 (.tmp 5) (.tmp 19) rfl w3.heap.size (csC d) rfl rfl 64 (csC zeroC) (Blk.new w3 _ _) hi33 rfl (csC_one d) ?_)
  rw [show ∀ z, (w3.alloc (.cells z 64)).setRow w3.heap.size (csC d) = w3.alloc (.cells (csC d) 64) from fun z => World.setRow_alloc_new w3 z (csC d) 64]
  have hD4 := Blk.new w3 64 (csC d)
  have hP4 := (hP3.past hb3).alloc (.cells (csC d) 64)
  have hC4 := (hC3.past hb3).alloc (.cells (csC d) 64)
  have hb4 : Below C w (w3.alloc (.cells (csC d) 64)) := (hb2.trans (hb3.mono (by have := hb2.size; omega))).alloc (by have := hb2.size; have := hb3.size; omega) (.cells (csC d) 64)
  clear hb2 hb3 hP3 hC3
  generalize w3.heap.size = D at *
  generalize w3.alloc (.cells (csC d) 64) = w4 at *
  have hkd : 0 ≤ c.kind := hk.1
  go_wp2_with fail
  have c0 : w4.cell? ⟨C, 0, none⟩ = some (.int .u8 c.kind) := blk_cell hC4 rfl
  refine wp_region_held0 (S := fun w' => w'.cell? ⟨C, 0, none⟩ = some (.int .u8 c.kind)) (by kernel_rfl) c0 (fun hHeld => ?_)
  refine wpAnyH_take (i := 1) (v := ?_) rfl (by kernel_rfl) (by kernel_rfl) (by kernel_rfl) (fun _ _ _ h => h) (Or.inl ⟨by rfl, ?hy⟩) hHeld ?_
  case hy =>
    intro w hSw
    (try dsimp only at hSw)
    go_simp
    (try with_reducible rfl)
  try simp only [Act.put, List.getElem_toArray, List.getElem_cons_succ, List.getElem_cons_zero, List.setIfInBounds_toArray, List.set_cons_zero, List.set_cons_succ]
  refine wpAnyH_take (i := 2) (v := ?_) rfl (by kernel_rfl) (by kernel_rfl) (by kernel_rfl) (fun _ _ _ h => h) (Or.inl ⟨by rfl, ?hy⟩) hHeld ?_
  case hy =>
    intro w hSw
    (try dsimp only at hSw)
    go_simp
    (try with_reducible rfl)
  try simp only [Act.put, List.getElem_toArray, List.getElem_cons_succ, List.getElem_cons_zero, List.setIfInBounds_toArray, List.set_cons_zero, List.set_cons_succ]
  refine wpAnyH_ready (rs := [0]) (by kernel_rfl) (by simp) ?_
  refine AllReadyH.cons rfl (fun K hK => ?_) AllReadyH.nil
  have hOld := hHeld
  clear hHeld
  go_simp
  refine (cmd_has _).mono ?_
  rintro r w6 ⟨rfl, rfl⟩
  dsimp only
  have hlk := run_look8 (W := w4.drew.alloc (.map hasM 15)) (m := w4.heap.size) (c := 15) hkd (heap_alloc_new w4.drew _) true
  replace hP4 := hP4.drew.alloc (.map hasM 15)
  replace hD4 := hD4.drew.alloc (.map hasM 15)
  replace hC4 := hC4.drew.alloc (.map hasM 15)
  replace hb4 := hb4.drew.alloc (by have := hb4.size; simp; omega) (.map hasM 15)
  clear c0
  refine hK.out _ _ (blk_cell hC4 rfl) (fun hHeld => ?_)
  clear hK K hOld
  try simp only [Act.put, List.getElem_toArray, List.getElem_cons_succ, List.getElem_cons_zero, List.setIfInBounds_toArray, List.set_cons_zero, List.set_cons_succ]
  generalize w4.drew.alloc (.map hasM 15) = w6 at *
  refine wpAnyH_ready (rs := [3]) (by kernel_rfl) (by simp) ?_
  refine AllReadyH.cons rfl (fun K hK => ?_) AllReadyH.nil
  have hOld := hHeld
  clear hHeld
  go_simp
  refine hK.out _ _ (blk_cell hC4 rfl) (fun hHeld => ?_)
  clear hK K hOld
  try simp only [Act.put, List.getElem_toArray, List.getElem_cons_succ, List.getElem_cons_zero, List.setIfInBounds_toArray, List.set_cons_zero, List.set_cons_succ]
  refine wpAnyH_take (i := 4) (v := ?_) rfl (by kernel_rfl) (by kernel_rfl) (by kernel_rfl) (fun _ _ _ h => h) (Or.inl ⟨by rfl, ?hy⟩) hHeld ?_
  case hy =>
    intro w hSw
    (try dsimp only at hSw)
    go_simp
    (try with_reducible rfl)
  try simp only [Act.put, List.getElem_toArray, List.getElem_cons_succ, List.getElem_cons_zero, List.setIfInBounds_toArray, List.set_cons_zero, List.set_cons_succ]
  refine wpAnyH_take (i := 5) (v := ?_) rfl (by kernel_rfl) (by kernel_rfl) (by kernel_rfl) (fun _ _ _ h => h) (Or.inl ⟨by rfl, ?hy⟩) hHeld ?_
  case hy =>
    intro w hSw
    (try dsimp only at hSw)
    go_simp
    (try with_reducible rfl)
  try simp only [Act.put, List.getElem_toArray, List.getElem_cons_succ, List.getElem_cons_zero, List.setIfInBounds_toArray, List.set_cons_zero, List.set_cons_succ]
  refine wpAnyH_take (i := 6) (v := ?_) rfl (by kernel_rfl) (by kernel_rfl) (by kernel_rfl) (fun _ _ _ h => h) (Or.inl ⟨by rfl, ?hy⟩) hHeld ?_
  case hy =>
    intro w hSw
    (try dsimp only at hSw)
    go_simp
    (try with_reducible rfl)
  try simp only [Act.put, List.getElem_toArray, List.getElem_cons_succ, List.getElem_cons_zero, List.setIfInBounds_toArray, List.set_cons_zero, List.set_cons_succ]
  refine wpAnyH_take (i := 7) (v := ?_) rfl (by kernel_rfl) (by kernel_rfl) (by kernel_rfl) (fun _ _ _ h => h) (Or.inl ⟨by rfl, ?hy⟩) hHeld ?_
  case hy =>
    intro w hSw
    (try dsimp only at hSw)
    go_simp
    (try with_reducible rfl)
  try simp only [Act.put, List.getElem_toArray, List.getElem_cons_succ, List.getElem_cons_zero, List.setIfInBounds_toArray, List.set_cons_zero, List.set_cons_succ]
  refine wpAnyH_take (i := 8) (v := ?_) rfl (by kernel_rfl) (by kernel_rfl) (by kernel_rfl) (fun _ _ _ h => h) (Or.inl ⟨by rfl, ?hy⟩) hHeld ?_
  case hy =>
    intro w hSw
    (try dsimp only at hSw)
    go_simp
    (try with_reducible rfl)
  try simp only [Act.put, List.getElem_toArray, List.getElem_cons_succ, List.getElem_cons_zero, List.setIfInBounds_toArray, List.set_cons_zero, List.set_cons_succ]
  refine wpAnyH_done (by kernel_rfl) ?_ _
  simp only [Exit.then]
  clear hHeld hlk hkd
  have hok : encOk c = (!bd && is && kindB c.kind && decide (d = c) && !noneC c) := by rw [hbd.out, his.out, hd.out, ho.out]; rfl
  replace hR1 : R1 = if (!bd && is && kindB c.kind && decide (d = c) && !noneC c) = true then o else ByteArray.empty := by rw [hR1.out, hok, ho.out]
  replace hR2 : R2 = if (!bd && is && kindB c.kind && decide (d = c) && !noneC c) = true then 0 else 2 := by rw [hR2.out, hok]
  clear hok hbd his hd ho hk hi33 hc hl
  obtain ⟨p0, p1, p2⟩ := hP4.facts
  have k0 : ∀ W, Blk W C 64 (csC c) → W.cell? ⟨C, 0, none⟩ = some (.int .u8 c.kind) := fun W h => blk_cell h rfl
  have c0 := k0 _ hC4
  have c1 : w6.cell? ⟨C, 1, none⟩ = some (.int .u64 c.client) := blk_cell hC4 rfl
  have c2 : w6.cell? ⟨C, 2, none⟩ = some (.int .u64 c.seq) := blk_cell hC4 rfl
  clear k0
  have hlD := load_cmd hD4 rfl
  have hlC := load_cmd hC4 rfl
  have hneq : ∀ W, (binOp .neq 64 (.agg (csC d)) (.agg (csC c))).run Try.prog W = .ok (.bool (!decide (d = c))) W := neq_cmd d c
  obtain ⟨eq, heq⟩ : ∃ eq, eq = decide (d = c) := ⟨_, rfl⟩
  rw [← heq] at hR1 hR2
  simp only [← heq] at hneq
  clear heq
  unfold noneC at hR1 hR2
  have hCli := cmd_Client c.kind w6
  generalize kindB c.kind = kb at *
  generalize clientB c.kind = cb at *
  cases bd
  case true =>
    replace hR1 : R1 = ByteArray.empty := by rw [hR1]; simp
    replace hR2 : R2 = 2 := by rw [hR2]; simp
    subst hR1 hR2
    clear c0 c1 c2 hneq hCli
    go_wp2_with fail
    refine bodyPost_ret (v := .tuple #[.string ⟨#[]⟩, .int .i64 2]) (by simp [results, Try.results34, go_sem]) rfl ?_
    exact ⟨rfl, by rw [hCe]; exact hb4⟩
  cases is
  case false =>
    replace hR1 : R1 = ByteArray.empty := by rw [hR1]; simp
    replace hR2 : R2 = 2 := by rw [hR2]; simp
    subst hR1 hR2
    clear c0 c1 c2 hneq hCli
    go_wp2_with fail
    refine bodyPost_ret (v := .tuple #[.string ⟨#[]⟩, .int .i64 2]) (by simp [results, Try.results34, go_sem]) rfl ?_
    exact ⟨rfl, by rw [hCe]; exact hb4⟩
  cases kb
  case false =>
    replace hR1 : R1 = ByteArray.empty := by rw [hR1]; simp
    replace hR2 : R2 = 2 := by rw [hR2]; simp
    subst hR1 hR2
    clear c0 c1 c2 hneq hCli
    go_wp2_with fail
    refine bodyPost_ret (v := .tuple #[.string ⟨#[]⟩, .int .i64 2]) (by simp [results, Try.results34, go_sem]) rfl ?_
    exact ⟨rfl, by rw [hCe]; exact hb4⟩
  cases eq
  case false =>
    replace hR1 : R1 = ByteArray.empty := by rw [hR1]; simp
    replace hR2 : R2 = 2 := by rw [hR2]; simp
    subst hR1 hR2
    clear c0 c1 c2 hCli
    simp only [Bool.not_false] at hneq
    go_wp2_with (first | (with_reducible refine wpList_load_rowW 64 (.tmp 5) D ?_ (csC d) ?_ ?_ ?_) | (with_reducible refine wpList_load_rowW 64 (.tmp 1) C ?_ (csC c) ?_ ?_ ?_) | fail)
    rotate_right
    · skip
      refine bodyPost_ret (v := .tuple #[.string ⟨#[]⟩, .int .i64 2]) (by simp [results, Try.results34, go_sem]) rfl ?_
      exact ⟨rfl, by rw [hCe]; exact hb4⟩
    all_goals first | exact hlD | exact hlC | rfl | (simp [Region.wanted, yielded, Act.put]; done)
  simp only [Bool.not_true] at hneq
  cases cb
  case false =>
    replace hR1 : R1 = o := by rw [hR1]; simp
    replace hR2 : R2 = 0 := by rw [hR2]; simp
    subst hR1 hR2
    clear c1 c2
    go_wp2_with (first | (with_reducible refine wpList_load_rowW 64 (.tmp 5) D ?_ (csC d) ?_ ?_ ?_) | (with_reducible refine wpList_load_rowW 64 (.tmp 1) C ?_ (csC c) ?_ ?_ ?_) | fail)
    rotate_right
    · skip
      refine hCli.mono ?_
      rintro r w7 ⟨rfl, rfl⟩; dsimp only
      go_wp2_with fail
      refine bodyPost_ret (v := .tuple #[.string R1, .int .i64 0]) (by simp [results, Try.results34, go_sem]) rfl ?_
      exact ⟨rfl, by rw [hCe]; exact hb4⟩
    all_goals first | exact hlD | exact hlC | rfl | (simp [Region.wanted, yielded, Act.put]; done)
  by_cases hz1 : c.client = 0
  · replace hR1 : R1 = ByteArray.empty := by rw [hR1]; simp [hz1]
    replace hR2 : R2 = 2 := by rw [hR2]; simp [hz1]
    subst hR1 hR2
    rw [hz1] at c1
    clear c2
    go_wp2_with (first | (with_reducible refine wpList_load_rowW 64 (.tmp 5) D ?_ (csC d) ?_ ?_ ?_) | (with_reducible refine wpList_load_rowW 64 (.tmp 1) C ?_ (csC c) ?_ ?_ ?_) | fail)
    rotate_right
    · skip
      refine hCli.mono ?_
      rintro r w7 ⟨rfl, rfl⟩; dsimp only
      go_wp2_with fail
      refine bodyPost_ret (v := .tuple #[.string ⟨#[]⟩, .int .i64 2]) (by simp [results, Try.results34, go_sem]) rfl ?_
      exact ⟨rfl, by rw [hCe]; exact hb4⟩
    all_goals first | exact hlD | exact hlC | rfl | (simp [Region.wanted, yielded, Act.put]; done)
  have hq1 : (c.client == 0) = false := by simpa using hz1
  by_cases hz2 : c.seq = 0
  · replace hR1 : R1 = ByteArray.empty := by rw [hR1]; simp [hz2]
    replace hR2 : R2 = 2 := by rw [hR2]; simp [hz2]
    subst hR1 hR2
    rw [hz2] at c2
    go_wp2_with (first | (with_reducible refine wpList_load_rowW 64 (.tmp 5) D ?_ (csC d) ?_ ?_ ?_) | (with_reducible refine wpList_load_rowW 64 (.tmp 1) C ?_ (csC c) ?_ ?_ ?_) | fail)
    rotate_right
    · skip
      refine hCli.mono ?_
      rintro r w7 ⟨rfl, rfl⟩; dsimp only
      go_wp2_with fail
      refine bodyPost_ret (v := .tuple #[.string ⟨#[]⟩, .int .i64 2]) (by simp [results, Try.results34, go_sem]) rfl ?_
      exact ⟨rfl, by rw [hCe]; exact hb4⟩
    all_goals first | exact hlD | exact hlC | rfl | (simp [Region.wanted, yielded, Act.put]; done)
  have hq2 : (c.seq == 0) = false := by simpa using hz2
  replace hR1 : R1 = o := by rw [hR1]; simp [hz1, hz2]
  replace hR2 : R2 = 0 := by rw [hR2]; simp [hz1, hz2]
  subst hR1 hR2
  go_wp2_with (first | (with_reducible refine wpList_load_rowW 64 (.tmp 5) D ?_ (csC d) ?_ ?_ ?_) | (with_reducible refine wpList_load_rowW 64 (.tmp 1) C ?_ (csC c) ?_ ?_ ?_) | fail)
  rotate_right
  · skip
    refine hCli.mono ?_
    rintro r w7 ⟨rfl, rfl⟩; dsimp only
    go_wp2_with fail
    refine bodyPost_ret (v := .tuple #[.string R1, .int .i64 0]) (by simp [results, Try.results34, go_sem]) rfl ?_
    exact ⟨rfl, by rw [hCe]; exact hb4⟩
  all_goals first | exact hlD | exact hlC | rfl | (simp [Region.wanted, yielded, Act.put]; done)
end Go.Proofs.Yteglieoeblehpaa
