/- Commands: a command read, walked . Conditions: the bytes are in memory. -/
import Derived.Test.YteglieoeblehpaaCmd11
namespace Go.Proofs.Yteglieoeblehpaa
open Go.RowKit
attribute [local go_sem] st_func

theorem stepS0 (x : St) (hn : x.2.2.size = 33) : (stepS x 0).2.2[0]? = some (.int .u8 (kindR x)) := by
  simp [stepS, kindR, hn]
theorem stepG0 (x : St) (v : Value) (h : x.2.2[0]? = some v) : (stepG (stepG x 1) 2).2.2[0]? = some v := by
  simp [stepG, h]
set_option maxRecDepth 100000 in
set_option maxHeartbeats 20000000 in
theorem cr_command (P R C : Nat) (o : ByteArray) (bd : Bool) (x : St) (hs : x.1.size ≤ 140737488351232) (hn : x.2.2.size = 33) (w : World) (hP : Cr w P R o bd) (hR : Rd w R x.1 x.2.1) (hC : Blk w C 64 x.2.2) (n1 : P ≠ R) (n2 : P ≠ C) (n3 : C ≠ R) :
    Calls Try.prog 61 #[.pointer (some ⟨P, 0, none⟩), .pointer (some ⟨C, 0, none⟩)] w fun e w' => (∃ v, e = .returned v) ∧ Rd w' R (readAll x).1 (readAll x).2.1 ∧ Blk w' C 64 (readAll x).2.2 ∧ KeptRC R C w w' := by
  have hB0 := Blk.new w 97 #[.pointer (some ⟨P, 0, none⟩)]
  have hB1 := Blk.new1 w (.cells #[.pointer (some ⟨P, 0, none⟩)] 97) 101 #[.pointer (some ⟨C, 0, none⟩)]
  have hPl := hP.lt
  have hRl := Blk.lt hR
  have hCl := hC.lt
  have hK0 := KeptRC.old (R := R) (C := C) (show Below w.heap.size w ((w.alloc (.cells #[.pointer (some ⟨P, 0, none⟩)] 97)).alloc (.cells #[.pointer (some ⟨C, 0, none⟩)] 101)) by go_grown)
  have hB : RBox ((w.alloc (.cells #[.pointer (some ⟨P, 0, none⟩)] 97)).alloc (.cells #[.pointer (some ⟨C, 0, none⟩)] 101)) w.heap.size (w.heap.size + 1) P R C := ⟨hB0.alloc _, hB1, by omega, by omega, by omega, by omega⟩
  have hP0 := (hP.alloc (.cells #[.pointer (some ⟨P, 0, none⟩)] 97)).alloc (.cells #[.pointer (some ⟨C, 0, none⟩)] 101)
  have hR0 := (Blk.alloc hR (.cells #[.pointer (some ⟨P, 0, none⟩)] 97)).alloc (.cells #[.pointer (some ⟨C, 0, none⟩)] 101)
  have hC0 := (hC.alloc (.cells #[.pointer (some ⟨P, 0, none⟩)] 97)).alloc (.cells #[.pointer (some ⟨C, 0, none⟩)] 101)
  clear hB0 hB1
  obtain ⟨Z, hZ⟩ : ∃ Z, Z = readAll x := ⟨_, rfl⟩
  obtain ⟨kind, hkd⟩ : ∃ kind, kind = kindR x := ⟨_, rfl⟩
  obtain ⟨B, hBk⟩ : ∃ B, B = fieldsOf kind := ⟨_, rfl⟩
  have hk0 := rdU8 x.2.1 x.1
  have hcell := stepS0 x hn
  have hf1 := fairS x 0
  rw [← hZ]
  unfold readAll at hZ
  rw [← hkd, ← hBk] at hZ
  rw [← hkd] at hcell
  have hkind : 0 ≤ kind ∧ kind ≤ 255 := by rw [hkd]; exact hk0
  clear hk0 hkd
  replace hBk := Lib.hid hBk
  replace hZ := Lib.hid hZ
  replace hf1 := Lib.hid hf1
  go_enter Try.func61, Try.ntmps61
  go_wp2_with fail
  obtain ⟨K1, hK1e⟩ : ∃ K1, K1 = w.heap.size := ⟨_, rfl⟩
  obtain ⟨K2, hK2e⟩ : ∃ K2, K2 = w.heap.size + 1 := ⟨_, rfl⟩
  rw [← hK2e, ← hK1e] at hB ⊢
  clear hK1e hK2e hP hC hR hPl hRl hCl
  generalize (w.alloc (.cells #[.pointer (some ⟨P, 0, none⟩)] 97)).alloc (.cells #[.pointer (some ⟨C, 0, none⟩)] 101) = W0 at *
  refine wp_region_held0 (S := fun w' => w'.cell? ⟨K1, 0, none⟩ = some (.pointer (some ⟨P, 0, none⟩)) ∧ w'.cell? ⟨K2, 0, none⟩ = some (.pointer (some ⟨C, 0, none⟩))) (by kernel_rfl) ⟨hB.k1.cell 0, hB.k2.cell 0⟩ (fun hHeld => ?_)
  refine wpAnyH_take (i := 0) (v := ?_) rfl (by kernel_rfl) (by kernel_rfl) (by kernel_rfl) (fun _ _ _ h => h) (Or.inl ⟨by rfl, ?hy⟩) hHeld ?_
  case hy =>
    intro w hSw
    (try dsimp only at hSw)
    go_simp
    (try with_reducible rfl)
  try simp only [Act.put, List.getElem_toArray, List.getElem_cons_zero, List.setIfInBounds_toArray, List.set_cons_zero, List.set_cons_succ]
  refine wpAnyH_take (i := 1) (v := ?_) rfl (by kernel_rfl) (by kernel_rfl) (by kernel_rfl) (fun _ _ _ h => h) (Or.inl ⟨by rfl, ?hy⟩) hHeld ?_
  case hy =>
    intro w hSw
    (try dsimp only at hSw)
    go_simp
    (try with_reducible rfl)
  try simp only [Act.put, List.getElem_toArray, List.getElem_cons_succ, List.getElem_cons_zero, List.setIfInBounds_toArray, List.set_cons_zero, List.set_cons_succ]
  refine wpAnyH_take (i := 2) (v := ?_) rfl (by kernel_rfl) (by kernel_rfl) (by kernel_rfl) (fun _ _ _ h => h) (Or.inl ⟨by rfl, ?hy⟩) hHeld ?_
  case hy =>
    intro w hSw
    (try dsimp only at hSw)
    go_simp
    (try with_reducible rfl)
  try simp only [Act.put, List.getElem_toArray, List.getElem_cons_succ, List.getElem_cons_zero, List.setIfInBounds_toArray, List.set_cons_zero, List.set_cons_succ]
  refine wpAnyH_take (i := 3) (v := ?_) rfl (by kernel_rfl) (by kernel_rfl) (by kernel_rfl) (fun _ _ _ h => h) (Or.inl ⟨by rfl, ?hy⟩) hHeld ?_
  case hy =>
    intro w hSw
    (try dsimp only at hSw)
    go_simp
    (try with_reducible rfl)
  try simp only [Act.put, List.getElem_toArray, List.getElem_cons_succ, List.getElem_cons_zero, List.setIfInBounds_toArray, List.set_cons_zero, List.set_cons_succ]
  refine wpAnyH_ready (rs := [4]) (by kernel_rfl) (by simp) ?_
  refine AllReadyH.cons rfl (fun K hK => ?_) AllReadyH.nil
  have hOld := hHeld
  clear hHeld
  go_simp
  refine (cr_small P R C 0 o bd x.1 x.2.1 hs W0.drew hP0.drew (Blk.drew hR0) _ x.2.2 hC0.drew (by omega) n1 n2 n3).mono ?_
  rintro r W1 ⟨⟨v, rfl⟩, hR1, hC1, hK1⟩; dsimp only
  replace hK1 := (KeptRC.old (R := R) (C := C) (Below.refl _ W0).drew).trans hK1
  replace hB := hB.kept hK1
  replace hP0 := hK1.2.2 _ _ _ n1 n2 hP0
  replace hK0 := hK0.trans hK1
  clear hR0 hC0 hK1
  have hR0 : Rd W1 R (stepS x 0).1 (stepS x 0).2.1 := hR1
  have hC0 : Blk W1 C 64 (stepS x 0).2.2 := hC1
  clear hR1 hC1
  refine hK.out _ _ (⟨hB.k1.cell 0, hB.k2.cell 0⟩) (fun hHeld => ?_)
  clear hK K hOld
  try simp only [Act.put, List.getElem_toArray, List.getElem_cons_succ, List.getElem_cons_zero, List.setIfInBounds_toArray, List.set_cons_zero, List.set_cons_succ]
  refine wpAnyH_done (by kernel_rfl) ?_ _
  simp only [Exit.then]
  generalize stepS x 0 = y at *
  have hyz : y.1.size ≤ 140737488351232 ∧ y.2.2.size = 33 := ⟨Nat.le_trans hf1.out.1 hs, hf1.out.2.trans hn⟩
  clear hf1 hs hn
  have b1 := hB.k2.cell 0
  have c0 := blk_cell hC0 hcell
  go_wp2_with fail
  refine (cmd_Client kind _).mono ?_
  rintro r w5 ⟨rfl, rfl⟩; dsimp only
  clear b1 c0
  replace hZ := hZ.out
  cases hcb : clientB kind
  · rw [hcb] at hZ
    simp only [Bool.false_eq_true, if_false] at hZ
    obtain ⟨H, hH⟩ : ∃ H : St, H = y := ⟨_, rfl⟩
    rw [← hH] at hZ hyz hcell hR0 hC0
    have hHz := hyz
    have hH0 := hcell
    replace hkind := hkind.1
    replace hZ := Lib.hid hZ
    clear hH hcb hyz hcell
    have b1 := hB.k2.cell 0
    have c0 := blk_cell hC0 hH0
    go_wp2_with fail
    refine wp_region_held0 (S := fun w' => w'.cell? ⟨K2, 0, none⟩ = some (.pointer (some ⟨C, 0, none⟩)) ∧ w'.cell? ⟨C, 0, none⟩ = some (.int .u8 kind)) (by kernel_rfl) ⟨b1, c0⟩ (fun hHeld => ?_)
    refine wpAnyH_take (i := 1) (v := ?_) rfl (by kernel_rfl) (by kernel_rfl) (by kernel_rfl) (fun _ _ _ h => h) (Or.inl ⟨by rfl, ?hy⟩) hHeld ?_
    case hy =>
      intro w hSw
      (try dsimp only at hSw)
      go_simp
      (try with_reducible rfl)
    try simp only [Act.put, List.getElem_toArray, List.getElem_cons_succ, List.getElem_cons_zero, List.setIfInBounds_toArray, List.set_cons_zero, List.set_cons_succ]
    refine wpAnyH_take (i := 2) (v := ?_) rfl (by kernel_rfl) (by kernel_rfl) (by kernel_rfl) (fun _ _ _ h => h) (Or.inl ⟨by rfl, ?hy⟩) hHeld ?_
    case hy =>
      intro w hSw
      (try dsimp only at hSw)
      go_simp
      (try with_reducible rfl)
    try simp only [Act.put, List.getElem_toArray, List.getElem_cons_succ, List.getElem_cons_zero, List.setIfInBounds_toArray, List.set_cons_zero, List.set_cons_succ]
    refine wpAnyH_take (i := 3) (v := ?_) rfl (by kernel_rfl) (by kernel_rfl) (by kernel_rfl) (fun _ _ _ h => h) (Or.inl ⟨by rfl, ?hy⟩) hHeld ?_
    case hy =>
      intro w hSw
      (try dsimp only at hSw)
      go_simp
      (try with_reducible rfl)
    try simp only [Act.put, List.getElem_toArray, List.getElem_cons_succ, List.getElem_cons_zero, List.setIfInBounds_toArray, List.set_cons_zero, List.set_cons_succ]
    refine wpAnyH_take (i := 4) (v := ?_) rfl (by kernel_rfl) (by kernel_rfl) (by kernel_rfl) (fun _ _ _ h => h) (Or.inl ⟨by rfl, ?hy⟩) hHeld ?_
    case hy =>
      intro w hSw
      (try dsimp only at hSw)
      go_simp
      (try with_reducible rfl)
    try simp only [Act.put, List.getElem_toArray, List.getElem_cons_succ, List.getElem_cons_zero, List.setIfInBounds_toArray, List.set_cons_zero, List.set_cons_succ]
    refine wpAnyH_ready (rs := [0]) (by kernel_rfl) (by simp) ?_
    refine AllReadyH.cons rfl (fun K hK => ?_) AllReadyH.nil
    have hOld := hHeld
    clear hHeld
    go_simp
    refine (cmd_has _).mono ?_
    rintro r w6 ⟨rfl, rfl⟩
    dsimp only
    have hlk := run_look8 (W := W1.drew.alloc (.map hasM 15)) (m := W1.heap.size) (c := 15) hkind (heap_alloc_new W1.drew _) false
    rw [← hBk.out] at hlk
    have hko := KeptRC.old (R := R) (C := C) (below_own (Below.refl _ W1).drew (.map hasM 15))
    replace hB := hB.kept hko
    replace hP0 := hP0.drew.alloc (.map hasM 15)
    replace hR0 := (Blk.drew hR0).alloc (.map hasM 15)
    replace hC0 := hC0.drew.alloc (.map hasM 15)
    replace hK0 := hK0.trans hko
    clear hko
    refine hK.out _ _ (⟨hB.k2.cell 0, blk_cell hC0 hH0⟩) (fun hHeld => ?_)
    clear hK K hOld
    try simp only [Act.put, List.getElem_toArray, List.getElem_cons_succ, List.getElem_cons_zero, List.setIfInBounds_toArray, List.set_cons_zero, List.set_cons_succ]
    generalize W1.drew.alloc (.map hasM 15) = w6 at *
    refine wpAnyH_ready (rs := [5]) (by kernel_rfl) (by simp) ?_
    refine AllReadyH.cons rfl (fun K hK => ?_) AllReadyH.nil
    have hOld := hHeld
    clear hHeld
    go_simp
    refine hK.out _ _ (⟨hB.k2.cell 0, blk_cell hC0 hH0⟩) (fun hHeld => ?_)
    clear hK K hOld
    try simp only [Act.put, List.getElem_toArray, List.getElem_cons_succ, List.getElem_cons_zero, List.setIfInBounds_toArray, List.set_cons_zero, List.set_cons_succ]
    refine wpAnyH_take (i := 6) (v := ?_) rfl (by kernel_rfl) (by kernel_rfl) (by kernel_rfl) (fun _ _ _ h => h) (Or.inl ⟨by rfl, ?hy⟩) hHeld ?_
    case hy =>
      intro w hSw
      (try dsimp only at hSw)
      go_simp
      (try with_reducible rfl)
    try simp only [Act.put, List.getElem_toArray, List.getElem_cons_succ, List.getElem_cons_zero, List.setIfInBounds_toArray, List.set_cons_zero, List.set_cons_succ]
    refine wpAnyH_done (by kernel_rfl) ?_ _
    simp only [Exit.then]
    clear hHeld hlk b1 c0 hkind
    have hS := Blk.new w6 125 #[.int .i64 1, .func (.func 73) #[] #[.pointer (some ⟨K1, 0, none⟩), .pointer (some ⟨K2, 0, none⟩)], .int .i64 2, .func (.func 75) #[] #[.pointer (some ⟨K1, 0, none⟩), .pointer (some ⟨K2, 0, none⟩)], .int .i64 4, .func (.func 76) #[] #[.pointer (some ⟨K1, 0, none⟩), .pointer (some ⟨K2, 0, none⟩)], .int .i64 8, .func (.func 77) #[] #[.pointer (some ⟨K1, 0, none⟩), .pointer (some ⟨K2, 0, none⟩)], .int .i64 16, .func (.func 79) #[] #[.pointer (some ⟨K1, 0, none⟩), .pointer (some ⟨K2, 0, none⟩)], .int .i64 32, .func (.func 81) #[] #[.pointer (some ⟨K1, 0, none⟩), .pointer (some ⟨K2, 0, none⟩)], .int .i64 64, .func (.func 82) #[] #[.pointer (some ⟨K1, 0, none⟩), .pointer (some ⟨K2, 0, none⟩)], .int .i64 128, .func (.func 83) #[] #[.pointer (some ⟨K1, 0, none⟩), .pointer (some ⟨K2, 0, none⟩)], .int .i64 256, .func (.func 84) #[] #[.pointer (some ⟨K1, 0, none⟩), .pointer (some ⟨K2, 0, none⟩)], .int .i64 512, .func (.func 85) #[] #[.pointer (some ⟨K1, 0, none⟩), .pointer (some ⟨K2, 0, none⟩)], .int .i64 1024, .func (.func 87) #[] #[.pointer (some ⟨K1, 0, none⟩), .pointer (some ⟨K2, 0, none⟩)], .int .i64 2048, .func (.func 89) #[] #[.pointer (some ⟨K1, 0, none⟩), .pointer (some ⟨K2, 0, none⟩)], .int .i64 4096, .func (.func 91) #[] #[.pointer (some ⟨K1, 0, none⟩), .pointer (some ⟨K2, 0, none⟩)]]
    have hS1 : w6.heap.size ≠ R := by have := Blk.lt hR0; omega
    have hS2 : w6.heap.size ≠ C := by have := hC0.lt; omega
    have hko := KeptRC.old (R := R) (C := C) (below_own (Below.refl _ w6) (.cells #[.int .i64 1, .func (.func 73) #[] #[.pointer (some ⟨K1, 0, none⟩), .pointer (some ⟨K2, 0, none⟩)], .int .i64 2, .func (.func 75) #[] #[.pointer (some ⟨K1, 0, none⟩), .pointer (some ⟨K2, 0, none⟩)], .int .i64 4, .func (.func 76) #[] #[.pointer (some ⟨K1, 0, none⟩), .pointer (some ⟨K2, 0, none⟩)], .int .i64 8, .func (.func 77) #[] #[.pointer (some ⟨K1, 0, none⟩), .pointer (some ⟨K2, 0, none⟩)], .int .i64 16, .func (.func 79) #[] #[.pointer (some ⟨K1, 0, none⟩), .pointer (some ⟨K2, 0, none⟩)], .int .i64 32, .func (.func 81) #[] #[.pointer (some ⟨K1, 0, none⟩), .pointer (some ⟨K2, 0, none⟩)], .int .i64 64, .func (.func 82) #[] #[.pointer (some ⟨K1, 0, none⟩), .pointer (some ⟨K2, 0, none⟩)], .int .i64 128, .func (.func 83) #[] #[.pointer (some ⟨K1, 0, none⟩), .pointer (some ⟨K2, 0, none⟩)], .int .i64 256, .func (.func 84) #[] #[.pointer (some ⟨K1, 0, none⟩), .pointer (some ⟨K2, 0, none⟩)], .int .i64 512, .func (.func 85) #[] #[.pointer (some ⟨K1, 0, none⟩), .pointer (some ⟨K2, 0, none⟩)], .int .i64 1024, .func (.func 87) #[] #[.pointer (some ⟨K1, 0, none⟩), .pointer (some ⟨K2, 0, none⟩)], .int .i64 2048, .func (.func 89) #[] #[.pointer (some ⟨K1, 0, none⟩), .pointer (some ⟨K2, 0, none⟩)], .int .i64 4096, .func (.func 91) #[] #[.pointer (some ⟨K1, 0, none⟩), .pointer (some ⟨K2, 0, none⟩)]] 125))
    replace hB := hB.kept hko
    replace hP0 := hP0.alloc (.cells #[.int .i64 1, .func (.func 73) #[] #[.pointer (some ⟨K1, 0, none⟩), .pointer (some ⟨K2, 0, none⟩)], .int .i64 2, .func (.func 75) #[] #[.pointer (some ⟨K1, 0, none⟩), .pointer (some ⟨K2, 0, none⟩)], .int .i64 4, .func (.func 76) #[] #[.pointer (some ⟨K1, 0, none⟩), .pointer (some ⟨K2, 0, none⟩)], .int .i64 8, .func (.func 77) #[] #[.pointer (some ⟨K1, 0, none⟩), .pointer (some ⟨K2, 0, none⟩)], .int .i64 16, .func (.func 79) #[] #[.pointer (some ⟨K1, 0, none⟩), .pointer (some ⟨K2, 0, none⟩)], .int .i64 32, .func (.func 81) #[] #[.pointer (some ⟨K1, 0, none⟩), .pointer (some ⟨K2, 0, none⟩)], .int .i64 64, .func (.func 82) #[] #[.pointer (some ⟨K1, 0, none⟩), .pointer (some ⟨K2, 0, none⟩)], .int .i64 128, .func (.func 83) #[] #[.pointer (some ⟨K1, 0, none⟩), .pointer (some ⟨K2, 0, none⟩)], .int .i64 256, .func (.func 84) #[] #[.pointer (some ⟨K1, 0, none⟩), .pointer (some ⟨K2, 0, none⟩)], .int .i64 512, .func (.func 85) #[] #[.pointer (some ⟨K1, 0, none⟩), .pointer (some ⟨K2, 0, none⟩)], .int .i64 1024, .func (.func 87) #[] #[.pointer (some ⟨K1, 0, none⟩), .pointer (some ⟨K2, 0, none⟩)], .int .i64 2048, .func (.func 89) #[] #[.pointer (some ⟨K1, 0, none⟩), .pointer (some ⟨K2, 0, none⟩)], .int .i64 4096, .func (.func 91) #[] #[.pointer (some ⟨K1, 0, none⟩), .pointer (some ⟨K2, 0, none⟩)]] 125)
    replace hR0 := Blk.alloc hR0 (.cells #[.int .i64 1, .func (.func 73) #[] #[.pointer (some ⟨K1, 0, none⟩), .pointer (some ⟨K2, 0, none⟩)], .int .i64 2, .func (.func 75) #[] #[.pointer (some ⟨K1, 0, none⟩), .pointer (some ⟨K2, 0, none⟩)], .int .i64 4, .func (.func 76) #[] #[.pointer (some ⟨K1, 0, none⟩), .pointer (some ⟨K2, 0, none⟩)], .int .i64 8, .func (.func 77) #[] #[.pointer (some ⟨K1, 0, none⟩), .pointer (some ⟨K2, 0, none⟩)], .int .i64 16, .func (.func 79) #[] #[.pointer (some ⟨K1, 0, none⟩), .pointer (some ⟨K2, 0, none⟩)], .int .i64 32, .func (.func 81) #[] #[.pointer (some ⟨K1, 0, none⟩), .pointer (some ⟨K2, 0, none⟩)], .int .i64 64, .func (.func 82) #[] #[.pointer (some ⟨K1, 0, none⟩), .pointer (some ⟨K2, 0, none⟩)], .int .i64 128, .func (.func 83) #[] #[.pointer (some ⟨K1, 0, none⟩), .pointer (some ⟨K2, 0, none⟩)], .int .i64 256, .func (.func 84) #[] #[.pointer (some ⟨K1, 0, none⟩), .pointer (some ⟨K2, 0, none⟩)], .int .i64 512, .func (.func 85) #[] #[.pointer (some ⟨K1, 0, none⟩), .pointer (some ⟨K2, 0, none⟩)], .int .i64 1024, .func (.func 87) #[] #[.pointer (some ⟨K1, 0, none⟩), .pointer (some ⟨K2, 0, none⟩)], .int .i64 2048, .func (.func 89) #[] #[.pointer (some ⟨K1, 0, none⟩), .pointer (some ⟨K2, 0, none⟩)], .int .i64 4096, .func (.func 91) #[] #[.pointer (some ⟨K1, 0, none⟩), .pointer (some ⟨K2, 0, none⟩)]] 125)
    replace hC0 := hC0.alloc (.cells #[.int .i64 1, .func (.func 73) #[] #[.pointer (some ⟨K1, 0, none⟩), .pointer (some ⟨K2, 0, none⟩)], .int .i64 2, .func (.func 75) #[] #[.pointer (some ⟨K1, 0, none⟩), .pointer (some ⟨K2, 0, none⟩)], .int .i64 4, .func (.func 76) #[] #[.pointer (some ⟨K1, 0, none⟩), .pointer (some ⟨K2, 0, none⟩)], .int .i64 8, .func (.func 77) #[] #[.pointer (some ⟨K1, 0, none⟩), .pointer (some ⟨K2, 0, none⟩)], .int .i64 16, .func (.func 79) #[] #[.pointer (some ⟨K1, 0, none⟩), .pointer (some ⟨K2, 0, none⟩)], .int .i64 32, .func (.func 81) #[] #[.pointer (some ⟨K1, 0, none⟩), .pointer (some ⟨K2, 0, none⟩)], .int .i64 64, .func (.func 82) #[] #[.pointer (some ⟨K1, 0, none⟩), .pointer (some ⟨K2, 0, none⟩)], .int .i64 128, .func (.func 83) #[] #[.pointer (some ⟨K1, 0, none⟩), .pointer (some ⟨K2, 0, none⟩)], .int .i64 256, .func (.func 84) #[] #[.pointer (some ⟨K1, 0, none⟩), .pointer (some ⟨K2, 0, none⟩)], .int .i64 512, .func (.func 85) #[] #[.pointer (some ⟨K1, 0, none⟩), .pointer (some ⟨K2, 0, none⟩)], .int .i64 1024, .func (.func 87) #[] #[.pointer (some ⟨K1, 0, none⟩), .pointer (some ⟨K2, 0, none⟩)], .int .i64 2048, .func (.func 89) #[] #[.pointer (some ⟨K1, 0, none⟩), .pointer (some ⟨K2, 0, none⟩)], .int .i64 4096, .func (.func 91) #[] #[.pointer (some ⟨K1, 0, none⟩), .pointer (some ⟨K2, 0, none⟩)]] 125)
    replace hK0 := hK0.trans hko
    clear hko
    go_wp2_with fail
    generalize w6.alloc (.cells #[.int .i64 1, .func (.func 73) #[] #[.pointer (some ⟨K1, 0, none⟩), .pointer (some ⟨K2, 0, none⟩)], .int .i64 2, .func (.func 75) #[] #[.pointer (some ⟨K1, 0, none⟩), .pointer (some ⟨K2, 0, none⟩)], .int .i64 4, .func (.func 76) #[] #[.pointer (some ⟨K1, 0, none⟩), .pointer (some ⟨K2, 0, none⟩)], .int .i64 8, .func (.func 77) #[] #[.pointer (some ⟨K1, 0, none⟩), .pointer (some ⟨K2, 0, none⟩)], .int .i64 16, .func (.func 79) #[] #[.pointer (some ⟨K1, 0, none⟩), .pointer (some ⟨K2, 0, none⟩)], .int .i64 32, .func (.func 81) #[] #[.pointer (some ⟨K1, 0, none⟩), .pointer (some ⟨K2, 0, none⟩)], .int .i64 64, .func (.func 82) #[] #[.pointer (some ⟨K1, 0, none⟩), .pointer (some ⟨K2, 0, none⟩)], .int .i64 128, .func (.func 83) #[] #[.pointer (some ⟨K1, 0, none⟩), .pointer (some ⟨K2, 0, none⟩)], .int .i64 256, .func (.func 84) #[] #[.pointer (some ⟨K1, 0, none⟩), .pointer (some ⟨K2, 0, none⟩)], .int .i64 512, .func (.func 85) #[] #[.pointer (some ⟨K1, 0, none⟩), .pointer (some ⟨K2, 0, none⟩)], .int .i64 1024, .func (.func 87) #[] #[.pointer (some ⟨K1, 0, none⟩), .pointer (some ⟨K2, 0, none⟩)], .int .i64 2048, .func (.func 89) #[] #[.pointer (some ⟨K1, 0, none⟩), .pointer (some ⟨K2, 0, none⟩)], .int .i64 4096, .func (.func 91) #[] #[.pointer (some ⟨K1, 0, none⟩), .pointer (some ⟨K2, 0, none⟩)]] 125) = w7 at *
    generalize w6.heap.size = S at *
    go_loopw [6, 61] (fun _ i wr => ∃ k : Nat, k ≤ 13 ∧ i = .int .i64 k ∧ Rd wr R (readK B k H).1 (readK B k H).2.1 ∧ Blk wr C 64 (readK B k H).2.2 ∧ Cr wr P R o bd ∧ RBox wr K1 K2 P R C ∧ Blk wr S 125 #[.int .i64 1, .func (.func 73) #[] #[.pointer (some ⟨K1, 0, none⟩), .pointer (some ⟨K2, 0, none⟩)], .int .i64 2, .func (.func 75) #[] #[.pointer (some ⟨K1, 0, none⟩), .pointer (some ⟨K2, 0, none⟩)], .int .i64 4, .func (.func 76) #[] #[.pointer (some ⟨K1, 0, none⟩), .pointer (some ⟨K2, 0, none⟩)], .int .i64 8, .func (.func 77) #[] #[.pointer (some ⟨K1, 0, none⟩), .pointer (some ⟨K2, 0, none⟩)], .int .i64 16, .func (.func 79) #[] #[.pointer (some ⟨K1, 0, none⟩), .pointer (some ⟨K2, 0, none⟩)], .int .i64 32, .func (.func 81) #[] #[.pointer (some ⟨K1, 0, none⟩), .pointer (some ⟨K2, 0, none⟩)], .int .i64 64, .func (.func 82) #[] #[.pointer (some ⟨K1, 0, none⟩), .pointer (some ⟨K2, 0, none⟩)], .int .i64 128, .func (.func 83) #[] #[.pointer (some ⟨K1, 0, none⟩), .pointer (some ⟨K2, 0, none⟩)], .int .i64 256, .func (.func 84) #[] #[.pointer (some ⟨K1, 0, none⟩), .pointer (some ⟨K2, 0, none⟩)], .int .i64 512, .func (.func 85) #[] #[.pointer (some ⟨K1, 0, none⟩), .pointer (some ⟨K2, 0, none⟩)], .int .i64 1024, .func (.func 87) #[] #[.pointer (some ⟨K1, 0, none⟩), .pointer (some ⟨K2, 0, none⟩)], .int .i64 2048, .func (.func 89) #[] #[.pointer (some ⟨K1, 0, none⟩), .pointer (some ⟨K2, 0, none⟩)], .int .i64 4096, .func (.func 91) #[] #[.pointer (some ⟨K1, 0, none⟩), .pointer (some ⟨K2, 0, none⟩)]] ∧ KeptRC R C w wr) (fun _ i _ => 13 - (intOf i).toNat)
    case atStart => exact ⟨0, by decide, rfl, hR0, hC0, hP0, hB, hS, hK0⟩
    case round =>
      clear hP0 hB hC0 hS hK0 hR0
      obtain ⟨k, hk13, rfl, hR0, hC0, hP0, hB, hS, hK0⟩ := hrel
      have hfair := fairK B H k
      have hs0 := fun i => hS.cell i
      have hlen : ∀ i : Nat, i < 26 → True := fun _ _ => trivial
      clear hlen
      rcases (show k = 0 ∨ k = 1 ∨ k = 2 ∨ k = 3 ∨ k = 4 ∨ k = 5 ∨ k = 6 ∨ k = 7 ∨ k = 8 ∨ k = 9 ∨ k = 10 ∨ k = 11 ∨ k = 12 ∨ k = 13 by omega) with rfl | rfl | rfl | rfl | rfl | rfl | rfl | rfl | rfl | rfl | rfl | rfl | rfl | rfl
      · as_aux_lemma =>
          skip
          have a0 : wr.cell? ⟨S, 0, none⟩ = some (.int .i64 1) := hs0 0
          have a1 : wr.cell? ⟨S, 1, none⟩ = some (.func (.func _) #[] #[.pointer (some ⟨K1, 0, none⟩), .pointer (some ⟨K2, 0, none⟩)]) := hs0 1
          clear hs0
          have hselk : selB B 0 = (bits .and .i64 B 1 != 0) := rfl
          have hD := Lib.hid (fun W o bd x h1 h2 hP hR hB hC => re_user P R C K1 K2 W o bd x h1 h2 hP hR hB hC n1 n2 n3)
          have u0 : readK B 1 H = if selB B 0 = true then readG 0 (readK B 0 H) else readK B 0 H := rfl
          generalize hO : readK B 0 H = O at *
          cases hq : selB B 0
          · rw [hq] at u0 hselk
            simp only [Bool.false_eq_true, if_false] at u0
            have hb0 : (bits .and .i64 B 1 == 0) = true := by simpa using hselk.symm
            have hb1 : (bits .and .i64 B 1 != 0) = false := hselk.symm
            have hb2 : bits .and .i64 B 1 = 0 := by simpa using hb0
            replace u0 := Lib.hid u0
            replace hselk := Lib.hid hselk
            replace hq := Lib.hid hq
            go_wp2_with fail
            go_roundw
            case rel => exact ⟨1, by decide, by first | rfl | go_num, by rw [u0.out]; exact Blk.alloc hR0 _, by rw [u0.out]; exact hC0.alloc _, hP0.alloc _, hB.kept (KeptRC.old (below_own (Below.refl _ wr) _)), hS.alloc _, hK0.trans (KeptRC.old (below_own (Below.refl _ wr) _))⟩
            case measure => simp [intOf]
          · rw [hq] at u0 hselk
            simp only [if_true] at u0
            have hb1 : (bits .and .i64 B 1 != 0) = true := hselk.symm
            have hb0 : (bits .and .i64 B 1 == 0) = false := by simpa using hb1
            replace u0 := Lib.hid u0
            replace hselk := Lib.hid hselk
            replace hq := Lib.hid hq
            go_wp2_with fail
            refine (hD.out _ o bd O (Nat.le_trans hfair.1 hHz.1) (hfair.2.trans hHz.2) (hP0.alloc _) (Blk.alloc hR0 _) (hB.kept (KeptRC.old (below_own (Below.refl _ wr) _))) (hC0.alloc _)).mono ?_
            rintro r w9 ⟨⟨v9, rfl⟩, hR9, hC9, hK9⟩; dsimp only
            replace hK9 := (KeptRC.old (R := R) (C := C) (below_own (Below.refl _ wr) _)).trans hK9
            replace hB := hB.kept hK9
            replace hP0 := hK9.2.2 _ _ _ n1 n2 hP0
            replace hS := hK9.2.2 _ _ _ hS1 hS2 hS
            replace hK0 := hK0.trans hK9
            clear hK9 a0 a1 hD
            go_wp2_with fail
            go_roundw
            case rel => exact ⟨1, by decide, by first | rfl | go_num, by rw [u0.out]; exact hR9, by rw [u0.out]; exact hC9, hP0, hB, hS, hK0⟩
            case measure => simp [intOf]
      · as_aux_lemma =>
          skip
          have a0 : wr.cell? ⟨S, 2, none⟩ = some (.int .i64 2) := hs0 2
          have a1 : wr.cell? ⟨S, 3, none⟩ = some (.func (.func _) #[] #[.pointer (some ⟨K1, 0, none⟩), .pointer (some ⟨K2, 0, none⟩)]) := hs0 3
          clear hs0
          have hselk : selB B 1 = (bits .and .i64 B 2 != 0) := rfl
          have hD := Lib.hid (fun W o bd x h1 h2 hP hR hB hC => re_band P R C K1 K2 W o bd x h1 h2 hP hR hB hC n1 n2 n3)
          have u0 : readK B 2 H = if selB B 1 = true then readG 1 (readK B 1 H) else readK B 1 H := rfl
          generalize hO : readK B 1 H = O at *
          cases hq : selB B 1
          · rw [hq] at u0 hselk
            simp only [Bool.false_eq_true, if_false] at u0
            have hb0 : (bits .and .i64 B 2 == 0) = true := by simpa using hselk.symm
            have hb1 : (bits .and .i64 B 2 != 0) = false := hselk.symm
            have hb2 : bits .and .i64 B 2 = 0 := by simpa using hb0
            replace u0 := Lib.hid u0
            replace hselk := Lib.hid hselk
            replace hq := Lib.hid hq
            go_wp2_with fail
            go_roundw
            case rel => exact ⟨2, by decide, by first | rfl | go_num, by rw [u0.out]; exact Blk.alloc hR0 _, by rw [u0.out]; exact hC0.alloc _, hP0.alloc _, hB.kept (KeptRC.old (below_own (Below.refl _ wr) _)), hS.alloc _, hK0.trans (KeptRC.old (below_own (Below.refl _ wr) _))⟩
            case measure => simp [intOf]
          · rw [hq] at u0 hselk
            simp only [if_true] at u0
            have hb1 : (bits .and .i64 B 2 != 0) = true := hselk.symm
            have hb0 : (bits .and .i64 B 2 == 0) = false := by simpa using hb1
            replace u0 := Lib.hid u0
            replace hselk := Lib.hid hselk
            replace hq := Lib.hid hq
            go_wp2_with fail
            refine (hD.out _ o bd O (Nat.le_trans hfair.1 hHz.1) (hfair.2.trans hHz.2) (hP0.alloc _) (Blk.alloc hR0 _) (hB.kept (KeptRC.old (below_own (Below.refl _ wr) _))) (hC0.alloc _)).mono ?_
            rintro r w9 ⟨⟨v9, rfl⟩, hR9, hC9, hK9⟩; dsimp only
            replace hK9 := (KeptRC.old (R := R) (C := C) (below_own (Below.refl _ wr) _)).trans hK9
            replace hB := hB.kept hK9
            replace hP0 := hK9.2.2 _ _ _ n1 n2 hP0
            replace hS := hK9.2.2 _ _ _ hS1 hS2 hS
            replace hK0 := hK0.trans hK9
            clear hK9 a0 a1 hD
            go_wp2_with fail
            go_roundw
            case rel => exact ⟨2, by decide, by first | rfl | go_num, by rw [u0.out]; exact hR9, by rw [u0.out]; exact hC9, hP0, hB, hS, hK0⟩
            case measure => simp [intOf]
      · as_aux_lemma =>
          skip
          have a0 : wr.cell? ⟨S, 4, none⟩ = some (.int .i64 4) := hs0 4
          have a1 : wr.cell? ⟨S, 5, none⟩ = some (.func (.func _) #[] #[.pointer (some ⟨K1, 0, none⟩), .pointer (some ⟨K2, 0, none⟩)]) := hs0 5
          clear hs0
          have hselk : selB B 2 = (bits .and .i64 B 4 != 0) := rfl
          have hD := Lib.hid (fun W o bd x h1 h2 hP hR hB hC => re_name P R C K1 K2 W o bd x h1 h2 hP hR hB hC n1 n2 n3)
          have u0 : readK B 3 H = if selB B 2 = true then readG 2 (readK B 2 H) else readK B 2 H := rfl
          generalize hO : readK B 2 H = O at *
          cases hq : selB B 2
          · rw [hq] at u0 hselk
            simp only [Bool.false_eq_true, if_false] at u0
            have hb0 : (bits .and .i64 B 4 == 0) = true := by simpa using hselk.symm
            have hb1 : (bits .and .i64 B 4 != 0) = false := hselk.symm
            have hb2 : bits .and .i64 B 4 = 0 := by simpa using hb0
            replace u0 := Lib.hid u0
            replace hselk := Lib.hid hselk
            replace hq := Lib.hid hq
            go_wp2_with fail
            go_roundw
            case rel => exact ⟨3, by decide, by first | rfl | go_num, by rw [u0.out]; exact Blk.alloc hR0 _, by rw [u0.out]; exact hC0.alloc _, hP0.alloc _, hB.kept (KeptRC.old (below_own (Below.refl _ wr) _)), hS.alloc _, hK0.trans (KeptRC.old (below_own (Below.refl _ wr) _))⟩
            case measure => simp [intOf]
          · rw [hq] at u0 hselk
            simp only [if_true] at u0
            have hb1 : (bits .and .i64 B 4 != 0) = true := hselk.symm
            have hb0 : (bits .and .i64 B 4 == 0) = false := by simpa using hb1
            replace u0 := Lib.hid u0
            replace hselk := Lib.hid hselk
            replace hq := Lib.hid hq
            go_wp2_with fail
            refine (hD.out _ o bd O (Nat.le_trans hfair.1 hHz.1) (hfair.2.trans hHz.2) (hP0.alloc _) (Blk.alloc hR0 _) (hB.kept (KeptRC.old (below_own (Below.refl _ wr) _))) (hC0.alloc _)).mono ?_
            rintro r w9 ⟨⟨v9, rfl⟩, hR9, hC9, hK9⟩; dsimp only
            replace hK9 := (KeptRC.old (R := R) (C := C) (below_own (Below.refl _ wr) _)).trans hK9
            replace hB := hB.kept hK9
            replace hP0 := hK9.2.2 _ _ _ n1 n2 hP0
            replace hS := hK9.2.2 _ _ _ hS1 hS2 hS
            replace hK0 := hK0.trans hK9
            clear hK9 a0 a1 hD
            go_wp2_with fail
            go_roundw
            case rel => exact ⟨3, by decide, by first | rfl | go_num, by rw [u0.out]; exact hR9, by rw [u0.out]; exact hC9, hP0, hB, hS, hK0⟩
            case measure => simp [intOf]
      · as_aux_lemma =>
          skip
          have a0 : wr.cell? ⟨S, 6, none⟩ = some (.int .i64 8) := hs0 6
          have a1 : wr.cell? ⟨S, 7, none⟩ = some (.func (.func _) #[] #[.pointer (some ⟨K1, 0, none⟩), .pointer (some ⟨K2, 0, none⟩)]) := hs0 7
          clear hs0
          have hselk : selB B 3 = (bits .and .i64 B 8 != 0) := rfl
          have hD := Lib.hid (fun W o bd x h1 h2 hP hR hB hC => re_task P R C K1 K2 W o bd x h1 h2 hP hR hB hC n1 n2 n3)
          have u0 : readK B 4 H = if selB B 3 = true then readG 3 (readK B 3 H) else readK B 3 H := rfl
          generalize hO : readK B 3 H = O at *
          cases hq : selB B 3
          · rw [hq] at u0 hselk
            simp only [Bool.false_eq_true, if_false] at u0
            have hb0 : (bits .and .i64 B 8 == 0) = true := by simpa using hselk.symm
            have hb1 : (bits .and .i64 B 8 != 0) = false := hselk.symm
            have hb2 : bits .and .i64 B 8 = 0 := by simpa using hb0
            replace u0 := Lib.hid u0
            replace hselk := Lib.hid hselk
            replace hq := Lib.hid hq
            go_wp2_with fail
            go_roundw
            case rel => exact ⟨4, by decide, by first | rfl | go_num, by rw [u0.out]; exact Blk.alloc hR0 _, by rw [u0.out]; exact hC0.alloc _, hP0.alloc _, hB.kept (KeptRC.old (below_own (Below.refl _ wr) _)), hS.alloc _, hK0.trans (KeptRC.old (below_own (Below.refl _ wr) _))⟩
            case measure => simp [intOf]
          · rw [hq] at u0 hselk
            simp only [if_true] at u0
            have hb1 : (bits .and .i64 B 8 != 0) = true := hselk.symm
            have hb0 : (bits .and .i64 B 8 == 0) = false := by simpa using hb1
            replace u0 := Lib.hid u0
            replace hselk := Lib.hid hselk
            replace hq := Lib.hid hq
            go_wp2_with fail
            refine (hD.out _ o bd O (Nat.le_trans hfair.1 hHz.1) (hfair.2.trans hHz.2) (hP0.alloc _) (Blk.alloc hR0 _) (hB.kept (KeptRC.old (below_own (Below.refl _ wr) _))) (hC0.alloc _)).mono ?_
            rintro r w9 ⟨⟨v9, rfl⟩, hR9, hC9, hK9⟩; dsimp only
            replace hK9 := (KeptRC.old (R := R) (C := C) (below_own (Below.refl _ wr) _)).trans hK9
            replace hB := hB.kept hK9
            replace hP0 := hK9.2.2 _ _ _ n1 n2 hP0
            replace hS := hK9.2.2 _ _ _ hS1 hS2 hS
            replace hK0 := hK0.trans hK9
            clear hK9 a0 a1 hD
            go_wp2_with fail
            go_roundw
            case rel => exact ⟨4, by decide, by first | rfl | go_num, by rw [u0.out]; exact hR9, by rw [u0.out]; exact hC9, hP0, hB, hS, hK0⟩
            case measure => simp [intOf]
      · as_aux_lemma =>
          skip
          have a0 : wr.cell? ⟨S, 8, none⟩ = some (.int .i64 16) := hs0 8
          have a1 : wr.cell? ⟨S, 9, none⟩ = some (.func (.func _) #[] #[.pointer (some ⟨K1, 0, none⟩), .pointer (some ⟨K2, 0, none⟩)]) := hs0 9
          clear hs0
          have hselk : selB B 4 = (bits .and .i64 B 16 != 0) := rfl
          have hD := Lib.hid (fun W o bd x h1 h2 hP hR hB hC => re_n P R C K1 K2 W o bd x h1 h2 hP hR hB hC n1 n2 n3)
          have u0 : readK B 5 H = if selB B 4 = true then readG 4 (readK B 4 H) else readK B 4 H := rfl
          generalize hO : readK B 4 H = O at *
          cases hq : selB B 4
          · rw [hq] at u0 hselk
            simp only [Bool.false_eq_true, if_false] at u0
            have hb0 : (bits .and .i64 B 16 == 0) = true := by simpa using hselk.symm
            have hb1 : (bits .and .i64 B 16 != 0) = false := hselk.symm
            have hb2 : bits .and .i64 B 16 = 0 := by simpa using hb0
            replace u0 := Lib.hid u0
            replace hselk := Lib.hid hselk
            replace hq := Lib.hid hq
            go_wp2_with fail
            go_roundw
            case rel => exact ⟨5, by decide, by first | rfl | go_num, by rw [u0.out]; exact Blk.alloc hR0 _, by rw [u0.out]; exact hC0.alloc _, hP0.alloc _, hB.kept (KeptRC.old (below_own (Below.refl _ wr) _)), hS.alloc _, hK0.trans (KeptRC.old (below_own (Below.refl _ wr) _))⟩
            case measure => simp [intOf]
          · rw [hq] at u0 hselk
            simp only [if_true] at u0
            have hb1 : (bits .and .i64 B 16 != 0) = true := hselk.symm
            have hb0 : (bits .and .i64 B 16 == 0) = false := by simpa using hb1
            replace u0 := Lib.hid u0
            replace hselk := Lib.hid hselk
            replace hq := Lib.hid hq
            go_wp2_with fail
            refine (hD.out _ o bd O (Nat.le_trans hfair.1 hHz.1) (hfair.2.trans hHz.2) (hP0.alloc _) (Blk.alloc hR0 _) (hB.kept (KeptRC.old (below_own (Below.refl _ wr) _))) (hC0.alloc _)).mono ?_
            rintro r w9 ⟨⟨v9, rfl⟩, hR9, hC9, hK9⟩; dsimp only
            replace hK9 := (KeptRC.old (R := R) (C := C) (below_own (Below.refl _ wr) _)).trans hK9
            replace hB := hB.kept hK9
            replace hP0 := hK9.2.2 _ _ _ n1 n2 hP0
            replace hS := hK9.2.2 _ _ _ hS1 hS2 hS
            replace hK0 := hK0.trans hK9
            clear hK9 a0 a1 hD
            go_wp2_with fail
            go_roundw
            case rel => exact ⟨5, by decide, by first | rfl | go_num, by rw [u0.out]; exact hR9, by rw [u0.out]; exact hC9, hP0, hB, hS, hK0⟩
            case measure => simp [intOf]
      · as_aux_lemma =>
          skip
          have a0 : wr.cell? ⟨S, 10, none⟩ = some (.int .i64 32) := hs0 10
          have a1 : wr.cell? ⟨S, 11, none⟩ = some (.func (.func _) #[] #[.pointer (some ⟨K1, 0, none⟩), .pointer (some ⟨K2, 0, none⟩)]) := hs0 11
          clear hs0
          have hselk : selB B 5 = (bits .and .i64 B 32 != 0) := rfl
          have hD := Lib.hid (fun W o bd x h1 h2 hP hR hB hC => re_machine P R C K1 K2 W o bd x h1 h2 hP hR hB hC n1 n2 n3)
          have u0 : readK B 6 H = if selB B 5 = true then readG 5 (readK B 5 H) else readK B 5 H := rfl
          generalize hO : readK B 5 H = O at *
          cases hq : selB B 5
          · rw [hq] at u0 hselk
            simp only [Bool.false_eq_true, if_false] at u0
            have hb0 : (bits .and .i64 B 32 == 0) = true := by simpa using hselk.symm
            have hb1 : (bits .and .i64 B 32 != 0) = false := hselk.symm
            have hb2 : bits .and .i64 B 32 = 0 := by simpa using hb0
            replace u0 := Lib.hid u0
            replace hselk := Lib.hid hselk
            replace hq := Lib.hid hq
            go_wp2_with fail
            go_roundw
            case rel => exact ⟨6, by decide, by first | rfl | go_num, by rw [u0.out]; exact Blk.alloc hR0 _, by rw [u0.out]; exact hC0.alloc _, hP0.alloc _, hB.kept (KeptRC.old (below_own (Below.refl _ wr) _)), hS.alloc _, hK0.trans (KeptRC.old (below_own (Below.refl _ wr) _))⟩
            case measure => simp [intOf]
          · rw [hq] at u0 hselk
            simp only [if_true] at u0
            have hb1 : (bits .and .i64 B 32 != 0) = true := hselk.symm
            have hb0 : (bits .and .i64 B 32 == 0) = false := by simpa using hb1
            replace u0 := Lib.hid u0
            replace hselk := Lib.hid hselk
            replace hq := Lib.hid hq
            go_wp2_with fail
            refine (hD.out _ o bd O (Nat.le_trans hfair.1 hHz.1) (hfair.2.trans hHz.2) (hP0.alloc _) (Blk.alloc hR0 _) (hB.kept (KeptRC.old (below_own (Below.refl _ wr) _))) (hC0.alloc _)).mono ?_
            rintro r w9 ⟨⟨v9, rfl⟩, hR9, hC9, hK9⟩; dsimp only
            replace hK9 := (KeptRC.old (R := R) (C := C) (below_own (Below.refl _ wr) _)).trans hK9
            replace hB := hB.kept hK9
            replace hP0 := hK9.2.2 _ _ _ n1 n2 hP0
            replace hS := hK9.2.2 _ _ _ hS1 hS2 hS
            replace hK0 := hK0.trans hK9
            clear hK9 a0 a1 hD
            go_wp2_with fail
            go_roundw
            case rel => exact ⟨6, by decide, by first | rfl | go_num, by rw [u0.out]; exact hR9, by rw [u0.out]; exact hC9, hP0, hB, hS, hK0⟩
            case measure => simp [intOf]
      · as_aux_lemma =>
          skip
          have a0 : wr.cell? ⟨S, 12, none⟩ = some (.int .i64 64) := hs0 12
          have a1 : wr.cell? ⟨S, 13, none⟩ = some (.func (.func _) #[] #[.pointer (some ⟨K1, 0, none⟩), .pointer (some ⟨K2, 0, none⟩)]) := hs0 13
          clear hs0
          have hselk : selB B 6 = (bits .and .i64 B 64 != 0) := rfl
          have hD := Lib.hid (fun W o bd x h1 h2 hP hR hB hC => re_in P R C K1 K2 W o bd x h1 h2 hP hR hB hC n1 n2 n3)
          have u0 : readK B 7 H = if selB B 6 = true then readG 6 (readK B 6 H) else readK B 6 H := rfl
          generalize hO : readK B 6 H = O at *
          cases hq : selB B 6
          · rw [hq] at u0 hselk
            simp only [Bool.false_eq_true, if_false] at u0
            have hb0 : (bits .and .i64 B 64 == 0) = true := by simpa using hselk.symm
            have hb1 : (bits .and .i64 B 64 != 0) = false := hselk.symm
            have hb2 : bits .and .i64 B 64 = 0 := by simpa using hb0
            replace u0 := Lib.hid u0
            replace hselk := Lib.hid hselk
            replace hq := Lib.hid hq
            go_wp2_with fail
            go_roundw
            case rel => exact ⟨7, by decide, by first | rfl | go_num, by rw [u0.out]; exact Blk.alloc hR0 _, by rw [u0.out]; exact hC0.alloc _, hP0.alloc _, hB.kept (KeptRC.old (below_own (Below.refl _ wr) _)), hS.alloc _, hK0.trans (KeptRC.old (below_own (Below.refl _ wr) _))⟩
            case measure => simp [intOf]
          · rw [hq] at u0 hselk
            simp only [if_true] at u0
            have hb1 : (bits .and .i64 B 64 != 0) = true := hselk.symm
            have hb0 : (bits .and .i64 B 64 == 0) = false := by simpa using hb1
            replace u0 := Lib.hid u0
            replace hselk := Lib.hid hselk
            replace hq := Lib.hid hq
            go_wp2_with fail
            refine (hD.out _ o bd O (Nat.le_trans hfair.1 hHz.1) (hfair.2.trans hHz.2) (hP0.alloc _) (Blk.alloc hR0 _) (hB.kept (KeptRC.old (below_own (Below.refl _ wr) _))) (hC0.alloc _)).mono ?_
            rintro r w9 ⟨⟨v9, rfl⟩, hR9, hC9, hK9⟩; dsimp only
            replace hK9 := (KeptRC.old (R := R) (C := C) (below_own (Below.refl _ wr) _)).trans hK9
            replace hB := hB.kept hK9
            replace hP0 := hK9.2.2 _ _ _ n1 n2 hP0
            replace hS := hK9.2.2 _ _ _ hS1 hS2 hS
            replace hK0 := hK0.trans hK9
            clear hK9 a0 a1 hD
            go_wp2_with fail
            go_roundw
            case rel => exact ⟨7, by decide, by first | rfl | go_num, by rw [u0.out]; exact hR9, by rw [u0.out]; exact hC9, hP0, hB, hS, hK0⟩
            case measure => simp [intOf]
      · as_aux_lemma =>
          skip
          have a0 : wr.cell? ⟨S, 14, none⟩ = some (.int .i64 128) := hs0 14
          have a1 : wr.cell? ⟨S, 15, none⟩ = some (.func (.func _) #[] #[.pointer (some ⟨K1, 0, none⟩), .pointer (some ⟨K2, 0, none⟩)]) := hs0 15
          clear hs0
          have hselk : selB B 7 = (bits .and .i64 B 128 != 0) := rfl
          have hD := Lib.hid (fun W o bd x h1 h2 hP hR hB hC => re_gen P R C K1 K2 W o bd x h1 h2 hP hR hB hC n1 n2 n3)
          have u0 : readK B 8 H = if selB B 7 = true then readG 7 (readK B 7 H) else readK B 7 H := rfl
          generalize hO : readK B 7 H = O at *
          cases hq : selB B 7
          · rw [hq] at u0 hselk
            simp only [Bool.false_eq_true, if_false] at u0
            have hb0 : (bits .and .i64 B 128 == 0) = true := by simpa using hselk.symm
            have hb1 : (bits .and .i64 B 128 != 0) = false := hselk.symm
            have hb2 : bits .and .i64 B 128 = 0 := by simpa using hb0
            replace u0 := Lib.hid u0
            replace hselk := Lib.hid hselk
            replace hq := Lib.hid hq
            go_wp2_with fail
            go_roundw
            case rel => exact ⟨8, by decide, by first | rfl | go_num, by rw [u0.out]; exact Blk.alloc hR0 _, by rw [u0.out]; exact hC0.alloc _, hP0.alloc _, hB.kept (KeptRC.old (below_own (Below.refl _ wr) _)), hS.alloc _, hK0.trans (KeptRC.old (below_own (Below.refl _ wr) _))⟩
            case measure => simp [intOf]
          · rw [hq] at u0 hselk
            simp only [if_true] at u0
            have hb1 : (bits .and .i64 B 128 != 0) = true := hselk.symm
            have hb0 : (bits .and .i64 B 128 == 0) = false := by simpa using hb1
            replace u0 := Lib.hid u0
            replace hselk := Lib.hid hselk
            replace hq := Lib.hid hq
            go_wp2_with fail
            refine (hD.out _ o bd O (Nat.le_trans hfair.1 hHz.1) (hfair.2.trans hHz.2) (hP0.alloc _) (Blk.alloc hR0 _) (hB.kept (KeptRC.old (below_own (Below.refl _ wr) _))) (hC0.alloc _)).mono ?_
            rintro r w9 ⟨⟨v9, rfl⟩, hR9, hC9, hK9⟩; dsimp only
            replace hK9 := (KeptRC.old (R := R) (C := C) (below_own (Below.refl _ wr) _)).trans hK9
            replace hB := hB.kept hK9
            replace hP0 := hK9.2.2 _ _ _ n1 n2 hP0
            replace hS := hK9.2.2 _ _ _ hS1 hS2 hS
            replace hK0 := hK0.trans hK9
            clear hK9 a0 a1 hD
            go_wp2_with fail
            go_roundw
            case rel => exact ⟨8, by decide, by first | rfl | go_num, by rw [u0.out]; exact hR9, by rw [u0.out]; exact hC9, hP0, hB, hS, hK0⟩
            case measure => simp [intOf]
      · as_aux_lemma =>
          skip
          have a0 : wr.cell? ⟨S, 16, none⟩ = some (.int .i64 256) := hs0 16
          have a1 : wr.cell? ⟨S, 17, none⟩ = some (.func (.func _) #[] #[.pointer (some ⟨K1, 0, none⟩), .pointer (some ⟨K2, 0, none⟩)]) := hs0 17
          clear hs0
          have hselk : selB B 8 = (bits .and .i64 B 256 != 0) := rfl
          have hD := Lib.hid (fun W o bd x h1 h2 hP hR hB hC => re_why P R C K1 K2 W o bd x h1 h2 hP hR hB hC n1 n2 n3)
          have u0 : readK B 9 H = if selB B 8 = true then readG 8 (readK B 8 H) else readK B 8 H := rfl
          generalize hO : readK B 8 H = O at *
          cases hq : selB B 8
          · rw [hq] at u0 hselk
            simp only [Bool.false_eq_true, if_false] at u0
            have hb0 : (bits .and .i64 B 256 == 0) = true := by simpa using hselk.symm
            have hb1 : (bits .and .i64 B 256 != 0) = false := hselk.symm
            have hb2 : bits .and .i64 B 256 = 0 := by simpa using hb0
            replace u0 := Lib.hid u0
            replace hselk := Lib.hid hselk
            replace hq := Lib.hid hq
            go_wp2_with fail
            go_roundw
            case rel => exact ⟨9, by decide, by first | rfl | go_num, by rw [u0.out]; exact Blk.alloc hR0 _, by rw [u0.out]; exact hC0.alloc _, hP0.alloc _, hB.kept (KeptRC.old (below_own (Below.refl _ wr) _)), hS.alloc _, hK0.trans (KeptRC.old (below_own (Below.refl _ wr) _))⟩
            case measure => simp [intOf]
          · rw [hq] at u0 hselk
            simp only [if_true] at u0
            have hb1 : (bits .and .i64 B 256 != 0) = true := hselk.symm
            have hb0 : (bits .and .i64 B 256 == 0) = false := by simpa using hb1
            replace u0 := Lib.hid u0
            replace hselk := Lib.hid hselk
            replace hq := Lib.hid hq
            go_wp2_with fail
            refine (hD.out _ o bd O (Nat.le_trans hfair.1 hHz.1) (hfair.2.trans hHz.2) (hP0.alloc _) (Blk.alloc hR0 _) (hB.kept (KeptRC.old (below_own (Below.refl _ wr) _))) (hC0.alloc _)).mono ?_
            rintro r w9 ⟨⟨v9, rfl⟩, hR9, hC9, hK9⟩; dsimp only
            replace hK9 := (KeptRC.old (R := R) (C := C) (below_own (Below.refl _ wr) _)).trans hK9
            replace hB := hB.kept hK9
            replace hP0 := hK9.2.2 _ _ _ n1 n2 hP0
            replace hS := hK9.2.2 _ _ _ hS1 hS2 hS
            replace hK0 := hK0.trans hK9
            clear hK9 a0 a1 hD
            go_wp2_with fail
            go_roundw
            case rel => exact ⟨9, by decide, by first | rfl | go_num, by rw [u0.out]; exact hR9, by rw [u0.out]; exact hC9, hP0, hB, hS, hK0⟩
            case measure => simp [intOf]
      · as_aux_lemma =>
          skip
          have a0 : wr.cell? ⟨S, 18, none⟩ = some (.int .i64 512) := hs0 18
          have a1 : wr.cell? ⟨S, 19, none⟩ = some (.func (.func _) #[] #[.pointer (some ⟨K1, 0, none⟩), .pointer (some ⟨K2, 0, none⟩)]) := hs0 19
          clear hs0
          have hselk : selB B 9 = (bits .and .i64 B 512 != 0) := rfl
          have hD := Lib.hid (fun W o bd x h1 h2 hP hR hB hC => re_vec P R C K1 K2 W o bd x h1 h2 hP hR hB hC n1 n2 n3)
          have u0 : readK B 10 H = if selB B 9 = true then readG 9 (readK B 9 H) else readK B 9 H := rfl
          generalize hO : readK B 9 H = O at *
          cases hq : selB B 9
          · rw [hq] at u0 hselk
            simp only [Bool.false_eq_true, if_false] at u0
            have hb0 : (bits .and .i64 B 512 == 0) = true := by simpa using hselk.symm
            have hb1 : (bits .and .i64 B 512 != 0) = false := hselk.symm
            have hb2 : bits .and .i64 B 512 = 0 := by simpa using hb0
            replace u0 := Lib.hid u0
            replace hselk := Lib.hid hselk
            replace hq := Lib.hid hq
            go_wp2_with fail
            go_roundw
            case rel => exact ⟨10, by decide, by first | rfl | go_num, by rw [u0.out]; exact Blk.alloc hR0 _, by rw [u0.out]; exact hC0.alloc _, hP0.alloc _, hB.kept (KeptRC.old (below_own (Below.refl _ wr) _)), hS.alloc _, hK0.trans (KeptRC.old (below_own (Below.refl _ wr) _))⟩
            case measure => simp [intOf]
          · rw [hq] at u0 hselk
            simp only [if_true] at u0
            have hb1 : (bits .and .i64 B 512 != 0) = true := hselk.symm
            have hb0 : (bits .and .i64 B 512 == 0) = false := by simpa using hb1
            replace u0 := Lib.hid u0
            replace hselk := Lib.hid hselk
            replace hq := Lib.hid hq
            go_wp2_with fail
            refine (hD.out _ o bd O (Nat.le_trans hfair.1 hHz.1) (hfair.2.trans hHz.2) (hP0.alloc _) (Blk.alloc hR0 _) (hB.kept (KeptRC.old (below_own (Below.refl _ wr) _))) (hC0.alloc _)).mono ?_
            rintro r w9 ⟨⟨v9, rfl⟩, hR9, hC9, hK9⟩; dsimp only
            replace hK9 := (KeptRC.old (R := R) (C := C) (below_own (Below.refl _ wr) _)).trans hK9
            replace hB := hB.kept hK9
            replace hP0 := hK9.2.2 _ _ _ n1 n2 hP0
            replace hS := hK9.2.2 _ _ _ hS1 hS2 hS
            replace hK0 := hK0.trans hK9
            clear hK9 a0 a1 hD
            go_wp2_with fail
            go_roundw
            case rel => exact ⟨10, by decide, by first | rfl | go_num, by rw [u0.out]; exact hR9, by rw [u0.out]; exact hC9, hP0, hB, hS, hK0⟩
            case measure => simp [intOf]
      · as_aux_lemma =>
          skip
          have a0 : wr.cell? ⟨S, 20, none⟩ = some (.int .i64 1024) := hs0 20
          have a1 : wr.cell? ⟨S, 21, none⟩ = some (.func (.func _) #[] #[.pointer (some ⟨K1, 0, none⟩), .pointer (some ⟨K2, 0, none⟩)]) := hs0 21
          clear hs0
          have hselk : selB B 10 = (bits .and .i64 B 1024 != 0) := rfl
          have hD := Lib.hid (fun W o bd x h1 h2 hP hR hB hC => re_job P R C K1 K2 W o bd x h1 h2 hP hR hB hC n1 n2 n3)
          have u0 : readK B 11 H = if selB B 10 = true then readG 10 (readK B 10 H) else readK B 10 H := rfl
          generalize hO : readK B 10 H = O at *
          cases hq : selB B 10
          · rw [hq] at u0 hselk
            simp only [Bool.false_eq_true, if_false] at u0
            have hb0 : (bits .and .i64 B 1024 == 0) = true := by simpa using hselk.symm
            have hb1 : (bits .and .i64 B 1024 != 0) = false := hselk.symm
            have hb2 : bits .and .i64 B 1024 = 0 := by simpa using hb0
            replace u0 := Lib.hid u0
            replace hselk := Lib.hid hselk
            replace hq := Lib.hid hq
            go_wp2_with fail
            go_roundw
            case rel => exact ⟨11, by decide, by first | rfl | go_num, by rw [u0.out]; exact Blk.alloc hR0 _, by rw [u0.out]; exact hC0.alloc _, hP0.alloc _, hB.kept (KeptRC.old (below_own (Below.refl _ wr) _)), hS.alloc _, hK0.trans (KeptRC.old (below_own (Below.refl _ wr) _))⟩
            case measure => simp [intOf]
          · rw [hq] at u0 hselk
            simp only [if_true] at u0
            have hb1 : (bits .and .i64 B 1024 != 0) = true := hselk.symm
            have hb0 : (bits .and .i64 B 1024 == 0) = false := by simpa using hb1
            replace u0 := Lib.hid u0
            replace hselk := Lib.hid hselk
            replace hq := Lib.hid hq
            go_wp2_with fail
            refine (hD.out _ o bd O (Nat.le_trans hfair.1 hHz.1) (hfair.2.trans hHz.2) (hP0.alloc _) (Blk.alloc hR0 _) (hB.kept (KeptRC.old (below_own (Below.refl _ wr) _))) (hC0.alloc _)).mono ?_
            rintro r w9 ⟨⟨v9, rfl⟩, hR9, hC9, hK9⟩; dsimp only
            replace hK9 := (KeptRC.old (R := R) (C := C) (below_own (Below.refl _ wr) _)).trans hK9
            replace hB := hB.kept hK9
            replace hP0 := hK9.2.2 _ _ _ n1 n2 hP0
            replace hS := hK9.2.2 _ _ _ hS1 hS2 hS
            replace hK0 := hK0.trans hK9
            clear hK9 a0 a1 hD
            go_wp2_with fail
            go_roundw
            case rel => exact ⟨11, by decide, by first | rfl | go_num, by rw [u0.out]; exact hR9, by rw [u0.out]; exact hC9, hP0, hB, hS, hK0⟩
            case measure => simp [intOf]
      · as_aux_lemma =>
          skip
          have a0 : wr.cell? ⟨S, 22, none⟩ = some (.int .i64 2048) := hs0 22
          have a1 : wr.cell? ⟨S, 23, none⟩ = some (.func (.func _) #[] #[.pointer (some ⟨K1, 0, none⟩), .pointer (some ⟨K2, 0, none⟩)]) := hs0 23
          clear hs0
          have hselk : selB B 11 = (bits .and .i64 B 2048 != 0) := rfl
          have hD := Lib.hid (fun W o bd x h1 h2 hP hR hB hC => re_alloc P R C K1 K2 W o bd x h1 h2 hP hR hB hC n1 n2 n3)
          have u0 : readK B 12 H = if selB B 11 = true then readG 11 (readK B 11 H) else readK B 11 H := rfl
          generalize hO : readK B 11 H = O at *
          cases hq : selB B 11
          · rw [hq] at u0 hselk
            simp only [Bool.false_eq_true, if_false] at u0
            have hb0 : (bits .and .i64 B 2048 == 0) = true := by simpa using hselk.symm
            have hb1 : (bits .and .i64 B 2048 != 0) = false := hselk.symm
            have hb2 : bits .and .i64 B 2048 = 0 := by simpa using hb0
            replace u0 := Lib.hid u0
            replace hselk := Lib.hid hselk
            replace hq := Lib.hid hq
            go_wp2_with fail
            go_roundw
            case rel => exact ⟨12, by decide, by first | rfl | go_num, by rw [u0.out]; exact Blk.alloc hR0 _, by rw [u0.out]; exact hC0.alloc _, hP0.alloc _, hB.kept (KeptRC.old (below_own (Below.refl _ wr) _)), hS.alloc _, hK0.trans (KeptRC.old (below_own (Below.refl _ wr) _))⟩
            case measure => simp [intOf]
          · rw [hq] at u0 hselk
            simp only [if_true] at u0
            have hb1 : (bits .and .i64 B 2048 != 0) = true := hselk.symm
            have hb0 : (bits .and .i64 B 2048 == 0) = false := by simpa using hb1
            replace u0 := Lib.hid u0
            replace hselk := Lib.hid hselk
            replace hq := Lib.hid hq
            go_wp2_with fail
            refine (hD.out _ o bd O (Nat.le_trans hfair.1 hHz.1) (hfair.2.trans hHz.2) (hP0.alloc _) (Blk.alloc hR0 _) (hB.kept (KeptRC.old (below_own (Below.refl _ wr) _))) (hC0.alloc _)).mono ?_
            rintro r w9 ⟨⟨v9, rfl⟩, hR9, hC9, hK9⟩; dsimp only
            replace hK9 := (KeptRC.old (R := R) (C := C) (below_own (Below.refl _ wr) _)).trans hK9
            replace hB := hB.kept hK9
            replace hP0 := hK9.2.2 _ _ _ n1 n2 hP0
            replace hS := hK9.2.2 _ _ _ hS1 hS2 hS
            replace hK0 := hK0.trans hK9
            clear hK9 a0 a1 hD
            go_wp2_with fail
            go_roundw
            case rel => exact ⟨12, by decide, by first | rfl | go_num, by rw [u0.out]; exact hR9, by rw [u0.out]; exact hC9, hP0, hB, hS, hK0⟩
            case measure => simp [intOf]
      · as_aux_lemma =>
          skip
          have a0 : wr.cell? ⟨S, 24, none⟩ = some (.int .i64 4096) := hs0 24
          have a1 : wr.cell? ⟨S, 25, none⟩ = some (.func (.func _) #[] #[.pointer (some ⟨K1, 0, none⟩), .pointer (some ⟨K2, 0, none⟩)]) := hs0 25
          clear hs0
          have hselk : selB B 12 = (bits .and .i64 B 4096 != 0) := rfl
          have hD := Lib.hid (fun W o bd x h1 h2 hP hR hB hC => re_tick P R C K1 K2 W o bd x h1 h2 hP hR hB hC n1 n2 n3)
          have u0 : readK B 13 H = if selB B 12 = true then readG 12 (readK B 12 H) else readK B 12 H := rfl
          generalize hO : readK B 12 H = O at *
          cases hq : selB B 12
          · rw [hq] at u0 hselk
            simp only [Bool.false_eq_true, if_false] at u0
            have hb0 : (bits .and .i64 B 4096 == 0) = true := by simpa using hselk.symm
            have hb1 : (bits .and .i64 B 4096 != 0) = false := hselk.symm
            have hb2 : bits .and .i64 B 4096 = 0 := by simpa using hb0
            replace u0 := Lib.hid u0
            replace hselk := Lib.hid hselk
            replace hq := Lib.hid hq
            go_wp2_with fail
            go_roundw
            case rel => exact ⟨13, by decide, by first | rfl | go_num, by rw [u0.out]; exact Blk.alloc hR0 _, by rw [u0.out]; exact hC0.alloc _, hP0.alloc _, hB.kept (KeptRC.old (below_own (Below.refl _ wr) _)), hS.alloc _, hK0.trans (KeptRC.old (below_own (Below.refl _ wr) _))⟩
            case measure => simp [intOf]
          · rw [hq] at u0 hselk
            simp only [if_true] at u0
            have hb1 : (bits .and .i64 B 4096 != 0) = true := hselk.symm
            have hb0 : (bits .and .i64 B 4096 == 0) = false := by simpa using hb1
            replace u0 := Lib.hid u0
            replace hselk := Lib.hid hselk
            replace hq := Lib.hid hq
            go_wp2_with fail
            refine (hD.out _ o bd O (Nat.le_trans hfair.1 hHz.1) (hfair.2.trans hHz.2) (hP0.alloc _) (Blk.alloc hR0 _) (hB.kept (KeptRC.old (below_own (Below.refl _ wr) _))) (hC0.alloc _)).mono ?_
            rintro r w9 ⟨⟨v9, rfl⟩, hR9, hC9, hK9⟩; dsimp only
            replace hK9 := (KeptRC.old (R := R) (C := C) (below_own (Below.refl _ wr) _)).trans hK9
            replace hB := hB.kept hK9
            replace hP0 := hK9.2.2 _ _ _ n1 n2 hP0
            replace hS := hK9.2.2 _ _ _ hS1 hS2 hS
            replace hK0 := hK0.trans hK9
            clear hK9 a0 a1 hD
            go_wp2_with fail
            go_roundw
            case rel => exact ⟨13, by decide, by first | rfl | go_num, by rw [u0.out]; exact hR9, by rw [u0.out]; exact hC9, hP0, hB, hS, hK0⟩
            case measure => simp [intOf]
      · go_wp2_with fail
        go_end0
        rw [hZ.out]
        exact ⟨⟨_, rfl⟩, hR0, hC0, hK0⟩
  · rw [hcb] at hZ
    simp only [if_true] at hZ
    clear hcb
    go_wp2_with fail
    have hg1 := Lib.hid (fairG y 1)
    refine wp_region_held0 (S := fun w' => w'.cell? ⟨K1, 0, none⟩ = some (.pointer (some ⟨P, 0, none⟩)) ∧ w'.cell? ⟨K2, 0, none⟩ = some (.pointer (some ⟨C, 0, none⟩))) (by kernel_rfl) ⟨hB.k1.cell 0, hB.k2.cell 0⟩ (fun hHeld => ?_)
    refine wpAnyH_take (i := 0) (v := ?_) rfl (by kernel_rfl) (by kernel_rfl) (by kernel_rfl) (fun _ _ _ h => h) (Or.inl ⟨by rfl, ?hy⟩) hHeld ?_
    case hy =>
      intro w hSw
      (try dsimp only at hSw)
      go_simp
      (try with_reducible rfl)
    try simp only [Act.put, List.getElem_toArray, List.getElem_cons_zero, List.setIfInBounds_toArray, List.set_cons_zero, List.set_cons_succ]
    refine wpAnyH_take (i := 1) (v := ?_) rfl (by kernel_rfl) (by kernel_rfl) (by kernel_rfl) (fun _ _ _ h => h) (Or.inl ⟨by rfl, ?hy⟩) hHeld ?_
    case hy =>
      intro w hSw
      (try dsimp only at hSw)
      go_simp
      (try with_reducible rfl)
    try simp only [Act.put, List.getElem_toArray, List.getElem_cons_succ, List.getElem_cons_zero, List.setIfInBounds_toArray, List.set_cons_zero, List.set_cons_succ]
    refine wpAnyH_take (i := 2) (v := ?_) rfl (by kernel_rfl) (by kernel_rfl) (by kernel_rfl) (fun _ _ _ h => h) (Or.inl ⟨by rfl, ?hy⟩) hHeld ?_
    case hy =>
      intro w hSw
      (try dsimp only at hSw)
      go_simp
      (try with_reducible rfl)
    try simp only [Act.put, List.getElem_toArray, List.getElem_cons_succ, List.getElem_cons_zero, List.setIfInBounds_toArray, List.set_cons_zero, List.set_cons_succ]
    refine wpAnyH_take (i := 3) (v := ?_) rfl (by kernel_rfl) (by kernel_rfl) (by kernel_rfl) (fun _ _ _ h => h) (Or.inl ⟨by rfl, ?hy⟩) hHeld ?_
    case hy =>
      intro w hSw
      (try dsimp only at hSw)
      go_simp
      (try with_reducible rfl)
    try simp only [Act.put, List.getElem_toArray, List.getElem_cons_succ, List.getElem_cons_zero, List.setIfInBounds_toArray, List.set_cons_zero, List.set_cons_succ]
    refine wpAnyH_ready (rs := [4]) (by kernel_rfl) (by simp) ?_
    refine AllReadyH.cons rfl (fun K hK => ?_) AllReadyH.nil
    have hOld := hHeld
    clear hHeld
    go_simp
    refine (cr_great P R C 1 o bd y.1 y.2.1 hyz.1 W1.drew hP0.drew (Blk.drew hR0) _ y.2.2 hC0.drew (by omega) n1 n2 n3).mono ?_
    rintro r W2 ⟨⟨v, rfl⟩, hR1, hC1, hK1⟩; dsimp only
    replace hK1 := (KeptRC.old (R := R) (C := C) (Below.refl _ W1).drew).trans hK1
    replace hB := hB.kept hK1
    replace hP0 := hK1.2.2 _ _ _ n1 n2 hP0
    replace hK0 := hK0.trans hK1
    clear hR0 hC0 hK1
    have hR0 : Rd W2 R (stepG y 1).1 (stepG y 1).2.1 := hR1
    have hC0 : Blk W2 C 64 (stepG y 1).2.2 := hC1
    clear hR1 hC1
    refine hK.out _ _ (⟨hB.k1.cell 0, hB.k2.cell 0⟩) (fun hHeld => ?_)
    clear hK K hOld
    try simp only [Act.put, List.getElem_toArray, List.getElem_cons_succ, List.getElem_cons_zero, List.setIfInBounds_toArray, List.set_cons_zero, List.set_cons_succ]
    refine wpAnyH_done (by kernel_rfl) ?_ _
    simp only [Exit.then]
    go_wp2_with fail
    have hg2 := Lib.hid (fairG (stepG y 1) 2)
    refine wp_region_held0 (S := fun w' => w'.cell? ⟨K1, 0, none⟩ = some (.pointer (some ⟨P, 0, none⟩)) ∧ w'.cell? ⟨K2, 0, none⟩ = some (.pointer (some ⟨C, 0, none⟩))) (by kernel_rfl) ⟨hB.k1.cell 0, hB.k2.cell 0⟩ (fun hHeld => ?_)
    refine wpAnyH_take (i := 0) (v := ?_) rfl (by kernel_rfl) (by kernel_rfl) (by kernel_rfl) (fun _ _ _ h => h) (Or.inl ⟨by rfl, ?hy⟩) hHeld ?_
    case hy =>
      intro w hSw
      (try dsimp only at hSw)
      go_simp
      (try with_reducible rfl)
    try simp only [Act.put, List.getElem_toArray, List.getElem_cons_zero, List.setIfInBounds_toArray, List.set_cons_zero, List.set_cons_succ]
    refine wpAnyH_take (i := 1) (v := ?_) rfl (by kernel_rfl) (by kernel_rfl) (by kernel_rfl) (fun _ _ _ h => h) (Or.inl ⟨by rfl, ?hy⟩) hHeld ?_
    case hy =>
      intro w hSw
      (try dsimp only at hSw)
      go_simp
      (try with_reducible rfl)
    try simp only [Act.put, List.getElem_toArray, List.getElem_cons_succ, List.getElem_cons_zero, List.setIfInBounds_toArray, List.set_cons_zero, List.set_cons_succ]
    refine wpAnyH_take (i := 2) (v := ?_) rfl (by kernel_rfl) (by kernel_rfl) (by kernel_rfl) (fun _ _ _ h => h) (Or.inl ⟨by rfl, ?hy⟩) hHeld ?_
    case hy =>
      intro w hSw
      (try dsimp only at hSw)
      go_simp
      (try with_reducible rfl)
    try simp only [Act.put, List.getElem_toArray, List.getElem_cons_succ, List.getElem_cons_zero, List.setIfInBounds_toArray, List.set_cons_zero, List.set_cons_succ]
    refine wpAnyH_take (i := 3) (v := ?_) rfl (by kernel_rfl) (by kernel_rfl) (by kernel_rfl) (fun _ _ _ h => h) (Or.inl ⟨by rfl, ?hy⟩) hHeld ?_
    case hy =>
      intro w hSw
      (try dsimp only at hSw)
      go_simp
      (try with_reducible rfl)
    try simp only [Act.put, List.getElem_toArray, List.getElem_cons_succ, List.getElem_cons_zero, List.setIfInBounds_toArray, List.set_cons_zero, List.set_cons_succ]
    refine wpAnyH_ready (rs := [4]) (by kernel_rfl) (by simp) ?_
    refine AllReadyH.cons rfl (fun K hK => ?_) AllReadyH.nil
    have hOld := hHeld
    clear hHeld
    go_simp
    refine (cr_great P R C 2 o bd (stepG y 1).1 (stepG y 1).2.1 (Nat.le_trans hg1.out.1 hyz.1) W2.drew hP0.drew (Blk.drew hR0) _ (stepG y 1).2.2 hC0.drew (by rw [hg1.out.2]; omega) n1 n2 n3).mono ?_
    rintro r W3 ⟨⟨v, rfl⟩, hR1, hC1, hK1⟩; dsimp only
    replace hK1 := (KeptRC.old (R := R) (C := C) (Below.refl _ W2).drew).trans hK1
    replace hB := hB.kept hK1
    replace hP0 := hK1.2.2 _ _ _ n1 n2 hP0
    replace hK0 := hK0.trans hK1
    clear hR0 hC0 hK1
    have hR0 : Rd W3 R (stepG (stepG y 1) 2).1 (stepG (stepG y 1) 2).2.1 := hR1
    have hC0 : Blk W3 C 64 (stepG (stepG y 1) 2).2.2 := hC1
    clear hR1 hC1
    refine hK.out _ _ (⟨hB.k1.cell 0, hB.k2.cell 0⟩) (fun hHeld => ?_)
    clear hK K hOld
    try simp only [Act.put, List.getElem_toArray, List.getElem_cons_succ, List.getElem_cons_zero, List.setIfInBounds_toArray, List.set_cons_zero, List.set_cons_succ]
    refine wpAnyH_done (by kernel_rfl) ?_ _
    simp only [Exit.then]
    obtain ⟨H, hH⟩ : ∃ H : St, H = stepG (stepG y 1) 2 := ⟨_, rfl⟩
    have hHz : H.1.size ≤ 140737488351232 ∧ H.2.2.size = 33 := by rw [hH]; exact ⟨Nat.le_trans hg2.out.1 (Nat.le_trans hg1.out.1 hyz.1), hg2.out.2.trans (hg1.out.2.trans hyz.2)⟩
    have hH0 := stepG0 y _ hcell
    rw [← hH] at hZ hR0 hC0 hH0
    clear hH hg1 hg2 hyz hcell
    replace hkind := hkind.1
    replace hZ := Lib.hid hZ
    have b1 := hB.k2.cell 0
    have c0 := blk_cell hC0 hH0
    go_wp2_with fail
    refine wp_region_held0 (S := fun w' => w'.cell? ⟨K2, 0, none⟩ = some (.pointer (some ⟨C, 0, none⟩)) ∧ w'.cell? ⟨C, 0, none⟩ = some (.int .u8 kind)) (by kernel_rfl) ⟨b1, c0⟩ (fun hHeld => ?_)
    refine wpAnyH_take (i := 1) (v := ?_) rfl (by kernel_rfl) (by kernel_rfl) (by kernel_rfl) (fun _ _ _ h => h) (Or.inl ⟨by rfl, ?hy⟩) hHeld ?_
    case hy =>
      intro w hSw
      (try dsimp only at hSw)
      go_simp
      (try with_reducible rfl)
    try simp only [Act.put, List.getElem_toArray, List.getElem_cons_succ, List.getElem_cons_zero, List.setIfInBounds_toArray, List.set_cons_zero, List.set_cons_succ]
    refine wpAnyH_take (i := 2) (v := ?_) rfl (by kernel_rfl) (by kernel_rfl) (by kernel_rfl) (fun _ _ _ h => h) (Or.inl ⟨by rfl, ?hy⟩) hHeld ?_
    case hy =>
      intro w hSw
      (try dsimp only at hSw)
      go_simp
      (try with_reducible rfl)
    try simp only [Act.put, List.getElem_toArray, List.getElem_cons_succ, List.getElem_cons_zero, List.setIfInBounds_toArray, List.set_cons_zero, List.set_cons_succ]
    refine wpAnyH_take (i := 3) (v := ?_) rfl (by kernel_rfl) (by kernel_rfl) (by kernel_rfl) (fun _ _ _ h => h) (Or.inl ⟨by rfl, ?hy⟩) hHeld ?_
    case hy =>
      intro w hSw
      (try dsimp only at hSw)
      go_simp
      (try with_reducible rfl)
    try simp only [Act.put, List.getElem_toArray, List.getElem_cons_succ, List.getElem_cons_zero, List.setIfInBounds_toArray, List.set_cons_zero, List.set_cons_succ]
    refine wpAnyH_take (i := 4) (v := ?_) rfl (by kernel_rfl) (by kernel_rfl) (by kernel_rfl) (fun _ _ _ h => h) (Or.inl ⟨by rfl, ?hy⟩) hHeld ?_
    case hy =>
      intro w hSw
      (try dsimp only at hSw)
      go_simp
      (try with_reducible rfl)
    try simp only [Act.put, List.getElem_toArray, List.getElem_cons_succ, List.getElem_cons_zero, List.setIfInBounds_toArray, List.set_cons_zero, List.set_cons_succ]
    refine wpAnyH_ready (rs := [0]) (by kernel_rfl) (by simp) ?_
    refine AllReadyH.cons rfl (fun K hK => ?_) AllReadyH.nil
    have hOld := hHeld
    clear hHeld
    go_simp
    refine (cmd_has _).mono ?_
    rintro r w6 ⟨rfl, rfl⟩
    dsimp only
    have hlk := run_look8 (W := W3.drew.alloc (.map hasM 15)) (m := W3.heap.size) (c := 15) hkind (heap_alloc_new W3.drew _) false
    rw [← hBk.out] at hlk
    have hko := KeptRC.old (R := R) (C := C) (below_own (Below.refl _ W3).drew (.map hasM 15))
    replace hB := hB.kept hko
    replace hP0 := hP0.drew.alloc (.map hasM 15)
    replace hR0 := (Blk.drew hR0).alloc (.map hasM 15)
    replace hC0 := hC0.drew.alloc (.map hasM 15)
    replace hK0 := hK0.trans hko
    clear hko
    refine hK.out _ _ (⟨hB.k2.cell 0, blk_cell hC0 hH0⟩) (fun hHeld => ?_)
    clear hK K hOld
    try simp only [Act.put, List.getElem_toArray, List.getElem_cons_succ, List.getElem_cons_zero, List.setIfInBounds_toArray, List.set_cons_zero, List.set_cons_succ]
    generalize W3.drew.alloc (.map hasM 15) = w6 at *
    refine wpAnyH_ready (rs := [5]) (by kernel_rfl) (by simp) ?_
    refine AllReadyH.cons rfl (fun K hK => ?_) AllReadyH.nil
    have hOld := hHeld
    clear hHeld
    go_simp
    refine hK.out _ _ (⟨hB.k2.cell 0, blk_cell hC0 hH0⟩) (fun hHeld => ?_)
    clear hK K hOld
    try simp only [Act.put, List.getElem_toArray, List.getElem_cons_succ, List.getElem_cons_zero, List.setIfInBounds_toArray, List.set_cons_zero, List.set_cons_succ]
    refine wpAnyH_take (i := 6) (v := ?_) rfl (by kernel_rfl) (by kernel_rfl) (by kernel_rfl) (fun _ _ _ h => h) (Or.inl ⟨by rfl, ?hy⟩) hHeld ?_
    case hy =>
      intro w hSw
      (try dsimp only at hSw)
      go_simp
      (try with_reducible rfl)
    try simp only [Act.put, List.getElem_toArray, List.getElem_cons_succ, List.getElem_cons_zero, List.setIfInBounds_toArray, List.set_cons_zero, List.set_cons_succ]
    refine wpAnyH_done (by kernel_rfl) ?_ _
    simp only [Exit.then]
    clear hHeld hlk b1 c0 hkind
    have hS := Blk.new w6 125 #[.int .i64 1, .func (.func 73) #[] #[.pointer (some ⟨K1, 0, none⟩), .pointer (some ⟨K2, 0, none⟩)], .int .i64 2, .func (.func 75) #[] #[.pointer (some ⟨K1, 0, none⟩), .pointer (some ⟨K2, 0, none⟩)], .int .i64 4, .func (.func 76) #[] #[.pointer (some ⟨K1, 0, none⟩), .pointer (some ⟨K2, 0, none⟩)], .int .i64 8, .func (.func 77) #[] #[.pointer (some ⟨K1, 0, none⟩), .pointer (some ⟨K2, 0, none⟩)], .int .i64 16, .func (.func 79) #[] #[.pointer (some ⟨K1, 0, none⟩), .pointer (some ⟨K2, 0, none⟩)], .int .i64 32, .func (.func 81) #[] #[.pointer (some ⟨K1, 0, none⟩), .pointer (some ⟨K2, 0, none⟩)], .int .i64 64, .func (.func 82) #[] #[.pointer (some ⟨K1, 0, none⟩), .pointer (some ⟨K2, 0, none⟩)], .int .i64 128, .func (.func 83) #[] #[.pointer (some ⟨K1, 0, none⟩), .pointer (some ⟨K2, 0, none⟩)], .int .i64 256, .func (.func 84) #[] #[.pointer (some ⟨K1, 0, none⟩), .pointer (some ⟨K2, 0, none⟩)], .int .i64 512, .func (.func 85) #[] #[.pointer (some ⟨K1, 0, none⟩), .pointer (some ⟨K2, 0, none⟩)], .int .i64 1024, .func (.func 87) #[] #[.pointer (some ⟨K1, 0, none⟩), .pointer (some ⟨K2, 0, none⟩)], .int .i64 2048, .func (.func 89) #[] #[.pointer (some ⟨K1, 0, none⟩), .pointer (some ⟨K2, 0, none⟩)], .int .i64 4096, .func (.func 91) #[] #[.pointer (some ⟨K1, 0, none⟩), .pointer (some ⟨K2, 0, none⟩)]]
    have hS1 : w6.heap.size ≠ R := by have := Blk.lt hR0; omega
    have hS2 : w6.heap.size ≠ C := by have := hC0.lt; omega
    have hko := KeptRC.old (R := R) (C := C) (below_own (Below.refl _ w6) (.cells #[.int .i64 1, .func (.func 73) #[] #[.pointer (some ⟨K1, 0, none⟩), .pointer (some ⟨K2, 0, none⟩)], .int .i64 2, .func (.func 75) #[] #[.pointer (some ⟨K1, 0, none⟩), .pointer (some ⟨K2, 0, none⟩)], .int .i64 4, .func (.func 76) #[] #[.pointer (some ⟨K1, 0, none⟩), .pointer (some ⟨K2, 0, none⟩)], .int .i64 8, .func (.func 77) #[] #[.pointer (some ⟨K1, 0, none⟩), .pointer (some ⟨K2, 0, none⟩)], .int .i64 16, .func (.func 79) #[] #[.pointer (some ⟨K1, 0, none⟩), .pointer (some ⟨K2, 0, none⟩)], .int .i64 32, .func (.func 81) #[] #[.pointer (some ⟨K1, 0, none⟩), .pointer (some ⟨K2, 0, none⟩)], .int .i64 64, .func (.func 82) #[] #[.pointer (some ⟨K1, 0, none⟩), .pointer (some ⟨K2, 0, none⟩)], .int .i64 128, .func (.func 83) #[] #[.pointer (some ⟨K1, 0, none⟩), .pointer (some ⟨K2, 0, none⟩)], .int .i64 256, .func (.func 84) #[] #[.pointer (some ⟨K1, 0, none⟩), .pointer (some ⟨K2, 0, none⟩)], .int .i64 512, .func (.func 85) #[] #[.pointer (some ⟨K1, 0, none⟩), .pointer (some ⟨K2, 0, none⟩)], .int .i64 1024, .func (.func 87) #[] #[.pointer (some ⟨K1, 0, none⟩), .pointer (some ⟨K2, 0, none⟩)], .int .i64 2048, .func (.func 89) #[] #[.pointer (some ⟨K1, 0, none⟩), .pointer (some ⟨K2, 0, none⟩)], .int .i64 4096, .func (.func 91) #[] #[.pointer (some ⟨K1, 0, none⟩), .pointer (some ⟨K2, 0, none⟩)]] 125))
    replace hB := hB.kept hko
    replace hP0 := hP0.alloc (.cells #[.int .i64 1, .func (.func 73) #[] #[.pointer (some ⟨K1, 0, none⟩), .pointer (some ⟨K2, 0, none⟩)], .int .i64 2, .func (.func 75) #[] #[.pointer (some ⟨K1, 0, none⟩), .pointer (some ⟨K2, 0, none⟩)], .int .i64 4, .func (.func 76) #[] #[.pointer (some ⟨K1, 0, none⟩), .pointer (some ⟨K2, 0, none⟩)], .int .i64 8, .func (.func 77) #[] #[.pointer (some ⟨K1, 0, none⟩), .pointer (some ⟨K2, 0, none⟩)], .int .i64 16, .func (.func 79) #[] #[.pointer (some ⟨K1, 0, none⟩), .pointer (some ⟨K2, 0, none⟩)], .int .i64 32, .func (.func 81) #[] #[.pointer (some ⟨K1, 0, none⟩), .pointer (some ⟨K2, 0, none⟩)], .int .i64 64, .func (.func 82) #[] #[.pointer (some ⟨K1, 0, none⟩), .pointer (some ⟨K2, 0, none⟩)], .int .i64 128, .func (.func 83) #[] #[.pointer (some ⟨K1, 0, none⟩), .pointer (some ⟨K2, 0, none⟩)], .int .i64 256, .func (.func 84) #[] #[.pointer (some ⟨K1, 0, none⟩), .pointer (some ⟨K2, 0, none⟩)], .int .i64 512, .func (.func 85) #[] #[.pointer (some ⟨K1, 0, none⟩), .pointer (some ⟨K2, 0, none⟩)], .int .i64 1024, .func (.func 87) #[] #[.pointer (some ⟨K1, 0, none⟩), .pointer (some ⟨K2, 0, none⟩)], .int .i64 2048, .func (.func 89) #[] #[.pointer (some ⟨K1, 0, none⟩), .pointer (some ⟨K2, 0, none⟩)], .int .i64 4096, .func (.func 91) #[] #[.pointer (some ⟨K1, 0, none⟩), .pointer (some ⟨K2, 0, none⟩)]] 125)
    replace hR0 := Blk.alloc hR0 (.cells #[.int .i64 1, .func (.func 73) #[] #[.pointer (some ⟨K1, 0, none⟩), .pointer (some ⟨K2, 0, none⟩)], .int .i64 2, .func (.func 75) #[] #[.pointer (some ⟨K1, 0, none⟩), .pointer (some ⟨K2, 0, none⟩)], .int .i64 4, .func (.func 76) #[] #[.pointer (some ⟨K1, 0, none⟩), .pointer (some ⟨K2, 0, none⟩)], .int .i64 8, .func (.func 77) #[] #[.pointer (some ⟨K1, 0, none⟩), .pointer (some ⟨K2, 0, none⟩)], .int .i64 16, .func (.func 79) #[] #[.pointer (some ⟨K1, 0, none⟩), .pointer (some ⟨K2, 0, none⟩)], .int .i64 32, .func (.func 81) #[] #[.pointer (some ⟨K1, 0, none⟩), .pointer (some ⟨K2, 0, none⟩)], .int .i64 64, .func (.func 82) #[] #[.pointer (some ⟨K1, 0, none⟩), .pointer (some ⟨K2, 0, none⟩)], .int .i64 128, .func (.func 83) #[] #[.pointer (some ⟨K1, 0, none⟩), .pointer (some ⟨K2, 0, none⟩)], .int .i64 256, .func (.func 84) #[] #[.pointer (some ⟨K1, 0, none⟩), .pointer (some ⟨K2, 0, none⟩)], .int .i64 512, .func (.func 85) #[] #[.pointer (some ⟨K1, 0, none⟩), .pointer (some ⟨K2, 0, none⟩)], .int .i64 1024, .func (.func 87) #[] #[.pointer (some ⟨K1, 0, none⟩), .pointer (some ⟨K2, 0, none⟩)], .int .i64 2048, .func (.func 89) #[] #[.pointer (some ⟨K1, 0, none⟩), .pointer (some ⟨K2, 0, none⟩)], .int .i64 4096, .func (.func 91) #[] #[.pointer (some ⟨K1, 0, none⟩), .pointer (some ⟨K2, 0, none⟩)]] 125)
    replace hC0 := hC0.alloc (.cells #[.int .i64 1, .func (.func 73) #[] #[.pointer (some ⟨K1, 0, none⟩), .pointer (some ⟨K2, 0, none⟩)], .int .i64 2, .func (.func 75) #[] #[.pointer (some ⟨K1, 0, none⟩), .pointer (some ⟨K2, 0, none⟩)], .int .i64 4, .func (.func 76) #[] #[.pointer (some ⟨K1, 0, none⟩), .pointer (some ⟨K2, 0, none⟩)], .int .i64 8, .func (.func 77) #[] #[.pointer (some ⟨K1, 0, none⟩), .pointer (some ⟨K2, 0, none⟩)], .int .i64 16, .func (.func 79) #[] #[.pointer (some ⟨K1, 0, none⟩), .pointer (some ⟨K2, 0, none⟩)], .int .i64 32, .func (.func 81) #[] #[.pointer (some ⟨K1, 0, none⟩), .pointer (some ⟨K2, 0, none⟩)], .int .i64 64, .func (.func 82) #[] #[.pointer (some ⟨K1, 0, none⟩), .pointer (some ⟨K2, 0, none⟩)], .int .i64 128, .func (.func 83) #[] #[.pointer (some ⟨K1, 0, none⟩), .pointer (some ⟨K2, 0, none⟩)], .int .i64 256, .func (.func 84) #[] #[.pointer (some ⟨K1, 0, none⟩), .pointer (some ⟨K2, 0, none⟩)], .int .i64 512, .func (.func 85) #[] #[.pointer (some ⟨K1, 0, none⟩), .pointer (some ⟨K2, 0, none⟩)], .int .i64 1024, .func (.func 87) #[] #[.pointer (some ⟨K1, 0, none⟩), .pointer (some ⟨K2, 0, none⟩)], .int .i64 2048, .func (.func 89) #[] #[.pointer (some ⟨K1, 0, none⟩), .pointer (some ⟨K2, 0, none⟩)], .int .i64 4096, .func (.func 91) #[] #[.pointer (some ⟨K1, 0, none⟩), .pointer (some ⟨K2, 0, none⟩)]] 125)
    replace hK0 := hK0.trans hko
    clear hko
    go_wp2_with fail
    generalize w6.alloc (.cells #[.int .i64 1, .func (.func 73) #[] #[.pointer (some ⟨K1, 0, none⟩), .pointer (some ⟨K2, 0, none⟩)], .int .i64 2, .func (.func 75) #[] #[.pointer (some ⟨K1, 0, none⟩), .pointer (some ⟨K2, 0, none⟩)], .int .i64 4, .func (.func 76) #[] #[.pointer (some ⟨K1, 0, none⟩), .pointer (some ⟨K2, 0, none⟩)], .int .i64 8, .func (.func 77) #[] #[.pointer (some ⟨K1, 0, none⟩), .pointer (some ⟨K2, 0, none⟩)], .int .i64 16, .func (.func 79) #[] #[.pointer (some ⟨K1, 0, none⟩), .pointer (some ⟨K2, 0, none⟩)], .int .i64 32, .func (.func 81) #[] #[.pointer (some ⟨K1, 0, none⟩), .pointer (some ⟨K2, 0, none⟩)], .int .i64 64, .func (.func 82) #[] #[.pointer (some ⟨K1, 0, none⟩), .pointer (some ⟨K2, 0, none⟩)], .int .i64 128, .func (.func 83) #[] #[.pointer (some ⟨K1, 0, none⟩), .pointer (some ⟨K2, 0, none⟩)], .int .i64 256, .func (.func 84) #[] #[.pointer (some ⟨K1, 0, none⟩), .pointer (some ⟨K2, 0, none⟩)], .int .i64 512, .func (.func 85) #[] #[.pointer (some ⟨K1, 0, none⟩), .pointer (some ⟨K2, 0, none⟩)], .int .i64 1024, .func (.func 87) #[] #[.pointer (some ⟨K1, 0, none⟩), .pointer (some ⟨K2, 0, none⟩)], .int .i64 2048, .func (.func 89) #[] #[.pointer (some ⟨K1, 0, none⟩), .pointer (some ⟨K2, 0, none⟩)], .int .i64 4096, .func (.func 91) #[] #[.pointer (some ⟨K1, 0, none⟩), .pointer (some ⟨K2, 0, none⟩)]] 125) = w7 at *
    generalize w6.heap.size = S at *
    go_loopw [6, 61] (fun _ i wr => ∃ k : Nat, k ≤ 13 ∧ i = .int .i64 k ∧ Rd wr R (readK B k H).1 (readK B k H).2.1 ∧ Blk wr C 64 (readK B k H).2.2 ∧ Cr wr P R o bd ∧ RBox wr K1 K2 P R C ∧ Blk wr S 125 #[.int .i64 1, .func (.func 73) #[] #[.pointer (some ⟨K1, 0, none⟩), .pointer (some ⟨K2, 0, none⟩)], .int .i64 2, .func (.func 75) #[] #[.pointer (some ⟨K1, 0, none⟩), .pointer (some ⟨K2, 0, none⟩)], .int .i64 4, .func (.func 76) #[] #[.pointer (some ⟨K1, 0, none⟩), .pointer (some ⟨K2, 0, none⟩)], .int .i64 8, .func (.func 77) #[] #[.pointer (some ⟨K1, 0, none⟩), .pointer (some ⟨K2, 0, none⟩)], .int .i64 16, .func (.func 79) #[] #[.pointer (some ⟨K1, 0, none⟩), .pointer (some ⟨K2, 0, none⟩)], .int .i64 32, .func (.func 81) #[] #[.pointer (some ⟨K1, 0, none⟩), .pointer (some ⟨K2, 0, none⟩)], .int .i64 64, .func (.func 82) #[] #[.pointer (some ⟨K1, 0, none⟩), .pointer (some ⟨K2, 0, none⟩)], .int .i64 128, .func (.func 83) #[] #[.pointer (some ⟨K1, 0, none⟩), .pointer (some ⟨K2, 0, none⟩)], .int .i64 256, .func (.func 84) #[] #[.pointer (some ⟨K1, 0, none⟩), .pointer (some ⟨K2, 0, none⟩)], .int .i64 512, .func (.func 85) #[] #[.pointer (some ⟨K1, 0, none⟩), .pointer (some ⟨K2, 0, none⟩)], .int .i64 1024, .func (.func 87) #[] #[.pointer (some ⟨K1, 0, none⟩), .pointer (some ⟨K2, 0, none⟩)], .int .i64 2048, .func (.func 89) #[] #[.pointer (some ⟨K1, 0, none⟩), .pointer (some ⟨K2, 0, none⟩)], .int .i64 4096, .func (.func 91) #[] #[.pointer (some ⟨K1, 0, none⟩), .pointer (some ⟨K2, 0, none⟩)]] ∧ KeptRC R C w wr) (fun _ i _ => 13 - (intOf i).toNat)
    case atStart => exact ⟨0, by decide, rfl, hR0, hC0, hP0, hB, hS, hK0⟩
    case round =>
      clear hP0 hB hC0 hS hK0 hR0
      obtain ⟨k, hk13, rfl, hR0, hC0, hP0, hB, hS, hK0⟩ := hrel
      have hfair := fairK B H k
      have hs0 := fun i => hS.cell i
      have hlen : ∀ i : Nat, i < 26 → True := fun _ _ => trivial
      clear hlen
      rcases (show k = 0 ∨ k = 1 ∨ k = 2 ∨ k = 3 ∨ k = 4 ∨ k = 5 ∨ k = 6 ∨ k = 7 ∨ k = 8 ∨ k = 9 ∨ k = 10 ∨ k = 11 ∨ k = 12 ∨ k = 13 by omega) with rfl | rfl | rfl | rfl | rfl | rfl | rfl | rfl | rfl | rfl | rfl | rfl | rfl | rfl
      · as_aux_lemma =>
          skip
          have a0 : wr.cell? ⟨S, 0, none⟩ = some (.int .i64 1) := hs0 0
          have a1 : wr.cell? ⟨S, 1, none⟩ = some (.func (.func _) #[] #[.pointer (some ⟨K1, 0, none⟩), .pointer (some ⟨K2, 0, none⟩)]) := hs0 1
          clear hs0
          have hselk : selB B 0 = (bits .and .i64 B 1 != 0) := rfl
          have hD := Lib.hid (fun W o bd x h1 h2 hP hR hB hC => re_user P R C K1 K2 W o bd x h1 h2 hP hR hB hC n1 n2 n3)
          have u0 : readK B 1 H = if selB B 0 = true then readG 0 (readK B 0 H) else readK B 0 H := rfl
          generalize hO : readK B 0 H = O at *
          cases hq : selB B 0
          · rw [hq] at u0 hselk
            simp only [Bool.false_eq_true, if_false] at u0
            have hb0 : (bits .and .i64 B 1 == 0) = true := by simpa using hselk.symm
            have hb1 : (bits .and .i64 B 1 != 0) = false := hselk.symm
            have hb2 : bits .and .i64 B 1 = 0 := by simpa using hb0
            replace u0 := Lib.hid u0
            replace hselk := Lib.hid hselk
            replace hq := Lib.hid hq
            go_wp2_with fail
            go_roundw
            case rel => exact ⟨1, by decide, by first | rfl | go_num, by rw [u0.out]; exact Blk.alloc hR0 _, by rw [u0.out]; exact hC0.alloc _, hP0.alloc _, hB.kept (KeptRC.old (below_own (Below.refl _ wr) _)), hS.alloc _, hK0.trans (KeptRC.old (below_own (Below.refl _ wr) _))⟩
            case measure => simp [intOf]
          · rw [hq] at u0 hselk
            simp only [if_true] at u0
            have hb1 : (bits .and .i64 B 1 != 0) = true := hselk.symm
            have hb0 : (bits .and .i64 B 1 == 0) = false := by simpa using hb1
            replace u0 := Lib.hid u0
            replace hselk := Lib.hid hselk
            replace hq := Lib.hid hq
            go_wp2_with fail
            refine (hD.out _ o bd O (Nat.le_trans hfair.1 hHz.1) (hfair.2.trans hHz.2) (hP0.alloc _) (Blk.alloc hR0 _) (hB.kept (KeptRC.old (below_own (Below.refl _ wr) _))) (hC0.alloc _)).mono ?_
            rintro r w9 ⟨⟨v9, rfl⟩, hR9, hC9, hK9⟩; dsimp only
            replace hK9 := (KeptRC.old (R := R) (C := C) (below_own (Below.refl _ wr) _)).trans hK9
            replace hB := hB.kept hK9
            replace hP0 := hK9.2.2 _ _ _ n1 n2 hP0
            replace hS := hK9.2.2 _ _ _ hS1 hS2 hS
            replace hK0 := hK0.trans hK9
            clear hK9 a0 a1 hD
            go_wp2_with fail
            go_roundw
            case rel => exact ⟨1, by decide, by first | rfl | go_num, by rw [u0.out]; exact hR9, by rw [u0.out]; exact hC9, hP0, hB, hS, hK0⟩
            case measure => simp [intOf]
      · as_aux_lemma =>
          skip
          have a0 : wr.cell? ⟨S, 2, none⟩ = some (.int .i64 2) := hs0 2
          have a1 : wr.cell? ⟨S, 3, none⟩ = some (.func (.func _) #[] #[.pointer (some ⟨K1, 0, none⟩), .pointer (some ⟨K2, 0, none⟩)]) := hs0 3
          clear hs0
          have hselk : selB B 1 = (bits .and .i64 B 2 != 0) := rfl
          have hD := Lib.hid (fun W o bd x h1 h2 hP hR hB hC => re_band P R C K1 K2 W o bd x h1 h2 hP hR hB hC n1 n2 n3)
          have u0 : readK B 2 H = if selB B 1 = true then readG 1 (readK B 1 H) else readK B 1 H := rfl
          generalize hO : readK B 1 H = O at *
          cases hq : selB B 1
          · rw [hq] at u0 hselk
            simp only [Bool.false_eq_true, if_false] at u0
            have hb0 : (bits .and .i64 B 2 == 0) = true := by simpa using hselk.symm
            have hb1 : (bits .and .i64 B 2 != 0) = false := hselk.symm
            have hb2 : bits .and .i64 B 2 = 0 := by simpa using hb0
            replace u0 := Lib.hid u0
            replace hselk := Lib.hid hselk
            replace hq := Lib.hid hq
            go_wp2_with fail
            go_roundw
            case rel => exact ⟨2, by decide, by first | rfl | go_num, by rw [u0.out]; exact Blk.alloc hR0 _, by rw [u0.out]; exact hC0.alloc _, hP0.alloc _, hB.kept (KeptRC.old (below_own (Below.refl _ wr) _)), hS.alloc _, hK0.trans (KeptRC.old (below_own (Below.refl _ wr) _))⟩
            case measure => simp [intOf]
          · rw [hq] at u0 hselk
            simp only [if_true] at u0
            have hb1 : (bits .and .i64 B 2 != 0) = true := hselk.symm
            have hb0 : (bits .and .i64 B 2 == 0) = false := by simpa using hb1
            replace u0 := Lib.hid u0
            replace hselk := Lib.hid hselk
            replace hq := Lib.hid hq
            go_wp2_with fail
            refine (hD.out _ o bd O (Nat.le_trans hfair.1 hHz.1) (hfair.2.trans hHz.2) (hP0.alloc _) (Blk.alloc hR0 _) (hB.kept (KeptRC.old (below_own (Below.refl _ wr) _))) (hC0.alloc _)).mono ?_
            rintro r w9 ⟨⟨v9, rfl⟩, hR9, hC9, hK9⟩; dsimp only
            replace hK9 := (KeptRC.old (R := R) (C := C) (below_own (Below.refl _ wr) _)).trans hK9
            replace hB := hB.kept hK9
            replace hP0 := hK9.2.2 _ _ _ n1 n2 hP0
            replace hS := hK9.2.2 _ _ _ hS1 hS2 hS
            replace hK0 := hK0.trans hK9
            clear hK9 a0 a1 hD
            go_wp2_with fail
            go_roundw
            case rel => exact ⟨2, by decide, by first | rfl | go_num, by rw [u0.out]; exact hR9, by rw [u0.out]; exact hC9, hP0, hB, hS, hK0⟩
            case measure => simp [intOf]
      · as_aux_lemma =>
          skip
          have a0 : wr.cell? ⟨S, 4, none⟩ = some (.int .i64 4) := hs0 4
          have a1 : wr.cell? ⟨S, 5, none⟩ = some (.func (.func _) #[] #[.pointer (some ⟨K1, 0, none⟩), .pointer (some ⟨K2, 0, none⟩)]) := hs0 5
          clear hs0
          have hselk : selB B 2 = (bits .and .i64 B 4 != 0) := rfl
          have hD := Lib.hid (fun W o bd x h1 h2 hP hR hB hC => re_name P R C K1 K2 W o bd x h1 h2 hP hR hB hC n1 n2 n3)
          have u0 : readK B 3 H = if selB B 2 = true then readG 2 (readK B 2 H) else readK B 2 H := rfl
          generalize hO : readK B 2 H = O at *
          cases hq : selB B 2
          · rw [hq] at u0 hselk
            simp only [Bool.false_eq_true, if_false] at u0
            have hb0 : (bits .and .i64 B 4 == 0) = true := by simpa using hselk.symm
            have hb1 : (bits .and .i64 B 4 != 0) = false := hselk.symm
            have hb2 : bits .and .i64 B 4 = 0 := by simpa using hb0
            replace u0 := Lib.hid u0
            replace hselk := Lib.hid hselk
            replace hq := Lib.hid hq
            go_wp2_with fail
            go_roundw
            case rel => exact ⟨3, by decide, by first | rfl | go_num, by rw [u0.out]; exact Blk.alloc hR0 _, by rw [u0.out]; exact hC0.alloc _, hP0.alloc _, hB.kept (KeptRC.old (below_own (Below.refl _ wr) _)), hS.alloc _, hK0.trans (KeptRC.old (below_own (Below.refl _ wr) _))⟩
            case measure => simp [intOf]
          · rw [hq] at u0 hselk
            simp only [if_true] at u0
            have hb1 : (bits .and .i64 B 4 != 0) = true := hselk.symm
            have hb0 : (bits .and .i64 B 4 == 0) = false := by simpa using hb1
            replace u0 := Lib.hid u0
            replace hselk := Lib.hid hselk
            replace hq := Lib.hid hq
            go_wp2_with fail
            refine (hD.out _ o bd O (Nat.le_trans hfair.1 hHz.1) (hfair.2.trans hHz.2) (hP0.alloc _) (Blk.alloc hR0 _) (hB.kept (KeptRC.old (below_own (Below.refl _ wr) _))) (hC0.alloc _)).mono ?_
            rintro r w9 ⟨⟨v9, rfl⟩, hR9, hC9, hK9⟩; dsimp only
            replace hK9 := (KeptRC.old (R := R) (C := C) (below_own (Below.refl _ wr) _)).trans hK9
            replace hB := hB.kept hK9
            replace hP0 := hK9.2.2 _ _ _ n1 n2 hP0
            replace hS := hK9.2.2 _ _ _ hS1 hS2 hS
            replace hK0 := hK0.trans hK9
            clear hK9 a0 a1 hD
            go_wp2_with fail
            go_roundw
            case rel => exact ⟨3, by decide, by first | rfl | go_num, by rw [u0.out]; exact hR9, by rw [u0.out]; exact hC9, hP0, hB, hS, hK0⟩
            case measure => simp [intOf]
      · as_aux_lemma =>
          skip
          have a0 : wr.cell? ⟨S, 6, none⟩ = some (.int .i64 8) := hs0 6
          have a1 : wr.cell? ⟨S, 7, none⟩ = some (.func (.func _) #[] #[.pointer (some ⟨K1, 0, none⟩), .pointer (some ⟨K2, 0, none⟩)]) := hs0 7
          clear hs0
          have hselk : selB B 3 = (bits .and .i64 B 8 != 0) := rfl
          have hD := Lib.hid (fun W o bd x h1 h2 hP hR hB hC => re_task P R C K1 K2 W o bd x h1 h2 hP hR hB hC n1 n2 n3)
          have u0 : readK B 4 H = if selB B 3 = true then readG 3 (readK B 3 H) else readK B 3 H := rfl
          generalize hO : readK B 3 H = O at *
          cases hq : selB B 3
          · rw [hq] at u0 hselk
            simp only [Bool.false_eq_true, if_false] at u0
            have hb0 : (bits .and .i64 B 8 == 0) = true := by simpa using hselk.symm
            have hb1 : (bits .and .i64 B 8 != 0) = false := hselk.symm
            have hb2 : bits .and .i64 B 8 = 0 := by simpa using hb0
            replace u0 := Lib.hid u0
            replace hselk := Lib.hid hselk
            replace hq := Lib.hid hq
            go_wp2_with fail
            go_roundw
            case rel => exact ⟨4, by decide, by first | rfl | go_num, by rw [u0.out]; exact Blk.alloc hR0 _, by rw [u0.out]; exact hC0.alloc _, hP0.alloc _, hB.kept (KeptRC.old (below_own (Below.refl _ wr) _)), hS.alloc _, hK0.trans (KeptRC.old (below_own (Below.refl _ wr) _))⟩
            case measure => simp [intOf]
          · rw [hq] at u0 hselk
            simp only [if_true] at u0
            have hb1 : (bits .and .i64 B 8 != 0) = true := hselk.symm
            have hb0 : (bits .and .i64 B 8 == 0) = false := by simpa using hb1
            replace u0 := Lib.hid u0
            replace hselk := Lib.hid hselk
            replace hq := Lib.hid hq
            go_wp2_with fail
            refine (hD.out _ o bd O (Nat.le_trans hfair.1 hHz.1) (hfair.2.trans hHz.2) (hP0.alloc _) (Blk.alloc hR0 _) (hB.kept (KeptRC.old (below_own (Below.refl _ wr) _))) (hC0.alloc _)).mono ?_
            rintro r w9 ⟨⟨v9, rfl⟩, hR9, hC9, hK9⟩; dsimp only
            replace hK9 := (KeptRC.old (R := R) (C := C) (below_own (Below.refl _ wr) _)).trans hK9
            replace hB := hB.kept hK9
            replace hP0 := hK9.2.2 _ _ _ n1 n2 hP0
            replace hS := hK9.2.2 _ _ _ hS1 hS2 hS
            replace hK0 := hK0.trans hK9
            clear hK9 a0 a1 hD
            go_wp2_with fail
            go_roundw
            case rel => exact ⟨4, by decide, by first | rfl | go_num, by rw [u0.out]; exact hR9, by rw [u0.out]; exact hC9, hP0, hB, hS, hK0⟩
            case measure => simp [intOf]
      · as_aux_lemma =>
          skip
          have a0 : wr.cell? ⟨S, 8, none⟩ = some (.int .i64 16) := hs0 8
          have a1 : wr.cell? ⟨S, 9, none⟩ = some (.func (.func _) #[] #[.pointer (some ⟨K1, 0, none⟩), .pointer (some ⟨K2, 0, none⟩)]) := hs0 9
          clear hs0
          have hselk : selB B 4 = (bits .and .i64 B 16 != 0) := rfl
          have hD := Lib.hid (fun W o bd x h1 h2 hP hR hB hC => re_n P R C K1 K2 W o bd x h1 h2 hP hR hB hC n1 n2 n3)
          have u0 : readK B 5 H = if selB B 4 = true then readG 4 (readK B 4 H) else readK B 4 H := rfl
          generalize hO : readK B 4 H = O at *
          cases hq : selB B 4
          · rw [hq] at u0 hselk
            simp only [Bool.false_eq_true, if_false] at u0
            have hb0 : (bits .and .i64 B 16 == 0) = true := by simpa using hselk.symm
            have hb1 : (bits .and .i64 B 16 != 0) = false := hselk.symm
            have hb2 : bits .and .i64 B 16 = 0 := by simpa using hb0
            replace u0 := Lib.hid u0
            replace hselk := Lib.hid hselk
            replace hq := Lib.hid hq
            go_wp2_with fail
            go_roundw
            case rel => exact ⟨5, by decide, by first | rfl | go_num, by rw [u0.out]; exact Blk.alloc hR0 _, by rw [u0.out]; exact hC0.alloc _, hP0.alloc _, hB.kept (KeptRC.old (below_own (Below.refl _ wr) _)), hS.alloc _, hK0.trans (KeptRC.old (below_own (Below.refl _ wr) _))⟩
            case measure => simp [intOf]
          · rw [hq] at u0 hselk
            simp only [if_true] at u0
            have hb1 : (bits .and .i64 B 16 != 0) = true := hselk.symm
            have hb0 : (bits .and .i64 B 16 == 0) = false := by simpa using hb1
            replace u0 := Lib.hid u0
            replace hselk := Lib.hid hselk
            replace hq := Lib.hid hq
            go_wp2_with fail
            refine (hD.out _ o bd O (Nat.le_trans hfair.1 hHz.1) (hfair.2.trans hHz.2) (hP0.alloc _) (Blk.alloc hR0 _) (hB.kept (KeptRC.old (below_own (Below.refl _ wr) _))) (hC0.alloc _)).mono ?_
            rintro r w9 ⟨⟨v9, rfl⟩, hR9, hC9, hK9⟩; dsimp only
            replace hK9 := (KeptRC.old (R := R) (C := C) (below_own (Below.refl _ wr) _)).trans hK9
            replace hB := hB.kept hK9
            replace hP0 := hK9.2.2 _ _ _ n1 n2 hP0
            replace hS := hK9.2.2 _ _ _ hS1 hS2 hS
            replace hK0 := hK0.trans hK9
            clear hK9 a0 a1 hD
            go_wp2_with fail
            go_roundw
            case rel => exact ⟨5, by decide, by first | rfl | go_num, by rw [u0.out]; exact hR9, by rw [u0.out]; exact hC9, hP0, hB, hS, hK0⟩
            case measure => simp [intOf]
      · as_aux_lemma =>
          skip
          have a0 : wr.cell? ⟨S, 10, none⟩ = some (.int .i64 32) := hs0 10
          have a1 : wr.cell? ⟨S, 11, none⟩ = some (.func (.func _) #[] #[.pointer (some ⟨K1, 0, none⟩), .pointer (some ⟨K2, 0, none⟩)]) := hs0 11
          clear hs0
          have hselk : selB B 5 = (bits .and .i64 B 32 != 0) := rfl
          have hD := Lib.hid (fun W o bd x h1 h2 hP hR hB hC => re_machine P R C K1 K2 W o bd x h1 h2 hP hR hB hC n1 n2 n3)
          have u0 : readK B 6 H = if selB B 5 = true then readG 5 (readK B 5 H) else readK B 5 H := rfl
          generalize hO : readK B 5 H = O at *
          cases hq : selB B 5
          · rw [hq] at u0 hselk
            simp only [Bool.false_eq_true, if_false] at u0
            have hb0 : (bits .and .i64 B 32 == 0) = true := by simpa using hselk.symm
            have hb1 : (bits .and .i64 B 32 != 0) = false := hselk.symm
            have hb2 : bits .and .i64 B 32 = 0 := by simpa using hb0
            replace u0 := Lib.hid u0
            replace hselk := Lib.hid hselk
            replace hq := Lib.hid hq
            go_wp2_with fail
            go_roundw
            case rel => exact ⟨6, by decide, by first | rfl | go_num, by rw [u0.out]; exact Blk.alloc hR0 _, by rw [u0.out]; exact hC0.alloc _, hP0.alloc _, hB.kept (KeptRC.old (below_own (Below.refl _ wr) _)), hS.alloc _, hK0.trans (KeptRC.old (below_own (Below.refl _ wr) _))⟩
            case measure => simp [intOf]
          · rw [hq] at u0 hselk
            simp only [if_true] at u0
            have hb1 : (bits .and .i64 B 32 != 0) = true := hselk.symm
            have hb0 : (bits .and .i64 B 32 == 0) = false := by simpa using hb1
            replace u0 := Lib.hid u0
            replace hselk := Lib.hid hselk
            replace hq := Lib.hid hq
            go_wp2_with fail
            refine (hD.out _ o bd O (Nat.le_trans hfair.1 hHz.1) (hfair.2.trans hHz.2) (hP0.alloc _) (Blk.alloc hR0 _) (hB.kept (KeptRC.old (below_own (Below.refl _ wr) _))) (hC0.alloc _)).mono ?_
            rintro r w9 ⟨⟨v9, rfl⟩, hR9, hC9, hK9⟩; dsimp only
            replace hK9 := (KeptRC.old (R := R) (C := C) (below_own (Below.refl _ wr) _)).trans hK9
            replace hB := hB.kept hK9
            replace hP0 := hK9.2.2 _ _ _ n1 n2 hP0
            replace hS := hK9.2.2 _ _ _ hS1 hS2 hS
            replace hK0 := hK0.trans hK9
            clear hK9 a0 a1 hD
            go_wp2_with fail
            go_roundw
            case rel => exact ⟨6, by decide, by first | rfl | go_num, by rw [u0.out]; exact hR9, by rw [u0.out]; exact hC9, hP0, hB, hS, hK0⟩
            case measure => simp [intOf]
      · as_aux_lemma =>
          skip
          have a0 : wr.cell? ⟨S, 12, none⟩ = some (.int .i64 64) := hs0 12
          have a1 : wr.cell? ⟨S, 13, none⟩ = some (.func (.func _) #[] #[.pointer (some ⟨K1, 0, none⟩), .pointer (some ⟨K2, 0, none⟩)]) := hs0 13
          clear hs0
          have hselk : selB B 6 = (bits .and .i64 B 64 != 0) := rfl
          have hD := Lib.hid (fun W o bd x h1 h2 hP hR hB hC => re_in P R C K1 K2 W o bd x h1 h2 hP hR hB hC n1 n2 n3)
          have u0 : readK B 7 H = if selB B 6 = true then readG 6 (readK B 6 H) else readK B 6 H := rfl
          generalize hO : readK B 6 H = O at *
          cases hq : selB B 6
          · rw [hq] at u0 hselk
            simp only [Bool.false_eq_true, if_false] at u0
            have hb0 : (bits .and .i64 B 64 == 0) = true := by simpa using hselk.symm
            have hb1 : (bits .and .i64 B 64 != 0) = false := hselk.symm
            have hb2 : bits .and .i64 B 64 = 0 := by simpa using hb0
            replace u0 := Lib.hid u0
            replace hselk := Lib.hid hselk
            replace hq := Lib.hid hq
            go_wp2_with fail
            go_roundw
            case rel => exact ⟨7, by decide, by first | rfl | go_num, by rw [u0.out]; exact Blk.alloc hR0 _, by rw [u0.out]; exact hC0.alloc _, hP0.alloc _, hB.kept (KeptRC.old (below_own (Below.refl _ wr) _)), hS.alloc _, hK0.trans (KeptRC.old (below_own (Below.refl _ wr) _))⟩
            case measure => simp [intOf]
          · rw [hq] at u0 hselk
            simp only [if_true] at u0
            have hb1 : (bits .and .i64 B 64 != 0) = true := hselk.symm
            have hb0 : (bits .and .i64 B 64 == 0) = false := by simpa using hb1
            replace u0 := Lib.hid u0
            replace hselk := Lib.hid hselk
            replace hq := Lib.hid hq
            go_wp2_with fail
            refine (hD.out _ o bd O (Nat.le_trans hfair.1 hHz.1) (hfair.2.trans hHz.2) (hP0.alloc _) (Blk.alloc hR0 _) (hB.kept (KeptRC.old (below_own (Below.refl _ wr) _))) (hC0.alloc _)).mono ?_
            rintro r w9 ⟨⟨v9, rfl⟩, hR9, hC9, hK9⟩; dsimp only
            replace hK9 := (KeptRC.old (R := R) (C := C) (below_own (Below.refl _ wr) _)).trans hK9
            replace hB := hB.kept hK9
            replace hP0 := hK9.2.2 _ _ _ n1 n2 hP0
            replace hS := hK9.2.2 _ _ _ hS1 hS2 hS
            replace hK0 := hK0.trans hK9
            clear hK9 a0 a1 hD
            go_wp2_with fail
            go_roundw
            case rel => exact ⟨7, by decide, by first | rfl | go_num, by rw [u0.out]; exact hR9, by rw [u0.out]; exact hC9, hP0, hB, hS, hK0⟩
            case measure => simp [intOf]
      · as_aux_lemma =>
          skip
          have a0 : wr.cell? ⟨S, 14, none⟩ = some (.int .i64 128) := hs0 14
          have a1 : wr.cell? ⟨S, 15, none⟩ = some (.func (.func _) #[] #[.pointer (some ⟨K1, 0, none⟩), .pointer (some ⟨K2, 0, none⟩)]) := hs0 15
          clear hs0
          have hselk : selB B 7 = (bits .and .i64 B 128 != 0) := rfl
          have hD := Lib.hid (fun W o bd x h1 h2 hP hR hB hC => re_gen P R C K1 K2 W o bd x h1 h2 hP hR hB hC n1 n2 n3)
          have u0 : readK B 8 H = if selB B 7 = true then readG 7 (readK B 7 H) else readK B 7 H := rfl
          generalize hO : readK B 7 H = O at *
          cases hq : selB B 7
          · rw [hq] at u0 hselk
            simp only [Bool.false_eq_true, if_false] at u0
            have hb0 : (bits .and .i64 B 128 == 0) = true := by simpa using hselk.symm
            have hb1 : (bits .and .i64 B 128 != 0) = false := hselk.symm
            have hb2 : bits .and .i64 B 128 = 0 := by simpa using hb0
            replace u0 := Lib.hid u0
            replace hselk := Lib.hid hselk
            replace hq := Lib.hid hq
            go_wp2_with fail
            go_roundw
            case rel => exact ⟨8, by decide, by first | rfl | go_num, by rw [u0.out]; exact Blk.alloc hR0 _, by rw [u0.out]; exact hC0.alloc _, hP0.alloc _, hB.kept (KeptRC.old (below_own (Below.refl _ wr) _)), hS.alloc _, hK0.trans (KeptRC.old (below_own (Below.refl _ wr) _))⟩
            case measure => simp [intOf]
          · rw [hq] at u0 hselk
            simp only [if_true] at u0
            have hb1 : (bits .and .i64 B 128 != 0) = true := hselk.symm
            have hb0 : (bits .and .i64 B 128 == 0) = false := by simpa using hb1
            replace u0 := Lib.hid u0
            replace hselk := Lib.hid hselk
            replace hq := Lib.hid hq
            go_wp2_with fail
            refine (hD.out _ o bd O (Nat.le_trans hfair.1 hHz.1) (hfair.2.trans hHz.2) (hP0.alloc _) (Blk.alloc hR0 _) (hB.kept (KeptRC.old (below_own (Below.refl _ wr) _))) (hC0.alloc _)).mono ?_
            rintro r w9 ⟨⟨v9, rfl⟩, hR9, hC9, hK9⟩; dsimp only
            replace hK9 := (KeptRC.old (R := R) (C := C) (below_own (Below.refl _ wr) _)).trans hK9
            replace hB := hB.kept hK9
            replace hP0 := hK9.2.2 _ _ _ n1 n2 hP0
            replace hS := hK9.2.2 _ _ _ hS1 hS2 hS
            replace hK0 := hK0.trans hK9
            clear hK9 a0 a1 hD
            go_wp2_with fail
            go_roundw
            case rel => exact ⟨8, by decide, by first | rfl | go_num, by rw [u0.out]; exact hR9, by rw [u0.out]; exact hC9, hP0, hB, hS, hK0⟩
            case measure => simp [intOf]
      · as_aux_lemma =>
          skip
          have a0 : wr.cell? ⟨S, 16, none⟩ = some (.int .i64 256) := hs0 16
          have a1 : wr.cell? ⟨S, 17, none⟩ = some (.func (.func _) #[] #[.pointer (some ⟨K1, 0, none⟩), .pointer (some ⟨K2, 0, none⟩)]) := hs0 17
          clear hs0
          have hselk : selB B 8 = (bits .and .i64 B 256 != 0) := rfl
          have hD := Lib.hid (fun W o bd x h1 h2 hP hR hB hC => re_why P R C K1 K2 W o bd x h1 h2 hP hR hB hC n1 n2 n3)
          have u0 : readK B 9 H = if selB B 8 = true then readG 8 (readK B 8 H) else readK B 8 H := rfl
          generalize hO : readK B 8 H = O at *
          cases hq : selB B 8
          · rw [hq] at u0 hselk
            simp only [Bool.false_eq_true, if_false] at u0
            have hb0 : (bits .and .i64 B 256 == 0) = true := by simpa using hselk.symm
            have hb1 : (bits .and .i64 B 256 != 0) = false := hselk.symm
            have hb2 : bits .and .i64 B 256 = 0 := by simpa using hb0
            replace u0 := Lib.hid u0
            replace hselk := Lib.hid hselk
            replace hq := Lib.hid hq
            go_wp2_with fail
            go_roundw
            case rel => exact ⟨9, by decide, by first | rfl | go_num, by rw [u0.out]; exact Blk.alloc hR0 _, by rw [u0.out]; exact hC0.alloc _, hP0.alloc _, hB.kept (KeptRC.old (below_own (Below.refl _ wr) _)), hS.alloc _, hK0.trans (KeptRC.old (below_own (Below.refl _ wr) _))⟩
            case measure => simp [intOf]
          · rw [hq] at u0 hselk
            simp only [if_true] at u0
            have hb1 : (bits .and .i64 B 256 != 0) = true := hselk.symm
            have hb0 : (bits .and .i64 B 256 == 0) = false := by simpa using hb1
            replace u0 := Lib.hid u0
            replace hselk := Lib.hid hselk
            replace hq := Lib.hid hq
            go_wp2_with fail
            refine (hD.out _ o bd O (Nat.le_trans hfair.1 hHz.1) (hfair.2.trans hHz.2) (hP0.alloc _) (Blk.alloc hR0 _) (hB.kept (KeptRC.old (below_own (Below.refl _ wr) _))) (hC0.alloc _)).mono ?_
            rintro r w9 ⟨⟨v9, rfl⟩, hR9, hC9, hK9⟩; dsimp only
            replace hK9 := (KeptRC.old (R := R) (C := C) (below_own (Below.refl _ wr) _)).trans hK9
            replace hB := hB.kept hK9
            replace hP0 := hK9.2.2 _ _ _ n1 n2 hP0
            replace hS := hK9.2.2 _ _ _ hS1 hS2 hS
            replace hK0 := hK0.trans hK9
            clear hK9 a0 a1 hD
            go_wp2_with fail
            go_roundw
            case rel => exact ⟨9, by decide, by first | rfl | go_num, by rw [u0.out]; exact hR9, by rw [u0.out]; exact hC9, hP0, hB, hS, hK0⟩
            case measure => simp [intOf]
      · as_aux_lemma =>
          skip
          have a0 : wr.cell? ⟨S, 18, none⟩ = some (.int .i64 512) := hs0 18
          have a1 : wr.cell? ⟨S, 19, none⟩ = some (.func (.func _) #[] #[.pointer (some ⟨K1, 0, none⟩), .pointer (some ⟨K2, 0, none⟩)]) := hs0 19
          clear hs0
          have hselk : selB B 9 = (bits .and .i64 B 512 != 0) := rfl
          have hD := Lib.hid (fun W o bd x h1 h2 hP hR hB hC => re_vec P R C K1 K2 W o bd x h1 h2 hP hR hB hC n1 n2 n3)
          have u0 : readK B 10 H = if selB B 9 = true then readG 9 (readK B 9 H) else readK B 9 H := rfl
          generalize hO : readK B 9 H = O at *
          cases hq : selB B 9
          · rw [hq] at u0 hselk
            simp only [Bool.false_eq_true, if_false] at u0
            have hb0 : (bits .and .i64 B 512 == 0) = true := by simpa using hselk.symm
            have hb1 : (bits .and .i64 B 512 != 0) = false := hselk.symm
            have hb2 : bits .and .i64 B 512 = 0 := by simpa using hb0
            replace u0 := Lib.hid u0
            replace hselk := Lib.hid hselk
            replace hq := Lib.hid hq
            go_wp2_with fail
            go_roundw
            case rel => exact ⟨10, by decide, by first | rfl | go_num, by rw [u0.out]; exact Blk.alloc hR0 _, by rw [u0.out]; exact hC0.alloc _, hP0.alloc _, hB.kept (KeptRC.old (below_own (Below.refl _ wr) _)), hS.alloc _, hK0.trans (KeptRC.old (below_own (Below.refl _ wr) _))⟩
            case measure => simp [intOf]
          · rw [hq] at u0 hselk
            simp only [if_true] at u0
            have hb1 : (bits .and .i64 B 512 != 0) = true := hselk.symm
            have hb0 : (bits .and .i64 B 512 == 0) = false := by simpa using hb1
            replace u0 := Lib.hid u0
            replace hselk := Lib.hid hselk
            replace hq := Lib.hid hq
            go_wp2_with fail
            refine (hD.out _ o bd O (Nat.le_trans hfair.1 hHz.1) (hfair.2.trans hHz.2) (hP0.alloc _) (Blk.alloc hR0 _) (hB.kept (KeptRC.old (below_own (Below.refl _ wr) _))) (hC0.alloc _)).mono ?_
            rintro r w9 ⟨⟨v9, rfl⟩, hR9, hC9, hK9⟩; dsimp only
            replace hK9 := (KeptRC.old (R := R) (C := C) (below_own (Below.refl _ wr) _)).trans hK9
            replace hB := hB.kept hK9
            replace hP0 := hK9.2.2 _ _ _ n1 n2 hP0
            replace hS := hK9.2.2 _ _ _ hS1 hS2 hS
            replace hK0 := hK0.trans hK9
            clear hK9 a0 a1 hD
            go_wp2_with fail
            go_roundw
            case rel => exact ⟨10, by decide, by first | rfl | go_num, by rw [u0.out]; exact hR9, by rw [u0.out]; exact hC9, hP0, hB, hS, hK0⟩
            case measure => simp [intOf]
      · as_aux_lemma =>
          skip
          have a0 : wr.cell? ⟨S, 20, none⟩ = some (.int .i64 1024) := hs0 20
          have a1 : wr.cell? ⟨S, 21, none⟩ = some (.func (.func _) #[] #[.pointer (some ⟨K1, 0, none⟩), .pointer (some ⟨K2, 0, none⟩)]) := hs0 21
          clear hs0
          have hselk : selB B 10 = (bits .and .i64 B 1024 != 0) := rfl
          have hD := Lib.hid (fun W o bd x h1 h2 hP hR hB hC => re_job P R C K1 K2 W o bd x h1 h2 hP hR hB hC n1 n2 n3)
          have u0 : readK B 11 H = if selB B 10 = true then readG 10 (readK B 10 H) else readK B 10 H := rfl
          generalize hO : readK B 10 H = O at *
          cases hq : selB B 10
          · rw [hq] at u0 hselk
            simp only [Bool.false_eq_true, if_false] at u0
            have hb0 : (bits .and .i64 B 1024 == 0) = true := by simpa using hselk.symm
            have hb1 : (bits .and .i64 B 1024 != 0) = false := hselk.symm
            have hb2 : bits .and .i64 B 1024 = 0 := by simpa using hb0
            replace u0 := Lib.hid u0
            replace hselk := Lib.hid hselk
            replace hq := Lib.hid hq
            go_wp2_with fail
            go_roundw
            case rel => exact ⟨11, by decide, by first | rfl | go_num, by rw [u0.out]; exact Blk.alloc hR0 _, by rw [u0.out]; exact hC0.alloc _, hP0.alloc _, hB.kept (KeptRC.old (below_own (Below.refl _ wr) _)), hS.alloc _, hK0.trans (KeptRC.old (below_own (Below.refl _ wr) _))⟩
            case measure => simp [intOf]
          · rw [hq] at u0 hselk
            simp only [if_true] at u0
            have hb1 : (bits .and .i64 B 1024 != 0) = true := hselk.symm
            have hb0 : (bits .and .i64 B 1024 == 0) = false := by simpa using hb1
            replace u0 := Lib.hid u0
            replace hselk := Lib.hid hselk
            replace hq := Lib.hid hq
            go_wp2_with fail
            refine (hD.out _ o bd O (Nat.le_trans hfair.1 hHz.1) (hfair.2.trans hHz.2) (hP0.alloc _) (Blk.alloc hR0 _) (hB.kept (KeptRC.old (below_own (Below.refl _ wr) _))) (hC0.alloc _)).mono ?_
            rintro r w9 ⟨⟨v9, rfl⟩, hR9, hC9, hK9⟩; dsimp only
            replace hK9 := (KeptRC.old (R := R) (C := C) (below_own (Below.refl _ wr) _)).trans hK9
            replace hB := hB.kept hK9
            replace hP0 := hK9.2.2 _ _ _ n1 n2 hP0
            replace hS := hK9.2.2 _ _ _ hS1 hS2 hS
            replace hK0 := hK0.trans hK9
            clear hK9 a0 a1 hD
            go_wp2_with fail
            go_roundw
            case rel => exact ⟨11, by decide, by first | rfl | go_num, by rw [u0.out]; exact hR9, by rw [u0.out]; exact hC9, hP0, hB, hS, hK0⟩
            case measure => simp [intOf]
      · as_aux_lemma =>
          skip
          have a0 : wr.cell? ⟨S, 22, none⟩ = some (.int .i64 2048) := hs0 22
          have a1 : wr.cell? ⟨S, 23, none⟩ = some (.func (.func _) #[] #[.pointer (some ⟨K1, 0, none⟩), .pointer (some ⟨K2, 0, none⟩)]) := hs0 23
          clear hs0
          have hselk : selB B 11 = (bits .and .i64 B 2048 != 0) := rfl
          have hD := Lib.hid (fun W o bd x h1 h2 hP hR hB hC => re_alloc P R C K1 K2 W o bd x h1 h2 hP hR hB hC n1 n2 n3)
          have u0 : readK B 12 H = if selB B 11 = true then readG 11 (readK B 11 H) else readK B 11 H := rfl
          generalize hO : readK B 11 H = O at *
          cases hq : selB B 11
          · rw [hq] at u0 hselk
            simp only [Bool.false_eq_true, if_false] at u0
            have hb0 : (bits .and .i64 B 2048 == 0) = true := by simpa using hselk.symm
            have hb1 : (bits .and .i64 B 2048 != 0) = false := hselk.symm
            have hb2 : bits .and .i64 B 2048 = 0 := by simpa using hb0
            replace u0 := Lib.hid u0
            replace hselk := Lib.hid hselk
            replace hq := Lib.hid hq
            go_wp2_with fail
            go_roundw
            case rel => exact ⟨12, by decide, by first | rfl | go_num, by rw [u0.out]; exact Blk.alloc hR0 _, by rw [u0.out]; exact hC0.alloc _, hP0.alloc _, hB.kept (KeptRC.old (below_own (Below.refl _ wr) _)), hS.alloc _, hK0.trans (KeptRC.old (below_own (Below.refl _ wr) _))⟩
            case measure => simp [intOf]
          · rw [hq] at u0 hselk
            simp only [if_true] at u0
            have hb1 : (bits .and .i64 B 2048 != 0) = true := hselk.symm
            have hb0 : (bits .and .i64 B 2048 == 0) = false := by simpa using hb1
            replace u0 := Lib.hid u0
            replace hselk := Lib.hid hselk
            replace hq := Lib.hid hq
            go_wp2_with fail
            refine (hD.out _ o bd O (Nat.le_trans hfair.1 hHz.1) (hfair.2.trans hHz.2) (hP0.alloc _) (Blk.alloc hR0 _) (hB.kept (KeptRC.old (below_own (Below.refl _ wr) _))) (hC0.alloc _)).mono ?_
            rintro r w9 ⟨⟨v9, rfl⟩, hR9, hC9, hK9⟩; dsimp only
            replace hK9 := (KeptRC.old (R := R) (C := C) (below_own (Below.refl _ wr) _)).trans hK9
            replace hB := hB.kept hK9
            replace hP0 := hK9.2.2 _ _ _ n1 n2 hP0
            replace hS := hK9.2.2 _ _ _ hS1 hS2 hS
            replace hK0 := hK0.trans hK9
            clear hK9 a0 a1 hD
            go_wp2_with fail
            go_roundw
            case rel => exact ⟨12, by decide, by first | rfl | go_num, by rw [u0.out]; exact hR9, by rw [u0.out]; exact hC9, hP0, hB, hS, hK0⟩
            case measure => simp [intOf]
      · as_aux_lemma =>
          skip
          have a0 : wr.cell? ⟨S, 24, none⟩ = some (.int .i64 4096) := hs0 24
          have a1 : wr.cell? ⟨S, 25, none⟩ = some (.func (.func _) #[] #[.pointer (some ⟨K1, 0, none⟩), .pointer (some ⟨K2, 0, none⟩)]) := hs0 25
          clear hs0
          have hselk : selB B 12 = (bits .and .i64 B 4096 != 0) := rfl
          have hD := Lib.hid (fun W o bd x h1 h2 hP hR hB hC => re_tick P R C K1 K2 W o bd x h1 h2 hP hR hB hC n1 n2 n3)
          have u0 : readK B 13 H = if selB B 12 = true then readG 12 (readK B 12 H) else readK B 12 H := rfl
          generalize hO : readK B 12 H = O at *
          cases hq : selB B 12
          · rw [hq] at u0 hselk
            simp only [Bool.false_eq_true, if_false] at u0
            have hb0 : (bits .and .i64 B 4096 == 0) = true := by simpa using hselk.symm
            have hb1 : (bits .and .i64 B 4096 != 0) = false := hselk.symm
            have hb2 : bits .and .i64 B 4096 = 0 := by simpa using hb0
            replace u0 := Lib.hid u0
            replace hselk := Lib.hid hselk
            replace hq := Lib.hid hq
            go_wp2_with fail
            go_roundw
            case rel => exact ⟨13, by decide, by first | rfl | go_num, by rw [u0.out]; exact Blk.alloc hR0 _, by rw [u0.out]; exact hC0.alloc _, hP0.alloc _, hB.kept (KeptRC.old (below_own (Below.refl _ wr) _)), hS.alloc _, hK0.trans (KeptRC.old (below_own (Below.refl _ wr) _))⟩
            case measure => simp [intOf]
          · rw [hq] at u0 hselk
            simp only [if_true] at u0
            have hb1 : (bits .and .i64 B 4096 != 0) = true := hselk.symm
            have hb0 : (bits .and .i64 B 4096 == 0) = false := by simpa using hb1
            replace u0 := Lib.hid u0
            replace hselk := Lib.hid hselk
            replace hq := Lib.hid hq
            go_wp2_with fail
            refine (hD.out _ o bd O (Nat.le_trans hfair.1 hHz.1) (hfair.2.trans hHz.2) (hP0.alloc _) (Blk.alloc hR0 _) (hB.kept (KeptRC.old (below_own (Below.refl _ wr) _))) (hC0.alloc _)).mono ?_
            rintro r w9 ⟨⟨v9, rfl⟩, hR9, hC9, hK9⟩; dsimp only
            replace hK9 := (KeptRC.old (R := R) (C := C) (below_own (Below.refl _ wr) _)).trans hK9
            replace hB := hB.kept hK9
            replace hP0 := hK9.2.2 _ _ _ n1 n2 hP0
            replace hS := hK9.2.2 _ _ _ hS1 hS2 hS
            replace hK0 := hK0.trans hK9
            clear hK9 a0 a1 hD
            go_wp2_with fail
            go_roundw
            case rel => exact ⟨13, by decide, by first | rfl | go_num, by rw [u0.out]; exact hR9, by rw [u0.out]; exact hC9, hP0, hB, hS, hK0⟩
            case measure => simp [intOf]
      · go_wp2_with fail
        go_end0
        rw [hZ.out]
        exact ⟨⟨_, rfl⟩, hR0, hC0, hK0⟩
end Go.Proofs.Yteglieoeblehpaa
