/- Commands: the fields of a command, one by one, read, walked. Conditions: the bytes are in memory. -/
import Derived.Test.YteglieoeblehpaaCmd9
namespace Go.Proofs.Yteglieoeblehpaa
open Go.RowKit

/-- The coder's and the command's boxes, as the closures bear them. -/
structure RBox (w : World) (K1 K2 P R C : Nat) : Prop where
  k1 : Blk w K1 97 #[.pointer (some ⟨P, 0, none⟩)]
  k2 : Blk w K2 101 #[.pointer (some ⟨C, 0, none⟩)]
  a1 : K1 ≠ R
  a2 : K2 ≠ R
  b1 : K1 ≠ C
  b2 : K2 ≠ C
theorem RBox.kept {w w' : World} {K1 K2 P R C : Nat} (h : RBox w K1 K2 P R C) (hk : KeptRC R C w w') : RBox w' K1 K2 P R C := ⟨hk.2.2 _ _ _ h.a1 h.b1 h.k1, hk.2.2 _ _ _ h.a2 h.b2 h.k2, h.a1, h.a2, h.b1, h.b2⟩
/-- What a closure does: it takes what is at the front, into the command's cells. -/
def Reads (F P R C K1 K2 : Nat) (G : St → St) : Prop :=
  ∀ (w : World) (o : ByteArray) (bd : Bool) (x : St), x.1.size ≤ 140737488351232 → x.2.2.size = 33 → Cr w P R o bd → Rd w R x.1 x.2.1 → RBox w K1 K2 P R C → Blk w C 64 x.2.2 → P ≠ R → P ≠ C → C ≠ R →
    Calls Try.prog F #[.pointer (some ⟨K1, 0, none⟩), .pointer (some ⟨K2, 0, none⟩)] w fun e w' => (∃ v, e = .returned v) ∧ Rd w' R (G x).1 (G x).2.1 ∧ Blk w' C 64 (G x).2.2 ∧ KeptRC R C w w'
set_option maxHeartbeats 2000000 in
theorem re_user (P R C K1 K2 : Nat) : Reads 73 P R C K1 K2 (fun x => stepT x 3) := by
  intro w o bd x hs hn hP hR hB hC n1 n2 n3
  have hK0 := KeptRC.old (R := R) (C := C) (Below.refl w.heap.size w).drew
  obtain ⟨p0, p1, p2⟩ := hB.k1.facts
  obtain ⟨q0, q1, q2⟩ := hB.k2.facts
  go_enter Try.func73, Try.ntmps73
  go_wp2_with fail
  refine wp_region_held0 (S := fun w' => w'.cell? ⟨K1, 0, none⟩ = some (.pointer (some ⟨P, 0, none⟩)) ∧ w'.cell? ⟨K2, 0, none⟩ = some (.pointer (some ⟨C, 0, none⟩))) (by kernel_rfl) ⟨hB.k1.cell 0, hB.k2.cell 0⟩ (fun hHeld => ?_)
  refine wpAnyH_take (i := 0) (v := ?_) rfl (by kernel_rfl) (by kernel_rfl) (by kernel_rfl) (fun _ _ _ h => h) (Or.inl ⟨by rfl, ?hy⟩) hHeld ?_
  case hy =>
    intro w hSw
    (try dsimp only at hSw)
    go_simp
    (try with_reducible rfl)
  try simp only [Act.put, List.getElem_toArray, List.getElem_cons_zero, List.setIfInBounds_toArray, List.set_cons_zero, List.set_cons_succ]
  refine wpAnyH_take (i := 1) (v := ?_) rfl (by kernel_rfl) (by kernel_rfl) (by kernel_rfl) (fun _ _ _ h => h) (Or.inl ⟨by rfl, ?hy⟩) hHeld ?_
  case hy =>
    intro w hSw
    (try dsimp only at hSw)
    go_simp
    (try with_reducible rfl)
  try simp only [Act.put, List.getElem_toArray, List.getElem_cons_succ, List.getElem_cons_zero, List.setIfInBounds_toArray, List.set_cons_zero, List.set_cons_succ]
  refine wpAnyH_take (i := 2) (v := ?_) rfl (by kernel_rfl) (by kernel_rfl) (by kernel_rfl) (fun _ _ _ h => h) (Or.inl ⟨by rfl, ?hy⟩) hHeld ?_
  case hy =>
    intro w hSw
    (try dsimp only at hSw)
    go_simp
    (try with_reducible rfl)
  try simp only [Act.put, List.getElem_toArray, List.getElem_cons_succ, List.getElem_cons_zero, List.setIfInBounds_toArray, List.set_cons_zero, List.set_cons_succ]
  refine wpAnyH_take (i := 3) (v := ?_) rfl (by kernel_rfl) (by kernel_rfl) (by kernel_rfl) (fun _ _ _ h => h) (Or.inl ⟨by rfl, ?hy⟩) hHeld ?_
  case hy =>
    intro w hSw
    (try dsimp only at hSw)
    go_simp
    (try with_reducible rfl)
  try simp only [Act.put, List.getElem_toArray, List.getElem_cons_succ, List.getElem_cons_zero, List.setIfInBounds_toArray, List.set_cons_zero, List.set_cons_succ]
  refine wpAnyH_ready (rs := [4]) (by kernel_rfl) (by simp) ?_
  refine AllReadyH.cons rfl (fun K hK => ?_) AllReadyH.nil
  have hOld := hHeld
  clear hHeld
  go_simp
  refine (cr_text P R C 3 o bd x.1 x.2.1 hs w.drew hP.drew (Blk.drew hR) _ x.2.2 hC.drew (by omega) n1 n2 n3).mono ?_
  rintro r w1 ⟨⟨v, rfl⟩, hR1, hC1, hK1⟩; dsimp only
  have hB1 := (hB.kept hK0).kept hK1
  refine hK.out _ _ (⟨hB1.k1.cell 0, hB1.k2.cell 0⟩) (fun hHeld => ?_)
  clear hK K hOld
  try simp only [Act.put, List.getElem_toArray, List.getElem_cons_succ, List.getElem_cons_zero, List.setIfInBounds_toArray, List.set_cons_zero, List.set_cons_succ]
  refine wpAnyH_done (by kernel_rfl) ?_ _
  simp only [Exit.then]
  go_wp2_with fail
  go_end0
  exact ⟨⟨_, rfl⟩, hR1, hC1, hK0.trans hK1⟩
set_option maxHeartbeats 2000000 in
theorem re_band (P R C K1 K2 : Nat) : Reads 75 P R C K1 K2 (fun x => stepS x 4) := by
  intro w o bd x hs hn hP hR hB hC n1 n2 n3
  have hK0 := KeptRC.old (R := R) (C := C) (Below.refl w.heap.size w).drew
  obtain ⟨p0, p1, p2⟩ := hB.k1.facts
  obtain ⟨q0, q1, q2⟩ := hB.k2.facts
  go_enter Try.func75, Try.ntmps75
  go_wp2_with fail
  refine wp_region_held0 (S := fun w' => w'.cell? ⟨K1, 0, none⟩ = some (.pointer (some ⟨P, 0, none⟩)) ∧ w'.cell? ⟨K2, 0, none⟩ = some (.pointer (some ⟨C, 0, none⟩))) (by kernel_rfl) ⟨hB.k1.cell 0, hB.k2.cell 0⟩ (fun hHeld => ?_)
  refine wpAnyH_take (i := 0) (v := ?_) rfl (by kernel_rfl) (by kernel_rfl) (by kernel_rfl) (fun _ _ _ h => h) (Or.inl ⟨by rfl, ?hy⟩) hHeld ?_
  case hy =>
    intro w hSw
    (try dsimp only at hSw)
    go_simp
    (try with_reducible rfl)
  try simp only [Act.put, List.getElem_toArray, List.getElem_cons_zero, List.setIfInBounds_toArray, List.set_cons_zero, List.set_cons_succ]
  refine wpAnyH_take (i := 1) (v := ?_) rfl (by kernel_rfl) (by kernel_rfl) (by kernel_rfl) (fun _ _ _ h => h) (Or.inl ⟨by rfl, ?hy⟩) hHeld ?_
  case hy =>
    intro w hSw
    (try dsimp only at hSw)
    go_simp
    (try with_reducible rfl)
  try simp only [Act.put, List.getElem_toArray, List.getElem_cons_succ, List.getElem_cons_zero, List.setIfInBounds_toArray, List.set_cons_zero, List.set_cons_succ]
  refine wpAnyH_take (i := 2) (v := ?_) rfl (by kernel_rfl) (by kernel_rfl) (by kernel_rfl) (fun _ _ _ h => h) (Or.inl ⟨by rfl, ?hy⟩) hHeld ?_
  case hy =>
    intro w hSw
    (try dsimp only at hSw)
    go_simp
    (try with_reducible rfl)
  try simp only [Act.put, List.getElem_toArray, List.getElem_cons_succ, List.getElem_cons_zero, List.setIfInBounds_toArray, List.set_cons_zero, List.set_cons_succ]
  refine wpAnyH_take (i := 3) (v := ?_) rfl (by kernel_rfl) (by kernel_rfl) (by kernel_rfl) (fun _ _ _ h => h) (Or.inl ⟨by rfl, ?hy⟩) hHeld ?_
  case hy =>
    intro w hSw
    (try dsimp only at hSw)
    go_simp
    (try with_reducible rfl)
  try simp only [Act.put, List.getElem_toArray, List.getElem_cons_succ, List.getElem_cons_zero, List.setIfInBounds_toArray, List.set_cons_zero, List.set_cons_succ]
  refine wpAnyH_ready (rs := [4]) (by kernel_rfl) (by simp) ?_
  refine AllReadyH.cons rfl (fun K hK => ?_) AllReadyH.nil
  have hOld := hHeld
  clear hHeld
  go_simp
  refine (cr_small P R C 4 o bd x.1 x.2.1 hs w.drew hP.drew (Blk.drew hR) _ x.2.2 hC.drew (by omega) n1 n2 n3).mono ?_
  rintro r w1 ⟨⟨v, rfl⟩, hR1, hC1, hK1⟩; dsimp only
  have hB1 := (hB.kept hK0).kept hK1
  refine hK.out _ _ (⟨hB1.k1.cell 0, hB1.k2.cell 0⟩) (fun hHeld => ?_)
  clear hK K hOld
  try simp only [Act.put, List.getElem_toArray, List.getElem_cons_succ, List.getElem_cons_zero, List.setIfInBounds_toArray, List.set_cons_zero, List.set_cons_succ]
  refine wpAnyH_done (by kernel_rfl) ?_ _
  simp only [Exit.then]
  go_wp2_with fail
  go_end0
  exact ⟨⟨_, rfl⟩, hR1, hC1, hK0.trans hK1⟩
set_option maxHeartbeats 2000000 in
theorem re_name (P R C K1 K2 : Nat) : Reads 76 P R C K1 K2 (fun x => stepT x 25) := by
  intro w o bd x hs hn hP hR hB hC n1 n2 n3
  have hK0 := KeptRC.old (R := R) (C := C) (Below.refl w.heap.size w).drew
  obtain ⟨p0, p1, p2⟩ := hB.k1.facts
  obtain ⟨q0, q1, q2⟩ := hB.k2.facts
  go_enter Try.func76, Try.ntmps76
  go_wp2_with fail
  refine wp_region_held0 (S := fun w' => w'.cell? ⟨K1, 0, none⟩ = some (.pointer (some ⟨P, 0, none⟩)) ∧ w'.cell? ⟨K2, 0, none⟩ = some (.pointer (some ⟨C, 0, none⟩))) (by kernel_rfl) ⟨hB.k1.cell 0, hB.k2.cell 0⟩ (fun hHeld => ?_)
  refine wpAnyH_take (i := 0) (v := ?_) rfl (by kernel_rfl) (by kernel_rfl) (by kernel_rfl) (fun _ _ _ h => h) (Or.inl ⟨by rfl, ?hy⟩) hHeld ?_
  case hy =>
    intro w hSw
    (try dsimp only at hSw)
    go_simp
    (try with_reducible rfl)
  try simp only [Act.put, List.getElem_toArray, List.getElem_cons_zero, List.setIfInBounds_toArray, List.set_cons_zero, List.set_cons_succ]
  refine wpAnyH_take (i := 1) (v := ?_) rfl (by kernel_rfl) (by kernel_rfl) (by kernel_rfl) (fun _ _ _ h => h) (Or.inl ⟨by rfl, ?hy⟩) hHeld ?_
  case hy =>
    intro w hSw
    (try dsimp only at hSw)
    go_simp
    (try with_reducible rfl)
  try simp only [Act.put, List.getElem_toArray, List.getElem_cons_succ, List.getElem_cons_zero, List.setIfInBounds_toArray, List.set_cons_zero, List.set_cons_succ]
  refine wpAnyH_take (i := 2) (v := ?_) rfl (by kernel_rfl) (by kernel_rfl) (by kernel_rfl) (fun _ _ _ h => h) (Or.inl ⟨by rfl, ?hy⟩) hHeld ?_
  case hy =>
    intro w hSw
    (try dsimp only at hSw)
    go_simp
    (try with_reducible rfl)
  try simp only [Act.put, List.getElem_toArray, List.getElem_cons_succ, List.getElem_cons_zero, List.setIfInBounds_toArray, List.set_cons_zero, List.set_cons_succ]
  refine wpAnyH_take (i := 3) (v := ?_) rfl (by kernel_rfl) (by kernel_rfl) (by kernel_rfl) (fun _ _ _ h => h) (Or.inl ⟨by rfl, ?hy⟩) hHeld ?_
  case hy =>
    intro w hSw
    (try dsimp only at hSw)
    go_simp
    (try with_reducible rfl)
  try simp only [Act.put, List.getElem_toArray, List.getElem_cons_succ, List.getElem_cons_zero, List.setIfInBounds_toArray, List.set_cons_zero, List.set_cons_succ]
  refine wpAnyH_ready (rs := [4]) (by kernel_rfl) (by simp) ?_
  refine AllReadyH.cons rfl (fun K hK => ?_) AllReadyH.nil
  have hOld := hHeld
  clear hHeld
  go_simp
  refine (cr_text P R C 25 o bd x.1 x.2.1 hs w.drew hP.drew (Blk.drew hR) _ x.2.2 hC.drew (by omega) n1 n2 n3).mono ?_
  rintro r w1 ⟨⟨v, rfl⟩, hR1, hC1, hK1⟩; dsimp only
  have hB1 := (hB.kept hK0).kept hK1
  refine hK.out _ _ (⟨hB1.k1.cell 0, hB1.k2.cell 0⟩) (fun hHeld => ?_)
  clear hK K hOld
  try simp only [Act.put, List.getElem_toArray, List.getElem_cons_succ, List.getElem_cons_zero, List.setIfInBounds_toArray, List.set_cons_zero, List.set_cons_succ]
  refine wpAnyH_done (by kernel_rfl) ?_ _
  simp only [Exit.then]
  go_wp2_with fail
  go_end0
  exact ⟨⟨_, rfl⟩, hR1, hC1, hK0.trans hK1⟩
set_option maxHeartbeats 2000000 in
theorem re_task (P R C K1 K2 : Nat) : Reads 77 P R C K1 K2 (fun x => stepI (stepT x 27) (27 + 1)) := by
  intro w o bd x hs hn hP hR hB hC n1 n2 n3
  have hK0 := KeptRC.old (R := R) (C := C) (Below.refl w.heap.size w).drew
  obtain ⟨p0, p1, p2⟩ := hB.k1.facts
  obtain ⟨q0, q1, q2⟩ := hB.k2.facts
  go_enter Try.func77, Try.ntmps77
  go_wp2_with fail
  refine wp_region_held0 (S := fun w' => w'.cell? ⟨K1, 0, none⟩ = some (.pointer (some ⟨P, 0, none⟩)) ∧ w'.cell? ⟨K2, 0, none⟩ = some (.pointer (some ⟨C, 0, none⟩))) (by kernel_rfl) ⟨hB.k1.cell 0, hB.k2.cell 0⟩ (fun hHeld => ?_)
  refine wpAnyH_take (i := 0) (v := ?_) rfl (by kernel_rfl) (by kernel_rfl) (by kernel_rfl) (fun _ _ _ h => h) (Or.inl ⟨by rfl, ?hy⟩) hHeld ?_
  case hy =>
    intro w hSw
    (try dsimp only at hSw)
    go_simp
    (try with_reducible rfl)
  try simp only [Act.put, List.getElem_toArray, List.getElem_cons_zero, List.setIfInBounds_toArray, List.set_cons_zero, List.set_cons_succ]
  refine wpAnyH_take (i := 1) (v := ?_) rfl (by kernel_rfl) (by kernel_rfl) (by kernel_rfl) (fun _ _ _ h => h) (Or.inl ⟨by rfl, ?hy⟩) hHeld ?_
  case hy =>
    intro w hSw
    (try dsimp only at hSw)
    go_simp
    (try with_reducible rfl)
  try simp only [Act.put, List.getElem_toArray, List.getElem_cons_succ, List.getElem_cons_zero, List.setIfInBounds_toArray, List.set_cons_zero, List.set_cons_succ]
  refine wpAnyH_take (i := 2) (v := ?_) rfl (by kernel_rfl) (by kernel_rfl) (by kernel_rfl) (fun _ _ _ h => h) (Or.inl ⟨by rfl, ?hy⟩) hHeld ?_
  case hy =>
    intro w hSw
    (try dsimp only at hSw)
    go_simp
    (try with_reducible rfl)
  try simp only [Act.put, List.getElem_toArray, List.getElem_cons_succ, List.getElem_cons_zero, List.setIfInBounds_toArray, List.set_cons_zero, List.set_cons_succ]
  refine wpAnyH_take (i := 3) (v := ?_) rfl (by kernel_rfl) (by kernel_rfl) (by kernel_rfl) (fun _ _ _ h => h) (Or.inl ⟨by rfl, ?hy⟩) hHeld ?_
  case hy =>
    intro w hSw
    (try dsimp only at hSw)
    go_simp
    (try with_reducible rfl)
  try simp only [Act.put, List.getElem_toArray, List.getElem_cons_succ, List.getElem_cons_zero, List.setIfInBounds_toArray, List.set_cons_zero, List.set_cons_succ]
  refine wpAnyH_ready (rs := [4]) (by kernel_rfl) (by simp) ?_
  refine AllReadyH.cons rfl (fun K hK => ?_) AllReadyH.nil
  have hOld := hHeld
  clear hHeld
  go_simp
  refine (cr_task P R C 27 o bd x hs w.drew hP.drew (Blk.drew hR) _ hC.drew (by omega) n1 n2 n3).mono ?_
  rintro r w1 ⟨⟨v, rfl⟩, hR1, hC1, hK1⟩; dsimp only
  have hB1 := (hB.kept hK0).kept hK1
  refine hK.out _ _ (⟨hB1.k1.cell 0, hB1.k2.cell 0⟩) (fun hHeld => ?_)
  clear hK K hOld
  try simp only [Act.put, List.getElem_toArray, List.getElem_cons_succ, List.getElem_cons_zero, List.setIfInBounds_toArray, List.set_cons_zero, List.set_cons_succ]
  refine wpAnyH_done (by kernel_rfl) ?_ _
  simp only [Exit.then]
  go_wp2_with fail
  go_end0
  exact ⟨⟨_, rfl⟩, hR1, hC1, hK0.trans hK1⟩
set_option maxHeartbeats 2000000 in
theorem re_n (P R C K1 K2 : Nat) : Reads 79 P R C K1 K2 (fun x => stepI x 26) := by
  intro w o bd x hs hn hP hR hB hC n1 n2 n3
  have hK0 := KeptRC.old (R := R) (C := C) (Below.refl w.heap.size w).drew
  obtain ⟨p0, p1, p2⟩ := hB.k1.facts
  obtain ⟨q0, q1, q2⟩ := hB.k2.facts
  go_enter Try.func79, Try.ntmps79
  go_wp2_with fail
  refine wp_region_held0 (S := fun w' => w'.cell? ⟨K1, 0, none⟩ = some (.pointer (some ⟨P, 0, none⟩)) ∧ w'.cell? ⟨K2, 0, none⟩ = some (.pointer (some ⟨C, 0, none⟩))) (by kernel_rfl) ⟨hB.k1.cell 0, hB.k2.cell 0⟩ (fun hHeld => ?_)
  refine wpAnyH_take (i := 0) (v := ?_) rfl (by kernel_rfl) (by kernel_rfl) (by kernel_rfl) (fun _ _ _ h => h) (Or.inl ⟨by rfl, ?hy⟩) hHeld ?_
  case hy =>
    intro w hSw
    (try dsimp only at hSw)
    go_simp
    (try with_reducible rfl)
  try simp only [Act.put, List.getElem_toArray, List.getElem_cons_zero, List.setIfInBounds_toArray, List.set_cons_zero, List.set_cons_succ]
  refine wpAnyH_take (i := 1) (v := ?_) rfl (by kernel_rfl) (by kernel_rfl) (by kernel_rfl) (fun _ _ _ h => h) (Or.inl ⟨by rfl, ?hy⟩) hHeld ?_
  case hy =>
    intro w hSw
    (try dsimp only at hSw)
    go_simp
    (try with_reducible rfl)
  try simp only [Act.put, List.getElem_toArray, List.getElem_cons_succ, List.getElem_cons_zero, List.setIfInBounds_toArray, List.set_cons_zero, List.set_cons_succ]
  refine wpAnyH_take (i := 2) (v := ?_) rfl (by kernel_rfl) (by kernel_rfl) (by kernel_rfl) (fun _ _ _ h => h) (Or.inl ⟨by rfl, ?hy⟩) hHeld ?_
  case hy =>
    intro w hSw
    (try dsimp only at hSw)
    go_simp
    (try with_reducible rfl)
  try simp only [Act.put, List.getElem_toArray, List.getElem_cons_succ, List.getElem_cons_zero, List.setIfInBounds_toArray, List.set_cons_zero, List.set_cons_succ]
  refine wpAnyH_take (i := 3) (v := ?_) rfl (by kernel_rfl) (by kernel_rfl) (by kernel_rfl) (fun _ _ _ h => h) (Or.inl ⟨by rfl, ?hy⟩) hHeld ?_
  case hy =>
    intro w hSw
    (try dsimp only at hSw)
    go_simp
    (try with_reducible rfl)
  try simp only [Act.put, List.getElem_toArray, List.getElem_cons_succ, List.getElem_cons_zero, List.setIfInBounds_toArray, List.set_cons_zero, List.set_cons_succ]
  refine wpAnyH_ready (rs := [4]) (by kernel_rfl) (by simp) ?_
  refine AllReadyH.cons rfl (fun K hK => ?_) AllReadyH.nil
  have hOld := hHeld
  clear hHeld
  go_simp
  refine hK.out _ _ (⟨((hB.k1.alloc _).drew).cell 0, ((hB.k2.alloc _).drew).cell 0⟩) (fun hHeld => ?_)
  clear hK K hOld
  try simp only [Act.put, List.getElem_toArray, List.getElem_cons_succ, List.getElem_cons_zero, List.setIfInBounds_toArray, List.set_cons_zero, List.set_cons_succ]
  refine wpAnyH_ready (rs := [5]) (by kernel_rfl) (by simp) ?_
  refine AllReadyH.cons rfl (fun K hK => ?_) AllReadyH.nil
  have hOld := hHeld
  clear hHeld
  go_simp
  refine (oneR_numI P R C 26 o bd x hs w.drew hP.drew (Blk.drew hR) _ hC.drew (by omega) n1 n2 n3).mono ?_
  rintro r w1 ⟨⟨v, rfl⟩, hR1, hC1, hK1⟩; dsimp only
  have hB1 := (hB.kept hK0).kept hK1
  refine hK.out _ _ (⟨hB1.k1.cell 0, hB1.k2.cell 0⟩) (fun hHeld => ?_)
  clear hK K hOld
  try simp only [Act.put, List.getElem_toArray, List.getElem_cons_succ, List.getElem_cons_zero, List.setIfInBounds_toArray, List.set_cons_zero, List.set_cons_succ]
  refine wpAnyH_done (by kernel_rfl) ?_ _
  simp only [Exit.then]
  go_wp2_with fail
  go_end0
  exact ⟨⟨_, rfl⟩, hR1, hC1, hK0.trans hK1⟩
set_option maxHeartbeats 2000000 in
theorem re_machine (P R C K1 K2 : Nat) : Reads 81 P R C K1 K2 (fun x => stepI x 8) := by
  intro w o bd x hs hn hP hR hB hC n1 n2 n3
  have hK0 := KeptRC.old (R := R) (C := C) (Below.refl w.heap.size w).drew
  obtain ⟨p0, p1, p2⟩ := hB.k1.facts
  obtain ⟨q0, q1, q2⟩ := hB.k2.facts
  go_enter Try.func81, Try.ntmps81
  go_wp2_with fail
  refine wp_region_held0 (S := fun w' => w'.cell? ⟨K1, 0, none⟩ = some (.pointer (some ⟨P, 0, none⟩)) ∧ w'.cell? ⟨K2, 0, none⟩ = some (.pointer (some ⟨C, 0, none⟩))) (by kernel_rfl) ⟨hB.k1.cell 0, hB.k2.cell 0⟩ (fun hHeld => ?_)
  refine wpAnyH_take (i := 0) (v := ?_) rfl (by kernel_rfl) (by kernel_rfl) (by kernel_rfl) (fun _ _ _ h => h) (Or.inl ⟨by rfl, ?hy⟩) hHeld ?_
  case hy =>
    intro w hSw
    (try dsimp only at hSw)
    go_simp
    (try with_reducible rfl)
  try simp only [Act.put, List.getElem_toArray, List.getElem_cons_zero, List.setIfInBounds_toArray, List.set_cons_zero, List.set_cons_succ]
  refine wpAnyH_take (i := 1) (v := ?_) rfl (by kernel_rfl) (by kernel_rfl) (by kernel_rfl) (fun _ _ _ h => h) (Or.inl ⟨by rfl, ?hy⟩) hHeld ?_
  case hy =>
    intro w hSw
    (try dsimp only at hSw)
    go_simp
    (try with_reducible rfl)
  try simp only [Act.put, List.getElem_toArray, List.getElem_cons_succ, List.getElem_cons_zero, List.setIfInBounds_toArray, List.set_cons_zero, List.set_cons_succ]
  refine wpAnyH_take (i := 2) (v := ?_) rfl (by kernel_rfl) (by kernel_rfl) (by kernel_rfl) (fun _ _ _ h => h) (Or.inl ⟨by rfl, ?hy⟩) hHeld ?_
  case hy =>
    intro w hSw
    (try dsimp only at hSw)
    go_simp
    (try with_reducible rfl)
  try simp only [Act.put, List.getElem_toArray, List.getElem_cons_succ, List.getElem_cons_zero, List.setIfInBounds_toArray, List.set_cons_zero, List.set_cons_succ]
  refine wpAnyH_take (i := 3) (v := ?_) rfl (by kernel_rfl) (by kernel_rfl) (by kernel_rfl) (fun _ _ _ h => h) (Or.inl ⟨by rfl, ?hy⟩) hHeld ?_
  case hy =>
    intro w hSw
    (try dsimp only at hSw)
    go_simp
    (try with_reducible rfl)
  try simp only [Act.put, List.getElem_toArray, List.getElem_cons_succ, List.getElem_cons_zero, List.setIfInBounds_toArray, List.set_cons_zero, List.set_cons_succ]
  refine wpAnyH_ready (rs := [4]) (by kernel_rfl) (by simp) ?_
  refine AllReadyH.cons rfl (fun K hK => ?_) AllReadyH.nil
  have hOld := hHeld
  clear hHeld
  go_simp
  refine hK.out _ _ (⟨((hB.k1.alloc _).drew).cell 0, ((hB.k2.alloc _).drew).cell 0⟩) (fun hHeld => ?_)
  clear hK K hOld
  try simp only [Act.put, List.getElem_toArray, List.getElem_cons_succ, List.getElem_cons_zero, List.setIfInBounds_toArray, List.set_cons_zero, List.set_cons_succ]
  refine wpAnyH_ready (rs := [5]) (by kernel_rfl) (by simp) ?_
  refine AllReadyH.cons rfl (fun K hK => ?_) AllReadyH.nil
  have hOld := hHeld
  clear hHeld
  go_simp
  refine (oneR_numI P R C 8 o bd x hs w.drew hP.drew (Blk.drew hR) _ hC.drew (by omega) n1 n2 n3).mono ?_
  rintro r w1 ⟨⟨v, rfl⟩, hR1, hC1, hK1⟩; dsimp only
  have hB1 := (hB.kept hK0).kept hK1
  refine hK.out _ _ (⟨hB1.k1.cell 0, hB1.k2.cell 0⟩) (fun hHeld => ?_)
  clear hK K hOld
  try simp only [Act.put, List.getElem_toArray, List.getElem_cons_succ, List.getElem_cons_zero, List.setIfInBounds_toArray, List.set_cons_zero, List.set_cons_succ]
  refine wpAnyH_done (by kernel_rfl) ?_ _
  simp only [Exit.then]
  go_wp2_with fail
  go_end0
  exact ⟨⟨_, rfl⟩, hR1, hC1, hK0.trans hK1⟩
set_option maxHeartbeats 2000000 in
theorem re_in (P R C K1 K2 : Nat) : Reads 82 P R C K1 K2 (fun x => stepI x 29) := by
  intro w o bd x hs hn hP hR hB hC n1 n2 n3
  have hK0 := KeptRC.old (R := R) (C := C) (Below.refl w.heap.size w).drew
  obtain ⟨p0, p1, p2⟩ := hB.k1.facts
  obtain ⟨q0, q1, q2⟩ := hB.k2.facts
  go_enter Try.func82, Try.ntmps82
  go_wp2_with fail
  refine wp_region_held0 (S := fun w' => w'.cell? ⟨K1, 0, none⟩ = some (.pointer (some ⟨P, 0, none⟩)) ∧ w'.cell? ⟨K2, 0, none⟩ = some (.pointer (some ⟨C, 0, none⟩))) (by kernel_rfl) ⟨hB.k1.cell 0, hB.k2.cell 0⟩ (fun hHeld => ?_)
  refine wpAnyH_take (i := 0) (v := ?_) rfl (by kernel_rfl) (by kernel_rfl) (by kernel_rfl) (fun _ _ _ h => h) (Or.inl ⟨by rfl, ?hy⟩) hHeld ?_
  case hy =>
    intro w hSw
    (try dsimp only at hSw)
    go_simp
    (try with_reducible rfl)
  try simp only [Act.put, List.getElem_toArray, List.getElem_cons_zero, List.setIfInBounds_toArray, List.set_cons_zero, List.set_cons_succ]
  refine wpAnyH_take (i := 1) (v := ?_) rfl (by kernel_rfl) (by kernel_rfl) (by kernel_rfl) (fun _ _ _ h => h) (Or.inl ⟨by rfl, ?hy⟩) hHeld ?_
  case hy =>
    intro w hSw
    (try dsimp only at hSw)
    go_simp
    (try with_reducible rfl)
  try simp only [Act.put, List.getElem_toArray, List.getElem_cons_succ, List.getElem_cons_zero, List.setIfInBounds_toArray, List.set_cons_zero, List.set_cons_succ]
  refine wpAnyH_take (i := 2) (v := ?_) rfl (by kernel_rfl) (by kernel_rfl) (by kernel_rfl) (fun _ _ _ h => h) (Or.inl ⟨by rfl, ?hy⟩) hHeld ?_
  case hy =>
    intro w hSw
    (try dsimp only at hSw)
    go_simp
    (try with_reducible rfl)
  try simp only [Act.put, List.getElem_toArray, List.getElem_cons_succ, List.getElem_cons_zero, List.setIfInBounds_toArray, List.set_cons_zero, List.set_cons_succ]
  refine wpAnyH_take (i := 3) (v := ?_) rfl (by kernel_rfl) (by kernel_rfl) (by kernel_rfl) (fun _ _ _ h => h) (Or.inl ⟨by rfl, ?hy⟩) hHeld ?_
  case hy =>
    intro w hSw
    (try dsimp only at hSw)
    go_simp
    (try with_reducible rfl)
  try simp only [Act.put, List.getElem_toArray, List.getElem_cons_succ, List.getElem_cons_zero, List.setIfInBounds_toArray, List.set_cons_zero, List.set_cons_succ]
  refine wpAnyH_ready (rs := [4]) (by kernel_rfl) (by simp) ?_
  refine AllReadyH.cons rfl (fun K hK => ?_) AllReadyH.nil
  have hOld := hHeld
  clear hHeld
  go_simp
  refine hK.out _ _ (⟨((hB.k1.alloc _).drew).cell 0, ((hB.k2.alloc _).drew).cell 0⟩) (fun hHeld => ?_)
  clear hK K hOld
  try simp only [Act.put, List.getElem_toArray, List.getElem_cons_succ, List.getElem_cons_zero, List.setIfInBounds_toArray, List.set_cons_zero, List.set_cons_succ]
  refine wpAnyH_ready (rs := [5]) (by kernel_rfl) (by simp) ?_
  refine AllReadyH.cons rfl (fun K hK => ?_) AllReadyH.nil
  have hOld := hHeld
  clear hHeld
  go_simp
  refine (oneR_numI P R C 29 o bd x hs w.drew hP.drew (Blk.drew hR) _ hC.drew (by omega) n1 n2 n3).mono ?_
  rintro r w1 ⟨⟨v, rfl⟩, hR1, hC1, hK1⟩; dsimp only
  have hB1 := (hB.kept hK0).kept hK1
  refine hK.out _ _ (⟨hB1.k1.cell 0, hB1.k2.cell 0⟩) (fun hHeld => ?_)
  clear hK K hOld
  try simp only [Act.put, List.getElem_toArray, List.getElem_cons_succ, List.getElem_cons_zero, List.setIfInBounds_toArray, List.set_cons_zero, List.set_cons_succ]
  refine wpAnyH_done (by kernel_rfl) ?_ _
  simp only [Exit.then]
  go_wp2_with fail
  go_end0
  exact ⟨⟨_, rfl⟩, hR1, hC1, hK0.trans hK1⟩
set_option maxHeartbeats 2000000 in
theorem re_gen (P R C K1 K2 : Nat) : Reads 83 P R C K1 K2 (fun x => stepI x 30) := by
  intro w o bd x hs hn hP hR hB hC n1 n2 n3
  have hK0 := KeptRC.old (R := R) (C := C) (Below.refl w.heap.size w).drew
  obtain ⟨p0, p1, p2⟩ := hB.k1.facts
  obtain ⟨q0, q1, q2⟩ := hB.k2.facts
  go_enter Try.func83, Try.ntmps83
  go_wp2_with fail
  refine wp_region_held0 (S := fun w' => w'.cell? ⟨K1, 0, none⟩ = some (.pointer (some ⟨P, 0, none⟩)) ∧ w'.cell? ⟨K2, 0, none⟩ = some (.pointer (some ⟨C, 0, none⟩))) (by kernel_rfl) ⟨hB.k1.cell 0, hB.k2.cell 0⟩ (fun hHeld => ?_)
  refine wpAnyH_take (i := 0) (v := ?_) rfl (by kernel_rfl) (by kernel_rfl) (by kernel_rfl) (fun _ _ _ h => h) (Or.inl ⟨by rfl, ?hy⟩) hHeld ?_
  case hy =>
    intro w hSw
    (try dsimp only at hSw)
    go_simp
    (try with_reducible rfl)
  try simp only [Act.put, List.getElem_toArray, List.getElem_cons_zero, List.setIfInBounds_toArray, List.set_cons_zero, List.set_cons_succ]
  refine wpAnyH_take (i := 1) (v := ?_) rfl (by kernel_rfl) (by kernel_rfl) (by kernel_rfl) (fun _ _ _ h => h) (Or.inl ⟨by rfl, ?hy⟩) hHeld ?_
  case hy =>
    intro w hSw
    (try dsimp only at hSw)
    go_simp
    (try with_reducible rfl)
  try simp only [Act.put, List.getElem_toArray, List.getElem_cons_succ, List.getElem_cons_zero, List.setIfInBounds_toArray, List.set_cons_zero, List.set_cons_succ]
  refine wpAnyH_take (i := 2) (v := ?_) rfl (by kernel_rfl) (by kernel_rfl) (by kernel_rfl) (fun _ _ _ h => h) (Or.inl ⟨by rfl, ?hy⟩) hHeld ?_
  case hy =>
    intro w hSw
    (try dsimp only at hSw)
    go_simp
    (try with_reducible rfl)
  try simp only [Act.put, List.getElem_toArray, List.getElem_cons_succ, List.getElem_cons_zero, List.setIfInBounds_toArray, List.set_cons_zero, List.set_cons_succ]
  refine wpAnyH_take (i := 3) (v := ?_) rfl (by kernel_rfl) (by kernel_rfl) (by kernel_rfl) (fun _ _ _ h => h) (Or.inl ⟨by rfl, ?hy⟩) hHeld ?_
  case hy =>
    intro w hSw
    (try dsimp only at hSw)
    go_simp
    (try with_reducible rfl)
  try simp only [Act.put, List.getElem_toArray, List.getElem_cons_succ, List.getElem_cons_zero, List.setIfInBounds_toArray, List.set_cons_zero, List.set_cons_succ]
  refine wpAnyH_ready (rs := [4]) (by kernel_rfl) (by simp) ?_
  refine AllReadyH.cons rfl (fun K hK => ?_) AllReadyH.nil
  have hOld := hHeld
  clear hHeld
  go_simp
  refine hK.out _ _ (⟨((hB.k1.alloc _).drew).cell 0, ((hB.k2.alloc _).drew).cell 0⟩) (fun hHeld => ?_)
  clear hK K hOld
  try simp only [Act.put, List.getElem_toArray, List.getElem_cons_succ, List.getElem_cons_zero, List.setIfInBounds_toArray, List.set_cons_zero, List.set_cons_succ]
  refine wpAnyH_ready (rs := [5]) (by kernel_rfl) (by simp) ?_
  refine AllReadyH.cons rfl (fun K hK => ?_) AllReadyH.nil
  have hOld := hHeld
  clear hHeld
  go_simp
  refine (oneR_numI P R C 30 o bd x hs w.drew hP.drew (Blk.drew hR) _ hC.drew (by omega) n1 n2 n3).mono ?_
  rintro r w1 ⟨⟨v, rfl⟩, hR1, hC1, hK1⟩; dsimp only
  have hB1 := (hB.kept hK0).kept hK1
  refine hK.out _ _ (⟨hB1.k1.cell 0, hB1.k2.cell 0⟩) (fun hHeld => ?_)
  clear hK K hOld
  try simp only [Act.put, List.getElem_toArray, List.getElem_cons_succ, List.getElem_cons_zero, List.setIfInBounds_toArray, List.set_cons_zero, List.set_cons_succ]
  refine wpAnyH_done (by kernel_rfl) ?_ _
  simp only [Exit.then]
  go_wp2_with fail
  go_end0
  exact ⟨⟨_, rfl⟩, hR1, hC1, hK0.trans hK1⟩
set_option maxHeartbeats 2000000 in
theorem re_why (P R C K1 K2 : Nat) : Reads 84 P R C K1 K2 (fun x => stepS x 31) := by
  intro w o bd x hs hn hP hR hB hC n1 n2 n3
  have hK0 := KeptRC.old (R := R) (C := C) (Below.refl w.heap.size w).drew
  obtain ⟨p0, p1, p2⟩ := hB.k1.facts
  obtain ⟨q0, q1, q2⟩ := hB.k2.facts
  go_enter Try.func84, Try.ntmps84
  go_wp2_with fail
  refine wp_region_held0 (S := fun w' => w'.cell? ⟨K1, 0, none⟩ = some (.pointer (some ⟨P, 0, none⟩)) ∧ w'.cell? ⟨K2, 0, none⟩ = some (.pointer (some ⟨C, 0, none⟩))) (by kernel_rfl) ⟨hB.k1.cell 0, hB.k2.cell 0⟩ (fun hHeld => ?_)
  refine wpAnyH_take (i := 0) (v := ?_) rfl (by kernel_rfl) (by kernel_rfl) (by kernel_rfl) (fun _ _ _ h => h) (Or.inl ⟨by rfl, ?hy⟩) hHeld ?_
  case hy =>
    intro w hSw
    (try dsimp only at hSw)
    go_simp
    (try with_reducible rfl)
  try simp only [Act.put, List.getElem_toArray, List.getElem_cons_zero, List.setIfInBounds_toArray, List.set_cons_zero, List.set_cons_succ]
  refine wpAnyH_take (i := 1) (v := ?_) rfl (by kernel_rfl) (by kernel_rfl) (by kernel_rfl) (fun _ _ _ h => h) (Or.inl ⟨by rfl, ?hy⟩) hHeld ?_
  case hy =>
    intro w hSw
    (try dsimp only at hSw)
    go_simp
    (try with_reducible rfl)
  try simp only [Act.put, List.getElem_toArray, List.getElem_cons_succ, List.getElem_cons_zero, List.setIfInBounds_toArray, List.set_cons_zero, List.set_cons_succ]
  refine wpAnyH_take (i := 2) (v := ?_) rfl (by kernel_rfl) (by kernel_rfl) (by kernel_rfl) (fun _ _ _ h => h) (Or.inl ⟨by rfl, ?hy⟩) hHeld ?_
  case hy =>
    intro w hSw
    (try dsimp only at hSw)
    go_simp
    (try with_reducible rfl)
  try simp only [Act.put, List.getElem_toArray, List.getElem_cons_succ, List.getElem_cons_zero, List.setIfInBounds_toArray, List.set_cons_zero, List.set_cons_succ]
  refine wpAnyH_take (i := 3) (v := ?_) rfl (by kernel_rfl) (by kernel_rfl) (by kernel_rfl) (fun _ _ _ h => h) (Or.inl ⟨by rfl, ?hy⟩) hHeld ?_
  case hy =>
    intro w hSw
    (try dsimp only at hSw)
    go_simp
    (try with_reducible rfl)
  try simp only [Act.put, List.getElem_toArray, List.getElem_cons_succ, List.getElem_cons_zero, List.setIfInBounds_toArray, List.set_cons_zero, List.set_cons_succ]
  refine wpAnyH_ready (rs := [4]) (by kernel_rfl) (by simp) ?_
  refine AllReadyH.cons rfl (fun K hK => ?_) AllReadyH.nil
  have hOld := hHeld
  clear hHeld
  go_simp
  refine (cr_small P R C 31 o bd x.1 x.2.1 hs w.drew hP.drew (Blk.drew hR) _ x.2.2 hC.drew (by omega) n1 n2 n3).mono ?_
  rintro r w1 ⟨⟨v, rfl⟩, hR1, hC1, hK1⟩; dsimp only
  have hB1 := (hB.kept hK0).kept hK1
  refine hK.out _ _ (⟨hB1.k1.cell 0, hB1.k2.cell 0⟩) (fun hHeld => ?_)
  clear hK K hOld
  try simp only [Act.put, List.getElem_toArray, List.getElem_cons_succ, List.getElem_cons_zero, List.setIfInBounds_toArray, List.set_cons_zero, List.set_cons_succ]
  refine wpAnyH_done (by kernel_rfl) ?_ _
  simp only [Exit.then]
  go_wp2_with fail
  go_end0
  exact ⟨⟨_, rfl⟩, hR1, hC1, hK0.trans hK1⟩
set_option maxHeartbeats 2000000 in
theorem re_vec (P R C K1 K2 : Nat) : Reads 85 P R C K1 K2 (fun x => [5, 5 + 1, 5 + 2].foldl stepI x) := by
  intro w o bd x hs hn hP hR hB hC n1 n2 n3
  have hK0 := KeptRC.old (R := R) (C := C) (Below.refl w.heap.size w).drew
  obtain ⟨p0, p1, p2⟩ := hB.k1.facts
  obtain ⟨q0, q1, q2⟩ := hB.k2.facts
  go_enter Try.func85, Try.ntmps85
  go_wp2_with fail
  refine wp_region_held0 (S := fun w' => w'.cell? ⟨K1, 0, none⟩ = some (.pointer (some ⟨P, 0, none⟩)) ∧ w'.cell? ⟨K2, 0, none⟩ = some (.pointer (some ⟨C, 0, none⟩))) (by kernel_rfl) ⟨hB.k1.cell 0, hB.k2.cell 0⟩ (fun hHeld => ?_)
  refine wpAnyH_take (i := 0) (v := ?_) rfl (by kernel_rfl) (by kernel_rfl) (by kernel_rfl) (fun _ _ _ h => h) (Or.inl ⟨by rfl, ?hy⟩) hHeld ?_
  case hy =>
    intro w hSw
    (try dsimp only at hSw)
    go_simp
    (try with_reducible rfl)
  try simp only [Act.put, List.getElem_toArray, List.getElem_cons_zero, List.setIfInBounds_toArray, List.set_cons_zero, List.set_cons_succ]
  refine wpAnyH_take (i := 1) (v := ?_) rfl (by kernel_rfl) (by kernel_rfl) (by kernel_rfl) (fun _ _ _ h => h) (Or.inl ⟨by rfl, ?hy⟩) hHeld ?_
  case hy =>
    intro w hSw
    (try dsimp only at hSw)
    go_simp
    (try with_reducible rfl)
  try simp only [Act.put, List.getElem_toArray, List.getElem_cons_succ, List.getElem_cons_zero, List.setIfInBounds_toArray, List.set_cons_zero, List.set_cons_succ]
  refine wpAnyH_take (i := 2) (v := ?_) rfl (by kernel_rfl) (by kernel_rfl) (by kernel_rfl) (fun _ _ _ h => h) (Or.inl ⟨by rfl, ?hy⟩) hHeld ?_
  case hy =>
    intro w hSw
    (try dsimp only at hSw)
    go_simp
    (try with_reducible rfl)
  try simp only [Act.put, List.getElem_toArray, List.getElem_cons_succ, List.getElem_cons_zero, List.setIfInBounds_toArray, List.set_cons_zero, List.set_cons_succ]
  refine wpAnyH_take (i := 3) (v := ?_) rfl (by kernel_rfl) (by kernel_rfl) (by kernel_rfl) (fun _ _ _ h => h) (Or.inl ⟨by rfl, ?hy⟩) hHeld ?_
  case hy =>
    intro w hSw
    (try dsimp only at hSw)
    go_simp
    (try with_reducible rfl)
  try simp only [Act.put, List.getElem_toArray, List.getElem_cons_succ, List.getElem_cons_zero, List.setIfInBounds_toArray, List.set_cons_zero, List.set_cons_succ]
  refine wpAnyH_ready (rs := [4]) (by kernel_rfl) (by simp) ?_
  refine AllReadyH.cons rfl (fun K hK => ?_) AllReadyH.nil
  have hOld := hHeld
  clear hHeld
  go_simp
  refine (cr_vec P R C 5 o bd x hs w.drew hP.drew (Blk.drew hR) _ hC.drew (by omega) n1 n2 n3).mono ?_
  rintro r w1 ⟨⟨v, rfl⟩, hR1, hC1, hK1⟩; dsimp only
  have hB1 := (hB.kept hK0).kept hK1
  refine hK.out _ _ (⟨hB1.k1.cell 0, hB1.k2.cell 0⟩) (fun hHeld => ?_)
  clear hK K hOld
  try simp only [Act.put, List.getElem_toArray, List.getElem_cons_succ, List.getElem_cons_zero, List.setIfInBounds_toArray, List.set_cons_zero, List.set_cons_succ]
  refine wpAnyH_done (by kernel_rfl) ?_ _
  simp only [Exit.then]
  go_wp2_with fail
  go_end0
  exact ⟨⟨_, rfl⟩, hR1, hC1, hK0.trans hK1⟩
set_option maxHeartbeats 2000000 in
theorem re_job (P R C K1 K2 : Nat) : Reads 87 P R C K1 K2 (fun x => jobS x 9) := by
  intro w o bd x hs hn hP hR hB hC n1 n2 n3
  have hK0 := KeptRC.old (R := R) (C := C) (Below.refl w.heap.size w).drew
  obtain ⟨p0, p1, p2⟩ := hB.k1.facts
  obtain ⟨q0, q1, q2⟩ := hB.k2.facts
  go_enter Try.func87, Try.ntmps87
  go_wp2_with fail
  refine wp_region_held0 (S := fun w' => w'.cell? ⟨K1, 0, none⟩ = some (.pointer (some ⟨P, 0, none⟩)) ∧ w'.cell? ⟨K2, 0, none⟩ = some (.pointer (some ⟨C, 0, none⟩))) (by kernel_rfl) ⟨hB.k1.cell 0, hB.k2.cell 0⟩ (fun hHeld => ?_)
  refine wpAnyH_take (i := 0) (v := ?_) rfl (by kernel_rfl) (by kernel_rfl) (by kernel_rfl) (fun _ _ _ h => h) (Or.inl ⟨by rfl, ?hy⟩) hHeld ?_
  case hy =>
    intro w hSw
    (try dsimp only at hSw)
    go_simp
    (try with_reducible rfl)
  try simp only [Act.put, List.getElem_toArray, List.getElem_cons_zero, List.setIfInBounds_toArray, List.set_cons_zero, List.set_cons_succ]
  refine wpAnyH_take (i := 1) (v := ?_) rfl (by kernel_rfl) (by kernel_rfl) (by kernel_rfl) (fun _ _ _ h => h) (Or.inl ⟨by rfl, ?hy⟩) hHeld ?_
  case hy =>
    intro w hSw
    (try dsimp only at hSw)
    go_simp
    (try with_reducible rfl)
  try simp only [Act.put, List.getElem_toArray, List.getElem_cons_succ, List.getElem_cons_zero, List.setIfInBounds_toArray, List.set_cons_zero, List.set_cons_succ]
  refine wpAnyH_take (i := 2) (v := ?_) rfl (by kernel_rfl) (by kernel_rfl) (by kernel_rfl) (fun _ _ _ h => h) (Or.inl ⟨by rfl, ?hy⟩) hHeld ?_
  case hy =>
    intro w hSw
    (try dsimp only at hSw)
    go_simp
    (try with_reducible rfl)
  try simp only [Act.put, List.getElem_toArray, List.getElem_cons_succ, List.getElem_cons_zero, List.setIfInBounds_toArray, List.set_cons_zero, List.set_cons_succ]
  refine wpAnyH_take (i := 3) (v := ?_) rfl (by kernel_rfl) (by kernel_rfl) (by kernel_rfl) (fun _ _ _ h => h) (Or.inl ⟨by rfl, ?hy⟩) hHeld ?_
  case hy =>
    intro w hSw
    (try dsimp only at hSw)
    go_simp
    (try with_reducible rfl)
  try simp only [Act.put, List.getElem_toArray, List.getElem_cons_succ, List.getElem_cons_zero, List.setIfInBounds_toArray, List.set_cons_zero, List.set_cons_succ]
  refine wpAnyH_ready (rs := [4]) (by kernel_rfl) (by simp) ?_
  refine AllReadyH.cons rfl (fun K hK => ?_) AllReadyH.nil
  have hOld := hHeld
  clear hHeld
  go_simp
  refine (cr_job P R C 9 o bd x hs w.drew hP.drew (Blk.drew hR) _ hC.drew (by omega) n1 n2 n3).mono ?_
  rintro r w1 ⟨⟨v, rfl⟩, hR1, hC1, hK1⟩; dsimp only
  have hB1 := (hB.kept hK0).kept hK1
  refine hK.out _ _ (⟨hB1.k1.cell 0, hB1.k2.cell 0⟩) (fun hHeld => ?_)
  clear hK K hOld
  try simp only [Act.put, List.getElem_toArray, List.getElem_cons_succ, List.getElem_cons_zero, List.setIfInBounds_toArray, List.set_cons_zero, List.set_cons_succ]
  refine wpAnyH_done (by kernel_rfl) ?_ _
  simp only [Exit.then]
  go_wp2_with fail
  go_end0
  exact ⟨⟨_, rfl⟩, hR1, hC1, hK0.trans hK1⟩
set_option maxHeartbeats 2000000 in
theorem re_alloc (P R C K1 K2 : Nat) : Reads 89 P R C K1 K2 (fun x => allocS x 19) := by
  intro w o bd x hs hn hP hR hB hC n1 n2 n3
  have hK0 := KeptRC.old (R := R) (C := C) (Below.refl w.heap.size w).drew
  obtain ⟨p0, p1, p2⟩ := hB.k1.facts
  obtain ⟨q0, q1, q2⟩ := hB.k2.facts
  go_enter Try.func89, Try.ntmps89
  go_wp2_with fail
  refine wp_region_held0 (S := fun w' => w'.cell? ⟨K1, 0, none⟩ = some (.pointer (some ⟨P, 0, none⟩)) ∧ w'.cell? ⟨K2, 0, none⟩ = some (.pointer (some ⟨C, 0, none⟩))) (by kernel_rfl) ⟨hB.k1.cell 0, hB.k2.cell 0⟩ (fun hHeld => ?_)
  refine wpAnyH_take (i := 0) (v := ?_) rfl (by kernel_rfl) (by kernel_rfl) (by kernel_rfl) (fun _ _ _ h => h) (Or.inl ⟨by rfl, ?hy⟩) hHeld ?_
  case hy =>
    intro w hSw
    (try dsimp only at hSw)
    go_simp
    (try with_reducible rfl)
  try simp only [Act.put, List.getElem_toArray, List.getElem_cons_zero, List.setIfInBounds_toArray, List.set_cons_zero, List.set_cons_succ]
  refine wpAnyH_take (i := 1) (v := ?_) rfl (by kernel_rfl) (by kernel_rfl) (by kernel_rfl) (fun _ _ _ h => h) (Or.inl ⟨by rfl, ?hy⟩) hHeld ?_
  case hy =>
    intro w hSw
    (try dsimp only at hSw)
    go_simp
    (try with_reducible rfl)
  try simp only [Act.put, List.getElem_toArray, List.getElem_cons_succ, List.getElem_cons_zero, List.setIfInBounds_toArray, List.set_cons_zero, List.set_cons_succ]
  refine wpAnyH_take (i := 2) (v := ?_) rfl (by kernel_rfl) (by kernel_rfl) (by kernel_rfl) (fun _ _ _ h => h) (Or.inl ⟨by rfl, ?hy⟩) hHeld ?_
  case hy =>
    intro w hSw
    (try dsimp only at hSw)
    go_simp
    (try with_reducible rfl)
  try simp only [Act.put, List.getElem_toArray, List.getElem_cons_succ, List.getElem_cons_zero, List.setIfInBounds_toArray, List.set_cons_zero, List.set_cons_succ]
  refine wpAnyH_take (i := 3) (v := ?_) rfl (by kernel_rfl) (by kernel_rfl) (by kernel_rfl) (fun _ _ _ h => h) (Or.inl ⟨by rfl, ?hy⟩) hHeld ?_
  case hy =>
    intro w hSw
    (try dsimp only at hSw)
    go_simp
    (try with_reducible rfl)
  try simp only [Act.put, List.getElem_toArray, List.getElem_cons_succ, List.getElem_cons_zero, List.setIfInBounds_toArray, List.set_cons_zero, List.set_cons_succ]
  refine wpAnyH_ready (rs := [4]) (by kernel_rfl) (by simp) ?_
  refine AllReadyH.cons rfl (fun K hK => ?_) AllReadyH.nil
  have hOld := hHeld
  clear hHeld
  go_simp
  refine (cr_alloc P R C 19 o bd x hs w.drew hP.drew (Blk.drew hR) _ hC.drew (by omega) n1 n2 n3).mono ?_
  rintro r w1 ⟨⟨v, rfl⟩, hR1, hC1, hK1⟩; dsimp only
  have hB1 := (hB.kept hK0).kept hK1
  refine hK.out _ _ (⟨hB1.k1.cell 0, hB1.k2.cell 0⟩) (fun hHeld => ?_)
  clear hK K hOld
  try simp only [Act.put, List.getElem_toArray, List.getElem_cons_succ, List.getElem_cons_zero, List.setIfInBounds_toArray, List.set_cons_zero, List.set_cons_succ]
  refine wpAnyH_done (by kernel_rfl) ?_ _
  simp only [Exit.then]
  go_wp2_with fail
  go_end0
  exact ⟨⟨_, rfl⟩, hR1, hC1, hK0.trans hK1⟩
set_option maxHeartbeats 2000000 in
theorem re_tick (P R C K1 K2 : Nat) : Reads 91 P R C K1 K2 (fun x => stepI x 32) := by
  intro w o bd x hs hn hP hR hB hC n1 n2 n3
  have hK0 := KeptRC.old (R := R) (C := C) (Below.refl w.heap.size w).drew
  obtain ⟨p0, p1, p2⟩ := hB.k1.facts
  obtain ⟨q0, q1, q2⟩ := hB.k2.facts
  go_enter Try.func91, Try.ntmps91
  go_wp2_with fail
  refine wp_region_held0 (S := fun w' => w'.cell? ⟨K1, 0, none⟩ = some (.pointer (some ⟨P, 0, none⟩)) ∧ w'.cell? ⟨K2, 0, none⟩ = some (.pointer (some ⟨C, 0, none⟩))) (by kernel_rfl) ⟨hB.k1.cell 0, hB.k2.cell 0⟩ (fun hHeld => ?_)
  refine wpAnyH_take (i := 0) (v := ?_) rfl (by kernel_rfl) (by kernel_rfl) (by kernel_rfl) (fun _ _ _ h => h) (Or.inl ⟨by rfl, ?hy⟩) hHeld ?_
  case hy =>
    intro w hSw
    (try dsimp only at hSw)
    go_simp
    (try with_reducible rfl)
  try simp only [Act.put, List.getElem_toArray, List.getElem_cons_zero, List.setIfInBounds_toArray, List.set_cons_zero, List.set_cons_succ]
  refine wpAnyH_take (i := 1) (v := ?_) rfl (by kernel_rfl) (by kernel_rfl) (by kernel_rfl) (fun _ _ _ h => h) (Or.inl ⟨by rfl, ?hy⟩) hHeld ?_
  case hy =>
    intro w hSw
    (try dsimp only at hSw)
    go_simp
    (try with_reducible rfl)
  try simp only [Act.put, List.getElem_toArray, List.getElem_cons_succ, List.getElem_cons_zero, List.setIfInBounds_toArray, List.set_cons_zero, List.set_cons_succ]
  refine wpAnyH_take (i := 2) (v := ?_) rfl (by kernel_rfl) (by kernel_rfl) (by kernel_rfl) (fun _ _ _ h => h) (Or.inl ⟨by rfl, ?hy⟩) hHeld ?_
  case hy =>
    intro w hSw
    (try dsimp only at hSw)
    go_simp
    (try with_reducible rfl)
  try simp only [Act.put, List.getElem_toArray, List.getElem_cons_succ, List.getElem_cons_zero, List.setIfInBounds_toArray, List.set_cons_zero, List.set_cons_succ]
  refine wpAnyH_take (i := 3) (v := ?_) rfl (by kernel_rfl) (by kernel_rfl) (by kernel_rfl) (fun _ _ _ h => h) (Or.inl ⟨by rfl, ?hy⟩) hHeld ?_
  case hy =>
    intro w hSw
    (try dsimp only at hSw)
    go_simp
    (try with_reducible rfl)
  try simp only [Act.put, List.getElem_toArray, List.getElem_cons_succ, List.getElem_cons_zero, List.setIfInBounds_toArray, List.set_cons_zero, List.set_cons_succ]
  refine wpAnyH_ready (rs := [4]) (by kernel_rfl) (by simp) ?_
  refine AllReadyH.cons rfl (fun K hK => ?_) AllReadyH.nil
  have hOld := hHeld
  clear hHeld
  go_simp
  refine hK.out _ _ (⟨((hB.k1.alloc _).drew).cell 0, ((hB.k2.alloc _).drew).cell 0⟩) (fun hHeld => ?_)
  clear hK K hOld
  try simp only [Act.put, List.getElem_toArray, List.getElem_cons_succ, List.getElem_cons_zero, List.setIfInBounds_toArray, List.set_cons_zero, List.set_cons_succ]
  refine wpAnyH_ready (rs := [5]) (by kernel_rfl) (by simp) ?_
  refine AllReadyH.cons rfl (fun K hK => ?_) AllReadyH.nil
  have hOld := hHeld
  clear hHeld
  go_simp
  refine (oneR_numL P R C 32 o bd x hs w.drew hP.drew (Blk.drew hR) _ hC.drew (by omega) n1 n2 n3).mono ?_
  rintro r w1 ⟨⟨v, rfl⟩, hR1, hC1, hK1⟩; dsimp only
  have hB1 := (hB.kept hK0).kept hK1
  refine hK.out _ _ (⟨hB1.k1.cell 0, hB1.k2.cell 0⟩) (fun hHeld => ?_)
  clear hK K hOld
  try simp only [Act.put, List.getElem_toArray, List.getElem_cons_succ, List.getElem_cons_zero, List.setIfInBounds_toArray, List.set_cons_zero, List.set_cons_succ]
  refine wpAnyH_done (by kernel_rfl) ?_ _
  simp only [Exit.then]
  go_wp2_with fail
  go_end0
  exact ⟨⟨_, rfl⟩, hR1, hC1, hK0.trans hK1⟩
end Go.Proofs.Yteglieoeblehpaa
