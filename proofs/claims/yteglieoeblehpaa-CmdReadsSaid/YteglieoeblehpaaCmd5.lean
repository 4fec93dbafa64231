/- Commands: the fields of a command, one by one, written, walked. Conditions: the texts are short. -/
import Derived.Test.YteglieoeblehpaaCmd3
import Derived.Test.YteglieoeblehpaaCmd4
namespace Go.Proofs.Yteglieoeblehpaa
open Go.RowKit

/-- The coder's and the command's boxes, as the closures bear them. -/
structure CBox (w : World) (K1 K2 P C : Nat) : Prop where
  k1 : Blk w K1 97 #[.pointer (some ⟨P, 0, none⟩)]
  k2 : Blk w K2 101 #[.pointer (some ⟨C, 0, none⟩)]
  n1 : K1 ≠ P
  n2 : K2 ≠ P
theorem CBox.kept {w w' : World} {K1 K2 P C : Nat} (h : CBox w K1 K2 P C) (hk : Kept P w w') : CBox w' K1 K2 P C := ⟨hk.blk h.k1 h.n1, hk.blk h.k2 h.n2, h.n1, h.n2⟩
/-- What a closure does: it puts these bytes behind, and knows whether a text was too long. -/
def Writes (F P C K1 K2 : Nat) (cs : Array Value) (enc : ByteArray) (long : Bool) : Prop :=
  ∀ (w : World) (o : ByteArray) (bd : Bool), o.size ≤ 800000 → Cw w P o bd → CBox w K1 K2 P C → Blk w C 64 cs → C ≠ P →
    Calls Try.prog F #[.pointer (some ⟨K1, 0, none⟩), .pointer (some ⟨K2, 0, none⟩)] w fun e w' => (∃ v, e = .returned v) ∧ Cw w' P (o ++ enc) (bd || long) ∧ Kept P w w'
set_option maxHeartbeats 2000000 in
theorem cl_user (P C K1 K2 : Nat) (cs : Array Value) (s : ByteArray) (hs : s.size ≤ 1024) (h : cs[3]? = some (.string s)) : Writes 73 P C K1 K2 cs (encT s) (decide ((64 : Int) < (s.size : Int))) := by
  intro w o bd ho hP hB hC hne
  have hK0 := Kept.of (P := P) (Below.refl w.heap.size w).drew
  obtain ⟨p0, p1, p2⟩ := hB.k1.facts
  obtain ⟨q0, q1, q2⟩ := hB.k2.facts
  go_enter Try.func73, Try.ntmps73
  go_wp2_with fail
  refine wp_region_held0 (S := fun w' => w'.cell? ⟨K1, 0, none⟩ = some (.pointer (some ⟨P, 0, none⟩)) ∧ w'.cell? ⟨K2, 0, none⟩ = some (.pointer (some ⟨C, 0, none⟩))) (by kernel_rfl) ⟨hB.k1.cell 0, hB.k2.cell 0⟩ (fun hHeld => ?_)
  refine wpAnyH_take (i := 0) (v := ?_) rfl (by kernel_rfl) (by kernel_rfl) (by kernel_rfl) (fun _ _ _ h => h) (Or.inl ⟨by rfl, ?hy⟩) hHeld ?_
  case hy =>
    intro w hSw
    (try dsimp only at hSw)
    go_simp
    (try with_reducible rfl)
  try simp only [Act.put, List.getElem_toArray, List.getElem_cons_zero, List.setIfInBounds_toArray, List.set_cons_zero, List.set_cons_succ]
  refine wpAnyH_take (i := 1) (v := ?_) rfl (by kernel_rfl) (by kernel_rfl) (by kernel_rfl) (fun _ _ _ h => h) (Or.inl ⟨by rfl, ?hy⟩) hHeld ?_
  case hy =>
    intro w hSw
    (try dsimp only at hSw)
    go_simp
    (try with_reducible rfl)
  try simp only [Act.put, List.getElem_toArray, List.getElem_cons_succ, List.getElem_cons_zero, List.setIfInBounds_toArray, List.set_cons_zero, List.set_cons_succ]
  refine wpAnyH_take (i := 2) (v := ?_) rfl (by kernel_rfl) (by kernel_rfl) (by kernel_rfl) (fun _ _ _ h => h) (Or.inl ⟨by rfl, ?hy⟩) hHeld ?_
  case hy =>
    intro w hSw
    (try dsimp only at hSw)
    go_simp
    (try with_reducible rfl)
  try simp only [Act.put, List.getElem_toArray, List.getElem_cons_succ, List.getElem_cons_zero, List.setIfInBounds_toArray, List.set_cons_zero, List.set_cons_succ]
  refine wpAnyH_take (i := 3) (v := ?_) rfl (by kernel_rfl) (by kernel_rfl) (by kernel_rfl) (fun _ _ _ h => h) (Or.inl ⟨by rfl, ?hy⟩) hHeld ?_
  case hy =>
    intro w hSw
    (try dsimp only at hSw)
    go_simp
    (try with_reducible rfl)
  try simp only [Act.put, List.getElem_toArray, List.getElem_cons_succ, List.getElem_cons_zero, List.setIfInBounds_toArray, List.set_cons_zero, List.set_cons_succ]
  refine wpAnyH_ready (rs := [4]) (by kernel_rfl) (by simp) ?_
  refine AllReadyH.cons rfl (fun K hK => ?_) AllReadyH.nil
  have hOld := hHeld
  clear hHeld
  go_simp
  refine (cw_text P C 3 o bd s hs (by omega) w.drew hP.drew hne (blk_cell hC.drew h)).mono ?_
  rintro r w1 ⟨⟨v, rfl⟩, hP1, hK1⟩; dsimp only
  have hB1 := (hB.kept hK0).kept hK1
  refine hK.out _ _ (⟨hB1.k1.cell 0, hB1.k2.cell 0⟩) (fun hHeld => ?_)
  clear hK K hOld
  try simp only [Act.put, List.getElem_toArray, List.getElem_cons_succ, List.getElem_cons_zero, List.setIfInBounds_toArray, List.set_cons_zero, List.set_cons_succ]
  refine wpAnyH_done (by kernel_rfl) ?_ _
  simp only [Exit.then]
  go_wp2_with fail
  go_end0
  exact ⟨⟨_, rfl⟩, hP1, hK0.trans hK1⟩
set_option maxHeartbeats 2000000 in
theorem cl_band (P C K1 K2 : Nat) (cs : Array Value) (x : Int) (hx : 0 ≤ x ∧ x < 256) (h : cs[4]? = some (.int .u8 x)) : Writes 75 P C K1 K2 cs (encU x) false := by
  intro w o bd ho hP hB hC hne
  have hK0 := Kept.of (P := P) (Below.refl w.heap.size w).drew
  obtain ⟨p0, p1, p2⟩ := hB.k1.facts
  obtain ⟨q0, q1, q2⟩ := hB.k2.facts
  go_enter Try.func75, Try.ntmps75
  go_wp2_with fail
  refine wp_region_held0 (S := fun w' => w'.cell? ⟨K1, 0, none⟩ = some (.pointer (some ⟨P, 0, none⟩)) ∧ w'.cell? ⟨K2, 0, none⟩ = some (.pointer (some ⟨C, 0, none⟩))) (by kernel_rfl) ⟨hB.k1.cell 0, hB.k2.cell 0⟩ (fun hHeld => ?_)
  refine wpAnyH_take (i := 0) (v := ?_) rfl (by kernel_rfl) (by kernel_rfl) (by kernel_rfl) (fun _ _ _ h => h) (Or.inl ⟨by rfl, ?hy⟩) hHeld ?_
  case hy =>
    intro w hSw
    (try dsimp only at hSw)
    go_simp
    (try with_reducible rfl)
  try simp only [Act.put, List.getElem_toArray, List.getElem_cons_zero, List.setIfInBounds_toArray, List.set_cons_zero, List.set_cons_succ]
  refine wpAnyH_take (i := 1) (v := ?_) rfl (by kernel_rfl) (by kernel_rfl) (by kernel_rfl) (fun _ _ _ h => h) (Or.inl ⟨by rfl, ?hy⟩) hHeld ?_
  case hy =>
    intro w hSw
    (try dsimp only at hSw)
    go_simp
    (try with_reducible rfl)
  try simp only [Act.put, List.getElem_toArray, List.getElem_cons_succ, List.getElem_cons_zero, List.setIfInBounds_toArray, List.set_cons_zero, List.set_cons_succ]
  refine wpAnyH_take (i := 2) (v := ?_) rfl (by kernel_rfl) (by kernel_rfl) (by kernel_rfl) (fun _ _ _ h => h) (Or.inl ⟨by rfl, ?hy⟩) hHeld ?_
  case hy =>
    intro w hSw
    (try dsimp only at hSw)
    go_simp
    (try with_reducible rfl)
  try simp only [Act.put, List.getElem_toArray, List.getElem_cons_succ, List.getElem_cons_zero, List.setIfInBounds_toArray, List.set_cons_zero, List.set_cons_succ]
  refine wpAnyH_take (i := 3) (v := ?_) rfl (by kernel_rfl) (by kernel_rfl) (by kernel_rfl) (fun _ _ _ h => h) (Or.inl ⟨by rfl, ?hy⟩) hHeld ?_
  case hy =>
    intro w hSw
    (try dsimp only at hSw)
    go_simp
    (try with_reducible rfl)
  try simp only [Act.put, List.getElem_toArray, List.getElem_cons_succ, List.getElem_cons_zero, List.setIfInBounds_toArray, List.set_cons_zero, List.set_cons_succ]
  refine wpAnyH_ready (rs := [4]) (by kernel_rfl) (by simp) ?_
  refine AllReadyH.cons rfl (fun K hK => ?_) AllReadyH.nil
  have hOld := hHeld
  clear hHeld
  go_simp
  refine (cw_small P C 4 o bd x hx (by omega) w.drew hP.drew hne (blk_cell hC.drew h)).mono ?_
  rintro r w1 ⟨⟨v, rfl⟩, hP1, hK1⟩; dsimp only
  have hB1 := (hB.kept hK0).kept hK1
  refine hK.out _ _ (⟨hB1.k1.cell 0, hB1.k2.cell 0⟩) (fun hHeld => ?_)
  clear hK K hOld
  try simp only [Act.put, List.getElem_toArray, List.getElem_cons_succ, List.getElem_cons_zero, List.setIfInBounds_toArray, List.set_cons_zero, List.set_cons_succ]
  refine wpAnyH_done (by kernel_rfl) ?_ _
  simp only [Exit.then]
  go_wp2_with fail
  go_end0
  exact ⟨⟨_, rfl⟩, by rw [Bool.or_false]; exact hP1, hK0.trans hK1⟩
set_option maxHeartbeats 2000000 in
theorem cl_name (P C K1 K2 : Nat) (cs : Array Value) (s : ByteArray) (hs : s.size ≤ 1024) (h : cs[25]? = some (.string s)) : Writes 76 P C K1 K2 cs (encT s) (decide ((64 : Int) < (s.size : Int))) := by
  intro w o bd ho hP hB hC hne
  have hK0 := Kept.of (P := P) (Below.refl w.heap.size w).drew
  obtain ⟨p0, p1, p2⟩ := hB.k1.facts
  obtain ⟨q0, q1, q2⟩ := hB.k2.facts
  go_enter Try.func76, Try.ntmps76
  go_wp2_with fail
  refine wp_region_held0 (S := fun w' => w'.cell? ⟨K1, 0, none⟩ = some (.pointer (some ⟨P, 0, none⟩)) ∧ w'.cell? ⟨K2, 0, none⟩ = some (.pointer (some ⟨C, 0, none⟩))) (by kernel_rfl) ⟨hB.k1.cell 0, hB.k2.cell 0⟩ (fun hHeld => ?_)
  refine wpAnyH_take (i := 0) (v := ?_) rfl (by kernel_rfl) (by kernel_rfl) (by kernel_rfl) (fun _ _ _ h => h) (Or.inl ⟨by rfl, ?hy⟩) hHeld ?_
  case hy =>
    intro w hSw
    (try dsimp only at hSw)
    go_simp
    (try with_reducible rfl)
  try simp only [Act.put, List.getElem_toArray, List.getElem_cons_zero, List.setIfInBounds_toArray, List.set_cons_zero, List.set_cons_succ]
  refine wpAnyH_take (i := 1) (v := ?_) rfl (by kernel_rfl) (by kernel_rfl) (by kernel_rfl) (fun _ _ _ h => h) (Or.inl ⟨by rfl, ?hy⟩) hHeld ?_
  case hy =>
    intro w hSw
    (try dsimp only at hSw)
    go_simp
    (try with_reducible rfl)
  try simp only [Act.put, List.getElem_toArray, List.getElem_cons_succ, List.getElem_cons_zero, List.setIfInBounds_toArray, List.set_cons_zero, List.set_cons_succ]
  refine wpAnyH_take (i := 2) (v := ?_) rfl (by kernel_rfl) (by kernel_rfl) (by kernel_rfl) (fun _ _ _ h => h) (Or.inl ⟨by rfl, ?hy⟩) hHeld ?_
  case hy =>
    intro w hSw
    (try dsimp only at hSw)
    go_simp
    (try with_reducible rfl)
  try simp only [Act.put, List.getElem_toArray, List.getElem_cons_succ, List.getElem_cons_zero, List.setIfInBounds_toArray, List.set_cons_zero, List.set_cons_succ]
  refine wpAnyH_take (i := 3) (v := ?_) rfl (by kernel_rfl) (by kernel_rfl) (by kernel_rfl) (fun _ _ _ h => h) (Or.inl ⟨by rfl, ?hy⟩) hHeld ?_
  case hy =>
    intro w hSw
    (try dsimp only at hSw)
    go_simp
    (try with_reducible rfl)
  try simp only [Act.put, List.getElem_toArray, List.getElem_cons_succ, List.getElem_cons_zero, List.setIfInBounds_toArray, List.set_cons_zero, List.set_cons_succ]
  refine wpAnyH_ready (rs := [4]) (by kernel_rfl) (by simp) ?_
  refine AllReadyH.cons rfl (fun K hK => ?_) AllReadyH.nil
  have hOld := hHeld
  clear hHeld
  go_simp
  refine (cw_text P C 25 o bd s hs (by omega) w.drew hP.drew hne (blk_cell hC.drew h)).mono ?_
  rintro r w1 ⟨⟨v, rfl⟩, hP1, hK1⟩; dsimp only
  have hB1 := (hB.kept hK0).kept hK1
  refine hK.out _ _ (⟨hB1.k1.cell 0, hB1.k2.cell 0⟩) (fun hHeld => ?_)
  clear hK K hOld
  try simp only [Act.put, List.getElem_toArray, List.getElem_cons_succ, List.getElem_cons_zero, List.setIfInBounds_toArray, List.set_cons_zero, List.set_cons_succ]
  refine wpAnyH_done (by kernel_rfl) ?_ _
  simp only [Exit.then]
  go_wp2_with fail
  go_end0
  exact ⟨⟨_, rfl⟩, hP1, hK0.trans hK1⟩
set_option maxHeartbeats 2000000 in
theorem cl_n (P C K1 K2 : Nat) (cs : Array Value) (x : Int) (hx : I64 x) (h : cs[26]? = some (.int .i64 x)) : Writes 79 P C K1 K2 cs (encI x) false := by
  intro w o bd ho hP hB hC hne
  have hK0 := Kept.of (P := P) (Below.refl w.heap.size w).drew
  obtain ⟨p0, p1, p2⟩ := hB.k1.facts
  obtain ⟨q0, q1, q2⟩ := hB.k2.facts
  go_enter Try.func79, Try.ntmps79
  go_wp2_with fail
  refine wp_region_held0 (S := fun w' => w'.cell? ⟨K1, 0, none⟩ = some (.pointer (some ⟨P, 0, none⟩)) ∧ w'.cell? ⟨K2, 0, none⟩ = some (.pointer (some ⟨C, 0, none⟩))) (by kernel_rfl) ⟨hB.k1.cell 0, hB.k2.cell 0⟩ (fun hHeld => ?_)
  refine wpAnyH_take (i := 0) (v := ?_) rfl (by kernel_rfl) (by kernel_rfl) (by kernel_rfl) (fun _ _ _ h => h) (Or.inl ⟨by rfl, ?hy⟩) hHeld ?_
  case hy =>
    intro w hSw
    (try dsimp only at hSw)
    go_simp
    (try with_reducible rfl)
  try simp only [Act.put, List.getElem_toArray, List.getElem_cons_zero, List.setIfInBounds_toArray, List.set_cons_zero, List.set_cons_succ]
  refine wpAnyH_take (i := 1) (v := ?_) rfl (by kernel_rfl) (by kernel_rfl) (by kernel_rfl) (fun _ _ _ h => h) (Or.inl ⟨by rfl, ?hy⟩) hHeld ?_
  case hy =>
    intro w hSw
    (try dsimp only at hSw)
    go_simp
    (try with_reducible rfl)
  try simp only [Act.put, List.getElem_toArray, List.getElem_cons_succ, List.getElem_cons_zero, List.setIfInBounds_toArray, List.set_cons_zero, List.set_cons_succ]
  refine wpAnyH_take (i := 2) (v := ?_) rfl (by kernel_rfl) (by kernel_rfl) (by kernel_rfl) (fun _ _ _ h => h) (Or.inl ⟨by rfl, ?hy⟩) hHeld ?_
  case hy =>
    intro w hSw
    (try dsimp only at hSw)
    go_simp
    (try with_reducible rfl)
  try simp only [Act.put, List.getElem_toArray, List.getElem_cons_succ, List.getElem_cons_zero, List.setIfInBounds_toArray, List.set_cons_zero, List.set_cons_succ]
  refine wpAnyH_take (i := 3) (v := ?_) rfl (by kernel_rfl) (by kernel_rfl) (by kernel_rfl) (fun _ _ _ h => h) (Or.inl ⟨by rfl, ?hy⟩) hHeld ?_
  case hy =>
    intro w hSw
    (try dsimp only at hSw)
    go_simp
    (try with_reducible rfl)
  try simp only [Act.put, List.getElem_toArray, List.getElem_cons_succ, List.getElem_cons_zero, List.setIfInBounds_toArray, List.set_cons_zero, List.set_cons_succ]
  refine wpAnyH_ready (rs := [4]) (by kernel_rfl) (by simp) ?_
  refine AllReadyH.cons rfl (fun K hK => ?_) AllReadyH.nil
  have hOld := hHeld
  clear hHeld
  go_simp
  refine hK.out _ _ (⟨((hB.k1.alloc _).drew).cell 0, ((hB.k2.alloc _).drew).cell 0⟩) (fun hHeld => ?_)
  clear hK K hOld
  try simp only [Act.put, List.getElem_toArray, List.getElem_cons_succ, List.getElem_cons_zero, List.setIfInBounds_toArray, List.set_cons_zero, List.set_cons_succ]
  refine wpAnyH_ready (rs := [5]) (by kernel_rfl) (by simp) ?_
  refine AllReadyH.cons rfl (fun K hK => ?_) AllReadyH.nil
  have hOld := hHeld
  clear hHeld
  go_simp
  refine (one_numI P C 26 o bd x hx (by omega) w.drew hP.drew hne _ cs hC.drew h).mono ?_
  rintro r w1 ⟨⟨v, rfl⟩, hP1, hK1⟩; dsimp only
  have hB1 := (hB.kept hK0).kept hK1
  refine hK.out _ _ (⟨hB1.k1.cell 0, hB1.k2.cell 0⟩) (fun hHeld => ?_)
  clear hK K hOld
  try simp only [Act.put, List.getElem_toArray, List.getElem_cons_succ, List.getElem_cons_zero, List.setIfInBounds_toArray, List.set_cons_zero, List.set_cons_succ]
  refine wpAnyH_done (by kernel_rfl) ?_ _
  simp only [Exit.then]
  go_wp2_with fail
  go_end0
  exact ⟨⟨_, rfl⟩, by rw [Bool.or_false]; exact hP1, hK0.trans hK1⟩
set_option maxHeartbeats 2000000 in
theorem cl_machine (P C K1 K2 : Nat) (cs : Array Value) (x : Int) (hx : I64 x) (h : cs[8]? = some (.int .i64 x)) : Writes 81 P C K1 K2 cs (encI x) false := by
  intro w o bd ho hP hB hC hne
  have hK0 := Kept.of (P := P) (Below.refl w.heap.size w).drew
  obtain ⟨p0, p1, p2⟩ := hB.k1.facts
  obtain ⟨q0, q1, q2⟩ := hB.k2.facts
  go_enter Try.func81, Try.ntmps81
  go_wp2_with fail
  refine wp_region_held0 (S := fun w' => w'.cell? ⟨K1, 0, none⟩ = some (.pointer (some ⟨P, 0, none⟩)) ∧ w'.cell? ⟨K2, 0, none⟩ = some (.pointer (some ⟨C, 0, none⟩))) (by kernel_rfl) ⟨hB.k1.cell 0, hB.k2.cell 0⟩ (fun hHeld => ?_)
  refine wpAnyH_take (i := 0) (v := ?_) rfl (by kernel_rfl) (by kernel_rfl) (by kernel_rfl) (fun _ _ _ h => h) (Or.inl ⟨by rfl, ?hy⟩) hHeld ?_
  case hy =>
    intro w hSw
    (try dsimp only at hSw)
    go_simp
    (try with_reducible rfl)
  try simp only [Act.put, List.getElem_toArray, List.getElem_cons_zero, List.setIfInBounds_toArray, List.set_cons_zero, List.set_cons_succ]
  refine wpAnyH_take (i := 1) (v := ?_) rfl (by kernel_rfl) (by kernel_rfl) (by kernel_rfl) (fun _ _ _ h => h) (Or.inl ⟨by rfl, ?hy⟩) hHeld ?_
  case hy =>
    intro w hSw
    (try dsimp only at hSw)
    go_simp
    (try with_reducible rfl)
  try simp only [Act.put, List.getElem_toArray, List.getElem_cons_succ, List.getElem_cons_zero, List.setIfInBounds_toArray, List.set_cons_zero, List.set_cons_succ]
  refine wpAnyH_take (i := 2) (v := ?_) rfl (by kernel_rfl) (by kernel_rfl) (by kernel_rfl) (fun _ _ _ h => h) (Or.inl ⟨by rfl, ?hy⟩) hHeld ?_
  case hy =>
    intro w hSw
    (try dsimp only at hSw)
    go_simp
    (try with_reducible rfl)
  try simp only [Act.put, List.getElem_toArray, List.getElem_cons_succ, List.getElem_cons_zero, List.setIfInBounds_toArray, List.set_cons_zero, List.set_cons_succ]
  refine wpAnyH_take (i := 3) (v := ?_) rfl (by kernel_rfl) (by kernel_rfl) (by kernel_rfl) (fun _ _ _ h => h) (Or.inl ⟨by rfl, ?hy⟩) hHeld ?_
  case hy =>
    intro w hSw
    (try dsimp only at hSw)
    go_simp
    (try with_reducible rfl)
  try simp only [Act.put, List.getElem_toArray, List.getElem_cons_succ, List.getElem_cons_zero, List.setIfInBounds_toArray, List.set_cons_zero, List.set_cons_succ]
  refine wpAnyH_ready (rs := [4]) (by kernel_rfl) (by simp) ?_
  refine AllReadyH.cons rfl (fun K hK => ?_) AllReadyH.nil
  have hOld := hHeld
  clear hHeld
  go_simp
  refine hK.out _ _ (⟨((hB.k1.alloc _).drew).cell 0, ((hB.k2.alloc _).drew).cell 0⟩) (fun hHeld => ?_)
  clear hK K hOld
  try simp only [Act.put, List.getElem_toArray, List.getElem_cons_succ, List.getElem_cons_zero, List.setIfInBounds_toArray, List.set_cons_zero, List.set_cons_succ]
  refine wpAnyH_ready (rs := [5]) (by kernel_rfl) (by simp) ?_
  refine AllReadyH.cons rfl (fun K hK => ?_) AllReadyH.nil
  have hOld := hHeld
  clear hHeld
  go_simp
  refine (one_numI P C 8 o bd x hx (by omega) w.drew hP.drew hne _ cs hC.drew h).mono ?_
  rintro r w1 ⟨⟨v, rfl⟩, hP1, hK1⟩; dsimp only
  have hB1 := (hB.kept hK0).kept hK1
  refine hK.out _ _ (⟨hB1.k1.cell 0, hB1.k2.cell 0⟩) (fun hHeld => ?_)
  clear hK K hOld
  try simp only [Act.put, List.getElem_toArray, List.getElem_cons_succ, List.getElem_cons_zero, List.setIfInBounds_toArray, List.set_cons_zero, List.set_cons_succ]
  refine wpAnyH_done (by kernel_rfl) ?_ _
  simp only [Exit.then]
  go_wp2_with fail
  go_end0
  exact ⟨⟨_, rfl⟩, by rw [Bool.or_false]; exact hP1, hK0.trans hK1⟩
set_option maxHeartbeats 2000000 in
theorem cl_in (P C K1 K2 : Nat) (cs : Array Value) (x : Int) (hx : I64 x) (h : cs[29]? = some (.int .i64 x)) : Writes 82 P C K1 K2 cs (encI x) false := by
  intro w o bd ho hP hB hC hne
  have hK0 := Kept.of (P := P) (Below.refl w.heap.size w).drew
  obtain ⟨p0, p1, p2⟩ := hB.k1.facts
  obtain ⟨q0, q1, q2⟩ := hB.k2.facts
  go_enter Try.func82, Try.ntmps82
  go_wp2_with fail
  refine wp_region_held0 (S := fun w' => w'.cell? ⟨K1, 0, none⟩ = some (.pointer (some ⟨P, 0, none⟩)) ∧ w'.cell? ⟨K2, 0, none⟩ = some (.pointer (some ⟨C, 0, none⟩))) (by kernel_rfl) ⟨hB.k1.cell 0, hB.k2.cell 0⟩ (fun hHeld => ?_)
  refine wpAnyH_take (i := 0) (v := ?_) rfl (by kernel_rfl) (by kernel_rfl) (by kernel_rfl) (fun _ _ _ h => h) (Or.inl ⟨by rfl, ?hy⟩) hHeld ?_
  case hy =>
    intro w hSw
    (try dsimp only at hSw)
    go_simp
    (try with_reducible rfl)
  try simp only [Act.put, List.getElem_toArray, List.getElem_cons_zero, List.setIfInBounds_toArray, List.set_cons_zero, List.set_cons_succ]
  refine wpAnyH_take (i := 1) (v := ?_) rfl (by kernel_rfl) (by kernel_rfl) (by kernel_rfl) (fun _ _ _ h => h) (Or.inl ⟨by rfl, ?hy⟩) hHeld ?_
  case hy =>
    intro w hSw
    (try dsimp only at hSw)
    go_simp
    (try with_reducible rfl)
  try simp only [Act.put, List.getElem_toArray, List.getElem_cons_succ, List.getElem_cons_zero, List.setIfInBounds_toArray, List.set_cons_zero, List.set_cons_succ]
  refine wpAnyH_take (i := 2) (v := ?_) rfl (by kernel_rfl) (by kernel_rfl) (by kernel_rfl) (fun _ _ _ h => h) (Or.inl ⟨by rfl, ?hy⟩) hHeld ?_
  case hy =>
    intro w hSw
    (try dsimp only at hSw)
    go_simp
    (try with_reducible rfl)
  try simp only [Act.put, List.getElem_toArray, List.getElem_cons_succ, List.getElem_cons_zero, List.setIfInBounds_toArray, List.set_cons_zero, List.set_cons_succ]
  refine wpAnyH_take (i := 3) (v := ?_) rfl (by kernel_rfl) (by kernel_rfl) (by kernel_rfl) (fun _ _ _ h => h) (Or.inl ⟨by rfl, ?hy⟩) hHeld ?_
  case hy =>
    intro w hSw
    (try dsimp only at hSw)
    go_simp
    (try with_reducible rfl)
  try simp only [Act.put, List.getElem_toArray, List.getElem_cons_succ, List.getElem_cons_zero, List.setIfInBounds_toArray, List.set_cons_zero, List.set_cons_succ]
  refine wpAnyH_ready (rs := [4]) (by kernel_rfl) (by simp) ?_
  refine AllReadyH.cons rfl (fun K hK => ?_) AllReadyH.nil
  have hOld := hHeld
  clear hHeld
  go_simp
  refine hK.out _ _ (⟨((hB.k1.alloc _).drew).cell 0, ((hB.k2.alloc _).drew).cell 0⟩) (fun hHeld => ?_)
  clear hK K hOld
  try simp only [Act.put, List.getElem_toArray, List.getElem_cons_succ, List.getElem_cons_zero, List.setIfInBounds_toArray, List.set_cons_zero, List.set_cons_succ]
  refine wpAnyH_ready (rs := [5]) (by kernel_rfl) (by simp) ?_
  refine AllReadyH.cons rfl (fun K hK => ?_) AllReadyH.nil
  have hOld := hHeld
  clear hHeld
  go_simp
  refine (one_numI P C 29 o bd x hx (by omega) w.drew hP.drew hne _ cs hC.drew h).mono ?_
  rintro r w1 ⟨⟨v, rfl⟩, hP1, hK1⟩; dsimp only
  have hB1 := (hB.kept hK0).kept hK1
  refine hK.out _ _ (⟨hB1.k1.cell 0, hB1.k2.cell 0⟩) (fun hHeld => ?_)
  clear hK K hOld
  try simp only [Act.put, List.getElem_toArray, List.getElem_cons_succ, List.getElem_cons_zero, List.setIfInBounds_toArray, List.set_cons_zero, List.set_cons_succ]
  refine wpAnyH_done (by kernel_rfl) ?_ _
  simp only [Exit.then]
  go_wp2_with fail
  go_end0
  exact ⟨⟨_, rfl⟩, by rw [Bool.or_false]; exact hP1, hK0.trans hK1⟩
set_option maxHeartbeats 2000000 in
theorem cl_gen (P C K1 K2 : Nat) (cs : Array Value) (x : Int) (hx : I64 x) (h : cs[30]? = some (.int .i64 x)) : Writes 83 P C K1 K2 cs (encI x) false := by
  intro w o bd ho hP hB hC hne
  have hK0 := Kept.of (P := P) (Below.refl w.heap.size w).drew
  obtain ⟨p0, p1, p2⟩ := hB.k1.facts
  obtain ⟨q0, q1, q2⟩ := hB.k2.facts
  go_enter Try.func83, Try.ntmps83
  go_wp2_with fail
  refine wp_region_held0 (S := fun w' => w'.cell? ⟨K1, 0, none⟩ = some (.pointer (some ⟨P, 0, none⟩)) ∧ w'.cell? ⟨K2, 0, none⟩ = some (.pointer (some ⟨C, 0, none⟩))) (by kernel_rfl) ⟨hB.k1.cell 0, hB.k2.cell 0⟩ (fun hHeld => ?_)
  refine wpAnyH_take (i := 0) (v := ?_) rfl (by kernel_rfl) (by kernel_rfl) (by kernel_rfl) (fun _ _ _ h => h) (Or.inl ⟨by rfl, ?hy⟩) hHeld ?_
  case hy =>
    intro w hSw
    (try dsimp only at hSw)
    go_simp
    (try with_reducible rfl)
  try simp only [Act.put, List.getElem_toArray, List.getElem_cons_zero, List.setIfInBounds_toArray, List.set_cons_zero, List.set_cons_succ]
  refine wpAnyH_take (i := 1) (v := ?_) rfl (by kernel_rfl) (by kernel_rfl) (by kernel_rfl) (fun _ _ _ h => h) (Or.inl ⟨by rfl, ?hy⟩) hHeld ?_
  case hy =>
    intro w hSw
    (try dsimp only at hSw)
    go_simp
    (try with_reducible rfl)
  try simp only [Act.put, List.getElem_toArray, List.getElem_cons_succ, List.getElem_cons_zero, List.setIfInBounds_toArray, List.set_cons_zero, List.set_cons_succ]
  refine wpAnyH_take (i := 2) (v := ?_) rfl (by kernel_rfl) (by kernel_rfl) (by kernel_rfl) (fun _ _ _ h => h) (Or.inl ⟨by rfl, ?hy⟩) hHeld ?_
  case hy =>
    intro w hSw
    (try dsimp only at hSw)
    go_simp
    (try with_reducible rfl)
  try simp only [Act.put, List.getElem_toArray, List.getElem_cons_succ, List.getElem_cons_zero, List.setIfInBounds_toArray, List.set_cons_zero, List.set_cons_succ]
  refine wpAnyH_take (i := 3) (v := ?_) rfl (by kernel_rfl) (by kernel_rfl) (by kernel_rfl) (fun _ _ _ h => h) (Or.inl ⟨by rfl, ?hy⟩) hHeld ?_
  case hy =>
    intro w hSw
    (try dsimp only at hSw)
    go_simp
    (try with_reducible rfl)
  try simp only [Act.put, List.getElem_toArray, List.getElem_cons_succ, List.getElem_cons_zero, List.setIfInBounds_toArray, List.set_cons_zero, List.set_cons_succ]
  refine wpAnyH_ready (rs := [4]) (by kernel_rfl) (by simp) ?_
  refine AllReadyH.cons rfl (fun K hK => ?_) AllReadyH.nil
  have hOld := hHeld
  clear hHeld
  go_simp
  refine hK.out _ _ (⟨((hB.k1.alloc _).drew).cell 0, ((hB.k2.alloc _).drew).cell 0⟩) (fun hHeld => ?_)
  clear hK K hOld
  try simp only [Act.put, List.getElem_toArray, List.getElem_cons_succ, List.getElem_cons_zero, List.setIfInBounds_toArray, List.set_cons_zero, List.set_cons_succ]
  refine wpAnyH_ready (rs := [5]) (by kernel_rfl) (by simp) ?_
  refine AllReadyH.cons rfl (fun K hK => ?_) AllReadyH.nil
  have hOld := hHeld
  clear hHeld
  go_simp
  refine (one_numI P C 30 o bd x hx (by omega) w.drew hP.drew hne _ cs hC.drew h).mono ?_
  rintro r w1 ⟨⟨v, rfl⟩, hP1, hK1⟩; dsimp only
  have hB1 := (hB.kept hK0).kept hK1
  refine hK.out _ _ (⟨hB1.k1.cell 0, hB1.k2.cell 0⟩) (fun hHeld => ?_)
  clear hK K hOld
  try simp only [Act.put, List.getElem_toArray, List.getElem_cons_succ, List.getElem_cons_zero, List.setIfInBounds_toArray, List.set_cons_zero, List.set_cons_succ]
  refine wpAnyH_done (by kernel_rfl) ?_ _
  simp only [Exit.then]
  go_wp2_with fail
  go_end0
  exact ⟨⟨_, rfl⟩, by rw [Bool.or_false]; exact hP1, hK0.trans hK1⟩
set_option maxHeartbeats 2000000 in
theorem cl_why (P C K1 K2 : Nat) (cs : Array Value) (x : Int) (hx : 0 ≤ x ∧ x < 256) (h : cs[31]? = some (.int .u8 x)) : Writes 84 P C K1 K2 cs (encU x) false := by
  intro w o bd ho hP hB hC hne
  have hK0 := Kept.of (P := P) (Below.refl w.heap.size w).drew
  obtain ⟨p0, p1, p2⟩ := hB.k1.facts
  obtain ⟨q0, q1, q2⟩ := hB.k2.facts
  go_enter Try.func84, Try.ntmps84
  go_wp2_with fail
  refine wp_region_held0 (S := fun w' => w'.cell? ⟨K1, 0, none⟩ = some (.pointer (some ⟨P, 0, none⟩)) ∧ w'.cell? ⟨K2, 0, none⟩ = some (.pointer (some ⟨C, 0, none⟩))) (by kernel_rfl) ⟨hB.k1.cell 0, hB.k2.cell 0⟩ (fun hHeld => ?_)
  refine wpAnyH_take (i := 0) (v := ?_) rfl (by kernel_rfl) (by kernel_rfl) (by kernel_rfl) (fun _ _ _ h => h) (Or.inl ⟨by rfl, ?hy⟩) hHeld ?_
  case hy =>
    intro w hSw
    (try dsimp only at hSw)
    go_simp
    (try with_reducible rfl)
  try simp only [Act.put, List.getElem_toArray, List.getElem_cons_zero, List.setIfInBounds_toArray, List.set_cons_zero, List.set_cons_succ]
  refine wpAnyH_take (i := 1) (v := ?_) rfl (by kernel_rfl) (by kernel_rfl) (by kernel_rfl) (fun _ _ _ h => h) (Or.inl ⟨by rfl, ?hy⟩) hHeld ?_
  case hy =>
    intro w hSw
    (try dsimp only at hSw)
    go_simp
    (try with_reducible rfl)
  try simp only [Act.put, List.getElem_toArray, List.getElem_cons_succ, List.getElem_cons_zero, List.setIfInBounds_toArray, List.set_cons_zero, List.set_cons_succ]
  refine wpAnyH_take (i := 2) (v := ?_) rfl (by kernel_rfl) (by kernel_rfl) (by kernel_rfl) (fun _ _ _ h => h) (Or.inl ⟨by rfl, ?hy⟩) hHeld ?_
  case hy =>
    intro w hSw
    (try dsimp only at hSw)
    go_simp
    (try with_reducible rfl)
  try simp only [Act.put, List.getElem_toArray, List.getElem_cons_succ, List.getElem_cons_zero, List.setIfInBounds_toArray, List.set_cons_zero, List.set_cons_succ]
  refine wpAnyH_take (i := 3) (v := ?_) rfl (by kernel_rfl) (by kernel_rfl) (by kernel_rfl) (fun _ _ _ h => h) (Or.inl ⟨by rfl, ?hy⟩) hHeld ?_
  case hy =>
    intro w hSw
    (try dsimp only at hSw)
    go_simp
    (try with_reducible rfl)
  try simp only [Act.put, List.getElem_toArray, List.getElem_cons_succ, List.getElem_cons_zero, List.setIfInBounds_toArray, List.set_cons_zero, List.set_cons_succ]
  refine wpAnyH_ready (rs := [4]) (by kernel_rfl) (by simp) ?_
  refine AllReadyH.cons rfl (fun K hK => ?_) AllReadyH.nil
  have hOld := hHeld
  clear hHeld
  go_simp
  refine (cw_small P C 31 o bd x hx (by omega) w.drew hP.drew hne (blk_cell hC.drew h)).mono ?_
  rintro r w1 ⟨⟨v, rfl⟩, hP1, hK1⟩; dsimp only
  have hB1 := (hB.kept hK0).kept hK1
  refine hK.out _ _ (⟨hB1.k1.cell 0, hB1.k2.cell 0⟩) (fun hHeld => ?_)
  clear hK K hOld
  try simp only [Act.put, List.getElem_toArray, List.getElem_cons_succ, List.getElem_cons_zero, List.setIfInBounds_toArray, List.set_cons_zero, List.set_cons_succ]
  refine wpAnyH_done (by kernel_rfl) ?_ _
  simp only [Exit.then]
  go_wp2_with fail
  go_end0
  exact ⟨⟨_, rfl⟩, by rw [Bool.or_false]; exact hP1, hK0.trans hK1⟩
set_option maxHeartbeats 2000000 in
theorem cl_tick (P C K1 K2 : Nat) (cs : Array Value) (x : Int) (hx : I64 x) (h : cs[32]? = some (.int .i64 x)) : Writes 91 P C K1 K2 cs (encI x) false := by
  intro w o bd ho hP hB hC hne
  have hK0 := Kept.of (P := P) (Below.refl w.heap.size w).drew
  obtain ⟨p0, p1, p2⟩ := hB.k1.facts
  obtain ⟨q0, q1, q2⟩ := hB.k2.facts
  go_enter Try.func91, Try.ntmps91
  go_wp2_with fail
  refine wp_region_held0 (S := fun w' => w'.cell? ⟨K1, 0, none⟩ = some (.pointer (some ⟨P, 0, none⟩)) ∧ w'.cell? ⟨K2, 0, none⟩ = some (.pointer (some ⟨C, 0, none⟩))) (by kernel_rfl) ⟨hB.k1.cell 0, hB.k2.cell 0⟩ (fun hHeld => ?_)
  refine wpAnyH_take (i := 0) (v := ?_) rfl (by kernel_rfl) (by kernel_rfl) (by kernel_rfl) (fun _ _ _ h => h) (Or.inl ⟨by rfl, ?hy⟩) hHeld ?_
  case hy =>
    intro w hSw
    (try dsimp only at hSw)
    go_simp
    (try with_reducible rfl)
  try simp only [Act.put, List.getElem_toArray, List.getElem_cons_zero, List.setIfInBounds_toArray, List.set_cons_zero, List.set_cons_succ]
  refine wpAnyH_take (i := 1) (v := ?_) rfl (by kernel_rfl) (by kernel_rfl) (by kernel_rfl) (fun _ _ _ h => h) (Or.inl ⟨by rfl, ?hy⟩) hHeld ?_
  case hy =>
    intro w hSw
    (try dsimp only at hSw)
    go_simp
    (try with_reducible rfl)
  try simp only [Act.put, List.getElem_toArray, List.getElem_cons_succ, List.getElem_cons_zero, List.setIfInBounds_toArray, List.set_cons_zero, List.set_cons_succ]
  refine wpAnyH_take (i := 2) (v := ?_) rfl (by kernel_rfl) (by kernel_rfl) (by kernel_rfl) (fun _ _ _ h => h) (Or.inl ⟨by rfl, ?hy⟩) hHeld ?_
  case hy =>
    intro w hSw
    (try dsimp only at hSw)
    go_simp
    (try with_reducible rfl)
  try simp only [Act.put, List.getElem_toArray, List.getElem_cons_succ, List.getElem_cons_zero, List.setIfInBounds_toArray, List.set_cons_zero, List.set_cons_succ]
  refine wpAnyH_take (i := 3) (v := ?_) rfl (by kernel_rfl) (by kernel_rfl) (by kernel_rfl) (fun _ _ _ h => h) (Or.inl ⟨by rfl, ?hy⟩) hHeld ?_
  case hy =>
    intro w hSw
    (try dsimp only at hSw)
    go_simp
    (try with_reducible rfl)
  try simp only [Act.put, List.getElem_toArray, List.getElem_cons_succ, List.getElem_cons_zero, List.setIfInBounds_toArray, List.set_cons_zero, List.set_cons_succ]
  refine wpAnyH_ready (rs := [4]) (by kernel_rfl) (by simp) ?_
  refine AllReadyH.cons rfl (fun K hK => ?_) AllReadyH.nil
  have hOld := hHeld
  clear hHeld
  go_simp
  refine hK.out _ _ (⟨((hB.k1.alloc _).drew).cell 0, ((hB.k2.alloc _).drew).cell 0⟩) (fun hHeld => ?_)
  clear hK K hOld
  try simp only [Act.put, List.getElem_toArray, List.getElem_cons_succ, List.getElem_cons_zero, List.setIfInBounds_toArray, List.set_cons_zero, List.set_cons_succ]
  refine wpAnyH_ready (rs := [5]) (by kernel_rfl) (by simp) ?_
  refine AllReadyH.cons rfl (fun K hK => ?_) AllReadyH.nil
  have hOld := hHeld
  clear hHeld
  go_simp
  refine (one_numL P C 32 o bd x hx (by omega) w.drew hP.drew hne _ cs hC.drew h).mono ?_
  rintro r w1 ⟨⟨v, rfl⟩, hP1, hK1⟩; dsimp only
  have hB1 := (hB.kept hK0).kept hK1
  refine hK.out _ _ (⟨hB1.k1.cell 0, hB1.k2.cell 0⟩) (fun hHeld => ?_)
  clear hK K hOld
  try simp only [Act.put, List.getElem_toArray, List.getElem_cons_succ, List.getElem_cons_zero, List.setIfInBounds_toArray, List.set_cons_zero, List.set_cons_succ]
  refine wpAnyH_done (by kernel_rfl) ?_ _
  simp only [Exit.then]
  go_wp2_with fail
  go_end0
  exact ⟨⟨_, rfl⟩, by rw [Bool.or_false]; exact hP1, hK0.trans hK1⟩
set_option maxHeartbeats 2000000 in
theorem cl_task (P C K1 K2 : Nat) (cs : Array Value) (s : ByteArray) (n : Int) (hs : s.size ≤ 1024) (hn : I64 n) (h0 : cs[27]? = some (.string s)) (h1 : cs[28]? = some (.int .i64 n)) : Writes 77 P C K1 K2 cs (encT s ++ encI n) (decide ((64 : Int) < (s.size : Int))) := by
  intro w o bd ho hP hB hC hne
  have hK0 := Kept.of (P := P) (Below.refl w.heap.size w).drew
  obtain ⟨p0, p1, p2⟩ := hB.k1.facts
  obtain ⟨q0, q1, q2⟩ := hB.k2.facts
  go_enter Try.func77, Try.ntmps77
  go_wp2_with fail
  refine wp_region_held0 (S := fun w' => w'.cell? ⟨K1, 0, none⟩ = some (.pointer (some ⟨P, 0, none⟩)) ∧ w'.cell? ⟨K2, 0, none⟩ = some (.pointer (some ⟨C, 0, none⟩))) (by kernel_rfl) ⟨hB.k1.cell 0, hB.k2.cell 0⟩ (fun hHeld => ?_)
  refine wpAnyH_take (i := 0) (v := ?_) rfl (by kernel_rfl) (by kernel_rfl) (by kernel_rfl) (fun _ _ _ h => h) (Or.inl ⟨by rfl, ?hy⟩) hHeld ?_
  case hy =>
    intro w hSw
    (try dsimp only at hSw)
    go_simp
    (try with_reducible rfl)
  try simp only [Act.put, List.getElem_toArray, List.getElem_cons_zero, List.setIfInBounds_toArray, List.set_cons_zero, List.set_cons_succ]
  refine wpAnyH_take (i := 1) (v := ?_) rfl (by kernel_rfl) (by kernel_rfl) (by kernel_rfl) (fun _ _ _ h => h) (Or.inl ⟨by rfl, ?hy⟩) hHeld ?_
  case hy =>
    intro w hSw
    (try dsimp only at hSw)
    go_simp
    (try with_reducible rfl)
  try simp only [Act.put, List.getElem_toArray, List.getElem_cons_succ, List.getElem_cons_zero, List.setIfInBounds_toArray, List.set_cons_zero, List.set_cons_succ]
  refine wpAnyH_take (i := 2) (v := ?_) rfl (by kernel_rfl) (by kernel_rfl) (by kernel_rfl) (fun _ _ _ h => h) (Or.inl ⟨by rfl, ?hy⟩) hHeld ?_
  case hy =>
    intro w hSw
    (try dsimp only at hSw)
    go_simp
    (try with_reducible rfl)
  try simp only [Act.put, List.getElem_toArray, List.getElem_cons_succ, List.getElem_cons_zero, List.setIfInBounds_toArray, List.set_cons_zero, List.set_cons_succ]
  refine wpAnyH_take (i := 3) (v := ?_) rfl (by kernel_rfl) (by kernel_rfl) (by kernel_rfl) (fun _ _ _ h => h) (Or.inl ⟨by rfl, ?hy⟩) hHeld ?_
  case hy =>
    intro w hSw
    (try dsimp only at hSw)
    go_simp
    (try with_reducible rfl)
  try simp only [Act.put, List.getElem_toArray, List.getElem_cons_succ, List.getElem_cons_zero, List.setIfInBounds_toArray, List.set_cons_zero, List.set_cons_succ]
  refine wpAnyH_ready (rs := [4]) (by kernel_rfl) (by simp) ?_
  refine AllReadyH.cons rfl (fun K hK => ?_) AllReadyH.nil
  have hOld := hHeld
  clear hHeld
  go_simp
  refine (cw_task P C 27 o bd s n hs hn (by omega) w.drew hP.drew hne _ cs hC.drew h0 h1).mono ?_
  rintro r w1 ⟨⟨v, rfl⟩, hP1, hK1⟩; dsimp only
  have hB1 := (hB.kept hK0).kept hK1
  refine hK.out _ _ (⟨hB1.k1.cell 0, hB1.k2.cell 0⟩) (fun hHeld => ?_)
  clear hK K hOld
  try simp only [Act.put, List.getElem_toArray, List.getElem_cons_succ, List.getElem_cons_zero, List.setIfInBounds_toArray, List.set_cons_zero, List.set_cons_succ]
  refine wpAnyH_done (by kernel_rfl) ?_ _
  simp only [Exit.then]
  go_wp2_with fail
  go_end0
  exact ⟨⟨_, rfl⟩, hP1, hK0.trans hK1⟩
set_option maxHeartbeats 2000000 in
theorem cl_vec (P C K1 K2 : Nat) (cs : Array Value) (a b c : Int) (ha : I64 a) (hb : I64 b) (hc : I64 c) (h0 : cs[5]? = some (.int .i64 a)) (h1 : cs[6]? = some (.int .i64 b)) (h2 : cs[7]? = some (.int .i64 c)) : Writes 85 P C K1 K2 cs (encV a b c) false := by
  intro w o bd ho hP hB hC hne
  have hK0 := Kept.of (P := P) (Below.refl w.heap.size w).drew
  obtain ⟨p0, p1, p2⟩ := hB.k1.facts
  obtain ⟨q0, q1, q2⟩ := hB.k2.facts
  go_enter Try.func85, Try.ntmps85
  go_wp2_with fail
  refine wp_region_held0 (S := fun w' => w'.cell? ⟨K1, 0, none⟩ = some (.pointer (some ⟨P, 0, none⟩)) ∧ w'.cell? ⟨K2, 0, none⟩ = some (.pointer (some ⟨C, 0, none⟩))) (by kernel_rfl) ⟨hB.k1.cell 0, hB.k2.cell 0⟩ (fun hHeld => ?_)
  refine wpAnyH_take (i := 0) (v := ?_) rfl (by kernel_rfl) (by kernel_rfl) (by kernel_rfl) (fun _ _ _ h => h) (Or.inl ⟨by rfl, ?hy⟩) hHeld ?_
  case hy =>
    intro w hSw
    (try dsimp only at hSw)
    go_simp
    (try with_reducible rfl)
  try simp only [Act.put, List.getElem_toArray, List.getElem_cons_zero, List.setIfInBounds_toArray, List.set_cons_zero, List.set_cons_succ]
  refine wpAnyH_take (i := 1) (v := ?_) rfl (by kernel_rfl) (by kernel_rfl) (by kernel_rfl) (fun _ _ _ h => h) (Or.inl ⟨by rfl, ?hy⟩) hHeld ?_
  case hy =>
    intro w hSw
    (try dsimp only at hSw)
    go_simp
    (try with_reducible rfl)
  try simp only [Act.put, List.getElem_toArray, List.getElem_cons_succ, List.getElem_cons_zero, List.setIfInBounds_toArray, List.set_cons_zero, List.set_cons_succ]
  refine wpAnyH_take (i := 2) (v := ?_) rfl (by kernel_rfl) (by kernel_rfl) (by kernel_rfl) (fun _ _ _ h => h) (Or.inl ⟨by rfl, ?hy⟩) hHeld ?_
  case hy =>
    intro w hSw
    (try dsimp only at hSw)
    go_simp
    (try with_reducible rfl)
  try simp only [Act.put, List.getElem_toArray, List.getElem_cons_succ, List.getElem_cons_zero, List.setIfInBounds_toArray, List.set_cons_zero, List.set_cons_succ]
  refine wpAnyH_take (i := 3) (v := ?_) rfl (by kernel_rfl) (by kernel_rfl) (by kernel_rfl) (fun _ _ _ h => h) (Or.inl ⟨by rfl, ?hy⟩) hHeld ?_
  case hy =>
    intro w hSw
    (try dsimp only at hSw)
    go_simp
    (try with_reducible rfl)
  try simp only [Act.put, List.getElem_toArray, List.getElem_cons_succ, List.getElem_cons_zero, List.setIfInBounds_toArray, List.set_cons_zero, List.set_cons_succ]
  refine wpAnyH_ready (rs := [4]) (by kernel_rfl) (by simp) ?_
  refine AllReadyH.cons rfl (fun K hK => ?_) AllReadyH.nil
  have hOld := hHeld
  clear hHeld
  go_simp
  refine (cw_vec P C 5 o bd a b c ha hb hc (by omega) w.drew hP.drew hne _ cs hC.drew h0 h1 h2).mono ?_
  rintro r w1 ⟨⟨v, rfl⟩, hP1, hK1⟩; dsimp only
  have hB1 := (hB.kept hK0).kept hK1
  refine hK.out _ _ (⟨hB1.k1.cell 0, hB1.k2.cell 0⟩) (fun hHeld => ?_)
  clear hK K hOld
  try simp only [Act.put, List.getElem_toArray, List.getElem_cons_succ, List.getElem_cons_zero, List.setIfInBounds_toArray, List.set_cons_zero, List.set_cons_succ]
  refine wpAnyH_done (by kernel_rfl) ?_ _
  simp only [Exit.then]
  go_wp2_with fail
  go_end0
  exact ⟨⟨_, rfl⟩, by rw [Bool.or_false]; exact hP1, hK0.trans hK1⟩
set_option maxHeartbeats 2000000 in
theorem cl_job (P C K1 K2 : Nat) (cs : Array Value) (name user : ByteArray) (band count a b c : Int) (al : ByteArray) (k win : Int) (hs1 : name.size ≤ 1024) (hs2 : user.size ≤ 1024) (hs3 : al.size ≤ 1024) (hband : 0 ≤ band ∧ band < 256) (hn1 : I64 count) (hn2 : I64 a) (hn3 : I64 b) (hn4 : I64 c) (hn5 : I64 k) (hn6 : I64 win)
    (h0 : cs[9]? = some (.string name)) (h1 : cs[10]? = some (.string user)) (h2 : cs[11]? = some (.int .u8 band)) (h3 : cs[12]? = some (.int .i64 count)) (h4 : cs[13]? = some (.int .i64 a)) (h5 : cs[14]? = some (.int .i64 b)) (h6 : cs[15]? = some (.int .i64 c)) (h7 : cs[16]? = some (.string al)) (h8 : cs[17]? = some (.int .i64 k)) (h9 : cs[18]? = some (.int .i64 win)) :
    Writes 87 P C K1 K2 cs (jobB name user band count a b c al k win) (decide ((64 : Int) < (name.size : Int)) || decide ((64 : Int) < (user.size : Int)) || decide ((64 : Int) < (al.size : Int))) := by
  intro w o bd ho hP hB hC hne
  have hK0 := Kept.of (P := P) (Below.refl w.heap.size w).drew
  obtain ⟨p0, p1, p2⟩ := hB.k1.facts
  obtain ⟨q0, q1, q2⟩ := hB.k2.facts
  go_enter Try.func87, Try.ntmps87
  go_wp2_with fail
  refine wp_region_held0 (S := fun w' => w'.cell? ⟨K1, 0, none⟩ = some (.pointer (some ⟨P, 0, none⟩)) ∧ w'.cell? ⟨K2, 0, none⟩ = some (.pointer (some ⟨C, 0, none⟩))) (by kernel_rfl) ⟨hB.k1.cell 0, hB.k2.cell 0⟩ (fun hHeld => ?_)
  refine wpAnyH_take (i := 0) (v := ?_) rfl (by kernel_rfl) (by kernel_rfl) (by kernel_rfl) (fun _ _ _ h => h) (Or.inl ⟨by rfl, ?hy⟩) hHeld ?_
  case hy =>
    intro w hSw
    (try dsimp only at hSw)
    go_simp
    (try with_reducible rfl)
  try simp only [Act.put, List.getElem_toArray, List.getElem_cons_zero, List.setIfInBounds_toArray, List.set_cons_zero, List.set_cons_succ]
  refine wpAnyH_take (i := 1) (v := ?_) rfl (by kernel_rfl) (by kernel_rfl) (by kernel_rfl) (fun _ _ _ h => h) (Or.inl ⟨by rfl, ?hy⟩) hHeld ?_
  case hy =>
    intro w hSw
    (try dsimp only at hSw)
    go_simp
    (try with_reducible rfl)
  try simp only [Act.put, List.getElem_toArray, List.getElem_cons_succ, List.getElem_cons_zero, List.setIfInBounds_toArray, List.set_cons_zero, List.set_cons_succ]
  refine wpAnyH_take (i := 2) (v := ?_) rfl (by kernel_rfl) (by kernel_rfl) (by kernel_rfl) (fun _ _ _ h => h) (Or.inl ⟨by rfl, ?hy⟩) hHeld ?_
  case hy =>
    intro w hSw
    (try dsimp only at hSw)
    go_simp
    (try with_reducible rfl)
  try simp only [Act.put, List.getElem_toArray, List.getElem_cons_succ, List.getElem_cons_zero, List.setIfInBounds_toArray, List.set_cons_zero, List.set_cons_succ]
  refine wpAnyH_take (i := 3) (v := ?_) rfl (by kernel_rfl) (by kernel_rfl) (by kernel_rfl) (fun _ _ _ h => h) (Or.inl ⟨by rfl, ?hy⟩) hHeld ?_
  case hy =>
    intro w hSw
    (try dsimp only at hSw)
    go_simp
    (try with_reducible rfl)
  try simp only [Act.put, List.getElem_toArray, List.getElem_cons_succ, List.getElem_cons_zero, List.setIfInBounds_toArray, List.set_cons_zero, List.set_cons_succ]
  refine wpAnyH_ready (rs := [4]) (by kernel_rfl) (by simp) ?_
  refine AllReadyH.cons rfl (fun K hK => ?_) AllReadyH.nil
  have hOld := hHeld
  clear hHeld
  go_simp
  refine (cw_job P C 9 o bd name user band count a b c al k win hs1 hs2 hs3 hband hn1 hn2 hn3 hn4 hn5 hn6 (by omega) w.drew hP.drew hne _ cs hC.drew h0 h1 h2 h3 h4 h5 h6 h7 h8 h9).mono ?_
  rintro r w1 ⟨⟨v, rfl⟩, hP1, hK1⟩; dsimp only
  have hB1 := (hB.kept hK0).kept hK1
  refine hK.out _ _ (⟨hB1.k1.cell 0, hB1.k2.cell 0⟩) (fun hHeld => ?_)
  clear hK K hOld
  try simp only [Act.put, List.getElem_toArray, List.getElem_cons_succ, List.getElem_cons_zero, List.setIfInBounds_toArray, List.set_cons_zero, List.set_cons_succ]
  refine wpAnyH_done (by kernel_rfl) ?_ _
  simp only [Exit.then]
  go_wp2_with fail
  go_end0
  exact ⟨⟨_, rfl⟩, by rw [← Bool.or_assoc, ← Bool.or_assoc]; exact hP1, hK0.trans hK1⟩
set_option maxHeartbeats 2000000 in
theorem cl_alloc (P C K1 K2 : Nat) (cs : Array Value) (name user : ByteArray) (count a b c : Int) (hs1 : name.size ≤ 1024) (hs2 : user.size ≤ 1024) (hn1 : I64 count) (hn2 : I64 a) (hn3 : I64 b) (hn4 : I64 c)
    (h0 : cs[19]? = some (.string name)) (h1 : cs[20]? = some (.string user)) (h2 : cs[21]? = some (.int .i64 count)) (h4 : cs[22]? = some (.int .i64 a)) (h5 : cs[23]? = some (.int .i64 b)) (h6 : cs[24]? = some (.int .i64 c)) :
    Writes 89 P C K1 K2 cs (allocB name user count a b c) (decide ((64 : Int) < (name.size : Int)) || decide ((64 : Int) < (user.size : Int))) := by
  intro w o bd ho hP hB hC hne
  have hK0 := Kept.of (P := P) (Below.refl w.heap.size w).drew
  obtain ⟨p0, p1, p2⟩ := hB.k1.facts
  obtain ⟨q0, q1, q2⟩ := hB.k2.facts
  go_enter Try.func89, Try.ntmps89
  go_wp2_with fail
  refine wp_region_held0 (S := fun w' => w'.cell? ⟨K1, 0, none⟩ = some (.pointer (some ⟨P, 0, none⟩)) ∧ w'.cell? ⟨K2, 0, none⟩ = some (.pointer (some ⟨C, 0, none⟩))) (by kernel_rfl) ⟨hB.k1.cell 0, hB.k2.cell 0⟩ (fun hHeld => ?_)
  refine wpAnyH_take (i := 0) (v := ?_) rfl (by kernel_rfl) (by kernel_rfl) (by kernel_rfl) (fun _ _ _ h => h) (Or.inl ⟨by rfl, ?hy⟩) hHeld ?_
  case hy =>
    intro w hSw
    (try dsimp only at hSw)
    go_simp
    (try with_reducible rfl)
  try simp only [Act.put, List.getElem_toArray, List.getElem_cons_zero, List.setIfInBounds_toArray, List.set_cons_zero, List.set_cons_succ]
  refine wpAnyH_take (i := 1) (v := ?_) rfl (by kernel_rfl) (by kernel_rfl) (by kernel_rfl) (fun _ _ _ h => h) (Or.inl ⟨by rfl, ?hy⟩) hHeld ?_
  case hy =>
    intro w hSw
    (try dsimp only at hSw)
    go_simp
    (try with_reducible rfl)
  try simp only [Act.put, List.getElem_toArray, List.getElem_cons_succ, List.getElem_cons_zero, List.setIfInBounds_toArray, List.set_cons_zero, List.set_cons_succ]
  refine wpAnyH_take (i := 2) (v := ?_) rfl (by kernel_rfl) (by kernel_rfl) (by kernel_rfl) (fun _ _ _ h => h) (Or.inl ⟨by rfl, ?hy⟩) hHeld ?_
  case hy =>
    intro w hSw
    (try dsimp only at hSw)
    go_simp
    (try with_reducible rfl)
  try simp only [Act.put, List.getElem_toArray, List.getElem_cons_succ, List.getElem_cons_zero, List.setIfInBounds_toArray, List.set_cons_zero, List.set_cons_succ]
  refine wpAnyH_take (i := 3) (v := ?_) rfl (by kernel_rfl) (by kernel_rfl) (by kernel_rfl) (fun _ _ _ h => h) (Or.inl ⟨by rfl, ?hy⟩) hHeld ?_
  case hy =>
    intro w hSw
    (try dsimp only at hSw)
    go_simp
    (try with_reducible rfl)
  try simp only [Act.put, List.getElem_toArray, List.getElem_cons_succ, List.getElem_cons_zero, List.setIfInBounds_toArray, List.set_cons_zero, List.set_cons_succ]
  refine wpAnyH_ready (rs := [4]) (by kernel_rfl) (by simp) ?_
  refine AllReadyH.cons rfl (fun K hK => ?_) AllReadyH.nil
  have hOld := hHeld
  clear hHeld
  go_simp
  refine (cw_alloc P C 19 o bd name user count a b c hs1 hs2 hn1 hn2 hn3 hn4 (by omega) w.drew hP.drew hne _ cs hC.drew h0 h1 h2 h4 h5 h6).mono ?_
  rintro r w1 ⟨⟨v, rfl⟩, hP1, hK1⟩; dsimp only
  have hB1 := (hB.kept hK0).kept hK1
  refine hK.out _ _ (⟨hB1.k1.cell 0, hB1.k2.cell 0⟩) (fun hHeld => ?_)
  clear hK K hOld
  try simp only [Act.put, List.getElem_toArray, List.getElem_cons_succ, List.getElem_cons_zero, List.setIfInBounds_toArray, List.set_cons_zero, List.set_cons_succ]
  refine wpAnyH_done (by kernel_rfl) ?_ _
  simp only [Exit.then]
  go_wp2_with fail
  go_end0
  exact ⟨⟨_, rfl⟩, by rw [← Bool.or_assoc]; exact hP1, hK0.trans hK1⟩
end Go.Proofs.Yteglieoeblehpaa
