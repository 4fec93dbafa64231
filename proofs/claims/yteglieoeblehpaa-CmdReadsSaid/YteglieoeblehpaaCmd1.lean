/- Commands: how the coder writes a text, a number, walked. Conditions: the texts are short. -/
import Derived.Test.YteglieoeblehpaaWire2
import Derived.Test.YteglieoeblehpaaK9
import Derived.Test.YteglieoeblehpaaK10
import Derived.Test.YteglieoeblehpaaK13
namespace Go.Proofs.Yteglieoeblehpaa
open Go.RowKit

def encU (x : Int) : ByteArray := bs (Lib.uvarint x.toNat)
def encI (x : Int) : ByteArray := bs (Lib.uvarint (Lib.zigzag x))
def encT (s : ByteArray) : ByteArray := bs (Lib.uvarint s.size) ++ s
theorem encU_size (x : Int) (h : x < 18446744073709551616) : (encU x).size ≤ 10 := by unfold encU; rw [bs_size]; exact Lib.uvarint_length64 (by omega)
theorem encI_size (x : Int) (h : I64 x) : (encI x).size ≤ 10 := by unfold encI; rw [bs_size]; exact Lib.uvarint_length64 (Lib.zigzag_lt h.1 h.2)
theorem encT_size (s : ByteArray) (h : s.size ≤ 1024) : (encT s).size ≤ 1034 := by
  unfold encT
  rw [ByteArray.size_append, bs_size]
  have := @Lib.uvarint_length64 s.size (by omega)
  omega
/-- A coder that writes. -/
abbrev Cw (w : World) (P : Nat) (o : ByteArray) (bd : Bool) : Prop := Blk w P 99 #[.string o, .pointer none, .bool bd]
theorem cellK {P : Nat} {w w' : World} {C i : Nat} {v : Value} (h : Kept P w w') (hC : ∃ t cs, Blk w C t cs) (hne : C ≠ P) (hv : w.cell? ⟨C, i, none⟩ = some v) : w'.cell? ⟨C, i, none⟩ = some v := by
  obtain ⟨t, cs, hb⟩ := hC
  rw [(h.blk hb hne).cell]
  rw [hb.cell] at hv
  exact hv
theorem cell_on {w w' : World} {p : Addr} {v : Value} (hb : Below w.heap.size w w') (h : w.cell? p = some v) : w'.cell? p = some v := (hb.cell (World.block_lt_of_cell? _ _ h)).trans h
set_option maxHeartbeats 2000000 in
theorem cw_small (P C i : Nat) (o : ByteArray) (bd : Bool) (x : Int) (hx : 0 ≤ x ∧ x < 256) (ho : o.size ≤ 1000000) (w : World) (hP : Cw w P o bd) (hne : C ≠ P) (hC : w.cell? ⟨C, i, none⟩ = some (.int .u8 x)) :
    Calls Try.prog 71 #[.pointer (some ⟨P, 0, none⟩), .pointer (some ⟨C, i, none⟩)] w fun e w' => (∃ v, e = .returned v) ∧ Cw w' P (o ++ encU x) bd ∧ Kept P w w' := by
  have hz := encU_size x (by omega)
  have C1 := Lib.hid (fun w => wr_Uint x.toNat (by omega) w)
  have hxx : ((x.toNat : Nat) : Int) = x := by omega
  rw [hxx] at C1
  rw [← show encU x = bs (Lib.uvarint x.toNat) from rfl] at C1
  have hw1 : IntKind.u64.wrap x = x := IntWalk.u64_in _ (by omega)
  obtain ⟨Pc, Pf, Pl⟩ := hP.facts
  go_enter Try.func71, Try.ntmps71
  go_wp2_with fail
  refine wp_region_left0 (S := fun l w' => (Left 12 l → w'.cell? ⟨P, 0, none⟩ = some (.string o)) ∧ w'.cell? ⟨C, i, none⟩ = some (.int .u8 x)) (by kernel_rfl) ⟨fun _ => hP.cell 0, hC⟩ (fun hHeld => ?_)
  refine wpAnyL_take (i := 0) (b := 12) (v := ?_) rfl (by kernel_rfl) (by kernel_rfl) (by kernel_rfl) (fun _ _ _ h => h) (by decide) (by kernel_rfl) ?hS (Or.inl ⟨by rfl, ?hy⟩) hHeld (by unfold Left; kernel_rfl) ?_
  case hS => intro l w; (try dsimp only); simp (config := { decide := true }) only [left_set, ne_eq]
  case hy =>
    rintro w ⟨l, hSw, hLw⟩
    (try dsimp only at hSw)
    (try simp only [hLw, true_implies] at hSw)
    go_simp
    (try with_reducible rfl)
  clear hHeld
  intro hHeld
  try simp only [Act.put, List.getElem_toArray, List.getElem_cons_zero, List.setIfInBounds_toArray, List.set_cons_zero, List.set_cons_succ]
  refine wpAnyL_take (i := 1) (b := 12) (v := ?_) rfl (by kernel_rfl) (by kernel_rfl) (by kernel_rfl) (fun _ _ _ h => h) (by decide) (by kernel_rfl) ?hS (Or.inl ⟨by rfl, ?hy⟩) hHeld (by unfold Left; kernel_rfl) ?_
  case hS => intro l w; (try dsimp only); simp (config := { decide := true }) only [left_set, ne_eq]
  case hy =>
    rintro w ⟨l, hSw, hLw⟩
    (try dsimp only at hSw)
    (try simp only [hLw, true_implies] at hSw)
    go_simp
    (try with_reducible rfl)
  clear hHeld
  intro hHeld
  try simp only [Act.put, List.getElem_toArray, List.getElem_cons_succ, List.getElem_cons_zero, List.setIfInBounds_toArray, List.set_cons_zero, List.set_cons_succ]
  refine wpAnyL_take (i := 2) (b := 12) (v := ?_) rfl (by kernel_rfl) (by kernel_rfl) (by kernel_rfl) (fun _ _ _ h => h) (by decide) (by kernel_rfl) ?hS (Or.inl ⟨by rfl, ?hy⟩) hHeld (by unfold Left; kernel_rfl) ?_
  case hS => intro l w; (try dsimp only); simp (config := { decide := true }) only [left_set, ne_eq]
  case hy =>
    rintro w ⟨l, hSw, hLw⟩
    (try dsimp only at hSw)
    (try simp only [hLw, true_implies] at hSw)
    go_simp
    (try with_reducible rfl)
  clear hHeld
  intro hHeld
  try simp only [Act.put, List.getElem_toArray, List.getElem_cons_succ, List.getElem_cons_zero, List.setIfInBounds_toArray, List.set_cons_zero, List.set_cons_succ]
  refine wpAnyL_take (i := 3) (b := 12) (v := ?_) rfl (by kernel_rfl) (by kernel_rfl) (by kernel_rfl) (fun _ _ _ h => h) (by decide) (by kernel_rfl) ?hS (Or.inl ⟨by rfl, ?hy⟩) hHeld (by unfold Left; kernel_rfl) ?_
  case hS => intro l w; (try dsimp only); simp (config := { decide := true }) only [left_set, ne_eq]
  case hy =>
    rintro w ⟨l, hSw, hLw⟩
    (try dsimp only at hSw)
    (try simp only [hLw, true_implies] at hSw)
    go_simp
    (try with_reducible rfl)
  clear hHeld
  intro hHeld
  try simp only [Act.put, List.getElem_toArray, List.getElem_cons_succ, List.getElem_cons_zero, List.setIfInBounds_toArray, List.set_cons_zero, List.set_cons_succ]
  refine wpAnyL_take (i := 4) (b := 12) (v := ?_) rfl (by kernel_rfl) (by kernel_rfl) (by kernel_rfl) (fun _ _ _ h => h) (by decide) (by kernel_rfl) ?hS (Or.inl ⟨by rfl, ?hy⟩) hHeld (by unfold Left; kernel_rfl) ?_
  case hS => intro l w; (try dsimp only); simp (config := { decide := true }) only [left_set, ne_eq]
  case hy =>
    rintro w ⟨l, hSw, hLw⟩
    (try dsimp only at hSw)
    (try simp only [hLw, true_implies] at hSw)
    go_simp
    (try with_reducible rfl)
  clear hHeld
  intro hHeld
  try simp only [Act.put, List.getElem_toArray, List.getElem_cons_succ, List.getElem_cons_zero, List.setIfInBounds_toArray, List.set_cons_zero, List.set_cons_succ]
  refine wpAnyL_take (i := 5) (b := 12) (v := ?_) rfl (by kernel_rfl) (by kernel_rfl) (by kernel_rfl) (fun _ _ _ h => h) (by decide) (by kernel_rfl) ?hS (Or.inl ⟨by rfl, ?hy⟩) hHeld (by unfold Left; kernel_rfl) ?_
  case hS => intro l w; (try dsimp only); simp (config := { decide := true }) only [left_set, ne_eq]
  case hy =>
    rintro w ⟨l, hSw, hLw⟩
    (try dsimp only at hSw)
    (try simp only [hLw, true_implies] at hSw)
    go_simp
    (try with_reducible rfl)
  clear hHeld
  intro hHeld
  try simp only [Act.put, List.getElem_toArray, List.getElem_cons_succ, List.getElem_cons_zero, List.setIfInBounds_toArray, List.set_cons_zero, List.set_cons_succ]
  refine wpAnyL_take (i := 6) (b := 12) (v := ?_) rfl (by kernel_rfl) (by kernel_rfl) (by kernel_rfl) (fun _ _ _ h => h) (by decide) (by kernel_rfl) ?hS (Or.inl ⟨by rfl, ?hy⟩) hHeld (by unfold Left; kernel_rfl) ?_
  case hS => intro l w; (try dsimp only); simp (config := { decide := true }) only [left_set, ne_eq]
  case hy =>
    rintro w ⟨l, hSw, hLw⟩
    (try dsimp only at hSw)
    (try simp only [hLw, true_implies] at hSw)
    go_simp
    (try with_reducible rfl)
  clear hHeld
  intro hHeld
  try simp only [Act.put, List.getElem_toArray, List.getElem_cons_succ, List.getElem_cons_zero, List.setIfInBounds_toArray, List.set_cons_zero, List.set_cons_succ]
  refine wpAnyL_take (i := 7) (b := 12) (v := ?_) rfl (by kernel_rfl) (by kernel_rfl) (by kernel_rfl) (fun _ _ _ h => h) (by decide) (by kernel_rfl) ?hS (Or.inl ⟨by rfl, ?hy⟩) hHeld (by unfold Left; kernel_rfl) ?_
  case hS => intro l w; (try dsimp only); simp (config := { decide := true }) only [left_set, ne_eq]
  case hy =>
    rintro w ⟨l, hSw, hLw⟩
    (try dsimp only at hSw)
    (try simp only [hLw, true_implies] at hSw)
    go_simp
    (try with_reducible rfl)
  clear hHeld
  intro hHeld
  try simp only [Act.put, List.getElem_toArray, List.getElem_cons_succ, List.getElem_cons_zero, List.setIfInBounds_toArray, List.set_cons_zero, List.set_cons_succ]
  refine wpAnyL_one 8 (by kernel_rfl) rfl (fun K hK => ?_)
  clear hHeld
  go_simp
  refine (C1.out _).mono ?_
  rintro r w1 ⟨rfl, hb⟩; dsimp only
  have hP1 : Blk w1 P 99 _ := Blk.past hP.drew hb
  have hC1 := cell_on hb (show w.drew.cell? _ = _ from hC)
  have hK1 : Kept P w w1 := Kept.of (below_to (Below.refl w.heap.size w).drew hb)
  clear hb hP hC Pc Pf Pl C1
  obtain ⟨Pc, Pf, Pl⟩ := hP1.facts
  have hoz : ¬ 9223372036854775807 < o.size + (encU x).size := by omega
  refine hK.out _ _ (⟨fun _ => hP1.cell 0, hC1⟩) (fun hHeld => ?_)
  clear hK K
  try simp only [Act.put, List.getElem_toArray, List.getElem_cons_succ, List.getElem_cons_zero, List.setIfInBounds_toArray, List.set_cons_zero, List.set_cons_succ]
  refine wpAnyL_take (i := 9) (b := 12) (v := ?_) rfl (by kernel_rfl) (by kernel_rfl) (by kernel_rfl) (fun _ _ _ h => h) (by decide) (by kernel_rfl) ?hS (Or.inl ⟨by rfl, ?hy⟩) hHeld (by unfold Left; kernel_rfl) ?_
  case hS => intro l w; (try dsimp only); simp (config := { decide := true }) only [left_set, ne_eq]
  case hy =>
    rintro w ⟨l, hSw, hLw⟩
    (try dsimp only at hSw)
    (try simp only [hLw, true_implies] at hSw)
    go_simp
    (try with_reducible rfl)
  clear hHeld
  intro hHeld
  try simp only [Act.put, List.getElem_toArray, List.getElem_cons_succ, List.getElem_cons_zero, List.setIfInBounds_toArray, List.set_cons_zero, List.set_cons_succ]
  refine wpAnyL_take (i := 10) (b := 11) (v := ?_) rfl (by kernel_rfl) (by kernel_rfl) (by kernel_rfl) (fun _ _ _ h => h) (by decide) (by kernel_rfl) ?hS (Or.inl ⟨by rfl, ?hy⟩) hHeld (by unfold Left; kernel_rfl) ?_
  case hS => intro l w; (try dsimp only); simp (config := { decide := true }) only [left_set, ne_eq]
  case hy =>
    rintro w ⟨l, hSw, hLw⟩
    (try dsimp only at hSw)
    (try simp only [hLw, true_implies] at hSw)
    go_simp
    (try with_reducible rfl)
  clear hHeld
  intro hHeld
  try simp only [Act.put, List.getElem_toArray, List.getElem_cons_succ, List.getElem_cons_zero, List.setIfInBounds_toArray, List.set_cons_zero, List.set_cons_succ]
  refine wpAnyL_take (i := 11) (b := 12) (v := ?_) rfl (by kernel_rfl) (by kernel_rfl) (by kernel_rfl) (fun _ _ _ h => h) (by decide) (by kernel_rfl) ?hS (Or.inl ⟨by rfl, ?hy⟩) hHeld (by unfold Left; kernel_rfl) ?_
  case hS => intro l w; (try dsimp only); simp (config := { decide := true }) only [left_set, ne_eq]
  case hy =>
    rintro w ⟨l, hSw, hLw⟩
    (try dsimp only at hSw)
    (try simp only [hLw, true_implies] at hSw)
    go_simp
    (try with_reducible rfl)
  clear hHeld
  intro hHeld
  try simp only [Act.put, List.getElem_toArray, List.getElem_cons_succ, List.getElem_cons_zero, List.setIfInBounds_toArray, List.set_cons_zero, List.set_cons_succ]
  refine wpAnyL_one 12 (by kernel_rfl) rfl (fun K hK => ?_)
  clear hHeld
  go_simp
  refine hK.out _ _ (⟨Left.gone (by kernel_rfl), by go_simp⟩) (fun hHeld => ?_)
  clear hK K
  try simp only [Act.put, List.getElem_toArray, List.getElem_cons_succ, List.getElem_cons_zero, List.setIfInBounds_toArray, List.set_cons_zero, List.set_cons_succ]
  refine wpAnyL_done (by kernel_rfl) ?_ _
  simp only [Exit.then]
  go_wp2_with fail
  go_end0
  exact ⟨⟨_, rfl⟩, Blk.put hP1 0 _ rfl, hK1.trans (Kept.set_ 0 _)⟩
set_option maxHeartbeats 2000000 in
theorem cw_great (P C i : Nat) (o : ByteArray) (bd : Bool) (x : Int) (hx : 0 ≤ x ∧ x ≤ 18446744073709551615) (ho : o.size ≤ 1000000) (w : World) (hP : Cw w P o bd) (hne : C ≠ P) (hC : w.cell? ⟨C, i, none⟩ = some (.int .u64 x)) :
    Calls Try.prog 72 #[.pointer (some ⟨P, 0, none⟩), .pointer (some ⟨C, i, none⟩)] w fun e w' => (∃ v, e = .returned v) ∧ Cw w' P (o ++ encU x) bd ∧ Kept P w w' := by
  have hz := encU_size x (by omega)
  have C1 := Lib.hid (fun w => wr_Uint x.toNat (by omega) w)
  have hxx : ((x.toNat : Nat) : Int) = x := by omega
  rw [hxx] at C1
  rw [← show encU x = bs (Lib.uvarint x.toNat) from rfl] at C1
  clear hxx
  obtain ⟨Pc, Pf, Pl⟩ := hP.facts
  go_enter Try.func72, Try.ntmps72
  go_wp2_with fail
  clear Pc Pf Pl
  refine wp_region_left0 (S := fun l w' => (Left 11 l → w'.cell? ⟨P, 0, none⟩ = some (.string o)) ∧ w'.cell? ⟨C, i, none⟩ = some (.int .u64 x)) (by kernel_rfl) ⟨fun _ => hP.cell 0, hC⟩ (fun hHeld => ?_)
  refine wpAnyL_take (i := 0) (b := 11) (v := ?_) rfl (by kernel_rfl) (by kernel_rfl) (by kernel_rfl) (fun _ _ _ h => h) (by decide) (by kernel_rfl) ?hS (Or.inl ⟨by rfl, ?hy⟩) hHeld (by unfold Left; kernel_rfl) ?_
  case hS => intro l w; (try dsimp only); simp (config := { decide := true }) only [left_set, ne_eq]
  case hy =>
    rintro w ⟨l, hSw, hLw⟩
    (try dsimp only at hSw)
    (try simp only [hLw, true_implies] at hSw)
    go_simp
    (try with_reducible rfl)
  clear hHeld
  intro hHeld
  try simp only [Act.put, List.getElem_toArray, List.getElem_cons_zero, List.setIfInBounds_toArray, List.set_cons_zero, List.set_cons_succ]
  refine wpAnyL_take (i := 1) (b := 11) (v := ?_) rfl (by kernel_rfl) (by kernel_rfl) (by kernel_rfl) (fun _ _ _ h => h) (by decide) (by kernel_rfl) ?hS (Or.inl ⟨by rfl, ?hy⟩) hHeld (by unfold Left; kernel_rfl) ?_
  case hS => intro l w; (try dsimp only); simp (config := { decide := true }) only [left_set, ne_eq]
  case hy =>
    rintro w ⟨l, hSw, hLw⟩
    (try dsimp only at hSw)
    (try simp only [hLw, true_implies] at hSw)
    go_simp
    (try with_reducible rfl)
  clear hHeld
  intro hHeld
  try simp only [Act.put, List.getElem_toArray, List.getElem_cons_succ, List.getElem_cons_zero, List.setIfInBounds_toArray, List.set_cons_zero, List.set_cons_succ]
  refine wpAnyL_take (i := 2) (b := 11) (v := ?_) rfl (by kernel_rfl) (by kernel_rfl) (by kernel_rfl) (fun _ _ _ h => h) (by decide) (by kernel_rfl) ?hS (Or.inl ⟨by rfl, ?hy⟩) hHeld (by unfold Left; kernel_rfl) ?_
  case hS => intro l w; (try dsimp only); simp (config := { decide := true }) only [left_set, ne_eq]
  case hy =>
    rintro w ⟨l, hSw, hLw⟩
    (try dsimp only at hSw)
    (try simp only [hLw, true_implies] at hSw)
    go_simp
    (try with_reducible rfl)
  clear hHeld
  intro hHeld
  try simp only [Act.put, List.getElem_toArray, List.getElem_cons_succ, List.getElem_cons_zero, List.setIfInBounds_toArray, List.set_cons_zero, List.set_cons_succ]
  refine wpAnyL_take (i := 3) (b := 11) (v := ?_) rfl (by kernel_rfl) (by kernel_rfl) (by kernel_rfl) (fun _ _ _ h => h) (by decide) (by kernel_rfl) ?hS (Or.inl ⟨by rfl, ?hy⟩) hHeld (by unfold Left; kernel_rfl) ?_
  case hS => intro l w; (try dsimp only); simp (config := { decide := true }) only [left_set, ne_eq]
  case hy =>
    rintro w ⟨l, hSw, hLw⟩
    (try dsimp only at hSw)
    (try simp only [hLw, true_implies] at hSw)
    go_simp
    (try with_reducible rfl)
  clear hHeld
  intro hHeld
  try simp only [Act.put, List.getElem_toArray, List.getElem_cons_succ, List.getElem_cons_zero, List.setIfInBounds_toArray, List.set_cons_zero, List.set_cons_succ]
  refine wpAnyL_take (i := 4) (b := 11) (v := ?_) rfl (by kernel_rfl) (by kernel_rfl) (by kernel_rfl) (fun _ _ _ h => h) (by decide) (by kernel_rfl) ?hS (Or.inl ⟨by rfl, ?hy⟩) hHeld (by unfold Left; kernel_rfl) ?_
  case hS => intro l w; (try dsimp only); simp (config := { decide := true }) only [left_set, ne_eq]
  case hy =>
    rintro w ⟨l, hSw, hLw⟩
    (try dsimp only at hSw)
    (try simp only [hLw, true_implies] at hSw)
    go_simp
    (try with_reducible rfl)
  clear hHeld
  intro hHeld
  try simp only [Act.put, List.getElem_toArray, List.getElem_cons_succ, List.getElem_cons_zero, List.setIfInBounds_toArray, List.set_cons_zero, List.set_cons_succ]
  refine wpAnyL_take (i := 5) (b := 11) (v := ?_) rfl (by kernel_rfl) (by kernel_rfl) (by kernel_rfl) (fun _ _ _ h => h) (by decide) (by kernel_rfl) ?hS (Or.inl ⟨by rfl, ?hy⟩) hHeld (by unfold Left; kernel_rfl) ?_
  case hS => intro l w; (try dsimp only); simp (config := { decide := true }) only [left_set, ne_eq]
  case hy =>
    rintro w ⟨l, hSw, hLw⟩
    (try dsimp only at hSw)
    (try simp only [hLw, true_implies] at hSw)
    go_simp
    (try with_reducible rfl)
  clear hHeld
  intro hHeld
  try simp only [Act.put, List.getElem_toArray, List.getElem_cons_succ, List.getElem_cons_zero, List.setIfInBounds_toArray, List.set_cons_zero, List.set_cons_succ]
  refine wpAnyL_take (i := 6) (b := 11) (v := ?_) rfl (by kernel_rfl) (by kernel_rfl) (by kernel_rfl) (fun _ _ _ h => h) (by decide) (by kernel_rfl) ?hS (Or.inl ⟨by rfl, ?hy⟩) hHeld (by unfold Left; kernel_rfl) ?_
  case hS => intro l w; (try dsimp only); simp (config := { decide := true }) only [left_set, ne_eq]
  case hy =>
    rintro w ⟨l, hSw, hLw⟩
    (try dsimp only at hSw)
    (try simp only [hLw, true_implies] at hSw)
    go_simp
    (try with_reducible rfl)
  clear hHeld
  intro hHeld
  try simp only [Act.put, List.getElem_toArray, List.getElem_cons_succ, List.getElem_cons_zero, List.setIfInBounds_toArray, List.set_cons_zero, List.set_cons_succ]
  refine wpAnyL_one 7 (by kernel_rfl) rfl (fun K hK => ?_)
  clear hHeld
  go_simp
  refine (C1.out _).mono ?_
  rintro r w1 ⟨rfl, hb⟩; dsimp only
  have hP1 : Blk w1 P 99 _ := Blk.past hP.drew hb
  have hC1 := cell_on hb (show _ from hC)
  have hK1 := Kept.of (P := P) (below_to (Below.refl _ _).drew hb)
  clear hb
  obtain ⟨Pc, Pf, Pl⟩ := hP1.facts
  have hoz : ¬ 9223372036854775807 < o.size + (encU x).size := by omega
  refine hK.out _ _ (⟨fun _ => hP1.cell 0, hC1⟩) (fun hHeld => ?_)
  clear hK K
  try simp only [Act.put, List.getElem_toArray, List.getElem_cons_succ, List.getElem_cons_zero, List.setIfInBounds_toArray, List.set_cons_zero, List.set_cons_succ]
  refine wpAnyL_take (i := 8) (b := 11) (v := ?_) rfl (by kernel_rfl) (by kernel_rfl) (by kernel_rfl) (fun _ _ _ h => h) (by decide) (by kernel_rfl) ?hS (Or.inl ⟨by rfl, ?hy⟩) hHeld (by unfold Left; kernel_rfl) ?_
  case hS => intro l w; (try dsimp only); simp (config := { decide := true }) only [left_set, ne_eq]
  case hy =>
    rintro w ⟨l, hSw, hLw⟩
    (try dsimp only at hSw)
    (try simp only [hLw, true_implies] at hSw)
    go_simp
    (try with_reducible rfl)
  clear hHeld
  intro hHeld
  try simp only [Act.put, List.getElem_toArray, List.getElem_cons_succ, List.getElem_cons_zero, List.setIfInBounds_toArray, List.set_cons_zero, List.set_cons_succ]
  refine wpAnyL_take (i := 9) (b := 10) (v := ?_) rfl (by kernel_rfl) (by kernel_rfl) (by kernel_rfl) (fun _ _ _ h => h) (by decide) (by kernel_rfl) ?hS (Or.inl ⟨by rfl, ?hy⟩) hHeld (by unfold Left; kernel_rfl) ?_
  case hS => intro l w; (try dsimp only); simp (config := { decide := true }) only [left_set, ne_eq]
  case hy =>
    rintro w ⟨l, hSw, hLw⟩
    (try dsimp only at hSw)
    (try simp only [hLw, true_implies] at hSw)
    go_simp
    (try with_reducible rfl)
  clear hHeld
  intro hHeld
  try simp only [Act.put, List.getElem_toArray, List.getElem_cons_succ, List.getElem_cons_zero, List.setIfInBounds_toArray, List.set_cons_zero, List.set_cons_succ]
  refine wpAnyL_take (i := 10) (b := 11) (v := ?_) rfl (by kernel_rfl) (by kernel_rfl) (by kernel_rfl) (fun _ _ _ h => h) (by decide) (by kernel_rfl) ?hS (Or.inl ⟨by rfl, ?hy⟩) hHeld (by unfold Left; kernel_rfl) ?_
  case hS => intro l w; (try dsimp only); simp (config := { decide := true }) only [left_set, ne_eq]
  case hy =>
    rintro w ⟨l, hSw, hLw⟩
    (try dsimp only at hSw)
    (try simp only [hLw, true_implies] at hSw)
    go_simp
    (try with_reducible rfl)
  clear hHeld
  intro hHeld
  try simp only [Act.put, List.getElem_toArray, List.getElem_cons_succ, List.getElem_cons_zero, List.setIfInBounds_toArray, List.set_cons_zero, List.set_cons_succ]
  refine wpAnyL_one 11 (by kernel_rfl) rfl (fun K hK => ?_)
  clear hHeld
  go_simp
  refine hK.out _ _ (⟨Left.gone (by kernel_rfl), by go_simp⟩) (fun hHeld => ?_)
  clear hK K
  try simp only [Act.put, List.getElem_toArray, List.getElem_cons_succ, List.getElem_cons_zero, List.setIfInBounds_toArray, List.set_cons_zero, List.set_cons_succ]
  refine wpAnyL_done (by kernel_rfl) ?_ _
  simp only [Exit.then]
  go_wp2_with fail
  go_end0
  exact ⟨⟨_, rfl⟩, Blk.put hP1 0 _ rfl, hK1.trans (Kept.set_ 0 _)⟩
set_option maxHeartbeats 2000000 in
theorem cw_text (P C i : Nat) (o : ByteArray) (bd : Bool) (x : ByteArray) (hx : x.size ≤ 1024) (ho : o.size ≤ 1000000) (w : World) (hP : Cw w P o bd) (hne : C ≠ P) (hC : w.cell? ⟨C, i, none⟩ = some (.string x)) :
    Calls Try.prog 74 #[.pointer (some ⟨P, 0, none⟩), .pointer (some ⟨C, i, none⟩)] w fun e w' => (∃ v, e = .returned v) ∧ Cw w' P (o ++ encT x) (bd || decide ((64 : Int) < (x.size : Int))) ∧ Kept P w w' := by
  have hz := encT_size x hx
  have C1 := Lib.hid (fun w => wr_Text x (by omega) w)
  rw [← show encT x = bs (Lib.uvarint x.size) ++ x from rfl] at C1
  obtain ⟨Pc, Pf, Pl⟩ := hP.facts
  go_enter Try.func74, Try.ntmps74
  cases bd
  · go_wp2_with fail
    have hC0 : (w.setCell ⟨P, 2, none⟩ (.bool (decide ((64 : Int) < (x.size : Int))))).cell? ⟨C, i, none⟩ = some (.string x) := by go_simp
    have hP0 : Cw (w.setCell ⟨P, 2, none⟩ (.bool (decide ((64 : Int) < (x.size : Int))))) P o (decide ((64 : Int) < (x.size : Int))) := Blk.put hP 2 _ rfl
    have hK0 : Kept P w (w.setCell ⟨P, 2, none⟩ (.bool (decide ((64 : Int) < (x.size : Int))))) := Kept.set_ 2 _
    clear hP hC Pc Pf Pl
    generalize w.setCell ⟨P, 2, none⟩ (.bool (decide ((64 : Int) < (x.size : Int)))) = W at *
    have hP := hP0
    have hC := hC0
    clear hP0 hC0
    refine wp_region_left0 (S := fun l w' => (Left 11 l → w'.cell? ⟨P, 0, none⟩ = some (.string o)) ∧ w'.cell? ⟨C, i, none⟩ = some (.string x)) (by kernel_rfl) ⟨fun _ => hP.cell 0, hC⟩ (fun hHeld => ?_)
    refine wpAnyL_take (i := 0) (b := 11) (v := ?_) rfl (by kernel_rfl) (by kernel_rfl) (by kernel_rfl) (fun _ _ _ h => h) (by decide) (by kernel_rfl) ?hS (Or.inl ⟨by rfl, ?hy⟩) hHeld (by unfold Left; kernel_rfl) ?_
    case hS => intro l w; (try dsimp only); simp (config := { decide := true }) only [left_set, ne_eq]
    case hy =>
      rintro w ⟨l, hSw, hLw⟩
      (try dsimp only at hSw)
      (try simp only [hLw, true_implies] at hSw)
      go_simp
      (try with_reducible rfl)
    clear hHeld
    intro hHeld
    try simp only [Act.put, List.getElem_toArray, List.getElem_cons_zero, List.setIfInBounds_toArray, List.set_cons_zero, List.set_cons_succ]
    refine wpAnyL_take (i := 1) (b := 11) (v := ?_) rfl (by kernel_rfl) (by kernel_rfl) (by kernel_rfl) (fun _ _ _ h => h) (by decide) (by kernel_rfl) ?hS (Or.inl ⟨by rfl, ?hy⟩) hHeld (by unfold Left; kernel_rfl) ?_
    case hS => intro l w; (try dsimp only); simp (config := { decide := true }) only [left_set, ne_eq]
    case hy =>
      rintro w ⟨l, hSw, hLw⟩
      (try dsimp only at hSw)
      (try simp only [hLw, true_implies] at hSw)
      go_simp
      (try with_reducible rfl)
    clear hHeld
    intro hHeld
    try simp only [Act.put, List.getElem_toArray, List.getElem_cons_succ, List.getElem_cons_zero, List.setIfInBounds_toArray, List.set_cons_zero, List.set_cons_succ]
    refine wpAnyL_take (i := 2) (b := 11) (v := ?_) rfl (by kernel_rfl) (by kernel_rfl) (by kernel_rfl) (fun _ _ _ h => h) (by decide) (by kernel_rfl) ?hS (Or.inl ⟨by rfl, ?hy⟩) hHeld (by unfold Left; kernel_rfl) ?_
    case hS => intro l w; (try dsimp only); simp (config := { decide := true }) only [left_set, ne_eq]
    case hy =>
      rintro w ⟨l, hSw, hLw⟩
      (try dsimp only at hSw)
      (try simp only [hLw, true_implies] at hSw)
      go_simp
      (try with_reducible rfl)
    clear hHeld
    intro hHeld
    try simp only [Act.put, List.getElem_toArray, List.getElem_cons_succ, List.getElem_cons_zero, List.setIfInBounds_toArray, List.set_cons_zero, List.set_cons_succ]
    refine wpAnyL_take (i := 3) (b := 11) (v := ?_) rfl (by kernel_rfl) (by kernel_rfl) (by kernel_rfl) (fun _ _ _ h => h) (by decide) (by kernel_rfl) ?hS (Or.inl ⟨by rfl, ?hy⟩) hHeld (by unfold Left; kernel_rfl) ?_
    case hS => intro l w; (try dsimp only); simp (config := { decide := true }) only [left_set, ne_eq]
    case hy =>
      rintro w ⟨l, hSw, hLw⟩
      (try dsimp only at hSw)
      (try simp only [hLw, true_implies] at hSw)
      go_simp
      (try with_reducible rfl)
    clear hHeld
    intro hHeld
    try simp only [Act.put, List.getElem_toArray, List.getElem_cons_succ, List.getElem_cons_zero, List.setIfInBounds_toArray, List.set_cons_zero, List.set_cons_succ]
    refine wpAnyL_take (i := 4) (b := 11) (v := ?_) rfl (by kernel_rfl) (by kernel_rfl) (by kernel_rfl) (fun _ _ _ h => h) (by decide) (by kernel_rfl) ?hS (Or.inl ⟨by rfl, ?hy⟩) hHeld (by unfold Left; kernel_rfl) ?_
    case hS => intro l w; (try dsimp only); simp (config := { decide := true }) only [left_set, ne_eq]
    case hy =>
      rintro w ⟨l, hSw, hLw⟩
      (try dsimp only at hSw)
      (try simp only [hLw, true_implies] at hSw)
      go_simp
      (try with_reducible rfl)
    clear hHeld
    intro hHeld
    try simp only [Act.put, List.getElem_toArray, List.getElem_cons_succ, List.getElem_cons_zero, List.setIfInBounds_toArray, List.set_cons_zero, List.set_cons_succ]
    refine wpAnyL_take (i := 5) (b := 11) (v := ?_) rfl (by kernel_rfl) (by kernel_rfl) (by kernel_rfl) (fun _ _ _ h => h) (by decide) (by kernel_rfl) ?hS (Or.inl ⟨by rfl, ?hy⟩) hHeld (by unfold Left; kernel_rfl) ?_
    case hS => intro l w; (try dsimp only); simp (config := { decide := true }) only [left_set, ne_eq]
    case hy =>
      rintro w ⟨l, hSw, hLw⟩
      (try dsimp only at hSw)
      (try simp only [hLw, true_implies] at hSw)
      go_simp
      (try with_reducible rfl)
    clear hHeld
    intro hHeld
    try simp only [Act.put, List.getElem_toArray, List.getElem_cons_succ, List.getElem_cons_zero, List.setIfInBounds_toArray, List.set_cons_zero, List.set_cons_succ]
    refine wpAnyL_take (i := 6) (b := 11) (v := ?_) rfl (by kernel_rfl) (by kernel_rfl) (by kernel_rfl) (fun _ _ _ h => h) (by decide) (by kernel_rfl) ?hS (Or.inl ⟨by rfl, ?hy⟩) hHeld (by unfold Left; kernel_rfl) ?_
    case hS => intro l w; (try dsimp only); simp (config := { decide := true }) only [left_set, ne_eq]
    case hy =>
      rintro w ⟨l, hSw, hLw⟩
      (try dsimp only at hSw)
      (try simp only [hLw, true_implies] at hSw)
      go_simp
      (try with_reducible rfl)
    clear hHeld
    intro hHeld
    try simp only [Act.put, List.getElem_toArray, List.getElem_cons_succ, List.getElem_cons_zero, List.setIfInBounds_toArray, List.set_cons_zero, List.set_cons_succ]
    refine wpAnyL_one 7 (by kernel_rfl) rfl (fun K hK => ?_)
    clear hHeld
    go_simp
    refine (C1.out _).mono ?_
    rintro r w1 ⟨rfl, hb⟩; dsimp only
    have hP1 : Blk w1 P 99 _ := Blk.past hP.drew hb
    have hC1 := cell_on hb (show _ from hC)
    have hK1 := Kept.of (P := P) (below_to (Below.refl _ _).drew hb)
    clear hb
    obtain ⟨Pc, Pf, Pl⟩ := hP1.facts
    have hoz : ¬ 9223372036854775807 < o.size + (encT x).size := by omega
    refine hK.out _ _ (⟨fun _ => hP1.cell 0, hC1⟩) (fun hHeld => ?_)
    clear hK K
    try simp only [Act.put, List.getElem_toArray, List.getElem_cons_succ, List.getElem_cons_zero, List.setIfInBounds_toArray, List.set_cons_zero, List.set_cons_succ]
    refine wpAnyL_take (i := 8) (b := 11) (v := ?_) rfl (by kernel_rfl) (by kernel_rfl) (by kernel_rfl) (fun _ _ _ h => h) (by decide) (by kernel_rfl) ?hS (Or.inl ⟨by rfl, ?hy⟩) hHeld (by unfold Left; kernel_rfl) ?_
    case hS => intro l w; (try dsimp only); simp (config := { decide := true }) only [left_set, ne_eq]
    case hy =>
      rintro w ⟨l, hSw, hLw⟩
      (try dsimp only at hSw)
      (try simp only [hLw, true_implies] at hSw)
      go_simp
      (try with_reducible rfl)
    clear hHeld
    intro hHeld
    try simp only [Act.put, List.getElem_toArray, List.getElem_cons_succ, List.getElem_cons_zero, List.setIfInBounds_toArray, List.set_cons_zero, List.set_cons_succ]
    refine wpAnyL_take (i := 9) (b := 10) (v := ?_) rfl (by kernel_rfl) (by kernel_rfl) (by kernel_rfl) (fun _ _ _ h => h) (by decide) (by kernel_rfl) ?hS (Or.inl ⟨by rfl, ?hy⟩) hHeld (by unfold Left; kernel_rfl) ?_
    case hS => intro l w; (try dsimp only); simp (config := { decide := true }) only [left_set, ne_eq]
    case hy =>
      rintro w ⟨l, hSw, hLw⟩
      (try dsimp only at hSw)
      (try simp only [hLw, true_implies] at hSw)
      go_simp
      (try with_reducible rfl)
    clear hHeld
    intro hHeld
    try simp only [Act.put, List.getElem_toArray, List.getElem_cons_succ, List.getElem_cons_zero, List.setIfInBounds_toArray, List.set_cons_zero, List.set_cons_succ]
    refine wpAnyL_take (i := 10) (b := 11) (v := ?_) rfl (by kernel_rfl) (by kernel_rfl) (by kernel_rfl) (fun _ _ _ h => h) (by decide) (by kernel_rfl) ?hS (Or.inl ⟨by rfl, ?hy⟩) hHeld (by unfold Left; kernel_rfl) ?_
    case hS => intro l w; (try dsimp only); simp (config := { decide := true }) only [left_set, ne_eq]
    case hy =>
      rintro w ⟨l, hSw, hLw⟩
      (try dsimp only at hSw)
      (try simp only [hLw, true_implies] at hSw)
      go_simp
      (try with_reducible rfl)
    clear hHeld
    intro hHeld
    try simp only [Act.put, List.getElem_toArray, List.getElem_cons_succ, List.getElem_cons_zero, List.setIfInBounds_toArray, List.set_cons_zero, List.set_cons_succ]
    refine wpAnyL_one 11 (by kernel_rfl) rfl (fun K hK => ?_)
    clear hHeld
    go_simp
    refine hK.out _ _ (⟨Left.gone (by kernel_rfl), by go_simp⟩) (fun hHeld => ?_)
    clear hK K
    try simp only [Act.put, List.getElem_toArray, List.getElem_cons_succ, List.getElem_cons_zero, List.setIfInBounds_toArray, List.set_cons_zero, List.set_cons_succ]
    refine wpAnyL_done (by kernel_rfl) ?_ _
    simp only [Exit.then]
    go_wp2_with fail
    go_end0
    exact ⟨⟨_, rfl⟩, by rw [Bool.false_or]; exact Blk.put hP1 0 _ rfl, hK0.trans (hK1.trans (Kept.set_ 0 _))⟩
  · go_wp2_with fail
    have hC0 : (w.setCell ⟨P, 2, none⟩ (.bool true)).cell? ⟨C, i, none⟩ = some (.string x) := by go_simp
    have hP0 : Cw (w.setCell ⟨P, 2, none⟩ (.bool true)) P o true := Blk.put hP 2 _ rfl
    have hK0 : Kept P w (w.setCell ⟨P, 2, none⟩ (.bool true)) := Kept.set_ 2 _
    clear hP hC Pc Pf Pl
    generalize w.setCell ⟨P, 2, none⟩ (.bool true) = W at *
    have hP := hP0
    have hC := hC0
    clear hP0 hC0
    refine wp_region_left0 (S := fun l w' => (Left 11 l → w'.cell? ⟨P, 0, none⟩ = some (.string o)) ∧ w'.cell? ⟨C, i, none⟩ = some (.string x)) (by kernel_rfl) ⟨fun _ => hP.cell 0, hC⟩ (fun hHeld => ?_)
    refine wpAnyL_take (i := 0) (b := 11) (v := ?_) rfl (by kernel_rfl) (by kernel_rfl) (by kernel_rfl) (fun _ _ _ h => h) (by decide) (by kernel_rfl) ?hS (Or.inl ⟨by rfl, ?hy⟩) hHeld (by unfold Left; kernel_rfl) ?_
    case hS => intro l w; (try dsimp only); simp (config := { decide := true }) only [left_set, ne_eq]
    case hy =>
      rintro w ⟨l, hSw, hLw⟩
      (try dsimp only at hSw)
      (try simp only [hLw, true_implies] at hSw)
      go_simp
      (try with_reducible rfl)
    clear hHeld
    intro hHeld
    try simp only [Act.put, List.getElem_toArray, List.getElem_cons_zero, List.setIfInBounds_toArray, List.set_cons_zero, List.set_cons_succ]
    refine wpAnyL_take (i := 1) (b := 11) (v := ?_) rfl (by kernel_rfl) (by kernel_rfl) (by kernel_rfl) (fun _ _ _ h => h) (by decide) (by kernel_rfl) ?hS (Or.inl ⟨by rfl, ?hy⟩) hHeld (by unfold Left; kernel_rfl) ?_
    case hS => intro l w; (try dsimp only); simp (config := { decide := true }) only [left_set, ne_eq]
    case hy =>
      rintro w ⟨l, hSw, hLw⟩
      (try dsimp only at hSw)
      (try simp only [hLw, true_implies] at hSw)
      go_simp
      (try with_reducible rfl)
    clear hHeld
    intro hHeld
    try simp only [Act.put, List.getElem_toArray, List.getElem_cons_succ, List.getElem_cons_zero, List.setIfInBounds_toArray, List.set_cons_zero, List.set_cons_succ]
    refine wpAnyL_take (i := 2) (b := 11) (v := ?_) rfl (by kernel_rfl) (by kernel_rfl) (by kernel_rfl) (fun _ _ _ h => h) (by decide) (by kernel_rfl) ?hS (Or.inl ⟨by rfl, ?hy⟩) hHeld (by unfold Left; kernel_rfl) ?_
    case hS => intro l w; (try dsimp only); simp (config := { decide := true }) only [left_set, ne_eq]
    case hy =>
      rintro w ⟨l, hSw, hLw⟩
      (try dsimp only at hSw)
      (try simp only [hLw, true_implies] at hSw)
      go_simp
      (try with_reducible rfl)
    clear hHeld
    intro hHeld
    try simp only [Act.put, List.getElem_toArray, List.getElem_cons_succ, List.getElem_cons_zero, List.setIfInBounds_toArray, List.set_cons_zero, List.set_cons_succ]
    refine wpAnyL_take (i := 3) (b := 11) (v := ?_) rfl (by kernel_rfl) (by kernel_rfl) (by kernel_rfl) (fun _ _ _ h => h) (by decide) (by kernel_rfl) ?hS (Or.inl ⟨by rfl, ?hy⟩) hHeld (by unfold Left; kernel_rfl) ?_
    case hS => intro l w; (try dsimp only); simp (config := { decide := true }) only [left_set, ne_eq]
    case hy =>
      rintro w ⟨l, hSw, hLw⟩
      (try dsimp only at hSw)
      (try simp only [hLw, true_implies] at hSw)
      go_simp
      (try with_reducible rfl)
    clear hHeld
    intro hHeld
    try simp only [Act.put, List.getElem_toArray, List.getElem_cons_succ, List.getElem_cons_zero, List.setIfInBounds_toArray, List.set_cons_zero, List.set_cons_succ]
    refine wpAnyL_take (i := 4) (b := 11) (v := ?_) rfl (by kernel_rfl) (by kernel_rfl) (by kernel_rfl) (fun _ _ _ h => h) (by decide) (by kernel_rfl) ?hS (Or.inl ⟨by rfl, ?hy⟩) hHeld (by unfold Left; kernel_rfl) ?_
    case hS => intro l w; (try dsimp only); simp (config := { decide := true }) only [left_set, ne_eq]
    case hy =>
      rintro w ⟨l, hSw, hLw⟩
      (try dsimp only at hSw)
      (try simp only [hLw, true_implies] at hSw)
      go_simp
      (try with_reducible rfl)
    clear hHeld
    intro hHeld
    try simp only [Act.put, List.getElem_toArray, List.getElem_cons_succ, List.getElem_cons_zero, List.setIfInBounds_toArray, List.set_cons_zero, List.set_cons_succ]
    refine wpAnyL_take (i := 5) (b := 11) (v := ?_) rfl (by kernel_rfl) (by kernel_rfl) (by kernel_rfl) (fun _ _ _ h => h) (by decide) (by kernel_rfl) ?hS (Or.inl ⟨by rfl, ?hy⟩) hHeld (by unfold Left; kernel_rfl) ?_
    case hS => intro l w; (try dsimp only); simp (config := { decide := true }) only [left_set, ne_eq]
    case hy =>
      rintro w ⟨l, hSw, hLw⟩
      (try dsimp only at hSw)
      (try simp only [hLw, true_implies] at hSw)
      go_simp
      (try with_reducible rfl)
    clear hHeld
    intro hHeld
    try simp only [Act.put, List.getElem_toArray, List.getElem_cons_succ, List.getElem_cons_zero, List.setIfInBounds_toArray, List.set_cons_zero, List.set_cons_succ]
    refine wpAnyL_take (i := 6) (b := 11) (v := ?_) rfl (by kernel_rfl) (by kernel_rfl) (by kernel_rfl) (fun _ _ _ h => h) (by decide) (by kernel_rfl) ?hS (Or.inl ⟨by rfl, ?hy⟩) hHeld (by unfold Left; kernel_rfl) ?_
    case hS => intro l w; (try dsimp only); simp (config := { decide := true }) only [left_set, ne_eq]
    case hy =>
      rintro w ⟨l, hSw, hLw⟩
      (try dsimp only at hSw)
      (try simp only [hLw, true_implies] at hSw)
      go_simp
      (try with_reducible rfl)
    clear hHeld
    intro hHeld
    try simp only [Act.put, List.getElem_toArray, List.getElem_cons_succ, List.getElem_cons_zero, List.setIfInBounds_toArray, List.set_cons_zero, List.set_cons_succ]
    refine wpAnyL_one 7 (by kernel_rfl) rfl (fun K hK => ?_)
    clear hHeld
    go_simp
    refine (C1.out _).mono ?_
    rintro r w1 ⟨rfl, hb⟩; dsimp only
    have hP1 : Blk w1 P 99 _ := Blk.past hP.drew hb
    have hC1 := cell_on hb (show _ from hC)
    have hK1 := Kept.of (P := P) (below_to (Below.refl _ _).drew hb)
    clear hb
    obtain ⟨Pc, Pf, Pl⟩ := hP1.facts
    have hoz : ¬ 9223372036854775807 < o.size + (encT x).size := by omega
    refine hK.out _ _ (⟨fun _ => hP1.cell 0, hC1⟩) (fun hHeld => ?_)
    clear hK K
    try simp only [Act.put, List.getElem_toArray, List.getElem_cons_succ, List.getElem_cons_zero, List.setIfInBounds_toArray, List.set_cons_zero, List.set_cons_succ]
    refine wpAnyL_take (i := 8) (b := 11) (v := ?_) rfl (by kernel_rfl) (by kernel_rfl) (by kernel_rfl) (fun _ _ _ h => h) (by decide) (by kernel_rfl) ?hS (Or.inl ⟨by rfl, ?hy⟩) hHeld (by unfold Left; kernel_rfl) ?_
    case hS => intro l w; (try dsimp only); simp (config := { decide := true }) only [left_set, ne_eq]
    case hy =>
      rintro w ⟨l, hSw, hLw⟩
      (try dsimp only at hSw)
      (try simp only [hLw, true_implies] at hSw)
      go_simp
      (try with_reducible rfl)
    clear hHeld
    intro hHeld
    try simp only [Act.put, List.getElem_toArray, List.getElem_cons_succ, List.getElem_cons_zero, List.setIfInBounds_toArray, List.set_cons_zero, List.set_cons_succ]
    refine wpAnyL_take (i := 9) (b := 10) (v := ?_) rfl (by kernel_rfl) (by kernel_rfl) (by kernel_rfl) (fun _ _ _ h => h) (by decide) (by kernel_rfl) ?hS (Or.inl ⟨by rfl, ?hy⟩) hHeld (by unfold Left; kernel_rfl) ?_
    case hS => intro l w; (try dsimp only); simp (config := { decide := true }) only [left_set, ne_eq]
    case hy =>
      rintro w ⟨l, hSw, hLw⟩
      (try dsimp only at hSw)
      (try simp only [hLw, true_implies] at hSw)
      go_simp
      (try with_reducible rfl)
    clear hHeld
    intro hHeld
    try simp only [Act.put, List.getElem_toArray, List.getElem_cons_succ, List.getElem_cons_zero, List.setIfInBounds_toArray, List.set_cons_zero, List.set_cons_succ]
    refine wpAnyL_take (i := 10) (b := 11) (v := ?_) rfl (by kernel_rfl) (by kernel_rfl) (by kernel_rfl) (fun _ _ _ h => h) (by decide) (by kernel_rfl) ?hS (Or.inl ⟨by rfl, ?hy⟩) hHeld (by unfold Left; kernel_rfl) ?_
    case hS => intro l w; (try dsimp only); simp (config := { decide := true }) only [left_set, ne_eq]
    case hy =>
      rintro w ⟨l, hSw, hLw⟩
      (try dsimp only at hSw)
      (try simp only [hLw, true_implies] at hSw)
      go_simp
      (try with_reducible rfl)
    clear hHeld
    intro hHeld
    try simp only [Act.put, List.getElem_toArray, List.getElem_cons_succ, List.getElem_cons_zero, List.setIfInBounds_toArray, List.set_cons_zero, List.set_cons_succ]
    refine wpAnyL_one 11 (by kernel_rfl) rfl (fun K hK => ?_)
    clear hHeld
    go_simp
    refine hK.out _ _ (⟨Left.gone (by kernel_rfl), by go_simp⟩) (fun hHeld => ?_)
    clear hK K
    try simp only [Act.put, List.getElem_toArray, List.getElem_cons_succ, List.getElem_cons_zero, List.setIfInBounds_toArray, List.set_cons_zero, List.set_cons_succ]
    refine wpAnyL_done (by kernel_rfl) ?_ _
    simp only [Exit.then]
    go_wp2_with fail
    go_end0
    exact ⟨⟨_, rfl⟩, by rw [Bool.true_or]; exact Blk.put hP1 0 _ rfl, hK0.trans (hK1.trans (Kept.set_ 0 _))⟩
set_option maxHeartbeats 4000000 in
    theorem cw_numI (P B : Nat) (cp : Nat) (o : ByteArray) (bd : Bool) (ps : List (Nat × Nat × Int)) (hx : ∀ p ∈ ps, I64 p.2.2) (hps : ps.length ≤ 3) (ho : o.size ≤ 900000) (w : World) (hP : Cw w P o bd) (hB : Blk w B 129 (ps.map fun p => Value.pointer (some ⟨p.1, p.2.1, none⟩)).toArray) (hBP : B ≠ P) (hne : ∀ p ∈ ps, p.1 ≠ P) (hC : ∀ p ∈ ps, ∃ t cs, Blk w p.1 t cs ∧ cs[p.2.1]? = some (.int .i64 p.2.2)) :
        Calls Try.prog 80 #[.pointer (some ⟨P, 0, none⟩), .slice (some ⟨B, 0, none⟩) ps.length cp] w fun e w' => (∃ v, e = .returned v) ∧ Cw w' P (ps.foldl (fun a p => a ++ encI p.2.2) o) bd ∧ Kept P w w' := by
      replace hx := Lib.hid hx
      replace hne := Lib.hid hne
      replace hC := Lib.hid hC
      have hK := Kept.refl P w
      go_enter Try.func80, Try.ntmps80
      go_wp2_with fail
      go_loopw [5, 8] (fun _ i wr => ∃ k : Nat, k ≤ ps.length ∧ i = .int .i64 k ∧ Cw wr P ((ps.take k).foldl (fun a p => a ++ encI p.2.2) o) bd ∧ ((ps.take k).foldl (fun a p => a ++ encI p.2.2) o).size ≤ o.size + 10 * k ∧ Kept P w wr) (fun _ i _ => ps.length - (intOf i).toNat)
      case atStart => exact ⟨0, Nat.zero_le _, rfl, hP, by simp, hK⟩
      case round =>
        clear hP hK
        obtain ⟨k, hk, rfl, hP, hoz0, hK⟩ := hrel
        by_cases hlt : k < ps.length
        · have hmem := List.getElem_mem hlt
          have hBk := hK.blk hB hBP
          have b0 : wr.cell? ⟨B, k, none⟩ = some (.pointer (some ⟨ps[k].1, ps[k].2.1, none⟩)) := by rw [hBk.cell]; simp [hlt]
          obtain ⟨t, cs, hc, hcs⟩ := hC.out _ hmem
          have hne' := hne.out _ hmem
          have hC0 : wr.cell? ⟨ps[k].1, ps[k].2.1, none⟩ = some (.int .i64 ps[k].2.2) := by rw [(hK.blk hc hne').cell]; exact hcs
          have hx' := hx.out _ hmem
          have hz := encI_size _ hx'
          have C1 := Lib.hid (fun w => wr_Int ps[k].2.2 hx'.1 hx'.2 w)
          rw [← show encI ps[k].2.2 = bs (Lib.uvarint (Lib.zigzag ps[k].2.2)) from rfl] at C1
          have htk : Hid ((ps.take (k + 1)).foldl (fun a p => a ++ encI p.2.2) o = (ps.take k).foldl (fun a p => a ++ encI p.2.2) o ++ encI ps[k].2.2) := Lib.hid (by rw [List.take_succ_eq_append_getElem hlt, List.foldl_append]; rfl)
          have hso : ((ps.take k).foldl (fun a p => a ++ encI p.2.2) o ++ encI ps[k].2.2).size ≤ o.size + 10 * (k + 1) := by rw [ByteArray.size_append]; omega
          clear hBk hc hcs hx' hmem
          generalize ps[k].1 = C at *
          generalize ps[k].2.1 = i at *
          generalize ps[k].2.2 = x at *
          generalize (ps.take k).foldl (fun a p => a ++ encI p.2.2) o = o at *
          obtain ⟨Pc, Pf, Pl⟩ := hP.facts
          have hC := hC0
          go_wp2_with fail
          clear Pc Pf Pl b0 hC0
          refine wp_region_left0 (S := fun l w' => (Left 11 l → w'.cell? ⟨P, 0, none⟩ = some (.string o)) ∧ w'.cell? ⟨C, i, none⟩ = some (.int .i64 x)) (by kernel_rfl) ⟨fun _ => hP.cell 0, hC⟩ (fun hHeld => ?_)
          refine wpAnyL_take (i := 0) (b := 11) (v := ?_) rfl (by kernel_rfl) (by kernel_rfl) (by kernel_rfl) (fun _ _ _ h => h) (by decide) (by kernel_rfl) ?hS (Or.inl ⟨by rfl, ?hy⟩) hHeld (by unfold Left; kernel_rfl) ?_
          case hS => intro l w; (try dsimp only); simp (config := { decide := true }) only [left_set, ne_eq]
          case hy =>
            rintro w ⟨l, hSw, hLw⟩
            (try dsimp only at hSw)
            (try simp only [hLw, true_implies] at hSw)
            go_simp
            (try with_reducible rfl)
          clear hHeld
          intro hHeld
          try simp only [Act.put, List.getElem_toArray, List.getElem_cons_succ, List.getElem_cons_zero, List.setIfInBounds_toArray, List.set_cons_zero, List.set_cons_succ]
          refine wpAnyL_take (i := 1) (b := 11) (v := ?_) rfl (by kernel_rfl) (by kernel_rfl) (by kernel_rfl) (fun _ _ _ h => h) (by decide) (by kernel_rfl) ?hS (Or.inl ⟨by rfl, ?hy⟩) hHeld (by unfold Left; kernel_rfl) ?_
          case hS => intro l w; (try dsimp only); simp (config := { decide := true }) only [left_set, ne_eq]
          case hy =>
            rintro w ⟨l, hSw, hLw⟩
            (try dsimp only at hSw)
            (try simp only [hLw, true_implies] at hSw)
            go_simp
            (try with_reducible rfl)
          clear hHeld
          intro hHeld
          try simp only [Act.put, List.getElem_toArray, List.getElem_cons_succ, List.getElem_cons_zero, List.setIfInBounds_toArray, List.set_cons_zero, List.set_cons_succ]
          refine wpAnyL_take (i := 2) (b := 11) (v := ?_) rfl (by kernel_rfl) (by kernel_rfl) (by kernel_rfl) (fun _ _ _ h => h) (by decide) (by kernel_rfl) ?hS (Or.inl ⟨by rfl, ?hy⟩) hHeld (by unfold Left; kernel_rfl) ?_
          case hS => intro l w; (try dsimp only); simp (config := { decide := true }) only [left_set, ne_eq]
          case hy =>
            rintro w ⟨l, hSw, hLw⟩
            (try dsimp only at hSw)
            (try simp only [hLw, true_implies] at hSw)
            go_simp
            (try with_reducible rfl)
          clear hHeld
          intro hHeld
          try simp only [Act.put, List.getElem_toArray, List.getElem_cons_succ, List.getElem_cons_zero, List.setIfInBounds_toArray, List.set_cons_zero, List.set_cons_succ]
          refine wpAnyL_take (i := 3) (b := 11) (v := ?_) rfl (by kernel_rfl) (by kernel_rfl) (by kernel_rfl) (fun _ _ _ h => h) (by decide) (by kernel_rfl) ?hS (Or.inl ⟨by rfl, ?hy⟩) hHeld (by unfold Left; kernel_rfl) ?_
          case hS => intro l w; (try dsimp only); simp (config := { decide := true }) only [left_set, ne_eq]
          case hy =>
            rintro w ⟨l, hSw, hLw⟩
            (try dsimp only at hSw)
            (try simp only [hLw, true_implies] at hSw)
            go_simp
            (try with_reducible rfl)
          clear hHeld
          intro hHeld
          try simp only [Act.put, List.getElem_toArray, List.getElem_cons_succ, List.getElem_cons_zero, List.setIfInBounds_toArray, List.set_cons_zero, List.set_cons_succ]
          refine wpAnyL_take (i := 4) (b := 11) (v := ?_) rfl (by kernel_rfl) (by kernel_rfl) (by kernel_rfl) (fun _ _ _ h => h) (by decide) (by kernel_rfl) ?hS (Or.inl ⟨by rfl, ?hy⟩) hHeld (by unfold Left; kernel_rfl) ?_
          case hS => intro l w; (try dsimp only); simp (config := { decide := true }) only [left_set, ne_eq]
          case hy =>
            rintro w ⟨l, hSw, hLw⟩
            (try dsimp only at hSw)
            (try simp only [hLw, true_implies] at hSw)
            go_simp
            (try with_reducible rfl)
          clear hHeld
          intro hHeld
          try simp only [Act.put, List.getElem_toArray, List.getElem_cons_succ, List.getElem_cons_zero, List.setIfInBounds_toArray, List.set_cons_zero, List.set_cons_succ]
          refine wpAnyL_take (i := 5) (b := 11) (v := ?_) rfl (by kernel_rfl) (by kernel_rfl) (by kernel_rfl) (fun _ _ _ h => h) (by decide) (by kernel_rfl) ?hS (Or.inl ⟨by rfl, ?hy⟩) hHeld (by unfold Left; kernel_rfl) ?_
          case hS => intro l w; (try dsimp only); simp (config := { decide := true }) only [left_set, ne_eq]
          case hy =>
            rintro w ⟨l, hSw, hLw⟩
            (try dsimp only at hSw)
            (try simp only [hLw, true_implies] at hSw)
            go_simp
            (try with_reducible rfl)
          clear hHeld
          intro hHeld
          try simp only [Act.put, List.getElem_toArray, List.getElem_cons_succ, List.getElem_cons_zero, List.setIfInBounds_toArray, List.set_cons_zero, List.set_cons_succ]
          refine wpAnyL_take (i := 6) (b := 11) (v := ?_) rfl (by kernel_rfl) (by kernel_rfl) (by kernel_rfl) (fun _ _ _ h => h) (by decide) (by kernel_rfl) ?hS (Or.inl ⟨by rfl, ?hy⟩) hHeld (by unfold Left; kernel_rfl) ?_
          case hS => intro l w; (try dsimp only); simp (config := { decide := true }) only [left_set, ne_eq]
          case hy =>
            rintro w ⟨l, hSw, hLw⟩
            (try dsimp only at hSw)
            (try simp only [hLw, true_implies] at hSw)
            go_simp
            (try with_reducible rfl)
          clear hHeld
          intro hHeld
          try simp only [Act.put, List.getElem_toArray, List.getElem_cons_succ, List.getElem_cons_zero, List.setIfInBounds_toArray, List.set_cons_zero, List.set_cons_succ]
          refine wpAnyL_one 7 (by kernel_rfl) rfl (fun K hK => ?_)
          clear hHeld
          go_simp
          refine (C1.out _).mono ?_
          rintro r w1 ⟨rfl, hb⟩; dsimp only
          have hP1 : Blk w1 P 99 _ := Blk.past hP.drew hb
          have hC1 := cell_on hb (show _ from hC)
          have hK1 := Kept.of (P := P) (below_to (Below.refl _ _).drew hb)
          clear hb
          obtain ⟨Pc, Pf, Pl⟩ := hP1.facts
          have hoz : ¬ 9223372036854775807 < o.size + (encI x).size := by omega
          refine hK.out _ _ (⟨fun _ => hP1.cell 0, hC1⟩) (fun hHeld => ?_)
          clear hK K
          try simp only [Act.put, List.getElem_toArray, List.getElem_cons_succ, List.getElem_cons_zero, List.setIfInBounds_toArray, List.set_cons_zero, List.set_cons_succ]
          refine wpAnyL_take (i := 8) (b := 11) (v := ?_) rfl (by kernel_rfl) (by kernel_rfl) (by kernel_rfl) (fun _ _ _ h => h) (by decide) (by kernel_rfl) ?hS (Or.inl ⟨by rfl, ?hy⟩) hHeld (by unfold Left; kernel_rfl) ?_
          case hS => intro l w; (try dsimp only); simp (config := { decide := true }) only [left_set, ne_eq]
          case hy =>
            rintro w ⟨l, hSw, hLw⟩
            (try dsimp only at hSw)
            (try simp only [hLw, true_implies] at hSw)
            go_simp
            (try with_reducible rfl)
          clear hHeld
          intro hHeld
          try simp only [Act.put, List.getElem_toArray, List.getElem_cons_succ, List.getElem_cons_zero, List.setIfInBounds_toArray, List.set_cons_zero, List.set_cons_succ]
          refine wpAnyL_take (i := 9) (b := 10) (v := ?_) rfl (by kernel_rfl) (by kernel_rfl) (by kernel_rfl) (fun _ _ _ h => h) (by decide) (by kernel_rfl) ?hS (Or.inl ⟨by rfl, ?hy⟩) hHeld (by unfold Left; kernel_rfl) ?_
          case hS => intro l w; (try dsimp only); simp (config := { decide := true }) only [left_set, ne_eq]
          case hy =>
            rintro w ⟨l, hSw, hLw⟩
            (try dsimp only at hSw)
            (try simp only [hLw, true_implies] at hSw)
            go_simp
            (try with_reducible rfl)
          clear hHeld
          intro hHeld
          try simp only [Act.put, List.getElem_toArray, List.getElem_cons_succ, List.getElem_cons_zero, List.setIfInBounds_toArray, List.set_cons_zero, List.set_cons_succ]
          refine wpAnyL_take (i := 10) (b := 11) (v := ?_) rfl (by kernel_rfl) (by kernel_rfl) (by kernel_rfl) (fun _ _ _ h => h) (by decide) (by kernel_rfl) ?hS (Or.inl ⟨by rfl, ?hy⟩) hHeld (by unfold Left; kernel_rfl) ?_
          case hS => intro l w; (try dsimp only); simp (config := { decide := true }) only [left_set, ne_eq]
          case hy =>
            rintro w ⟨l, hSw, hLw⟩
            (try dsimp only at hSw)
            (try simp only [hLw, true_implies] at hSw)
            go_simp
            (try with_reducible rfl)
          clear hHeld
          intro hHeld
          try simp only [Act.put, List.getElem_toArray, List.getElem_cons_succ, List.getElem_cons_zero, List.setIfInBounds_toArray, List.set_cons_zero, List.set_cons_succ]
          refine wpAnyL_one 11 (by kernel_rfl) rfl (fun K hK => ?_)
          clear hHeld
          go_simp
          refine hK.out _ _ (⟨Left.gone (by kernel_rfl), by go_simp⟩) (fun hHeld => ?_)
          clear hK K
          try simp only [Act.put, List.getElem_toArray, List.getElem_cons_succ, List.getElem_cons_zero, List.setIfInBounds_toArray, List.set_cons_zero, List.set_cons_succ]
          refine wpAnyL_done (by kernel_rfl) ?_ _
          simp only [Exit.then]
          have hP2 := Blk.put hP1 0 (.string (o ++ encI x)) rfl
          have hK2 := hK.trans (hK1.trans (Kept.set_ (P := P) (w := w1) 0 (.string (o ++ encI x))))
          clear hP1 hK1 hC1 Pc Pf Pl hP hK hC
          generalize w1.setCell ⟨P, 0, none⟩ (.string (o ++ encI x)) = w2 at *
          go_wp2_with fail
          go_roundw
          case rel => exact ⟨k + 1, by omega, by first | rfl | go_num, by rw [htk.out]; exact hP2, by rw [htk.out]; exact hso, hK2⟩
          case measure => simp [intOf]; omega
        · obtain rfl : k = ps.length := by omega
          rw [List.take_length] at hP
          go_wp2_with fail
          go_end0
          exact ⟨⟨_, rfl⟩, hP, hK⟩
set_option maxHeartbeats 4000000 in
          theorem cw_numL (P B : Nat) (cp : Nat) (o : ByteArray) (bd : Bool) (ps : List (Nat × Nat × Int)) (hx : ∀ p ∈ ps, I64 p.2.2) (hps : ps.length ≤ 3) (ho : o.size ≤ 900000) (w : World) (hP : Cw w P o bd) (hB : Blk w B 137 (ps.map fun p => Value.pointer (some ⟨p.1, p.2.1, none⟩)).toArray) (hBP : B ≠ P) (hne : ∀ p ∈ ps, p.1 ≠ P) (hC : ∀ p ∈ ps, ∃ t cs, Blk w p.1 t cs ∧ cs[p.2.1]? = some (.int .i64 p.2.2)) :
              Calls Try.prog 92 #[.pointer (some ⟨P, 0, none⟩), .slice (some ⟨B, 0, none⟩) ps.length cp] w fun e w' => (∃ v, e = .returned v) ∧ Cw w' P (ps.foldl (fun a p => a ++ encI p.2.2) o) bd ∧ Kept P w w' := by
            replace hx := Lib.hid hx
            replace hne := Lib.hid hne
            replace hC := Lib.hid hC
            have hK := Kept.refl P w
            go_enter Try.func92, Try.ntmps92
            go_wp2_with fail
            go_loopw [5, 8] (fun _ i wr => ∃ k : Nat, k ≤ ps.length ∧ i = .int .i64 k ∧ Cw wr P ((ps.take k).foldl (fun a p => a ++ encI p.2.2) o) bd ∧ ((ps.take k).foldl (fun a p => a ++ encI p.2.2) o).size ≤ o.size + 10 * k ∧ Kept P w wr) (fun _ i _ => ps.length - (intOf i).toNat)
            case atStart => exact ⟨0, Nat.zero_le _, rfl, hP, by simp, hK⟩
            case round =>
              clear hP hK
              obtain ⟨k, hk, rfl, hP, hoz0, hK⟩ := hrel
              by_cases hlt : k < ps.length
              · have hmem := List.getElem_mem hlt
                have hBk := hK.blk hB hBP
                have b0 : wr.cell? ⟨B, k, none⟩ = some (.pointer (some ⟨ps[k].1, ps[k].2.1, none⟩)) := by rw [hBk.cell]; simp [hlt]
                obtain ⟨t, cs, hc, hcs⟩ := hC.out _ hmem
                have hne' := hne.out _ hmem
                have hC0 : wr.cell? ⟨ps[k].1, ps[k].2.1, none⟩ = some (.int .i64 ps[k].2.2) := by rw [(hK.blk hc hne').cell]; exact hcs
                have hx' := hx.out _ hmem
                have hz := encI_size _ hx'
                have C1 := Lib.hid (fun w => wr_Int ps[k].2.2 hx'.1 hx'.2 w)
                rw [← show encI ps[k].2.2 = bs (Lib.uvarint (Lib.zigzag ps[k].2.2)) from rfl] at C1
                have htk : Hid ((ps.take (k + 1)).foldl (fun a p => a ++ encI p.2.2) o = (ps.take k).foldl (fun a p => a ++ encI p.2.2) o ++ encI ps[k].2.2) := Lib.hid (by rw [List.take_succ_eq_append_getElem hlt, List.foldl_append]; rfl)
                have hso : ((ps.take k).foldl (fun a p => a ++ encI p.2.2) o ++ encI ps[k].2.2).size ≤ o.size + 10 * (k + 1) := by rw [ByteArray.size_append]; omega
                clear hBk hc hcs hx' hmem
                generalize ps[k].1 = C at *
                generalize ps[k].2.1 = i at *
                generalize ps[k].2.2 = x at *
                generalize (ps.take k).foldl (fun a p => a ++ encI p.2.2) o = o at *
                obtain ⟨Pc, Pf, Pl⟩ := hP.facts
                have hC := hC0
                go_wp2_with fail
                clear Pc Pf Pl b0 hC0
                refine wp_region_left0 (S := fun l w' => (Left 11 l → w'.cell? ⟨P, 0, none⟩ = some (.string o)) ∧ w'.cell? ⟨C, i, none⟩ = some (.int .i64 x)) (by kernel_rfl) ⟨fun _ => hP.cell 0, hC⟩ (fun hHeld => ?_)
                refine wpAnyL_take (i := 0) (b := 11) (v := ?_) rfl (by kernel_rfl) (by kernel_rfl) (by kernel_rfl) (fun _ _ _ h => h) (by decide) (by kernel_rfl) ?hS (Or.inl ⟨by rfl, ?hy⟩) hHeld (by unfold Left; kernel_rfl) ?_
                case hS => intro l w; (try dsimp only); simp (config := { decide := true }) only [left_set, ne_eq]
                case hy =>
                  rintro w ⟨l, hSw, hLw⟩
                  (try dsimp only at hSw)
                  (try simp only [hLw, true_implies] at hSw)
                  go_simp
                  (try with_reducible rfl)
                clear hHeld
                intro hHeld
                try simp only [Act.put, List.getElem_toArray, List.getElem_cons_succ, List.getElem_cons_zero, List.setIfInBounds_toArray, List.set_cons_zero, List.set_cons_succ]
                refine wpAnyL_take (i := 1) (b := 11) (v := ?_) rfl (by kernel_rfl) (by kernel_rfl) (by kernel_rfl) (fun _ _ _ h => h) (by decide) (by kernel_rfl) ?hS (Or.inl ⟨by rfl, ?hy⟩) hHeld (by unfold Left; kernel_rfl) ?_
                case hS => intro l w; (try dsimp only); simp (config := { decide := true }) only [left_set, ne_eq]
                case hy =>
                  rintro w ⟨l, hSw, hLw⟩
                  (try dsimp only at hSw)
                  (try simp only [hLw, true_implies] at hSw)
                  go_simp
                  (try with_reducible rfl)
                clear hHeld
                intro hHeld
                try simp only [Act.put, List.getElem_toArray, List.getElem_cons_succ, List.getElem_cons_zero, List.setIfInBounds_toArray, List.set_cons_zero, List.set_cons_succ]
                refine wpAnyL_take (i := 2) (b := 11) (v := ?_) rfl (by kernel_rfl) (by kernel_rfl) (by kernel_rfl) (fun _ _ _ h => h) (by decide) (by kernel_rfl) ?hS (Or.inl ⟨by rfl, ?hy⟩) hHeld (by unfold Left; kernel_rfl) ?_
                case hS => intro l w; (try dsimp only); simp (config := { decide := true }) only [left_set, ne_eq]
                case hy =>
                  rintro w ⟨l, hSw, hLw⟩
                  (try dsimp only at hSw)
                  (try simp only [hLw, true_implies] at hSw)
                  go_simp
                  (try with_reducible rfl)
                clear hHeld
                intro hHeld
                try simp only [Act.put, List.getElem_toArray, List.getElem_cons_succ, List.getElem_cons_zero, List.setIfInBounds_toArray, List.set_cons_zero, List.set_cons_succ]
                refine wpAnyL_take (i := 3) (b := 11) (v := ?_) rfl (by kernel_rfl) (by kernel_rfl) (by kernel_rfl) (fun _ _ _ h => h) (by decide) (by kernel_rfl) ?hS (Or.inl ⟨by rfl, ?hy⟩) hHeld (by unfold Left; kernel_rfl) ?_
                case hS => intro l w; (try dsimp only); simp (config := { decide := true }) only [left_set, ne_eq]
                case hy =>
                  rintro w ⟨l, hSw, hLw⟩
                  (try dsimp only at hSw)
                  (try simp only [hLw, true_implies] at hSw)
                  go_simp
                  (try with_reducible rfl)
                clear hHeld
                intro hHeld
                try simp only [Act.put, List.getElem_toArray, List.getElem_cons_succ, List.getElem_cons_zero, List.setIfInBounds_toArray, List.set_cons_zero, List.set_cons_succ]
                refine wpAnyL_take (i := 4) (b := 11) (v := ?_) rfl (by kernel_rfl) (by kernel_rfl) (by kernel_rfl) (fun _ _ _ h => h) (by decide) (by kernel_rfl) ?hS (Or.inl ⟨by rfl, ?hy⟩) hHeld (by unfold Left; kernel_rfl) ?_
                case hS => intro l w; (try dsimp only); simp (config := { decide := true }) only [left_set, ne_eq]
                case hy =>
                  rintro w ⟨l, hSw, hLw⟩
                  (try dsimp only at hSw)
                  (try simp only [hLw, true_implies] at hSw)
                  go_simp
                  (try with_reducible rfl)
                clear hHeld
                intro hHeld
                try simp only [Act.put, List.getElem_toArray, List.getElem_cons_succ, List.getElem_cons_zero, List.setIfInBounds_toArray, List.set_cons_zero, List.set_cons_succ]
                refine wpAnyL_take (i := 5) (b := 11) (v := ?_) rfl (by kernel_rfl) (by kernel_rfl) (by kernel_rfl) (fun _ _ _ h => h) (by decide) (by kernel_rfl) ?hS (Or.inl ⟨by rfl, ?hy⟩) hHeld (by unfold Left; kernel_rfl) ?_
                case hS => intro l w; (try dsimp only); simp (config := { decide := true }) only [left_set, ne_eq]
                case hy =>
                  rintro w ⟨l, hSw, hLw⟩
                  (try dsimp only at hSw)
                  (try simp only [hLw, true_implies] at hSw)
                  go_simp
                  (try with_reducible rfl)
                clear hHeld
                intro hHeld
                try simp only [Act.put, List.getElem_toArray, List.getElem_cons_succ, List.getElem_cons_zero, List.setIfInBounds_toArray, List.set_cons_zero, List.set_cons_succ]
                refine wpAnyL_take (i := 6) (b := 11) (v := ?_) rfl (by kernel_rfl) (by kernel_rfl) (by kernel_rfl) (fun _ _ _ h => h) (by decide) (by kernel_rfl) ?hS (Or.inl ⟨by rfl, ?hy⟩) hHeld (by unfold Left; kernel_rfl) ?_
                case hS => intro l w; (try dsimp only); simp (config := { decide := true }) only [left_set, ne_eq]
                case hy =>
                  rintro w ⟨l, hSw, hLw⟩
                  (try dsimp only at hSw)
                  (try simp only [hLw, true_implies] at hSw)
                  go_simp
                  (try with_reducible rfl)
                clear hHeld
                intro hHeld
                try simp only [Act.put, List.getElem_toArray, List.getElem_cons_succ, List.getElem_cons_zero, List.setIfInBounds_toArray, List.set_cons_zero, List.set_cons_succ]
                refine wpAnyL_one 7 (by kernel_rfl) rfl (fun K hK => ?_)
                clear hHeld
                go_simp
                refine (C1.out _).mono ?_
                rintro r w1 ⟨rfl, hb⟩; dsimp only
                have hP1 : Blk w1 P 99 _ := Blk.past hP.drew hb
                have hC1 := cell_on hb (show _ from hC)
                have hK1 := Kept.of (P := P) (below_to (Below.refl _ _).drew hb)
                clear hb
                obtain ⟨Pc, Pf, Pl⟩ := hP1.facts
                have hoz : ¬ 9223372036854775807 < o.size + (encI x).size := by omega
                refine hK.out _ _ (⟨fun _ => hP1.cell 0, hC1⟩) (fun hHeld => ?_)
                clear hK K
                try simp only [Act.put, List.getElem_toArray, List.getElem_cons_succ, List.getElem_cons_zero, List.setIfInBounds_toArray, List.set_cons_zero, List.set_cons_succ]
                refine wpAnyL_take (i := 8) (b := 11) (v := ?_) rfl (by kernel_rfl) (by kernel_rfl) (by kernel_rfl) (fun _ _ _ h => h) (by decide) (by kernel_rfl) ?hS (Or.inl ⟨by rfl, ?hy⟩) hHeld (by unfold Left; kernel_rfl) ?_
                case hS => intro l w; (try dsimp only); simp (config := { decide := true }) only [left_set, ne_eq]
                case hy =>
                  rintro w ⟨l, hSw, hLw⟩
                  (try dsimp only at hSw)
                  (try simp only [hLw, true_implies] at hSw)
                  go_simp
                  (try with_reducible rfl)
                clear hHeld
                intro hHeld
                try simp only [Act.put, List.getElem_toArray, List.getElem_cons_succ, List.getElem_cons_zero, List.setIfInBounds_toArray, List.set_cons_zero, List.set_cons_succ]
                refine wpAnyL_take (i := 9) (b := 10) (v := ?_) rfl (by kernel_rfl) (by kernel_rfl) (by kernel_rfl) (fun _ _ _ h => h) (by decide) (by kernel_rfl) ?hS (Or.inl ⟨by rfl, ?hy⟩) hHeld (by unfold Left; kernel_rfl) ?_
                case hS => intro l w; (try dsimp only); simp (config := { decide := true }) only [left_set, ne_eq]
                case hy =>
                  rintro w ⟨l, hSw, hLw⟩
                  (try dsimp only at hSw)
                  (try simp only [hLw, true_implies] at hSw)
                  go_simp
                  (try with_reducible rfl)
                clear hHeld
                intro hHeld
                try simp only [Act.put, List.getElem_toArray, List.getElem_cons_succ, List.getElem_cons_zero, List.setIfInBounds_toArray, List.set_cons_zero, List.set_cons_succ]
                refine wpAnyL_take (i := 10) (b := 11) (v := ?_) rfl (by kernel_rfl) (by kernel_rfl) (by kernel_rfl) (fun _ _ _ h => h) (by decide) (by kernel_rfl) ?hS (Or.inl ⟨by rfl, ?hy⟩) hHeld (by unfold Left; kernel_rfl) ?_
                case hS => intro l w; (try dsimp only); simp (config := { decide := true }) only [left_set, ne_eq]
                case hy =>
                  rintro w ⟨l, hSw, hLw⟩
                  (try dsimp only at hSw)
                  (try simp only [hLw, true_implies] at hSw)
                  go_simp
                  (try with_reducible rfl)
                clear hHeld
                intro hHeld
                try simp only [Act.put, List.getElem_toArray, List.getElem_cons_succ, List.getElem_cons_zero, List.setIfInBounds_toArray, List.set_cons_zero, List.set_cons_succ]
                refine wpAnyL_one 11 (by kernel_rfl) rfl (fun K hK => ?_)
                clear hHeld
                go_simp
                refine hK.out _ _ (⟨Left.gone (by kernel_rfl), by go_simp⟩) (fun hHeld => ?_)
                clear hK K
                try simp only [Act.put, List.getElem_toArray, List.getElem_cons_succ, List.getElem_cons_zero, List.setIfInBounds_toArray, List.set_cons_zero, List.set_cons_succ]
                refine wpAnyL_done (by kernel_rfl) ?_ _
                simp only [Exit.then]
                have hP2 := Blk.put hP1 0 (.string (o ++ encI x)) rfl
                have hK2 := hK.trans (hK1.trans (Kept.set_ (P := P) (w := w1) 0 (.string (o ++ encI x))))
                clear hP1 hK1 hC1 Pc Pf Pl hP hK hC
                generalize w1.setCell ⟨P, 0, none⟩ (.string (o ++ encI x)) = w2 at *
                go_wp2_with fail
                go_roundw
                case rel => exact ⟨k + 1, by omega, by first | rfl | go_num, by rw [htk.out]; exact hP2, by rw [htk.out]; exact hso, hK2⟩
                case measure => simp [intOf]; omega
              · obtain rfl : k = ps.length := by omega
                rw [List.take_length] at hP
                go_wp2_with fail
                go_end0
                exact ⟨⟨_, rfl⟩, hP, hK⟩
end Go.Proofs.Yteglieoeblehpaa
