/- Commands: how the coder reads vecs, tasks, walked. Conditions: the bytes are in memory. -/
import Derived.Test.YteglieoeblehpaaCmd7
namespace Go.Proofs.Yteglieoeblehpaa
open Go.RowKit

def stepT (x : ByteArray × Int × Array Value) (i : Nat) : ByteArray × Int × Array Value := (rdS x.2.1 (qText x.1 64) x.1, rdF x.2.1 (qText x.1 64), x.2.2.setIfInBounds i (.string (rdV x.2.1 (qText x.1 64) ByteArray.empty)))
def stepS (x : ByteArray × Int × Array Value) (i : Nat) : ByteArray × Int × Array Value := (rdS x.2.1 (qUint x.1 255) x.1, rdF x.2.1 (qUint x.1 255), x.2.2.setIfInBounds i (.int .u8 (rdV x.2.1 (qUint x.1 255) 0)))
def stepG (x : ByteArray × Int × Array Value) (i : Nat) : ByteArray × Int × Array Value := (rdS x.2.1 (qUint x.1 18446744073709551615) x.1, rdF x.2.1 (qUint x.1 18446744073709551615), x.2.2.setIfInBounds i (.int .u64 (rdV x.2.1 (qUint x.1 18446744073709551615) 0)))
theorem rdS_size {α : Type} (f : Int) (q : α × Nat × Int) (s : ByteArray) : (rdS f q s).size ≤ s.size := by
  unfold rdS
  split
  · simp
  · exact Nat.le_refl _
theorem KeptRC.old {R C : Nat} {w w' : World} (h : Below w.heap.size w w') : KeptRC R C w w' := ⟨fun _ _ _ c => h.mono c, h.size, fun _ _ _ _ _ hB => hB.past h⟩
theorem oneR_numI (P R C i : Nat) (o : ByteArray) (bd : Bool) (x : ByteArray × Int × Array Value) (hs : x.1.size ≤ 140737488351232) (W : World) (hP : Cr W P R o bd) (hR : Rd W R x.1 x.2.1) (t : TypeId) (hC : Blk W C t x.2.2) (hi : i < x.2.2.size) (n1 : P ≠ R) (n2 : P ≠ C) (n3 : C ≠ R) :
    Calls Try.prog 80 #[.pointer (some ⟨P, 0, none⟩), .slice (some ⟨W.heap.size, 0, none⟩) 1 1] (W.alloc (.cells #[.pointer (some ⟨C, i, none⟩)] 129)) fun e w' => (∃ v, e = .returned v) ∧ Rd w' R (stepI x i).1 (stepI x i).2.1 ∧ Blk w' C t (stepI x i).2.2 ∧ KeptRC R C W w' :=
  (cr_numI P R W.heap.size C 1 o bd x.1 x.2.1 hs [i] (by simp) _ (hP.alloc _) (Blk.alloc hR _) t x.2.2 (hC.alloc _) (by intro j hj; simp at hj; subst hj; exact hi) (Blk.new W 129 _) n1 n2 n3 (by have := Blk.lt hR; omega) (by have := hC.lt; omega)).mono fun _ _ h => ⟨h.1, h.2.1, h.2.2.1, (KeptRC.old (below_own (Below.refl _ W) _)).trans h.2.2.2⟩
theorem oneR_numL (P R C i : Nat) (o : ByteArray) (bd : Bool) (x : ByteArray × Int × Array Value) (hs : x.1.size ≤ 140737488351232) (W : World) (hP : Cr W P R o bd) (hR : Rd W R x.1 x.2.1) (t : TypeId) (hC : Blk W C t x.2.2) (hi : i < x.2.2.size) (n1 : P ≠ R) (n2 : P ≠ C) (n3 : C ≠ R) :
      Calls Try.prog 92 #[.pointer (some ⟨P, 0, none⟩), .slice (some ⟨W.heap.size, 0, none⟩) 1 1] (W.alloc (.cells #[.pointer (some ⟨C, i, none⟩)] 137)) fun e w' => (∃ v, e = .returned v) ∧ Rd w' R (stepI x i).1 (stepI x i).2.1 ∧ Blk w' C t (stepI x i).2.2 ∧ KeptRC R C W w' :=
    (cr_numL P R W.heap.size C 1 o bd x.1 x.2.1 hs [i] (by simp) _ (hP.alloc _) (Blk.alloc hR _) t x.2.2 (hC.alloc _) (by intro j hj; simp at hj; subst hj; exact hi) (Blk.new W 137 _) n1 n2 n3 (by have := Blk.lt hR; omega) (by have := hC.lt; omega)).mono fun _ _ h => ⟨h.1, h.2.1, h.2.2.1, (KeptRC.old (below_own (Below.refl _ W) _)).trans h.2.2.2⟩
set_option maxHeartbeats 2000000 in
theorem cr_task (P R C off : Nat) (o : ByteArray) (bd : Bool) (x : ByteArray × Int × Array Value) (hs : x.1.size ≤ 140737488351232) (w : World) (hP : Cr w P R o bd) (hR : Rd w R x.1 x.2.1) (t : TypeId) (hC : Blk w C t x.2.2) (hi : off + 1 < x.2.2.size) (n1 : P ≠ R) (n2 : P ≠ C) (n3 : C ≠ R) :
    Calls Try.prog 78 #[.pointer (some ⟨P, 0, none⟩), .pointer (some ⟨C, off, none⟩)] w fun e w' => (∃ v, e = .returned v) ∧ Rd w' R (stepI (stepT x off) (off + 1)).1 (stepI (stepT x off) (off + 1)).2.1 ∧ Blk w' C t (stepI (stepT x off) (off + 1)).2.2 ∧ KeptRC R C w w' := by
  have c1 := cr_text P R C off o bd x.1 x.2.1 hs w hP hR t x.2.2 hC (by omega) n1 n2 n3
  have e1 : (stepT x off).1.size ≤ 140737488351232 := Nat.le_trans (rdS_size _ _ _) hs
  have e2 : (stepT x off).2.2.size = x.2.2.size := by simp [stepT]
  rw [← show (stepT x off).1 = rdS x.2.1 (qText x.1 64) x.1 from rfl, ← show (stepT x off).2.1 = rdF x.2.1 (qText x.1 64) from rfl, ← show (stepT x off).2.2 = x.2.2.setIfInBounds off (.string (rdV x.2.1 (qText x.1 64) ByteArray.empty)) from rfl] at c1
  generalize stepT x off = y at *
  have C1 := Lib.hid c1
  clear c1
  go_enter Try.func78, Try.ntmps78
  go_wp2_with fail
  refine C1.out.mono ?_
  rintro r w1 ⟨⟨v, rfl⟩, hR1, hC1, hK1⟩; dsimp only
  have hP1 := hK1.2.2 _ _ _ n1 n2 hP
  go_wp2_with fail
  refine (oneR_numI P R C (off + 1) o bd y e1 w1 hP1 hR1 t hC1 (by omega) n1 n2 n3).mono ?_
  rintro r w2 ⟨⟨v, rfl⟩, hR2, hC2, hK2⟩; dsimp only
  go_wp2_with fail
  go_end0
  exact ⟨⟨_, rfl⟩, hR2, hC2, hK1.trans hK2⟩
set_option maxHeartbeats 2000000 in
theorem cr_vec (P R C off : Nat) (o : ByteArray) (bd : Bool) (x : ByteArray × Int × Array Value) (hs : x.1.size ≤ 140737488351232) (w : World) (hP : Cr w P R o bd) (hR : Rd w R x.1 x.2.1) (t : TypeId) (hC : Blk w C t x.2.2) (hi : off + 2 < x.2.2.size) (n1 : P ≠ R) (n2 : P ≠ C) (n3 : C ≠ R) :
    Calls Try.prog 86 #[.pointer (some ⟨P, 0, none⟩), .pointer (some ⟨C, off, none⟩)] w fun e w' => (∃ v, e = .returned v) ∧ Rd w' R ([off, off + 1, off + 2].foldl stepI x).1 ([off, off + 1, off + 2].foldl stepI x).2.1 ∧ Blk w' C t ([off, off + 1, off + 2].foldl stepI x).2.2 ∧ KeptRC R C w w' := by
  have hRlt := Blk.lt hR
  have hClt := hC.lt
  have D := Lib.hid (fun W (hPW : Cr W P R o bd) (hRW : Rd W R x.1 x.2.1) (hCW : Blk W C t x.2.2) (B : Nat) (hBR : B ≠ R) (hBC : B ≠ C) (hB : Blk W B 137 #[.pointer (some ⟨C, off, none⟩), .pointer (some ⟨C, off + 1, none⟩), .pointer (some ⟨C, off + 2, none⟩)]) =>
    cr_numL P R B C 3 o bd x.1 x.2.1 hs [off, off + 1, off + 2] (by simp) W hPW hRW t x.2.2 hCW (by intro j hj; simp at hj; omega) hB n1 n2 n3 hBR hBC)
  simp only [List.length_cons, List.length_nil] at D
  rw [show ((x.1, x.2.1, x.2.2) : ByteArray × Int × Array Value) = x from rfl] at D
  generalize [off, off + 1, off + 2].foldl stepI x = y at *
  go_enter Try.func86, Try.ntmps86
  go_wp2_with fail
  refine wp_region_held0 (S := fun _ => True) (by kernel_rfl) trivial (fun hHeld => ?_)
  refine wpAnyH_take (i := 0) (v := ?_) rfl (by kernel_rfl) (by kernel_rfl) (by kernel_rfl) (fun _ _ _ h => h) (Or.inl ⟨by rfl, ?hy⟩) hHeld ?_
  case hy =>
    intro w hSw
    (try dsimp only at hSw)
    go_simp
    (try with_reducible rfl)
  try simp only [Act.put, List.getElem_toArray, List.getElem_cons_zero, List.setIfInBounds_toArray, List.set_cons_zero, List.set_cons_succ]
  refine wpAnyH_take (i := 1) (v := ?_) rfl (by kernel_rfl) (by kernel_rfl) (by kernel_rfl) (fun _ _ _ h => h) (Or.inl ⟨by rfl, ?hy⟩) hHeld ?_
  case hy =>
    intro w hSw
    (try dsimp only at hSw)
    go_simp
    (try with_reducible rfl)
  try simp only [Act.put, List.getElem_toArray, List.getElem_cons_succ, List.getElem_cons_zero, List.setIfInBounds_toArray, List.set_cons_zero, List.set_cons_succ]
  refine wpAnyH_take (i := 2) (v := ?_) rfl (by kernel_rfl) (by kernel_rfl) (by kernel_rfl) (fun _ _ _ h => h) (Or.inl ⟨by rfl, ?hy⟩) hHeld ?_
  case hy =>
    intro w hSw
    (try dsimp only at hSw)
    go_simp
    (try with_reducible rfl)
  try simp only [Act.put, List.getElem_toArray, List.getElem_cons_succ, List.getElem_cons_zero, List.setIfInBounds_toArray, List.set_cons_zero, List.set_cons_succ]
  refine wpAnyH_take (i := 3) (v := ?_) rfl (by kernel_rfl) (by kernel_rfl) (by kernel_rfl) (fun _ _ _ h => h) (Or.inl ⟨by rfl, ?hy⟩) hHeld ?_
  case hy =>
    intro w hSw
    (try dsimp only at hSw)
    go_simp
    (try with_reducible rfl)
  try simp only [Act.put, List.getElem_toArray, List.getElem_cons_succ, List.getElem_cons_zero, List.setIfInBounds_toArray, List.set_cons_zero, List.set_cons_succ]
  refine wpAnyH_take (i := 4) (v := ?_) rfl (by kernel_rfl) (by kernel_rfl) (by kernel_rfl) (fun _ _ _ h => h) (Or.inl ⟨by rfl, ?hy⟩) hHeld ?_
  case hy =>
    intro w hSw
    (try dsimp only at hSw)
    go_simp
    (try with_reducible rfl)
  try simp only [Act.put, List.getElem_toArray, List.getElem_cons_succ, List.getElem_cons_zero, List.setIfInBounds_toArray, List.set_cons_zero, List.set_cons_succ]
  refine wpAnyH_take (i := 5) (v := ?_) rfl (by kernel_rfl) (by kernel_rfl) (by kernel_rfl) (fun _ _ _ h => h) (Or.inl ⟨by rfl, ?hy⟩) hHeld ?_
  case hy =>
    intro w hSw
    (try dsimp only at hSw)
    go_simp
    (try with_reducible rfl)
  try simp only [Act.put, List.getElem_toArray, List.getElem_cons_succ, List.getElem_cons_zero, List.setIfInBounds_toArray, List.set_cons_zero, List.set_cons_succ]
  refine wpAnyH_take (i := 6) (v := ?_) rfl (by kernel_rfl) (by kernel_rfl) (by kernel_rfl) (fun _ _ _ h => h) (Or.inl ⟨by rfl, ?hy⟩) hHeld ?_
  case hy =>
    intro w hSw
    (try dsimp only at hSw)
    go_simp
    (try with_reducible rfl)
  try simp only [Act.put, List.getElem_toArray, List.getElem_cons_succ, List.getElem_cons_zero, List.setIfInBounds_toArray, List.set_cons_zero, List.set_cons_succ]
  refine wpAnyH_take (i := 7) (v := ?_) rfl (by kernel_rfl) (by kernel_rfl) (by kernel_rfl) (fun _ _ _ h => h) (Or.inl ⟨by rfl, ?hy⟩) hHeld ?_
  case hy =>
    intro w hSw
    (try dsimp only at hSw)
    go_simp
    (try with_reducible rfl)
  try simp only [Act.put, List.getElem_toArray, List.getElem_cons_succ, List.getElem_cons_zero, List.setIfInBounds_toArray, List.set_cons_zero, List.set_cons_succ]
  refine wpAnyH_take (i := 8) (v := ?_) rfl (by kernel_rfl) (by kernel_rfl) (by kernel_rfl) (fun _ _ _ h => h) (Or.inl ⟨by rfl, ?hy⟩) hHeld ?_
  case hy =>
    intro w hSw
    (try dsimp only at hSw)
    go_simp
    (try with_reducible rfl)
  try simp only [Act.put, List.getElem_toArray, List.getElem_cons_succ, List.getElem_cons_zero, List.setIfInBounds_toArray, List.set_cons_zero, List.set_cons_succ]
  refine wpAnyH_take (i := 9) (v := ?_) rfl (by kernel_rfl) (by kernel_rfl) (by kernel_rfl) (fun _ _ _ h => h) (Or.inl ⟨by rfl, ?hy⟩) hHeld ?_
  case hy =>
    intro w hSw
    (try dsimp only at hSw)
    go_simp
    (try with_reducible rfl)
  try simp only [Act.put, List.getElem_toArray, List.getElem_cons_succ, List.getElem_cons_zero, List.setIfInBounds_toArray, List.set_cons_zero, List.set_cons_succ]
  refine wpAnyH_ready (rs := [10]) (by kernel_rfl) (by simp) ?_
  refine AllReadyH.cons rfl (fun K hK => ?_) AllReadyH.nil
  have hOld := hHeld
  clear hHeld
  go_simp
  have hnB : Blk ((w.alloc (Obj.cells #[.pointer (some ⟨C, off, none⟩), .pointer (some ⟨C, off + 1, none⟩), .pointer (some ⟨C, off + 2, none⟩)] 137)).drew) w.heap.size 137 _ := (Blk.new w 137 _).drew
  have hP1 := (hP.alloc (.cells #[.pointer (some ⟨C, off, none⟩), .pointer (some ⟨C, off + 1, none⟩), .pointer (some ⟨C, off + 2, none⟩)] 137)).drew
  have hR1 : Rd ((w.alloc (Obj.cells #[.pointer (some ⟨C, off, none⟩), .pointer (some ⟨C, off + 1, none⟩), .pointer (some ⟨C, off + 2, none⟩)] 137)).drew) R x.1 x.2.1 := (Blk.alloc hR (.cells #[.pointer (some ⟨C, off, none⟩), .pointer (some ⟨C, off + 1, none⟩), .pointer (some ⟨C, off + 2, none⟩)] 137)).drew
  have hC1 := (hC.alloc (.cells #[.pointer (some ⟨C, off, none⟩), .pointer (some ⟨C, off + 1, none⟩), .pointer (some ⟨C, off + 2, none⟩)] 137)).drew
  have hK1 := KeptRC.old (R := R) (C := C) (below_own (Below.refl _ w) (.cells #[.pointer (some ⟨C, off, none⟩), .pointer (some ⟨C, off + 1, none⟩), .pointer (some ⟨C, off + 2, none⟩)] 137)).drew
  refine hK.out _ _ (trivial) (fun hHeld => ?_)
  clear hK K hOld
  try simp only [Act.put, List.getElem_toArray, List.getElem_cons_succ, List.getElem_cons_zero, List.setIfInBounds_toArray, List.set_cons_zero, List.set_cons_succ]
  generalize (w.alloc (Obj.cells #[.pointer (some ⟨C, off, none⟩), .pointer (some ⟨C, off + 1, none⟩), .pointer (some ⟨C, off + 2, none⟩)] 137)).drew = W at *
  refine wpAnyH_ready (rs := [11]) (by kernel_rfl) (by simp) ?_
  refine AllReadyH.cons rfl (fun K hK => ?_) AllReadyH.nil
  have hOld := hHeld
  clear hHeld
  go_simp
  refine (D.out W hP1 hR1 hC1 w.heap.size (by omega) (by omega) hnB).mono ?_
  rintro r w2 ⟨⟨v, rfl⟩, hR2, hC2, hK2⟩; dsimp only
  refine hK.out _ _ (trivial) (fun hHeld => ?_)
  clear hK K hOld
  try simp only [Act.put, List.getElem_toArray, List.getElem_cons_succ, List.getElem_cons_zero, List.setIfInBounds_toArray, List.set_cons_zero, List.set_cons_succ]
  refine wpAnyH_done (by kernel_rfl) ?_ _
  simp only [Exit.then]
  go_wp2_with fail
  go_end0
  exact ⟨⟨_, rfl⟩, hR2, hC2, hK1.trans hK2⟩
end Go.Proofs.Yteglieoeblehpaa
