/- Commands: how the coder writes vecs, tasks, jobs, sets of allocs, walked. Conditions: the texts are short. -/
import Derived.Test.YteglieoeblehpaaCmd1
namespace Go.Proofs.Yteglieoeblehpaa
open Go.RowKit

theorem blk_cell {w : World} {C i : Nat} {t : TypeId} {cs : Array Value} {v : Value} (h : Blk w C t cs) (hv : cs[i]? = some v) : w.cell? ⟨C, i, none⟩ = some v := by rw [h.cell]; exact hv
def encV (a b c : Int) : ByteArray := encI a ++ encI b ++ encI c
theorem encV_size (a b c : Int) (ha : I64 a) (hb : I64 b) (hc : I64 c) : (encV a b c).size ≤ 30 := by
  unfold encV
  rw [ByteArray.size_append, ByteArray.size_append]
  have := encI_size a ha
  have := encI_size b hb
  have := encI_size c hc
  omega
theorem app3 (o a b c : ByteArray) : o ++ a ++ b ++ c = o ++ (a ++ b ++ c) := by simp only [ByteArray.append_assoc]
set_option maxHeartbeats 2000000 in
theorem cw_vec (P C off : Nat) (o : ByteArray) (bd : Bool) (a b c : Int) (ha : I64 a) (hb : I64 b) (hc : I64 c) (ho : o.size ≤ 900000) (w : World) (hP : Cw w P o bd) (hne : C ≠ P) (t : TypeId) (cs : Array Value) (hC : Blk w C t cs) (h0 : cs[off]? = some (.int .i64 a)) (h1 : cs[off + 1]? = some (.int .i64 b)) (h2 : cs[off + 2]? = some (.int .i64 c)) :
    Calls Try.prog 86 #[.pointer (some ⟨P, 0, none⟩), .pointer (some ⟨C, off, none⟩)] w fun e w' => (∃ v, e = .returned v) ∧ Cw w' P (o ++ encV a b c) bd ∧ Kept P w w' := by
  have hPlt := hP.lt
  have hClt := hC.lt
  have D := Lib.hid (fun W (hPW : Cw W P o bd) (hCW : Blk W C t cs) (B : Nat) (hBP : B ≠ P) (hB : Blk W B 137 #[.pointer (some ⟨C, off, none⟩), .pointer (some ⟨C, off + 1, none⟩), .pointer (some ⟨C, off + 2, none⟩)]) =>
    cw_numL P B 3 o bd [(C, off, a), (C, off + 1, b), (C, off + 2, c)] (by intro p hp; simp at hp; rcases hp with rfl | rfl | rfl <;> assumption) (by simp) ho W hPW hB hBP (by intro p hp; simp at hp; rcases hp with rfl | rfl | rfl <;> exact hne) (by intro p hp; simp at hp; rcases hp with rfl | rfl | rfl <;> exact ⟨t, cs, hCW, by assumption⟩))
  simp only [List.foldl_cons, List.foldl_nil, List.length_cons, List.length_nil] at D
  go_enter Try.func86, Try.ntmps86
  go_wp2_with fail
  refine wp_region_held0 (S := fun _ => True) (by kernel_rfl) trivial (fun hHeld => ?_)
  refine wpAnyH_take (i := 0) (v := ?_) rfl (by kernel_rfl) (by kernel_rfl) (by kernel_rfl) (fun _ _ _ h => h) (Or.inl ⟨by rfl, ?hy⟩) hHeld ?_
  case hy =>
    intro w hSw
    (try dsimp only at hSw)
    go_simp
    (try with_reducible rfl)
  try simp only [Act.put, List.getElem_toArray, List.getElem_cons_zero, List.setIfInBounds_toArray, List.set_cons_zero, List.set_cons_succ]
  refine wpAnyH_take (i := 1) (v := ?_) rfl (by kernel_rfl) (by kernel_rfl) (by kernel_rfl) (fun _ _ _ h => h) (Or.inl ⟨by rfl, ?hy⟩) hHeld ?_
  case hy =>
    intro w hSw
    (try dsimp only at hSw)
    go_simp
    (try with_reducible rfl)
  try simp only [Act.put, List.getElem_toArray, List.getElem_cons_succ, List.getElem_cons_zero, List.setIfInBounds_toArray, List.set_cons_zero, List.set_cons_succ]
  refine wpAnyH_take (i := 2) (v := ?_) rfl (by kernel_rfl) (by kernel_rfl) (by kernel_rfl) (fun _ _ _ h => h) (Or.inl ⟨by rfl, ?hy⟩) hHeld ?_
  case hy =>
    intro w hSw
    (try dsimp only at hSw)
    go_simp
    (try with_reducible rfl)
  try simp only [Act.put, List.getElem_toArray, List.getElem_cons_succ, List.getElem_cons_zero, List.setIfInBounds_toArray, List.set_cons_zero, List.set_cons_succ]
  refine wpAnyH_take (i := 3) (v := ?_) rfl (by kernel_rfl) (by kernel_rfl) (by kernel_rfl) (fun _ _ _ h => h) (Or.inl ⟨by rfl, ?hy⟩) hHeld ?_
  case hy =>
    intro w hSw
    (try dsimp only at hSw)
    go_simp
    (try with_reducible rfl)
  try simp only [Act.put, List.getElem_toArray, List.getElem_cons_succ, List.getElem_cons_zero, List.setIfInBounds_toArray, List.set_cons_zero, List.set_cons_succ]
  refine wpAnyH_take (i := 4) (v := ?_) rfl (by kernel_rfl) (by kernel_rfl) (by kernel_rfl) (fun _ _ _ h => h) (Or.inl ⟨by rfl, ?hy⟩) hHeld ?_
  case hy =>
    intro w hSw
    (try dsimp only at hSw)
    go_simp
    (try with_reducible rfl)
  try simp only [Act.put, List.getElem_toArray, List.getElem_cons_succ, List.getElem_cons_zero, List.setIfInBounds_toArray, List.set_cons_zero, List.set_cons_succ]
  refine wpAnyH_take (i := 5) (v := ?_) rfl (by kernel_rfl) (by kernel_rfl) (by kernel_rfl) (fun _ _ _ h => h) (Or.inl ⟨by rfl, ?hy⟩) hHeld ?_
  case hy =>
    intro w hSw
    (try dsimp only at hSw)
    go_simp
    (try with_reducible rfl)
  try simp only [Act.put, List.getElem_toArray, List.getElem_cons_succ, List.getElem_cons_zero, List.setIfInBounds_toArray, List.set_cons_zero, List.set_cons_succ]
  refine wpAnyH_take (i := 6) (v := ?_) rfl (by kernel_rfl) (by kernel_rfl) (by kernel_rfl) (fun _ _ _ h => h) (Or.inl ⟨by rfl, ?hy⟩) hHeld ?_
  case hy =>
    intro w hSw
    (try dsimp only at hSw)
    go_simp
    (try with_reducible rfl)
  try simp only [Act.put, List.getElem_toArray, List.getElem_cons_succ, List.getElem_cons_zero, List.setIfInBounds_toArray, List.set_cons_zero, List.set_cons_succ]
  refine wpAnyH_take (i := 7) (v := ?_) rfl (by kernel_rfl) (by kernel_rfl) (by kernel_rfl) (fun _ _ _ h => h) (Or.inl ⟨by rfl, ?hy⟩) hHeld ?_
  case hy =>
    intro w hSw
    (try dsimp only at hSw)
    go_simp
    (try with_reducible rfl)
  try simp only [Act.put, List.getElem_toArray, List.getElem_cons_succ, List.getElem_cons_zero, List.setIfInBounds_toArray, List.set_cons_zero, List.set_cons_succ]
  refine wpAnyH_take (i := 8) (v := ?_) rfl (by kernel_rfl) (by kernel_rfl) (by kernel_rfl) (fun _ _ _ h => h) (Or.inl ⟨by rfl, ?hy⟩) hHeld ?_
  case hy =>
    intro w hSw
    (try dsimp only at hSw)
    go_simp
    (try with_reducible rfl)
  try simp only [Act.put, List.getElem_toArray, List.getElem_cons_succ, List.getElem_cons_zero, List.setIfInBounds_toArray, List.set_cons_zero, List.set_cons_succ]
  refine wpAnyH_take (i := 9) (v := ?_) rfl (by kernel_rfl) (by kernel_rfl) (by kernel_rfl) (fun _ _ _ h => h) (Or.inl ⟨by rfl, ?hy⟩) hHeld ?_
  case hy =>
    intro w hSw
    (try dsimp only at hSw)
    go_simp
    (try with_reducible rfl)
  try simp only [Act.put, List.getElem_toArray, List.getElem_cons_succ, List.getElem_cons_zero, List.setIfInBounds_toArray, List.set_cons_zero, List.set_cons_succ]
  refine wpAnyH_ready (rs := [10]) (by kernel_rfl) (by simp) ?_
  refine AllReadyH.cons rfl (fun K hK => ?_) AllReadyH.nil
  have hOld := hHeld
  clear hHeld
  go_simp
  have hnB : Blk ((w.alloc (Obj.cells #[.pointer (some ⟨C, off, none⟩), .pointer (some ⟨C, off + 1, none⟩), .pointer (some ⟨C, off + 2, none⟩)] 137)).drew) w.heap.size 137 _ := (Blk.new w 137 _).drew
  have hP1 := (hP.alloc (.cells #[.pointer (some ⟨C, off, none⟩), .pointer (some ⟨C, off + 1, none⟩), .pointer (some ⟨C, off + 2, none⟩)] 137)).drew
  have hC1 := (hC.alloc (.cells #[.pointer (some ⟨C, off, none⟩), .pointer (some ⟨C, off + 1, none⟩), .pointer (some ⟨C, off + 2, none⟩)] 137)).drew
  have hK1 := Kept.of (P := P) (below_own (Below.refl _ w) (.cells #[.pointer (some ⟨C, off, none⟩), .pointer (some ⟨C, off + 1, none⟩), .pointer (some ⟨C, off + 2, none⟩)] 137)).drew
  refine hK.out _ _ (trivial) (fun hHeld => ?_)
  clear hK K hOld
  try simp only [Act.put, List.getElem_toArray, List.getElem_cons_succ, List.getElem_cons_zero, List.setIfInBounds_toArray, List.set_cons_zero, List.set_cons_succ]
  generalize (w.alloc (Obj.cells #[.pointer (some ⟨C, off, none⟩), .pointer (some ⟨C, off + 1, none⟩), .pointer (some ⟨C, off + 2, none⟩)] 137)).drew = W at *
  refine wpAnyH_ready (rs := [11]) (by kernel_rfl) (by simp) ?_
  refine AllReadyH.cons rfl (fun K hK => ?_) AllReadyH.nil
  have hOld := hHeld
  clear hHeld
  go_simp
  refine (D.out W hP1 hC1 w.heap.size (by omega) hnB).mono ?_
  rintro r w2 ⟨⟨v, rfl⟩, hP2, hK2⟩; dsimp only
  refine hK.out _ _ (trivial) (fun hHeld => ?_)
  clear hK K hOld
  try simp only [Act.put, List.getElem_toArray, List.getElem_cons_succ, List.getElem_cons_zero, List.setIfInBounds_toArray, List.set_cons_zero, List.set_cons_succ]
  refine wpAnyH_done (by kernel_rfl) ?_ _
  simp only [Exit.then]
  go_wp2_with fail
  go_end0
  exact ⟨⟨_, rfl⟩, by unfold encV; rw [← app3]; exact hP2, hK1.trans hK2⟩
/-- One number, through a list of one pointer. -/
  theorem one_numI (P C i : Nat) (o : ByteArray) (bd : Bool) (x : Int) (hx : I64 x) (ho : o.size ≤ 900000) (W : World) (hP : Cw W P o bd) (hne : C ≠ P) (t : TypeId) (cs : Array Value) (hC : Blk W C t cs) (h0 : cs[i]? = some (.int .i64 x)) :
      Calls Try.prog 80 #[.pointer (some ⟨P, 0, none⟩), .slice (some ⟨W.heap.size, 0, none⟩) 1 1] (W.alloc (.cells #[.pointer (some ⟨C, i, none⟩)] 129)) fun e w' => (∃ v, e = .returned v) ∧ Cw w' P (o ++ encI x) bd ∧ Kept P W w' :=
    (cw_numI P W.heap.size 1 o bd [(C, i, x)] (by intro p hp; simp at hp; subst hp; exact hx) (by simp) ho _ (hP.alloc _) (Blk.new W 129 _) (by have := hP.lt; omega) (by intro p hp; simp at hp; subst hp; exact hne) (by intro p hp; simp at hp; subst hp; exact ⟨t, cs, hC.alloc _, h0⟩)).mono fun _ _ h => ⟨h.1, h.2.1, (Kept.of (below_own (Below.refl _ W) _)).trans h.2.2⟩
/-- One number, through a list of one pointer. -/
    theorem one_numL (P C i : Nat) (o : ByteArray) (bd : Bool) (x : Int) (hx : I64 x) (ho : o.size ≤ 900000) (W : World) (hP : Cw W P o bd) (hne : C ≠ P) (t : TypeId) (cs : Array Value) (hC : Blk W C t cs) (h0 : cs[i]? = some (.int .i64 x)) :
        Calls Try.prog 92 #[.pointer (some ⟨P, 0, none⟩), .slice (some ⟨W.heap.size, 0, none⟩) 1 1] (W.alloc (.cells #[.pointer (some ⟨C, i, none⟩)] 137)) fun e w' => (∃ v, e = .returned v) ∧ Cw w' P (o ++ encI x) bd ∧ Kept P W w' :=
      (cw_numL P W.heap.size 1 o bd [(C, i, x)] (by intro p hp; simp at hp; subst hp; exact hx) (by simp) ho _ (hP.alloc _) (Blk.new W 137 _) (by have := hP.lt; omega) (by intro p hp; simp at hp; subst hp; exact hne) (by intro p hp; simp at hp; subst hp; exact ⟨t, cs, hC.alloc _, h0⟩)).mono fun _ _ h => ⟨h.1, h.2.1, (Kept.of (below_own (Below.refl _ W) _)).trans h.2.2⟩
set_option maxHeartbeats 2000000 in
theorem cw_task (P C off : Nat) (o : ByteArray) (bd : Bool) (s : ByteArray) (n : Int) (hs : s.size ≤ 1024) (hn : I64 n) (ho : o.size ≤ 800000) (w : World) (hP : Cw w P o bd) (hne : C ≠ P) (t : TypeId) (cs : Array Value) (hC : Blk w C t cs) (h0 : cs[off]? = some (.string s)) (h1 : cs[off + 1]? = some (.int .i64 n)) :
    Calls Try.prog 78 #[.pointer (some ⟨P, 0, none⟩), .pointer (some ⟨C, off, none⟩)] w fun e w' => (∃ v, e = .returned v) ∧ Cw w' P (o ++ (encT s ++ encI n)) (bd || decide ((64 : Int) < (s.size : Int))) ∧ Kept P w w' := by
  have hz := encT_size s hs
  have h00 := blk_cell hC h0
  go_enter Try.func78, Try.ntmps78
  go_wp2_with fail
  refine (cw_text P C off o bd s hs (by omega) _ hP hne h00).mono ?_
  rintro r w1 ⟨⟨v, rfl⟩, hP1, hK1⟩; dsimp only
  clear h00 hP
  have hC1 := hK1.blk hC hne
  go_wp2_with fail
  refine (one_numI P C (off + 1) (o ++ encT s) _ n hn (by rw [ByteArray.size_append]; omega) w1 hP1 hne t cs hC1 h1).mono ?_
  rintro r w2 ⟨⟨v, rfl⟩, hP2, hK2⟩; dsimp only
  go_wp2_with fail
  go_end0
  exact ⟨⟨_, rfl⟩, by rw [← ByteArray.append_assoc]; exact hP2, hK1.trans hK2⟩
end Go.Proofs.Yteglieoeblehpaa
