/- Windows: Next, walked. Conditions: the list is in memory. -/
import Derived.Test.YthlninijnbmjfaaWin10
namespace Go.Proofs.Ythlninijnbmjfaa
open Go.RowKit Go.Shelf

set_option maxRecDepth 100000 in
set_option maxHeartbeats 2000000 in
theorem w_Next (b : Budget) (A : Option Addr) (n c : Nat) (now : Int) (xs : List Int) (hl : xs.length = n) (hn : n ≤ 1000000) (w : World) (hA : IntsIn w A xs) :
    Calls Try.prog 24 #[b.v, .slice A n c, .int .i64 now] w fun r w' => r = .returned (.tuple #[.int .i64 (nextW b xs now).1, .int .i64 (nextW b xs now).2]) ∧ Below w.heap.size w w' := by
  have C1 := Lib.hid (fun w hA => w_may b A n c now xs hl hn w hA)
  have C2 := Lib.hid (fun w hA => w_Allow b A n c now xs hl hn w hA)
  have hlast := Lib.hid (fun h hk ha => @lastK_in b xs now h hk ha)
  have hparts := Lib.hid (fun h => @mayW_parts b xs now h)
  have HA := Lib.hid hA
  clear hA
  obtain ⟨NX, hNX⟩ : ∃ NX, NX = nextW b xs now := ⟨_, rfl⟩
  rw [← hNX]
  unfold nextW at hNX
  unfold lastK at hlast hNX
  obtain ⟨bk, bw⟩ := b
  dsimp only at hlast hparts hNX ⊢
  generalize mayW ⟨bk, bw⟩ xs now = p at *
  generalize allowW ⟨bk, bw⟩ xs now = q at *
  replace hNX := Lib.hid hNX
  have hM := Blk.new w 49 #[.int .i64 bk, .int .i64 bw]
  have hW : Below w.heap.size w (w.alloc (.cells #[.int .i64 bk, .int .i64 bw] 49)) := by go_grown
  go_enter Try.func24, Try.ntmps24
  go_wp2_with fail
  refine (C1.out _ (ints_past HA.out hW)).mono ?_
  rintro r w1 ⟨rfl, hbw⟩; dsimp only
  replace hM := Blk.past hM hbw
  replace hW := below_to hW hbw
  clear hbw
  cases p
  · have e : Hid (NX = (0, 2)) := Lib.hid (by rw [hNX.out]; rfl)
    clear hM hNX
    go_wp2_with fail
    refine bodyPost_ret (v := .tuple #[.int .i64 0, .int .i64 2]) (by simp [results, Try.results24, go_sem]) rfl ?_
    exact ⟨by rw [e.out], hW⟩
  have m0 : w1.cell? ⟨w.heap.size, 0, none⟩ = some (.int .i64 bk) := hM.cell 0
  have m1 : w1.cell? ⟨w.heap.size, 1, none⟩ = some (.int .i64 bw) := hM.cell 1
  by_cases hk : bk = 0
  · have e : Hid (NX = (0, 5)) := Lib.hid (by rw [hNX.out]; simp [hk])
    subst hk
    clear hM hNX
    go_wp2_with fail
    refine bodyPost_ret (v := .tuple #[.int .i64 0, .int .i64 5]) (by simp [results, Try.results24, go_sem]) rfl ?_
    exact ⟨by rw [e.out], hW⟩
  have hk' : (bk == 0) = false := by simpa using hk
  go_wp2_with fail
  refine (C2.out _ (ints_past HA.out hW)).mono ?_
  rintro r w2 ⟨rfl, hbw⟩; dsimp only
  replace hM := Blk.past hM hbw
  replace hW := below_to hW hbw
  clear hbw m0 m1
  cases q
  case true =>
    have e : Hid (NX = (now, 0)) := Lib.hid (by rw [hNX.out]; simp [hk])
    clear hM hNX
    go_wp2_with fail
    refine bodyPost_ret (v := .tuple #[.int .i64 now, .int .i64 0]) (by simp [results, Try.results24, go_sem]) rfl ?_
    exact ⟨by rw [e.out], hW⟩
  obtain ⟨q1, q2, q3, q4⟩ := hlast.out (by first | trivial | rfl) hk (by first | trivial | rfl)
  obtain ⟨p1, p2, p3, -, -⟩ := hparts.out (by first | trivial | rfl)
  clear hlast hparts C1 C2 hk'
  replace hNX : NX = if 4611686018427387904 < xs.getD (xs.length - bk.toNat) 0 + bw then (0, 5) else (xs.getD (xs.length - bk.toNat) 0 + bw, 0) := by rw [hNX.out]; simp [hk]
  replace hNX := Lib.hid hNX
  obtain ⟨K, hK⟩ : ∃ K : Nat, bk = (K : Int) := ⟨bk.toNat, by omega⟩
  subst hK
  rw [Int.toNat_natCast] at *
  have hKn : K ≤ n := by omega
  have hK0 : 0 < K := by omega
  obtain ⟨b, off, rfl, hb, hcell⟩ := HA.out (by intro e; rw [e] at hl; simp at hl; omega)
  have j0 := (hW.cell (p := ⟨b, off + (n - K), none⟩) hb).trans (hcell (n - K) (by omega))
  have e0 : xs.getD (xs.length - K) 0 = xs[n - K]'(by omega) := by rw [getD_at (by omega)]; congr 1; omega
  rw [← e0] at j0
  clear hcell e0
  generalize xs.getD (xs.length - K) 0 = x at *
  have m0 : w2.cell? ⟨w.heap.size, 0, none⟩ = some (.int .i64 K) := hM.cell 0
  have m1 : w2.cell? ⟨w.heap.size, 1, none⟩ = some (.int .i64 bw) := hM.cell 1
  have hw1 : wrap64 ((n : Int) - K) = ((n - K : Nat) : Int) := by unfold wrap64; omega
  have hw2 : IntKind.i64.wrap ((n : Int) - K) = ((n - K : Nat) : Int) := by rw [IntWalk.i64_in _ (by omega)]; omega
  have hw3 : wrap64 (x + bw) = x + bw := by unfold wrap64; omega
  have hw4 : IntKind.i64.wrap (x + bw) = x + bw := IntWalk.i64_in _ (by omega)
  have hlt : n - K < n := by omega
  go_wp2_with fail
  refine wp_region_held0 (S := fun w' => w'.cell? ⟨b, off + (n - K), none⟩ = some (.int .i64 x) ∧ w'.cell? ⟨w.heap.size, 0, none⟩ = some (.int .i64 K) ∧ w'.cell? ⟨w.heap.size, 1, none⟩ = some (.int .i64 bw)) (by kernel_rfl) ⟨j0, m0, m1⟩ (fun hHeld => ?_)
  refine wpAnyH_take (i := 0) (v := ?_) rfl (by kernel_rfl) (by kernel_rfl) (by kernel_rfl) (fun _ _ _ h => h) (Or.inl ⟨by rfl, ?hy⟩) hHeld ?_
  case hy =>
    intro w hSw
    (try dsimp only at hSw)
    go_simp
    (try with_reducible rfl)
  try simp only [Act.put, List.getElem_toArray, List.getElem_cons_succ, List.getElem_cons_zero, List.setIfInBounds_toArray, List.set_cons_zero, List.set_cons_succ]
  refine wpAnyH_take (i := 1) (v := ?_) rfl (by kernel_rfl) (by kernel_rfl) (by kernel_rfl) (fun _ _ _ h => h) (Or.inl ⟨by rfl, ?hy⟩) hHeld ?_
  case hy =>
    intro w hSw
    (try dsimp only at hSw)
    go_simp
    (try with_reducible rfl)
  try simp only [Act.put, List.getElem_toArray, List.getElem_cons_succ, List.getElem_cons_zero, List.setIfInBounds_toArray, List.set_cons_zero, List.set_cons_succ]
  refine wpAnyH_take (i := 2) (v := ?_) rfl (by kernel_rfl) (by kernel_rfl) (by kernel_rfl) (fun _ _ _ h => h) (Or.inl ⟨by rfl, ?hy⟩) hHeld ?_
  case hy =>
    intro w hSw
    (try dsimp only at hSw)
    go_simp
    (try with_reducible rfl)
  try simp only [Act.put, List.getElem_toArray, List.getElem_cons_succ, List.getElem_cons_zero, List.setIfInBounds_toArray, List.set_cons_zero, List.set_cons_succ]
  refine wpAnyH_take (i := 3) (v := ?_) rfl (by kernel_rfl) (by kernel_rfl) (by kernel_rfl) (fun _ _ _ h => h) (Or.inl ⟨by rfl, ?hy⟩) hHeld ?_
  case hy =>
    intro w hSw
    (try dsimp only at hSw)
    go_simp
    (try with_reducible rfl)
  try simp only [Act.put, List.getElem_toArray, List.getElem_cons_succ, List.getElem_cons_zero, List.setIfInBounds_toArray, List.set_cons_zero, List.set_cons_succ]
  refine wpAnyH_take (i := 4) (v := ?_) rfl (by kernel_rfl) (by kernel_rfl) (by kernel_rfl) (fun _ _ _ h => h) (Or.inl ⟨by rfl, ?hy⟩) hHeld ?_
  case hy =>
    intro w hSw
    (try dsimp only at hSw)
    go_simp
    (try with_reducible rfl)
  try simp only [Act.put, List.getElem_toArray, List.getElem_cons_succ, List.getElem_cons_zero, List.setIfInBounds_toArray, List.set_cons_zero, List.set_cons_succ]
  refine wpAnyH_take (i := 5) (v := ?_) rfl (by kernel_rfl) (by kernel_rfl) (by kernel_rfl) (fun _ _ _ h => h) (Or.inl ⟨by rfl, ?hy⟩) hHeld ?_
  case hy =>
    intro w hSw
    (try dsimp only at hSw)
    go_simp
    (try with_reducible rfl)
  try simp only [Act.put, List.getElem_toArray, List.getElem_cons_succ, List.getElem_cons_zero, List.setIfInBounds_toArray, List.set_cons_zero, List.set_cons_succ]
  refine wpAnyH_take (i := 6) (v := ?_) rfl (by kernel_rfl) (by kernel_rfl) (by kernel_rfl) (fun _ _ _ h => h) (Or.inl ⟨by rfl, ?hy⟩) hHeld ?_
  case hy =>
    intro w hSw
    (try dsimp only at hSw)
    go_simp
    (try with_reducible rfl)
  try simp only [Act.put, List.getElem_toArray, List.getElem_cons_succ, List.getElem_cons_zero, List.setIfInBounds_toArray, List.set_cons_zero, List.set_cons_succ]
  refine wpAnyH_take (i := 7) (v := ?_) rfl (by kernel_rfl) (by kernel_rfl) (by kernel_rfl) (fun _ _ _ h => h) (Or.inl ⟨by rfl, ?hy⟩) hHeld ?_
  case hy =>
    intro w hSw
    (try dsimp only at hSw)
    go_simp
    (try with_reducible rfl)
  try simp only [Act.put, List.getElem_toArray, List.getElem_cons_succ, List.getElem_cons_zero, List.setIfInBounds_toArray, List.set_cons_zero, List.set_cons_succ]
  refine wpAnyH_take (i := 8) (v := ?_) rfl (by kernel_rfl) (by kernel_rfl) (by kernel_rfl) (fun _ _ _ h => h) (Or.inl ⟨by rfl, ?hy⟩) hHeld ?_
  case hy =>
    intro w hSw
    (try dsimp only at hSw)
    go_simp
    (try with_reducible rfl)
  try simp only [Act.put, List.getElem_toArray, List.getElem_cons_succ, List.getElem_cons_zero, List.setIfInBounds_toArray, List.set_cons_zero, List.set_cons_succ]
  refine wpAnyH_take (i := 9) (v := ?_) rfl (by kernel_rfl) (by kernel_rfl) (by kernel_rfl) (fun _ _ _ h => h) (Or.inl ⟨by rfl, ?hy⟩) hHeld ?_
  case hy =>
    intro w hSw
    (try dsimp only at hSw)
    go_simp
    (try with_reducible rfl)
  try simp only [Act.put, List.getElem_toArray, List.getElem_cons_succ, List.getElem_cons_zero, List.setIfInBounds_toArray, List.set_cons_zero, List.set_cons_succ]
  refine wpAnyH_take (i := 10) (v := ?_) rfl (by kernel_rfl) (by kernel_rfl) (by kernel_rfl) (fun _ _ _ h => h) (Or.inl ⟨by rfl, ?hy⟩) hHeld ?_
  case hy =>
    intro w hSw
    (try dsimp only at hSw)
    go_simp
    (try with_reducible rfl)
  try simp only [Act.put, List.getElem_toArray, List.getElem_cons_succ, List.getElem_cons_zero, List.setIfInBounds_toArray, List.set_cons_zero, List.set_cons_succ]
  refine wpAnyH_take (i := 11) (v := ?_) rfl (by kernel_rfl) (by kernel_rfl) (by kernel_rfl) (fun _ _ _ h => h) (Or.inl ⟨by rfl, ?hy⟩) hHeld ?_
  case hy =>
    intro w hSw
    (try dsimp only at hSw)
    go_simp
    (try with_reducible rfl)
  try simp only [Act.put, List.getElem_toArray, List.getElem_cons_succ, List.getElem_cons_zero, List.setIfInBounds_toArray, List.set_cons_zero, List.set_cons_succ]
  refine wpAnyH_done (by kernel_rfl) ?_ _
  simp only [Exit.then]
  clear hHeld j0 m0 m1 hM
  by_cases hm : 4611686018427387904 < x + bw
  · have e : Hid (NX = (0, 5)) := Lib.hid (by rw [hNX.out, if_pos hm])
    clear hNX
    go_wp2_with fail
    refine bodyPost_ret (v := .tuple #[.int .i64 0, .int .i64 5]) (by simp [results, Try.results24, go_sem]) rfl ?_
    exact ⟨by rw [e.out], hW.drew⟩
  · have e : Hid (NX = (x + bw, 0)) := Lib.hid (by rw [hNX.out, if_neg hm])
    clear hNX
    go_wp2_with fail
    refine bodyPost_ret (v := .tuple #[.int .i64 (x + bw), .int .i64 0]) (by simp [results, Try.results24, go_sem]) rfl ?_
    exact ⟨by rw [e.out], hW.drew⟩
end Go.Proofs.Ythlninijnbmjfaa
