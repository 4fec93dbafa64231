/- Windows: Worst, the known run, and small parts of the statements, walked. Conditions: the lists are in memory. -/
import Derived.Test.YthlninijnbmjfaaWin12
namespace Go.Proofs.Ythlninijnbmjfaa
open Go.RowKit Go.Shelf

def clampT (t : Int) : Int := min (max t 0) 4611686018427387904
def worstW (xs : List Int) (wn : Int) : Nat → Int
  | 0 => 0
  | k + 1 => max (worstW xs wn k) (cntW xs wn (clampT (xs.getD k 0)) : Int)
set_option maxHeartbeats 1000000 in
theorem w_Worst (A : Option Addr) (n c : Nat) (wn : Int) (xs : List Int) (hl : xs.length = n) (hn : n ≤ 1000000) (w : World) (hA : IntsIn w A xs) :
    Calls Try.prog 54 #[.slice A n c, .int .i64 wn] w fun r w' => r = .returned (.int .i64 (worstW xs wn n)) ∧ Below w.heap.size w w' := by
  have HA := Lib.hid hA
  have C := Lib.hid (fun t w hA => w_Count A n c wn t xs hl hn w hA)
  have hW := Below.refl w.heap.size w
  clear hA
  go_enter Try.func54, Try.ntmps54
  go_wp2
  go_loopw [4, 6, 9] (fun s _ i wr => ∃ k : Nat, k ≤ n ∧ i = .int .i64 k ∧ s = .int .i64 (worstW xs wn k) ∧ Below w.heap.size w wr) (fun _ _ i _ => n - (intOf i).toNat)
  case atStart => exact ⟨0, Nat.zero_le _, rfl, rfl, hW⟩
  case round =>
    clear hW
    obtain ⟨k, hk, rfl, rfl, hW⟩ := hrel
    by_cases hlt : k < n
    · obtain ⟨b, off, rfl, hb, hcell⟩ := HA.out (by intro e; rw [e] at hl; simp at hl; omega)
      have j0 := (hW.cell (p := ⟨b, off + k, none⟩) hb).trans (hcell k (by omega))
      have e0 : xs.getD k 0 = xs[k] := getD_at (by omega)
      rw [← e0] at j0
      have hnx : Hid (worstW xs wn (k + 1) = max (worstW xs wn k) (cntW xs wn (clampT (xs.getD k 0)) : Int)) := Lib.hid rfl
      have D := Lib.hid (fun w hA => C.out (clampT (xs.getD k 0)) w hA)
      unfold clampT at D hnx
      clear hcell e0
      generalize xs.getD k 0 = x at *
      have e1 : ∀ ats ty, Builtin.max_ ats ty #[.int .i64 x, .int .i64 0] = pure (.int .i64 (max x 0)) := fun ats ty => by rw [kmax_two, kmax2]; rfl
      have e2 : ∀ ats ty, Builtin.min_ ats ty #[.int .i64 (max x 0), .int .i64 4611686018427387904] = pure (.int .i64 (min (max x 0) 4611686018427387904)) := fun ats ty => by rw [kmin_two, kmin2]; rfl
      generalize cntW xs wn (min (max x 0) 4611686018427387904) = N at *
      generalize min (max x 0) 4611686018427387904 = y at *
      generalize max x 0 = z at *
      have e3 : ∀ ats ty, Builtin.max_ ats ty #[.int .i64 (worstW xs wn k), .int .i64 N] = pure (.int .i64 (max (worstW xs wn k) (N : Int))) := fun ats ty => by rw [kmax_two, kmax2]; rfl
      generalize max (worstW xs wn k) (N : Int) = m at *
      go_wp2_with fail
      refine (D.out _ (ints_past HA.out hW)).mono ?_
      rintro r w1 ⟨rfl, hbw⟩; dsimp only
      replace hW := below_to hW hbw
      clear hbw j0
      go_wp2_with fail
      go_roundw
      case rel => exact ⟨k + 1, by omega, by first | rfl | go_num, by rw [hnx.out], hW⟩
      case measure => simp [intOf]; omega
    · obtain rfl : n = k := by omega
      go_wp2_with fail
      go_ret
      exact ⟨rfl, hW⟩
theorem two18 (w : World) : Calls Try.prog 52 #[] w fun r w' => r = .returned (.agg #[.int .i64 2, .int .i64 10]) ∧ Below w.heap.size w w' := by
  go_enter Try.func52, Try.ntmps52
  go_wp2
  go_returns
  exact ⟨rfl, by go_grown⟩
theorem lit_ints (W : World) (xs : List Int) : IntsIn (W.alloc (.cells (nums xs).toArray 2)) (some ⟨W.heap.size, 0, none⟩) xs := fun _ => ⟨_, 0, rfl, by simp, fun i hi => by
  rw [Nat.zero_add, (Blk.new W 2 (nums xs).toArray).cell]
  simp [nums, hi]⟩
set_option maxRecDepth 100000 in
set_option maxHeartbeats 2000000 in
theorem alive18 (w : World) : Calls Try.prog 21 #[] w fun r w' => r = .returned (.bool true) ∧ Below w.heap.size w w' := by
  have c1 := Lib.hid (fun A c w hA => w_Add ⟨2, 10⟩ A 1 c 5 [5] rfl (by decide) w hA)
  rw [show addR ⟨2, 10⟩ [5] 5 = ([5, 5], 0) by decide] at c1
  have c2 := Lib.hid (fun A c w hA => w_Add ⟨2, 10⟩ A 2 c 14 [5, 5] rfl (by decide) w hA)
  rw [show addR ⟨2, 10⟩ [5, 5] 14 = ([], 222) by decide] at c2
  have c3 := Lib.hid (fun A c w hA => w_Next ⟨2, 10⟩ A 2 c 9 [5, 5] rfl (by decide) w hA)
  rw [show nextW ⟨2, 10⟩ [5, 5] 9 = (15, 0) by decide] at c3
  have c4 := Lib.hid (fun A c w hA => w_Count A 3 c 5 9 [1, 5, 9] rfl (by decide) w hA)
  rw [show cntW [1, 5, 9] 5 9 = 2 by decide] at c4
  have c5 := Lib.hid (fun A c w hA => w_Worst A 3 c 5 [1, 5, 9] rfl (by decide) w hA)
  rw [show worstW [1, 5, 9] 5 3 = 2 by decide] at c5
  have c6 := Lib.hid (fun w => w_Allow ⟨2, 10⟩ none 0 0 0 [] rfl (by decide) w (fun h => absurd rfl h))
  rw [show allowW ⟨2, 10⟩ [] 0 = true by decide] at c6
  dsimp only at c1 c2 c3
  have hW := Below.refl w.heap.size w
  go_enter Try.func21, Try.ntmps21
  go_wp2_with fail
  refine (two18 _).mono ?_
  rintro r w1 ⟨rfl, hbw⟩; dsimp only
  replace hW := below_to hW hbw
  clear hbw
  go_wp2_with fail
  have hl1 := lit_ints w1 [5]
  simp only [nums, List.map_cons, List.map_nil] at hl1
  refine (c1.out _ _ _ hl1).mono ?_
  rintro r w2 ⟨v, rfl, ⟨A1, cc1, rfl, hA1⟩, hbw⟩; dsimp only
  replace hW := below_to (below_own hW _) hbw
  clear hbw hl1
  go_wp2_with fail
  refine (two18 _).mono ?_
  rintro r w3 ⟨rfl, hbw⟩; dsimp only
  replace hW := below_to hW hbw
  replace hA1 := ints_past hA1 hbw
  clear hbw
  go_wp2_with fail
  have hl1 := lit_ints w3 [5, 5]
  simp only [nums, List.map_cons, List.map_nil] at hl1
  refine (c2.out _ _ _ hl1).mono ?_
  rintro r w4 ⟨v, rfl, ⟨A2, cc2, rfl, hA2⟩, hbw⟩; dsimp only
  replace hA1 := ints_past hA1 (below_to (below_own (Below.refl _ _) _) hbw)
  replace hW := below_to (below_own hW _) hbw
  clear hbw hl1 hA2
  go_wp2_with fail
  refine (two18 _).mono ?_
  rintro r w5 ⟨rfl, hbw⟩; dsimp only
  replace hW := below_to hW hbw
  replace hA1 := ints_past hA1 hbw
  clear hbw
  go_wp2_with fail
  have hl1 := lit_ints w5 [5, 5]
  simp only [nums, List.map_cons, List.map_nil] at hl1
  refine (c3.out _ _ _ hl1).mono ?_
  rintro r w6 ⟨rfl, hbw⟩; dsimp only
  replace hA1 := ints_past hA1 (below_to (below_own (Below.refl _ _) _) hbw)
  replace hW := below_to (below_own hW _) hbw
  clear hbw hl1
  obtain ⟨b, off, rfl, hb, hcell⟩ := hA1 (by simp)
  have j0 : w6.cell? ⟨b, off + 1, none⟩ = some (.int .i64 5) := hcell 1 (by decide)
  clear hcell hA1 hb
  go_wp2_with fail
  have hl1 := lit_ints w6 [1, 5, 9]
  simp only [nums, List.map_cons, List.map_nil] at hl1
  refine (c4.out _ _ _ hl1).mono ?_
  rintro r w7 ⟨rfl, hbw⟩; dsimp only
  replace hW := below_to (below_own hW _) hbw
  clear hbw hl1 j0
  go_wp2_with fail
  have hl1 := lit_ints w7 [1, 5, 9]
  simp only [nums, List.map_cons, List.map_nil] at hl1
  refine (c5.out _ _ _ hl1).mono ?_
  rintro r w8 ⟨rfl, hbw⟩; dsimp only
  replace hW := below_to (below_own hW _) hbw
  clear hbw hl1
  go_wp2_with fail
  refine (two18 _).mono ?_
  rintro r w9 ⟨rfl, hbw⟩; dsimp only
  replace hW := below_to hW hbw
  clear hbw
  go_wp2_with fail
  refine (c6.out _).mono ?_
  rintro r w10 ⟨rfl, hbw⟩; dsimp only
  replace hW := below_to hW hbw
  clear hbw
  go_wp2_with fail
  go_ret
  exact ⟨rfl, hW⟩
end Go.Proofs.Ythlninijnbmjfaa
