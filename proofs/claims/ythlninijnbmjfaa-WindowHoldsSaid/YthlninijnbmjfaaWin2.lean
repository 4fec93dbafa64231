/- Windows: which ticks may be, walked. Conditions: the list is in memory. -/
import Derived.Test.YthlninijnbmjfaaWin1
namespace Go.Proofs.Ythlninijnbmjfaa
open Go.RowKit Go.Shelf

set_option maxHeartbeats 400000 in
theorem w_odd (t now : Int) (b5 : Nat) (w : World) (h5 : Boxed w b5 2 (.int .i64 now)) : Calls Try.prog 78 #[.int .i64 t, .pointer (some ⟨b5, 0, none⟩)] w fun e w' => e = .returned (.bool (oddB now t)) ∧ w = w' := by
  have Bc := h5.cell
  have Bf := h5.frozen
  unfold oddB
  by_cases h0 : t < 0 <;> by_cases h1 : now < t
  all_goals
    go_enter Try.func78, Try.ntmps78
    go_wp2
    go_ret
    exact ⟨by simp [*], rfl⟩
set_option maxHeartbeats 400000 in
theorem w_IndexFunc (A : Option Addr) (n c b5 : Nat) (now : Int) (xs : List Int) (hl : xs.length = n) (hn : n ≤ 1000000) (w : World) (hA : IntsIn w A xs) (h5 : Boxed w b5 2 (.int .i64 now)) :
    Calls Try.prog 93 #[.slice A n c, .func (.func 78) #[] #[.pointer (some ⟨b5, 0, none⟩)]] w fun e w' => e = .returned (.int .i64 (if inB xs now then (-1 : Int) else ((xs.findIdx (oddB now) : Nat) : Int))) ∧ w = w' := by
  have HA := Lib.hid hA
  clear hA
  have C1 := Lib.hid (fun t => w_odd t now b5 w h5)
  obtain ⟨R, hR⟩ : ∃ R : Int, R = if inB xs now then (-1 : Int) else ((xs.findIdx (oddB now) : Nat) : Int) := ⟨_, rfl⟩
  rw [← hR]
  replace hR := Lib.hid hR
  go_enter Try.func93, Try.ntmps93
  go_wp2
  refine wp_world (fun W => W = w) rfl ?_
  rintro W rfl
  go_loopw [4, 5, 8] (fun _ _ i wr => ∃ k : Nat, k ≤ n ∧ i = .int .i64 k ∧ Hid (∀ j : Nat, j < k → oddB now (xs.getD j 0) = false) ∧ wr = W) (fun _ _ i _ => n - (intOf i).toNat)
  case atStart => exact ⟨0, Nat.zero_le _, rfl, Lib.hid (by omega), rfl⟩
  case round =>
    obtain ⟨k, hk, rfl, hbef, rfl⟩ := hrel
    by_cases hlt : k < n
    · obtain ⟨b, off, rfl, hb, hcell⟩ := HA.out (by intro e; rw [e] at hl; simp at hl; omega)
      have k0 := hcell k (by omega)
      clear hcell
      have e0 : xs.getD k 0 = xs[k] := getD_at (by omega)
      rw [← e0] at k0
      have hfi : (∀ j : Nat, j < k → oddB now (xs.getD j 0) = false) → oddB now (xs.getD k 0) = true → inB xs now = false ∧ xs.findIdx (oddB now) = k := fun h1 h2 => by
        constructor
        · rw [Bool.eq_false_iff]
          intro h
          have := inB_yes.1 h k (by omega)
          rw [h2] at this
          cases this
        · refine (List.findIdx_eq (by omega)).2 ⟨by rw [← e0]; exact h2, fun j hj => ?_⟩
          have := h1 j hj
          rw [getD_at (by omega)] at this
          simpa using this
      have hnx : (∀ j : Nat, j < k → oddB now (xs.getD j 0) = false) → oddB now (xs.getD k 0) = false → Hid (∀ j : Nat, j < k + 1 → oddB now (xs.getD j 0) = false) := fun h1 h2 => Lib.hid (fun j hj => by
        rcases (show j < k ∨ j = k by omega) with h | rfl
        · exact h1 j h
        · exact h2)
      replace hfi := Lib.hid (hfi hbef.out)
      replace hnx := Lib.hid (hnx hbef.out)
      clear e0 hbef
      generalize xs.getD k 0 = x at *
      go_wp2_with fail
      refine (C1.out x).mono ?_
      rintro r ww ⟨rfl, rfl⟩; dsimp only
      generalize hq : oddB now x = q at *
      cases q
      · replace hnx := hnx.out (by first | trivial | rfl)
        clear hfi
        go_wp2_with fail
        go_roundw
        case rel => exact ⟨k + 1, by omega, by first | rfl | go_num, hnx, by first | trivial | rfl⟩
        case measure => simp [intOf]; omega
      · obtain ⟨f1, f2⟩ := hfi.out (by first | trivial | rfl)
        replace f1 := Lib.hid f1
        replace f2 := Lib.hid f2
        clear hnx
        go_wp2_with fail
        go_ret
        exact ⟨by rw [hR.out, f1.out, f2.out]; rfl, rfl⟩
    · have hs := Lib.hid (inB_yes.2 (fun i hi => hbef.out i (by omega)))
      go_wp2_with fail
      go_ret
      exact ⟨by rw [hR.out, hs.out]; rfl, rfl⟩
set_option maxHeartbeats 400000 in
theorem w_ContainsFunc (A : Option Addr) (n c b5 : Nat) (now : Int) (xs : List Int) (hl : xs.length = n) (hn : n ≤ 1000000) (w : World) (hA : IntsIn w A xs) (h5 : Boxed w b5 2 (.int .i64 now)) :
    Calls Try.prog 80 #[.slice A n c, .func (.func 78) #[] #[.pointer (some ⟨b5, 0, none⟩)]] w fun e w' => e = .returned (.bool (!inB xs now)) ∧ w = w' := by
  have c1 := w_IndexFunc A n c b5 now xs hl hn w hA h5
  generalize xs.findIdx (oddB now) = k at *
  cases hq : inB xs now
  · rw [hq] at c1
    have hk : (0 : Int) ≤ (k : Int) := by omega
    simp only [Bool.false_eq_true, if_false] at c1
    have C1 := Lib.hid c1
    clear c1 hA h5
    go_enter Try.func80, Try.ntmps80
    go_wp2_with fail
    refine C1.out.mono ?_
    rintro r ww ⟨rfl, rfl⟩; dsimp only
    go_wp2_with fail
    go_ret
    exact ⟨by simp, rfl⟩
  · rw [hq] at c1
    simp only [if_true] at c1
    have C1 := Lib.hid c1
    clear c1 hA h5
    go_enter Try.func80, Try.ntmps80
    go_wp2_with fail
    refine C1.out.mono ?_
    rintro r ww ⟨rfl, rfl⟩; dsimp only
    go_wp2_with fail
    go_ret
    exact ⟨by simp, rfl⟩
def mayW (b : Budget) (xs : List Int) (now : Int) : Bool := mayBud b && (timedB now && (sortedB xs && inB xs now))
set_option maxHeartbeats 400000 in
theorem w_may (b : Budget) (A : Option Addr) (n c : Nat) (now : Int) (xs : List Int) (hl : xs.length = n) (hn : n ≤ 1000000) (w : World) (hA : IntsIn w A xs) :
    Calls Try.prog 55 #[b.v, .slice A n c, .int .i64 now] w fun e w' => e = .returned (.bool (mayW b xs now)) ∧ Below w.heap.size w w' := by
  have C1 := Lib.hid (fun w => spec_May b w)
  have C2 := Lib.hid (fun w => w_timed now w)
  have C3 := Lib.hid (fun w hA => w_IsSorted A n c xs hl hn w hA)
  have C4 := Lib.hid (fun b5 w hA h5 => w_ContainsFunc A n c b5 now xs hl hn w hA h5)
  have HA := Lib.hid hA
  clear hA
  have hB0 := Boxed.new (w.alloc (.cells #[.int .i64 b.k, .int .i64 b.window] 49)) 2 (.int .i64 now)
  simp only [World.size_alloc] at hB0
  unfold mayW
  generalize mayBud b = p at *
  generalize timedB now = q at *
  generalize sortedB xs = r at *
  generalize inB xs now = s at *
  obtain ⟨bk, bw⟩ := b
  go_enter Try.func55, Try.ntmps55
  go_wp2_with fail
  refine (C1.out _).mono ?_
  rintro e w1 ⟨rfl, hb1⟩; dsimp only
  have hB : Below w.heap.size w w1 := below_to (by go_grown) hb1
  replace hB0 : Boxed w1 _ _ _ := (hb1.block _ (by simp)).trans hB0
  clear hb1
  cases p
  · clear hB0
    go_wp2_with fail
    go_ret
    exact ⟨rfl, hB⟩
  have Bc := hB0.cell
  have Bf := hB0.frozen
  go_wp2_with fail
  refine (C2.out _).mono ?_
  rintro e w2 ⟨rfl, rfl⟩; dsimp only
  cases q
  · clear hB0
    go_wp2_with fail
    go_ret
    exact ⟨rfl, hB⟩
  go_wp2_with fail
  refine (C3.out _ (ints_past HA.out hB)).mono ?_
  rintro e w2 ⟨rfl, hb2⟩; dsimp only
  clear Bc Bf
  replace hB0 : Boxed w2 _ _ _ := (hb2.block _ hB0.lt).trans hB0
  replace hB := below_to hB hb2
  clear hb2
  cases r
  · clear hB0
    go_wp2_with fail
    go_ret
    exact ⟨rfl, hB⟩
  replace hB0 := Lib.hid hB0
  go_wp2_with fail
  refine (C4.out _ _ (ints_past HA.out hB) hB0.out).mono ?_
  rintro e w3 ⟨rfl, rfl⟩; dsimp only
  cases s
  · go_wp2_with fail
    go_ret
    exact ⟨rfl, hB⟩
  · go_wp2_with fail
    go_ret
    exact ⟨rfl, hB⟩
end Go.Proofs.Ythlninijnbmjfaa
