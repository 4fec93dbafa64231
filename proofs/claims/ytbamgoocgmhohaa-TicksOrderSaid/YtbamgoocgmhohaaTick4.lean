/- The known run of reevelaw09, what no clocks answer, and the law TicksNone, walked. Conditions: none. -/
import Derived.Test.YtbamgoocgmhohaaTick3
namespace Go.Proofs.Ytbamgoocgmhohaa
open Go.RowKit

set_option maxHeartbeats 2000000 in
theorem works09 (w : World) : Calls Try.prog 26 #[] w fun e w' => e = .returned (.bool true) ∧ Below w.heap.size w w' := by
  have C0 : Hid (∀ w, Calls Try.prog 27 #[.int .i64 2, .int .i64 3] w fun e w' => ∃ P T, P ≠ T ∧ w.heap.size ≤ P ∧ w.heap.size ≤ T ∧ e = .returned (.tuple #[.pointer (some ⟨P, 0, none⟩), .int .i64 0]) ∧ Clk w' P T [0, 0] 3 false ∧ Below w.heap.size w w') := Lib.hid (fun w => tk_New 2 3 w (by decide))
  go_enter Try.func26, Try.ntmps26
  go_wp2_with fail
  refine (C0.out _).mono ?_
  rintro r w1 ⟨P, T, hPT, hP, hT, rfl, hc, hB⟩; dsimp only
  have c1 := tk_Tick P T [0, 0] 3 false 0 3 w1 hc hPT ⟨by decide, by decide⟩
  rw [show tickE [0, 0] 0 3 = 0 by decide, show tickL [0, 0] 0 3 = [3, 0] by decide, show tickF [0, 0] 0 3 3 false = false by decide] at c1
  have C1 := Lib.hid c1
  clear c1 hc C0
  go_wp2_with fail
  refine C1.out.mono ?_
  rintro r w2 ⟨rfl, hc, hK⟩; dsimp only
  replace hB := hK.below hB hP hT
  have C2 := Lib.hid (tk_Within P T _ _ _ w2 hc)
  clear hK C1
  go_wp2_with fail
  refine C2.out.mono ?_
  rintro r w2 ⟨rfl, rfl⟩; dsimp only
  have c1 := tk_Tick P T [3, 0] 3 false 0 1 _ hc hPT ⟨by decide, by decide⟩
  rw [show tickE [3, 0] 0 1 = 0 by decide, show tickL [3, 0] 0 1 = [4, 0] by decide, show tickF [3, 0] 0 1 3 false = true by decide] at c1
  have C1 := Lib.hid c1
  clear c1 hc C2
  go_wp2_with fail
  refine C1.out.mono ?_
  rintro r w3 ⟨rfl, hc, hK⟩; dsimp only
  replace hB := hK.below hB hP hT
  have c1 := tk_Tick P T [4, 0] 3 true 1 9 _ hc hPT ⟨by decide, by decide⟩
  rw [show tickE [4, 0] 1 9 = 0 by decide, show tickL [4, 0] 1 9 = [4, 9] by decide, show tickF [4, 0] 1 9 3 true = true by decide] at c1
  replace C1 := Lib.hid c1
  clear c1 hc hK
  go_wp2_with fail
  refine C1.out.mono ?_
  rintro r w4 ⟨rfl, hc, hK⟩; dsimp only
  replace hB := hK.below hB hP hT
  clear hK C1
  have C1 : Hid (Calls Try.prog 35 #[.pointer (some ⟨P, 0, none⟩), .int .i64 1] w4 fun e w' => e = .returned (.tuple #[.int .i64 9, .int .i64 0]) ∧ w4 = w') := Lib.hid (tk_At P T [4, 9] 3 true 1 (by decide) ⟨by decide, by decide⟩ w4 hc)
  have C2 := Lib.hid (tk_Within P T _ _ _ w4 hc)
  have c3 := tk_Apart P T [4, 9] 3 true w4 hc ⟨by decide, by decide⟩
  rw [show apartL [4, 9] = 5 by decide] at c3
  have C3 := Lib.hid c3
  have C4 : Hid (Calls Try.prog 29 #[.pointer (some ⟨P, 0, none⟩)] w4 fun e w' => e = .returned (.int .i64 2) ∧ w4 = w') := Lib.hid (tk_Len P T _ _ _ w4 hc)
  clear c3 hc
  go_wp2_with fail
  refine C1.out.mono ?_
  rintro r w5 ⟨rfl, rfl⟩; dsimp only
  go_wp2_with fail
  refine C2.out.mono ?_
  rintro r w5 ⟨rfl, rfl⟩; dsimp only
  go_wp2_with fail
  refine C3.out.mono ?_
  rintro r w5 ⟨rfl, rfl⟩; dsimp only
  go_wp2_with fail
  refine C4.out.mono ?_
  rintro r w5 ⟨rfl, rfl⟩; dsimp only
  go_wp2_with fail
  go_ret
  exact ⟨rfl, hB⟩
set_option maxHeartbeats 1000000 in
theorem tk_Tick_nil (k y : Int) (w : World) : Calls Try.prog 30 #[.pointer none, .int .i64 k, .int .i64 y] w fun e w' => e = .returned (.int .i64 1) ∧ Below w.heap.size w w' := by
  go_enter Try.func30, Try.ntmps30
  go_wp2
  go_ret
  exact ⟨rfl, by go_grown⟩
set_option maxHeartbeats 1000000 in
theorem tk_At_nil (k : Int) (w : World) : Calls Try.prog 35 #[.pointer none, .int .i64 k] w fun e w' => e = .returned (.tuple #[.int .i64 0, .int .i64 1]) ∧ w = w' := by
  go_enter Try.func35, Try.ntmps35
  go_wp2
  refine bodyPost_ret (v := .tuple #[.int .i64 0, .int .i64 1]) (by simp [results, Try.results35, go_sem]) rfl ?_
  exact ⟨rfl, rfl⟩
set_option maxHeartbeats 1000000 in
theorem tk_Apart_nil (w : World) : Calls Try.prog 32 #[.pointer none] w fun e w' => e = .returned (.int .i64 0) ∧ w = w' := by
  go_enter Try.func32, Try.ntmps32
  go_wp2
  go_ret
  exact ⟨rfl, rfl⟩
set_option maxHeartbeats 1000000 in
theorem tk_Within_nil (w : World) : Calls Try.prog 34 #[.pointer none] w fun e w' => e = .returned (.bool false) ∧ w = w' := by
  go_enter Try.func34, Try.ntmps34
  go_wp2
  go_ret
  exact ⟨rfl, rfl⟩
set_option maxHeartbeats 1000000 in
theorem tk_Len_nil (w : World) : Calls Try.prog 29 #[.pointer none] w fun e w' => e = .returned (.int .i64 0) ∧ w = w' := by
  go_enter Try.func29, Try.ntmps29
  go_wp2
  go_ret
  exact ⟨rfl, rfl⟩
set_option maxHeartbeats 2000000 in
theorem TicksNone_walk (k : Int) (_hk : I64 k) (y : Int) (_hy : I64 y) (w : World) : Calls Try.prog 9 #[.int .i64 k, .int .i64 y] w fun e w' => e = .returned (.bool true) ∧ Below w.heap.size w w' := by
  have C1 := Lib.hid (tk_At_nil k)
  have C2 := Lib.hid (tk_Tick_nil k y)
  have C3 := Lib.hid tk_Apart_nil
  have C4 := Lib.hid tk_Within_nil
  have C5 := Lib.hid tk_Len_nil
  have C6 := Lib.hid works09
  go_enter Try.func9, Try.ntmps9
  go_wp2_with fail
  refine (C1.out _).mono ?_
  rintro r w1 ⟨rfl, rfl⟩; dsimp only
  go_wp2_with fail
  refine (C2.out _).mono ?_
  rintro r w2 ⟨rfl, hB⟩; dsimp only
  go_wp2_with fail
  refine (C3.out _).mono ?_
  rintro r w3 ⟨rfl, rfl⟩; dsimp only
  go_wp2_with fail
  refine (C4.out _).mono ?_
  rintro r w3 ⟨rfl, rfl⟩; dsimp only
  go_wp2_with fail
  refine (C5.out _).mono ?_
  rintro r w3 ⟨rfl, rfl⟩; dsimp only
  go_wp2_with fail
  refine (C6.out _).mono ?_
  rintro r w4 ⟨rfl, hb⟩; dsimp only
  replace hB := below_to hB hb
  go_wp2_with fail
  go_ret
  exact ⟨rfl, hB⟩
end Go.Proofs.Ytbamgoocgmhohaa
