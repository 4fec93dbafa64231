/- The laws WireWrites, WireNil of reevelaw03, walked. Conditions: the numbers are of their kinds. -/
import Derived.Test.YteglieoeblehpaaWire6
namespace Go.Proofs.Yteglieoeblehpaa
open Go.RowKit

set_option maxRecDepth 100000 in
set_option maxHeartbeats 4000000 in
theorem WireWrites_walk (x : Int) (hx : U64 x) (y : Int) (hy : I64 y) (s : ByteArray) (hs : s.size ≤ 140737488351232) (b : Bool) (w : World) :
    Calls Try.prog 3 #[.int .u64 x, .int .i64 y, .string s, .bool b] w fun e w' => e = .returned (.bool true) ∧ Below w.heap.size w w' := by
  obtain ⟨hx0, hx1⟩ := hx
  obtain ⟨hy0, hy1⟩ := hy
  obtain ⟨x, rfl⟩ : ∃ n : Nat, x = n := ⟨x.toNat, by omega⟩
  have al := Lib.hid alive03
  by_cases hbig : 4096 < s.size
  · go_enter Try.func3, Try.ntmps3
    go_wp2_with fail
    refine (al.out _).mono ?_
    rintro r w1 ⟨rfl, hb⟩; dsimp only
    go_wp2_with fail
    go_ret
    exact ⟨rfl, hb⟩
  have hB := Lib.hid (below_self w)
  have C1 := Lib.hid (fun w => wr_Uint x (by omega) w)
  have C2 := Lib.hid (fun w => rr_Uint x (by omega) w)
  have C3 := Lib.hid (fun w => wr_Int y hy0 hy1 w)
  have C4 := Lib.hid (fun w => rr_Int y hy0 hy1 w)
  have C5 := Lib.hid (fun w => wr_Text s hs w)
  have C6 := Lib.hid (fun w => rr_Text s hs w)
  have C7 := Lib.hid (fun w => wr_Bool b w)
  have C8 := Lib.hid (fun w => rr_Bool b w)
  generalize bs (Lib.uvarint x) = t1 at *
  generalize bs (Lib.uvarint (Lib.zigzag y)) = t2 at *
  generalize bs (Lib.uvarint s.size) ++ s = t3 at *
  generalize bs [if b = true then 1 else 0] = t4 at *
  replace hB := hB.out
  go_enter Try.func3, Try.ntmps3
  go_wp2_with fail
  refine (C1.out _).mono ?_
  rintro r ww ⟨rfl, hb⟩; dsimp only
  replace hB := below_to hB hb
  clear hb
  go_wp2_with fail
  refine (C2.out _).mono ?_
  rintro r ww ⟨rfl, hb⟩; dsimp only
  replace hB := below_to hB hb
  clear hb
  go_wp2_with fail
  refine (C3.out _).mono ?_
  rintro r ww ⟨rfl, hb⟩; dsimp only
  replace hB := below_to hB hb
  clear hb
  go_wp2_with fail
  refine (C4.out _).mono ?_
  rintro r ww ⟨rfl, hb⟩; dsimp only
  replace hB := below_to hB hb
  clear hb
  go_wp2_with fail
  refine (C5.out _).mono ?_
  rintro r ww ⟨rfl, hb⟩; dsimp only
  replace hB := below_to hB hb
  clear hb
  go_wp2_with fail
  refine (C6.out _).mono ?_
  rintro r ww ⟨rfl, hb⟩; dsimp only
  replace hB := below_to hB hb
  clear hb
  go_wp2_with fail
  refine (C7.out _).mono ?_
  rintro r ww ⟨rfl, rfl⟩; dsimp only
  go_wp2_with fail
  refine (C8.out _).mono ?_
  rintro r ww ⟨rfl, rfl⟩; dsimp only
  go_wp2_with fail
  refine (al.out _).mono ?_
  rintro r ww ⟨rfl, hb⟩; dsimp only
  replace hB := below_to hB hb
  clear hb
  go_wp2_with fail
  go_ret
  exact ⟨rfl, hB⟩
set_option maxHeartbeats 1000000 in
theorem nil_none (w : World) : Calls Try.prog 42 #[.pointer none] w fun e w' => e = .returned (.bool true) ∧ w = w' := by
  go_enter Try.func42, Try.ntmps42
  go_wp2_with fail
  go_ret
  exact ⟨rfl, rfl⟩
theorem nil_take_uint64 (v : Value) (w : World) : Calls Try.prog 43 #[.pointer none, v] w fun e w' => e = .returned (.int .u64 0) ∧ w = w' := by
    go_enter Try.func43, Try.ntmps43
    go_wp2_with fail
    refine (nil_none _).mono ?_
    rintro r ww ⟨rfl, rfl⟩; dsimp only
    go_wp2_with fail
    go_ret
    exact ⟨rfl, rfl⟩
theorem nil_take_int64 (v : Value) (w : World) : Calls Try.prog 46 #[.pointer none, v] w fun e w' => e = .returned (.int .i64 0) ∧ w = w' := by
      go_enter Try.func46, Try.ntmps46
      go_wp2_with fail
      refine (nil_none _).mono ?_
      rintro r ww ⟨rfl, rfl⟩; dsimp only
      go_wp2_with fail
      go_ret
      exact ⟨rfl, rfl⟩
theorem nil_take_string (v : Value) (w : World) : Calls Try.prog 54 #[.pointer none, v] w fun e w' => e = .returned (.string ByteArray.empty) ∧ w = w' := by
        go_enter Try.func54, Try.ntmps54
        go_wp2_with fail
        refine (nil_none _).mono ?_
        rintro r ww ⟨rfl, rfl⟩; dsimp only
        go_wp2_with fail
        go_ret
        exact ⟨rfl, rfl⟩
theorem nil_take_int (v : Value) (w : World) : Calls Try.prog 57 #[.pointer none, v] w fun e w' => e = .returned (.int .i64 0) ∧ w = w' := by
          go_enter Try.func57, Try.ntmps57
          go_wp2_with fail
          refine (nil_none _).mono ?_
          rintro r ww ⟨rfl, rfl⟩; dsimp only
          go_wp2_with fail
          go_ret
          exact ⟨rfl, rfl⟩
theorem nil_Uint (x : Int) (w : World) : Calls Try.prog 24 #[.pointer none, .int .u64 x] w fun e w' => e = .returned (.int .u64 0) ∧ Below w.heap.size w w' := by
            go_enter Try.func24, Try.ntmps24
            go_wp2_with fail
            refine (nil_take_uint64 _ _).mono ?_
            rintro r ww ⟨rfl, rfl⟩; dsimp only
            go_wp2_with fail
            go_ret
            exact ⟨rfl, by go_grown⟩
theorem nil_Int (x y : Int) (w : World) : Calls Try.prog 27 #[.pointer none, .int .i64 x, .int .i64 y] w fun e w' => e = .returned (.int .i64 0) ∧ Below w.heap.size w w' := by
              go_enter Try.func27, Try.ntmps27
              go_wp2_with fail
              refine (nil_take_int64 _ _).mono ?_
              rintro r ww ⟨rfl, rfl⟩; dsimp only
              go_wp2_with fail
              go_ret
              exact ⟨rfl, by go_grown⟩
theorem nil_Text (x : Int) (w : World) : Calls Try.prog 29 #[.pointer none, .int .i64 x] w fun e w' => e = .returned (.string ByteArray.empty) ∧ Below w.heap.size w w' := by
                go_enter Try.func29, Try.ntmps29
                go_wp2_with fail
                refine (nil_take_string _ _).mono ?_
                rintro r ww ⟨rfl, rfl⟩; dsimp only
                go_wp2_with fail
                go_ret
                exact ⟨rfl, by go_grown⟩
theorem nil_Count (x : Int) (w : World) : Calls Try.prog 30 #[.pointer none, .int .i64 x] w fun e w' => e = .returned (.int .i64 0) ∧ Below w.heap.size w w' := by
                  go_enter Try.func30, Try.ntmps30
                  go_wp2_with fail
                  refine (nil_take_int _ _).mono ?_
                  rintro r ww ⟨rfl, rfl⟩; dsimp only
                  go_wp2_with fail
                  go_ret
                  exact ⟨rfl, by go_grown⟩
theorem nil_Bool (w : World) : Calls Try.prog 31 #[.pointer none] w fun e w' => e = .returned (.bool false) ∧ w = w' := by
                    go_enter Try.func31, Try.ntmps31
                    go_wp2_with fail
                    refine (nil_none _).mono ?_
                    rintro r ww ⟨rfl, rfl⟩; dsimp only
                    go_wp2_with fail
                    go_ret
                    exact ⟨rfl, rfl⟩
theorem nil_Left (w : World) : Calls Try.prog 26 #[.pointer none] w fun e w' => e = .returned (.int .i64 0) ∧ w = w' := by
                      go_enter Try.func26, Try.ntmps26
                      go_wp2_with fail
                      refine (nil_none _).mono ?_
                      rintro r ww ⟨rfl, rfl⟩; dsimp only
                      go_wp2_with fail
                      go_ret
                      exact ⟨rfl, rfl⟩
theorem nil_Err (w : World) : Calls Try.prog 25 #[.pointer none] w fun e w' => e = .returned (.int .i64 1) ∧ w = w' := by
                        go_enter Try.func25, Try.ntmps25
                        go_wp2_with fail
                        refine (nil_none _).mono ?_
                        rintro r ww ⟨rfl, rfl⟩; dsimp only
                        go_wp2_with fail
                        go_ret
                        exact ⟨rfl, rfl⟩
theorem nil_End (w : World) : Calls Try.prog 23 #[.pointer none] w fun e w' => e = .returned (.int .i64 1) ∧ w = w' := by
  go_enter Try.func23, Try.ntmps23
  go_wp2_with fail
  refine (nil_none _).mono ?_
  rintro r ww ⟨rfl, rfl⟩; dsimp only
  go_wp2_with fail
  refine (nil_Err _).mono ?_
  rintro r ww ⟨rfl, rfl⟩; dsimp only
  go_wp2_with fail
  go_ret
  exact ⟨rfl, rfl⟩
set_option maxRecDepth 100000 in
set_option maxHeartbeats 4000000 in
theorem WireNil_walk (x : Int) (_hx : U64 x) (w : World) :
    Calls Try.prog 6 #[.int .u64 x] w fun e w' => e = .returned (.bool true) ∧ Below w.heap.size w w' := by
  have al := Lib.hid alive03
  have hB := below_self w
  go_enter Try.func6, Try.ntmps6
  go_wp2_with fail
  refine (nil_Uint _ _).mono ?_
  rintro r ww ⟨rfl, hb⟩; dsimp only
  replace hB := below_to hB hb
  clear hb
  go_wp2_with fail
  refine (nil_Int _ _ _).mono ?_
  rintro r ww ⟨rfl, hb⟩; dsimp only
  replace hB := below_to hB hb
  clear hb
  go_wp2_with fail
  refine (nil_Text _ _).mono ?_
  rintro r ww ⟨rfl, hb⟩; dsimp only
  replace hB := below_to hB hb
  clear hb
  go_wp2_with fail
  refine (nil_Count _ _).mono ?_
  rintro r ww ⟨rfl, hb⟩; dsimp only
  replace hB := below_to hB hb
  clear hb
  go_wp2_with fail
  refine (nil_Bool _).mono ?_
  rintro r ww ⟨rfl, rfl⟩; dsimp only
  go_wp2_with fail
  refine (nil_Left _).mono ?_
  rintro r ww ⟨rfl, rfl⟩; dsimp only
  go_wp2_with fail
  refine (nil_Err _).mono ?_
  rintro r ww ⟨rfl, rfl⟩; dsimp only
  go_wp2_with fail
  refine (nil_End _).mono ?_
  rintro r ww ⟨rfl, rfl⟩; dsimp only
  go_wp2_with fail
  refine (al.out _).mono ?_
  rintro r ww ⟨rfl, hb⟩; dsimp only
  replace hB := below_to hB hb
  clear hb
  go_wp2_with fail
  go_ret
  exact ⟨rfl, hB⟩
end Go.Proofs.Yteglieoeblehpaa
