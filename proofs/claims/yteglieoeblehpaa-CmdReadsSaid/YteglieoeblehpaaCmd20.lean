/- Commands: the reference's bytes of parts, walked. Conditions: the texts are short. -/
import Derived.Test.YteglieoeblehpaaCmd19
namespace Go.Proofs.Yteglieoeblehpaa
open Go.RowKit

theorem r_u (x : Int) (hx : U64 x) (w : World) : Calls Try.prog 93 #[.int .u64 x] w fun e w' => e = .returned (.string (encU x)) ∧ Below w.heap.size w w' := by
  obtain ⟨n, rfl⟩ : ∃ n : Nat, x = n := ⟨x.toNat, by unfold U64 at hx; omega⟩
  have C := Lib.hid (rr_Uint n (by unfold U64 at hx; omega))
  go_enter Try.func93, Try.ntmps93
  go_wp2_with fail
  refine (C.out _).mono ?_
  rintro r w1 ⟨rfl, hb⟩; dsimp only
  go_wp2_with fail
  go_ret
  exact ⟨by simp [encU], hb⟩
theorem r_i (x : Int) (hx : I64 x) (w : World) : Calls Try.prog 95 #[.int .i64 x] w fun e w' => e = .returned (.string (encI x)) ∧ Below w.heap.size w w' := by
  have C := Lib.hid (rr_Int x hx.1 hx.2)
  go_enter Try.func95, Try.ntmps95
  go_wp2_with fail
  refine (C.out _).mono ?_
  rintro r w1 ⟨rfl, hb⟩; dsimp only
  go_wp2_with fail
  go_ret
  exact ⟨rfl, hb⟩
theorem rr_I (x : Int) (hx : I64 x) (w : World) : Calls Try.prog 15 #[.int .i64 x] w fun e w' => e = .returned (.string (encI x)) ∧ Below w.heap.size w w' := rr_Int x hx.1 hx.2 w
theorem rr_T (s : ByteArray) (hs : s.size ≤ 1024) (w : World) : Calls Try.prog 17 #[.string s] w fun e w' => e = .returned (.string (encT s)) ∧ Below w.heap.size w w' := rr_Text s (by omega) w
set_option maxHeartbeats 4000000 in
theorem r_vec (a b c : Int) (ha : I64 a) (hb : I64 b) (hc : I64 c) (w : World) : Calls Try.prog 94 #[.agg #[.int .i64 a, .int .i64 b, .int .i64 c]] w fun e w' => e = .returned (.string (encV a b c)) ∧ Below w.heap.size w w' := by
  have C1 := Lib.hid (fun W => rr_I a ha W)
  have C2 := Lib.hid (fun W => rr_I b hb W)
  have C3 := Lib.hid (fun W => rr_I c hc W)
  have z1 := encI_size a ha
  have z2 := encI_size b hb
  have z3 := encI_size c hc
  have hB := Blk.new w 54 #[.int .i64 a, .int .i64 b, .int .i64 c]
  have hbw : Below w.heap.size w (w.alloc (.cells #[.int .i64 a, .int .i64 b, .int .i64 c] 54)) := by go_grown
  obtain ⟨Bc, Bf, Bl⟩ := hB.facts
  clear ha hb hc
  unfold encV
  generalize encI a = e1 at *
  generalize encI b = e2 at *
  generalize encI c = e3 at *
  go_enter Try.func94, Try.ntmps94
  go_wp2_with fail
  generalize w.alloc (.cells #[.int .i64 a, .int .i64 b, .int .i64 c] 54) = W at *
  have hz : (e1 ++ e2).size ≤ 20 := by rw [ByteArray.size_append]; omega
  refine wp_region_ext (by kernel_rfl) (by kernel_rfl) ?_
  repeat (go_big_quiet_step ((go_at_call 15; first | with_reducible exact ext_of (C1.out _) | with_reducible exact ext_of (C2.out _) | with_reducible exact ext_of (C3.out _))))
  refine wpQuiet_nil ?_
  intro w1 hx
  have hB1 : Below w.heap.size w w1 := hbw.trans ((after_region hx).2.2.2.2.mono hbw.size)
  clear hx
  go_wp2_with fail
  go_ret
  exact ⟨rfl, hB1⟩
set_option maxHeartbeats 4000000 in
theorem r_task (s : ByteArray) (n : Int) (hs : s.size ≤ 1024) (hn : I64 n) (w : World) : Calls Try.prog 98 #[.agg #[.string s, .int .i64 n]] w fun e w' => e = .returned (.string (encT s ++ encI n)) ∧ Below w.heap.size w w' := by
  have T1 := Lib.hid (fun W => rr_T s hs W)
  have I1 := Lib.hid (fun W => r_i n hn W)
  have z1 := encT_size s hs
  have z2 := encI_size n hn
  have hB := Blk.new w 62 #[.string s, .int .i64 n]
  have hbw : Below w.heap.size w (w.alloc (.cells #[.string s, .int .i64 n] 62)) := by go_grown
  obtain ⟨Bc, Bf, Bl⟩ := hB.facts
  clear hn
  generalize encT s = e1 at *
  generalize encI n = e2 at *
  go_enter Try.func98, Try.ntmps98
  go_wp2_with fail
  generalize w.alloc (.cells #[.string s, .int .i64 n] 62) = W at *
  refine wp_region_ext (by kernel_rfl) (by kernel_rfl) ?_
  repeat (go_big_quiet_step ((first | (go_at_call 17; with_reducible exact ext_of (T1.out _)) | (go_at_call 95; with_reducible exact ext_of (I1.out _)))))
  refine wpQuiet_nil ?_
  intro w1 hx
  have hB1 : Below w.heap.size w w1 := hbw.trans ((after_region hx).2.2.2.2.mono hbw.size)
  clear hx
  go_wp2_with fail
  go_ret
  exact ⟨rfl, hB1⟩
set_option maxRecDepth 100000 in
set_option maxHeartbeats 4000000 in
theorem r_job (name user : ByteArray) (band count a b c : Int) (al : ByteArray) (k win : Int) (hs1 : name.size ≤ 1024) (hs2 : user.size ≤ 1024) (hs3 : al.size ≤ 1024) (hband : 0 ≤ band ∧ band < 256) (hn1 : I64 count) (hn2 : I64 a) (hn3 : I64 b) (hn4 : I64 c) (hn5 : I64 k) (hn6 : I64 win) (w : World) :
    Calls Try.prog 96 #[.agg #[.string name, .string user, .int .u8 band, .int .i64 count, .int .i64 a, .int .i64 b, .int .i64 c, .string al, .int .i64 k, .int .i64 win]] w fun e w' => e = .returned (.string (jobB name user band count a b c al k win)) ∧ Below w.heap.size w w' := by
  have T1 := Lib.hid (fun W => rr_T name hs1 W)
  have T2 := Lib.hid (fun W => rr_T user hs2 W)
  have T3 := Lib.hid (fun W => rr_T al hs3 W)
  have U1 := Lib.hid (fun W => r_u band (by unfold U64; omega) W)
  have I1 := Lib.hid (fun W => r_i count hn1 W)
  have I2 := Lib.hid (fun W => r_i k hn5 W)
  have D1 := Lib.hid (fun W => rr_I win hn6 W)
  have V1 := Lib.hid (fun W => r_vec a b c hn2 hn3 hn4 W)
  have z1 := encT_size name hs1
  have z2 := encT_size user hs2
  have z3 := encU_size band (by omega)
  have z4 := encI_size count hn1
  have z5 := encV_size a b c hn2 hn3 hn4
  have z6 := encT_size al hs3
  have z7 := encI_size k hn5
  have z8 := encI_size win hn6
  have hB := Blk.new w 58 #[.string name, .string user, .int .u8 band, .int .i64 count, .int .i64 a, .int .i64 b, .int .i64 c, .string al, .int .i64 k, .int .i64 win]
  have hbw : Below w.heap.size w (w.alloc (.cells #[.string name, .string user, .int .u8 band, .int .i64 count, .int .i64 a, .int .i64 b, .int .i64 c, .string al, .int .i64 k, .int .i64 win] 58)) := by go_grown
  obtain ⟨Bc, Bf, Bl⟩ := hB.facts
  clear hn1 hn2 hn3 hn4 hn5 hn6
  unfold jobB
  generalize encT name = e1 at *
  generalize encT user = e2 at *
  generalize encU band = e3 at *
  generalize encI count = e4 at *
  generalize encV a b c = e5 at *
  generalize encT al = e6 at *
  generalize encI k = e7 at *
  generalize encI win = e8 at *
  have y2 : (e1 ++ e2).size ≤ 2068 := by rw [ByteArray.size_append]; omega
  have y3 : (e1 ++ e2 ++ e3).size ≤ 2078 := by rw [ByteArray.size_append]; omega
  have y4 : (e1 ++ e2 ++ e3 ++ e4).size ≤ 2088 := by rw [ByteArray.size_append]; omega
  have y5 : (e1 ++ e2 ++ e3 ++ e4 ++ e5).size ≤ 2118 := by rw [ByteArray.size_append]; omega
  have y6 : (e1 ++ e2 ++ e3 ++ e4 ++ e5 ++ e6).size ≤ 3152 := by rw [ByteArray.size_append]; omega
  have y7 : (e1 ++ e2 ++ e3 ++ e4 ++ e5 ++ e6 ++ e7).size ≤ 3162 := by rw [ByteArray.size_append]; omega
  go_enter Try.func96, Try.ntmps96
  go_wp2_with fail
  generalize w.alloc (.cells #[.string name, .string user, .int .u8 band, .int .i64 count, .int .i64 a, .int .i64 b, .int .i64 c, .string al, .int .i64 k, .int .i64 win] 58) = W at *
  refine wp_region_ext (by kernel_rfl) (by kernel_rfl) ?_
  repeat (go_big_quiet_step ((first | (go_at_call 15; first | with_reducible exact ext_of (D1.out _) | with_reducible exact ext_of (D2.out _)) | (go_at_call 17; first | with_reducible exact ext_of (T1.out _) | with_reducible exact ext_of (T2.out _) | with_reducible exact ext_of (T3.out _)) | (go_at_call 93; with_reducible exact ext_of (U1.out _)) | (go_at_call 95; first | with_reducible exact ext_of (I1.out _) | with_reducible exact ext_of (I2.out _)) | (go_at_call 94; with_reducible exact ext_of (V1.out _)))))
  refine wpQuiet_nil ?_
  intro w1 hx
  have hB1 : Below w.heap.size w w1 := hbw.trans ((after_region hx).2.2.2.2.mono hbw.size)
  clear hx
  go_wp2_with fail
  go_ret
  exact ⟨rfl, hB1⟩
set_option maxRecDepth 100000 in
set_option maxHeartbeats 4000000 in
theorem r_alloc (name user : ByteArray) (count a b c : Int) (hs1 : name.size ≤ 1024) (hs2 : user.size ≤ 1024) (hn1 : I64 count) (hn2 : I64 a) (hn3 : I64 b) (hn4 : I64 c) (w : World) :
    Calls Try.prog 97 #[.agg #[.string name, .string user, .int .i64 count, .int .i64 a, .int .i64 b, .int .i64 c]] w fun e w' => e = .returned (.string (allocB name user count a b c)) ∧ Below w.heap.size w w' := by
  have T1 := Lib.hid (fun W => rr_T name hs1 W)
  have T2 := Lib.hid (fun W => rr_T user hs2 W)
  have I1 := Lib.hid (fun W => r_i count hn1 W)
  have V1 := Lib.hid (fun W => r_vec a b c hn2 hn3 hn4 W)
  have z1 := encT_size name hs1
  have z2 := encT_size user hs2
  have z4 := encI_size count hn1
  have z5 := encV_size a b c hn2 hn3 hn4
  have hB := Blk.new w 60 #[.string name, .string user, .int .i64 count, .int .i64 a, .int .i64 b, .int .i64 c]
  have hbw : Below w.heap.size w (w.alloc (.cells #[.string name, .string user, .int .i64 count, .int .i64 a, .int .i64 b, .int .i64 c] 60)) := by go_grown
  obtain ⟨Bc, Bf, Bl⟩ := hB.facts
  clear hn1 hn2 hn3 hn4
  unfold allocB
  generalize encT name = e1 at *
  generalize encT user = e2 at *
  generalize encI count = e4 at *
  generalize encV a b c = e5 at *
  have y2 : (e1 ++ e2).size ≤ 2068 := by rw [ByteArray.size_append]; omega
  have y3 : (e1 ++ e2 ++ e4).size ≤ 2078 := by rw [ByteArray.size_append]; omega
  go_enter Try.func97, Try.ntmps97
  go_wp2_with fail
  generalize w.alloc (.cells #[.string name, .string user, .int .i64 count, .int .i64 a, .int .i64 b, .int .i64 c] 60) = W at *
  refine wp_region_ext (by kernel_rfl) (by kernel_rfl) ?_
  repeat (go_big_quiet_step ((first | (go_at_call 17; first | with_reducible exact ext_of (T1.out _) | with_reducible exact ext_of (T2.out _)) | (go_at_call 95; with_reducible exact ext_of (I1.out _)) | (go_at_call 94; with_reducible exact ext_of (V1.out _)))))
  refine wpQuiet_nil ?_
  intro w1 hx
  have hB1 : Below w.heap.size w w1 := hbw.trans ((after_region hx).2.2.2.2.mono hbw.size)
  clear hx
  go_wp2_with fail
  go_ret
  exact ⟨rfl, hB1⟩
end Go.Proofs.Yteglieoeblehpaa
