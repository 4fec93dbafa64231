/- What is at the front: a frame, or why there is none. Conditions: the text is in memory. -/
import Derived.Test.YthlninijnbmjfaaFr2
namespace Go.Proofs.Ythlninijnbmjfaa
open Go.RowKit

/-- What is read, as a value. -/
def readV (l : List UInt8) : Value := .tuple #[.string (bs (readT l)), .int .i64 (readN l), .int .i64 (readE l)]
theorem readV_bad {l : List UInt8} {e : Int} (h : readE l = e) (he : e ≠ 0) : readV l = .tuple #[.string ⟨#[]⟩, .int .i64 0, .int .i64 e] := by
  have h0 : readE l ≠ 0 := by rw [h]; exact he
  unfold readV readT readN
  rw [if_neg h0, if_neg h0, h]
  rfl
theorem readV_ok {s : ByteArray} (h : readE s.data.toList = 0) : readV s.data.toList = .tuple #[.string (s.extract 4 (numL s.data.toList + 4)), .int .i64 ((numL s.data.toList : Nat) + 8), .int .i64 0] := by
  unfold readV readT readN
  rw [if_pos h, if_pos h, h]
  have e : bs ((s.data.toList.take (numL s.data.toList + 4)).drop 4) = s.extract 4 (numL s.data.toList + 4) := by
    rw [← extract_list, bs_data]
  rw [e]
  rfl
theorem extract_take (s : ByteArray) (n : Nat) : (s.extract 0 n).data.toList = s.data.toList.take n := by rw [extract_list, List.drop_zero]
theorem extract_drop (s : ByteArray) (n : Nat) : (s.extract n s.size).data.toList = s.data.toList.drop n := by rw [extract_list, List.take_of_length_le (by rw [size_list]; exact Nat.le_refl _)]
set_option maxRecDepth 100000 in
set_option maxHeartbeats 4000000 in
theorem fr_Read (s : ByteArray) (hs : s.size ≤ 140737488351232) (w : World) : Calls Try.prog 16 #[.string s] w fun e w' => e = .returned (readV s.data.toList) ∧ Below w.heap.size w w' := by
  have hE : readE s.data.toList = if s.size < 4 then 40 else if 65536 < numL s.data.toList then 4 else if s.size < numL s.data.toList + 8 then 40 else if sumL (s.data.toList.take (numL s.data.toList + 4)) ≠ numL (s.data.toList.drop (numL s.data.toList + 4)) then 41 else 0 := rfl
  by_cases h4 : s.size < 4
  · rw [readV_bad (by rw [hE, if_pos h4]) (by decide)]
    clear hE
    go_enter Try.func16, Try.ntmps16
    go_wp2_with fail
    refine bodyPost_ret (v := .tuple #[.string ⟨#[]⟩, .int .i64 0, .int .i64 40]) (by simp [results, Try.results16, go_sem]) rfl ?_
    exact ⟨rfl, Below.refl _ _⟩
  rw [if_neg h4] at hE
  have C1 := fun w => fr_number s (by omega) hs w
  have hk := numL_lt s.data.toList
  by_cases hbig : 65536 < numL s.data.toList
  · rw [readV_bad (by rw [hE, if_pos hbig]) (by decide)]
    clear hE
    generalize numL s.data.toList = k at *
    replace C1 := Lib.hid C1
    go_enter Try.func16, Try.ntmps16
    go_wp2_with fail
    refine (C1.out _).mono ?_
    rintro r ww ⟨rfl, rfl⟩; dsimp only
    go_wp2_with fail
    refine bodyPost_ret (v := .tuple #[.string ⟨#[]⟩, .int .i64 0, .int .i64 4]) (by simp [results, Try.results16, go_sem]) rfl ?_
    exact ⟨rfl, Below.refl _ _⟩
  rw [if_neg hbig] at hE
  by_cases htorn : s.size < numL s.data.toList + 8
  · rw [readV_bad (by rw [hE, if_pos htorn]) (by decide)]
    clear hE
    generalize numL s.data.toList = k at *
    have ht' : (s.size : Int) < (k : Int) + 8 := by omega
    replace C1 := Lib.hid C1
    go_enter Try.func16, Try.ntmps16
    go_wp2_with fail
    refine (C1.out _).mono ?_
    rintro r ww ⟨rfl, rfl⟩; dsimp only
    go_wp2_with fail
    refine bodyPost_ret (v := .tuple #[.string ⟨#[]⟩, .int .i64 0, .int .i64 40]) (by simp [results, Try.results16, go_sem]) rfl ?_
    exact ⟨rfl, Below.refl _ _⟩
  rw [if_neg htorn] at hE
  have hV := @readV_ok s
  have hB := @readV_bad s.data.toList 41
  have c2 := fun w => sum_Of (s.extract 0 (numL s.data.toList + 4)) (by simp; omega) w
  have c3 := fun w => fr_number (s.extract (numL s.data.toList + 4) s.size) (by simp; omega) (by simp; omega) w
  rw [extract_take] at c2
  rw [extract_drop] at c3
  have hu : u (moreB 0#32 (s.data.toList.take (numL s.data.toList + 4))) = ((sumL (s.data.toList.take (numL s.data.toList + 4)) : Nat) : Int) := rfl
  rw [hu] at c2
  clear hu
  generalize sumL (s.data.toList.take (numL s.data.toList + 4)) = y at *
  generalize numL (s.data.toList.drop (numL s.data.toList + 4)) = z at *
  generalize numL s.data.toList = k at *
  have hw1 : IntKind.i64.wrap ((k : Int) + 4) = (k : Int) + 4 := IntWalk.i64_in _ (by omega)
  replace C1 := Lib.hid C1
  have C2 : Hid (∀ x : Beyond w, Calls Try.prog 46 #[.string (s.extract 0 (k + 4))] (extn w x) fun e w' => e = .returned (.int .u32 y) ∧ Below (extn w x).heap.size (extn w x) w') := Lib.hid (fun x => c2 _)
  have C3 : Hid (∀ x : Beyond w, Calls Try.prog 49 #[.string (s.extract (k + 4) s.size)] (extn w x) fun e w' => e = .returned (.int .u32 z) ∧ Below (extn w x).heap.size (extn w x) w') := Lib.hid (fun x => (c3 _).mono fun e w' ⟨a, b⟩ => ⟨a, by rw [b]; exact below_self _⟩)
  clear c2 c3
  have h8 : ¬ (s.size : Int) < (k : Int) + 8 := by omega
  by_cases hy : y ≠ z
  · rw [if_pos hy] at hE
    rw [hB hE (by decide)]
    have g : ((y : Int) != (z : Int)) = true := by simp; omega
    clear hE hV hB
    go_enter Try.func16, Try.ntmps16
    go_wp2_with fail
    refine (C1.out _).mono ?_
    rintro r ww ⟨rfl, rfl⟩; dsimp only
    go_wp2_with fail
    refine wp_region_ext (by kernel_rfl) (by kernel_rfl) ?_
    repeat (go_big_quiet_step ((first | (go_at_call 46; exact ext_of (C2.out _)) | (go_at_call 49; exact ext_of (C3.out _)))))
    refine wpQuiet_nil ?_
    intro w1 hx
    obtain ⟨x, rfl⟩ := hx
    go_wp2_with fail
    refine bodyPost_ret (v := .tuple #[.string ⟨#[]⟩, .int .i64 0, .int .i64 41]) (by simp [results, Try.results16, go_sem]) rfl ?_
    exact ⟨rfl, extn_below _ x⟩
  · rw [if_neg hy] at hE
    rw [hV hE]
    obtain rfl : y = z := by omega
    have g : ((y : Int) != (y : Int)) = false := bne_self_eq_false ..
    clear hE hV hB hy
    go_enter Try.func16, Try.ntmps16
    go_wp2_with fail
    refine (C1.out _).mono ?_
    rintro r ww ⟨rfl, rfl⟩; dsimp only
    go_wp2_with fail
    refine wp_region_ext (by kernel_rfl) (by kernel_rfl) ?_
    repeat (go_big_quiet_step ((first | (go_at_call 46; exact ext_of (C2.out _)) | (go_at_call 49; exact ext_of (C3.out _)))))
    refine wpQuiet_nil ?_
    intro w1 hx
    obtain ⟨x, rfl⟩ := hx
    go_wp2_with fail
    refine bodyPost_ret (v := .tuple #[.string (s.extract 4 (k + 4)), .int .i64 ((k : Nat) + 8), .int .i64 0]) (by simp [results, Try.results16, go_sem]) rfl ?_
    exact ⟨rfl, extn_below _ x⟩
set_option maxRecDepth 100000 in
set_option maxHeartbeats 4000000 in
theorem rf_Read (s : ByteArray) (hs : s.size ≤ 140737488351232) (w : World) : Calls Try.prog 17 #[.string s] w fun e w' => e = .returned (readV s.data.toList) ∧ Below w.heap.size w w' := by
  have hE : readE s.data.toList = if s.size < 4 then 40 else if 65536 < numL s.data.toList then 4 else if s.size < numL s.data.toList + 8 then 40 else if sumL (s.data.toList.take (numL s.data.toList + 4)) ≠ numL (s.data.toList.drop (numL s.data.toList + 4)) then 41 else 0 := rfl
  by_cases h4 : s.size < 4
  · rw [readV_bad (by rw [hE, if_pos h4]) (by decide)]
    clear hE
    go_enter Try.func17, Try.ntmps17
    go_wp2_with fail
    refine bodyPost_ret (v := .tuple #[.string ⟨#[]⟩, .int .i64 0, .int .i64 40]) (by simp [results, Try.results17, go_sem]) rfl ?_
    exact ⟨rfl, Below.refl _ _⟩
  rw [if_neg h4] at hE
  have C1 := fun w => rf_number s (by omega) hs w
  have hk := numL_lt s.data.toList
  by_cases hbig : 65536 < numL s.data.toList
  · rw [readV_bad (by rw [hE, if_pos hbig]) (by decide)]
    clear hE
    generalize numL s.data.toList = k at *
    replace C1 := Lib.hid C1
    go_enter Try.func17, Try.ntmps17
    go_wp2_with fail
    refine (C1.out _).mono ?_
    rintro r w1 ⟨rfl, hb⟩; dsimp only
    go_wp2_with fail
    refine bodyPost_ret (v := .tuple #[.string ⟨#[]⟩, .int .i64 0, .int .i64 4]) (by simp [results, Try.results17, go_sem]) rfl ?_
    exact ⟨rfl, hb⟩
  rw [if_neg hbig] at hE
  by_cases htorn : s.size < numL s.data.toList + 8
  · rw [readV_bad (by rw [hE, if_pos htorn]) (by decide)]
    clear hE
    generalize numL s.data.toList = k at *
    have ht' : (s.size : Int) < (k : Int) + 8 := by omega
    replace C1 := Lib.hid C1
    go_enter Try.func17, Try.ntmps17
    go_wp2_with fail
    refine (C1.out _).mono ?_
    rintro r w1 ⟨rfl, hb⟩; dsimp only
    go_wp2_with fail
    refine bodyPost_ret (v := .tuple #[.string ⟨#[]⟩, .int .i64 0, .int .i64 40]) (by simp [results, Try.results17, go_sem]) rfl ?_
    exact ⟨rfl, hb⟩
  rw [if_neg htorn] at hE
  have hV := @readV_ok s
  have hB := @readV_bad s.data.toList 41
  have c2 := fun w => ref_Of02 (s.extract 0 (numL s.data.toList + 4)) (by simp; omega) w
  have c3 := fun w => rf_number (s.extract (numL s.data.toList + 4) s.size) (by simp; omega) (by simp; omega) w
  rw [extract_take] at c2
  rw [extract_drop] at c3
  have hu : u (moreB 0#32 (s.data.toList.take (numL s.data.toList + 4))) = ((sumL (s.data.toList.take (numL s.data.toList + 4)) : Nat) : Int) := rfl
  rw [hu] at c2
  clear hu
  generalize sumL (s.data.toList.take (numL s.data.toList + 4)) = y at *
  generalize numL (s.data.toList.drop (numL s.data.toList + 4)) = z at *
  generalize numL s.data.toList = k at *
  have hw1 : IntKind.i64.wrap ((k : Int) + 4) = (k : Int) + 4 := IntWalk.i64_in _ (by omega)
  replace C1 := Lib.hid C1
  have C2 : Hid (∀ (w : World) (x : Beyond w), Calls Try.prog 48 #[.string (s.extract 0 (k + 4))] (extn w x) fun e w' => e = .returned (.int .u32 y) ∧ Below (extn w x).heap.size (extn w x) w') := Lib.hid (fun _ x => (c2 _).mono fun e w' ⟨a, b⟩ => ⟨a, by rw [b]; exact below_self _⟩)
  have C3 : Hid (∀ (w : World) (x : Beyond w), Calls Try.prog 50 #[.string (s.extract (k + 4) s.size)] (extn w x) fun e w' => e = .returned (.int .u32 z) ∧ Below (extn w x).heap.size (extn w x) w') := Lib.hid (fun _ x => c3 _)
  clear c2 c3
  have h8 : ¬ (s.size : Int) < (k : Int) + 8 := by omega
  by_cases hy : y ≠ z
  · rw [if_pos hy] at hE
    rw [hB hE (by decide)]
    have g : ((y : Int) != (z : Int)) = true := by simp; omega
    clear hE hV hB
    go_enter Try.func17, Try.ntmps17
    go_wp2_with fail
    refine (C1.out _).mono ?_
    rintro r w0 ⟨rfl, hb⟩; dsimp only
    go_wp2_with fail
    refine wp_region_ext (by kernel_rfl) (by kernel_rfl) ?_
    repeat (go_big_quiet_step ((first | (go_at_call 48; exact ext_of (C2.out _ _)) | (go_at_call 50; exact ext_of (C3.out _ _)))))
    refine wpQuiet_nil ?_
    intro w1 hx
    obtain ⟨x, rfl⟩ := hx
    go_wp2_with fail
    refine bodyPost_ret (v := .tuple #[.string ⟨#[]⟩, .int .i64 0, .int .i64 41]) (by simp [results, Try.results17, go_sem]) rfl ?_
    exact ⟨rfl, below_to hb (extn_below _ x)⟩
  · rw [if_neg hy] at hE
    rw [hV hE]
    obtain rfl : y = z := by omega
    have g : ((y : Int) != (y : Int)) = false := bne_self_eq_false ..
    clear hE hV hB hy
    go_enter Try.func17, Try.ntmps17
    go_wp2_with fail
    refine (C1.out _).mono ?_
    rintro r w0 ⟨rfl, hb⟩; dsimp only
    go_wp2_with fail
    refine wp_region_ext (by kernel_rfl) (by kernel_rfl) ?_
    repeat (go_big_quiet_step ((first | (go_at_call 48; exact ext_of (C2.out _ _)) | (go_at_call 50; exact ext_of (C3.out _ _)))))
    refine wpQuiet_nil ?_
    intro w1 hx
    obtain ⟨x, rfl⟩ := hx
    go_wp2_with fail
    refine bodyPost_ret (v := .tuple #[.string (s.extract 4 (k + 4)), .int .i64 ((k : Nat) + 8), .int .i64 0]) (by simp [results, Try.results17, go_sem]) rfl ?_
    exact ⟨rfl, below_to hb (extn_below _ x)⟩
end Go.Proofs.Ythlninijnbmjfaa
