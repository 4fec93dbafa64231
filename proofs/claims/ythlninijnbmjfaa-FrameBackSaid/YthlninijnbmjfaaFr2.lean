/- Frames: numbers of four bytes, frames, what is at the front, walked. Conditions: the text is in memory. -/
import Derived.Test.YthlninijnbmjfaaFr1
import Derived.Test.YthlninijnbmjfaaSum5
import Derived.Test.YthlninijnbmjfaaK9
import Derived.Laws.IdiomStrings
namespace Go.Proofs.Ythlninijnbmjfaa
open Go.RowKit

theorem conv_four (w : World) (g : Nat) (a b c d : Int) (l : List UInt8) (hg : Blk w g 5 #[.int .u8 a, .int .u8 b, .int .u8 c, .int .u8 d]) (hl : l.map (fun x => (x.toNat : Int)) = [a, b, c, d]) : (convert 40 9 (.slice (some ⟨g, 0, none⟩) 4 4)).run Try.prog w = .ok (.string (bs l)) w := by
  match l, hl with
  | [x0, x1, x2, x3], hl =>
    simp only [List.map_cons, List.map_nil, List.cons.injEq, and_true] at hl
    obtain ⟨rfl, rfl, rfl, rfl⟩ := hl
    refine run_convert_bytes_back w _ _ _ ⟨g, 0, none⟩ 4 [x0, x1, x2, x3] Try.underlying40 Try.underlying5 Try.underlying9 (fun j hj => ?_)
    have hj : j < 4 := hj
    rcases (show j = 0 ∨ j = 1 ∨ j = 2 ∨ j = 3 by omega) with rfl | rfl | rfl | rfl
    · exact hg.cell 0
    · exact hg.cell 1
    · exact hg.cell 2
    · exact hg.cell 3
theorem fourL_map (x : Nat) (hx : x < 4294967296) : (fourL x).map (fun b => (b.toNat : Int)) = [(x : Int) % 256, (x : Int) / 256 % 256, (x : Int) / 65536 % 256, (x : Int) / 16777216] := by
  simp only [fourL, List.map_cons, List.map_nil]
  rw [u8_nat (by omega), u8_nat (by omega), u8_nat (by omega), u8_nat (by omega)]
  congr 1; congr 1; congr 1; congr 1; omega
set_option maxRecDepth 100000 in
  set_option maxHeartbeats 2000000 in
  theorem fr_four (x : Nat) (hx : x < 4294967296) (w : World) : Calls Try.prog 45 #[.int .u32 x] w fun e w' => e = .returned (.string (bs (fourL x))) ∧ Below w.heap.size w w' := by
    have hc := conv_four _ _ _ _ _ _ (fourL x) (Blk.new w 5 #[.int .u8 ((x : Int) % 256), .int .u8 ((x : Int) / 256 % 256), .int .u8 ((x : Int) / 65536 % 256), .int .u8 ((x : Int) / 16777216)]) (fourL_map x hx)
    go_enter Try.func45, Try.ntmps45
    go_wp2_with fail
    go_ret
    exact ⟨rfl, by go_grown⟩
set_option maxRecDepth 100000 in
    set_option maxHeartbeats 2000000 in
    theorem rf_four (x : Nat) (hx : x < 4294967296) (w : World) : Calls Try.prog 47 #[.int .u32 x] w fun e w' => e = .returned (.string (bs (fourL x))) ∧ Below w.heap.size w w' := by
      have hc := conv_four _ _ _ _ _ _ (fourL x) (Blk.new w 5 #[.int .u8 ((x : Int) % 256), .int .u8 ((x : Int) / 256 % 256), .int .u8 ((x : Int) / 65536 % 256), .int .u8 ((x : Int) / 16777216)]) (fourL_map x hx)
      go_enter Try.func47, Try.ntmps47
      go_wp2_with fail
      go_ret
      exact ⟨rfl, by go_grown⟩
theorem num_bytes (s : ByteArray) (h : 4 ≤ s.size) : numL s.data.toList = s[0].toNat + s[1].toNat * 256 + s[2].toNat * 65536 + s[3].toNat * 16777216 := by
  have e0 := drop_byte s 0 (by omega)
  rw [List.drop_zero, drop_byte s 1 (by omega), drop_byte s 2 (by omega), drop_byte s 3 (by omega)] at e0
  rw [e0]
  rfl
theorem u32_or0 (x : Int) (h0 : 0 ≤ x) (h1 : x < 4294967296) : bits .or .u32 0 x = x := by
  rw [bits_join_low .u32 32 (by decide) wraps_u32 0 0 x (by omega) (by decide) (by decide) h0 (by omega) (by omega)]
  omega
/-- The number so far. -/
def numP (a b c d : Nat) : Nat → Nat
  | 0 => 0
  | 1 => a
  | 2 => a + b * 256
  | 3 => a + b * 256 + c * 65536
  | _ => a + b * 256 + c * 65536 + d * 16777216
set_option maxRecDepth 100000 in
set_option maxHeartbeats 2000000 in
theorem fr_number (s : ByteArray) (h : 4 ≤ s.size) (hs : s.size ≤ 140737488351232) (w : World) : Calls Try.prog 49 #[.string s] w fun e w' => e = .returned (.int .u32 (numL s.data.toList)) ∧ w = w' := by
  have hn := Lib.hid (num_bytes s h)
  have ha : s[0].toNat < 256 := s[0].toNat_lt
  have hb : s[1].toNat < 256 := s[1].toNat_lt
  have hc : s[2].toNat < 256 := s[2].toNat_lt
  have hd : s[3].toNat < 256 := s[3].toNat_lt
  generalize h0 : s[0] = a at *
  generalize h1 : s[1] = b at *
  generalize h2 : s[2] = c at *
  generalize h3 : s[3] = d at *
  generalize numL s.data.toList = z at *
  go_enter Try.func49, Try.ntmps49
  go_wp2_with fail
  go_loop [2, 4] (fun x i => ∃ k : Nat, k ≤ 4 ∧ i = .int .i64 k ∧ x = .int .u32 (numP a.toNat b.toNat c.toNat d.toNat k)) (fun _ i => 4 - (intOf i).toNat)
  case atStart => exact ⟨0, by omega, rfl, rfl⟩
  case round =>
    obtain ⟨k, hk, rfl, rfl⟩ := hrel
    obtain rfl | rfl | rfl | rfl | rfl : k = 0 ∨ k = 1 ∨ k = 2 ∨ k = 3 ∨ k = 4 := by omega
    · rw [show numP a.toNat b.toNat c.toNat d.toNat 0 = 0 from rfl]
      have hv : bits .or .u32 0 (a.toNat : Int) = a.toNat := u32_or0 _ (by omega) (by omega)
      go_wp2
      exact ⟨⟨1, by omega, rfl, rfl⟩, by simp [intOf]⟩
    · rw [show numP a.toNat b.toNat c.toNat d.toNat 1 = a.toNat from rfl]
      have hv : bits .or .u32 (a.toNat : Int) ((b.toNat : Int) * 256) = ((a.toNat + b.toNat * 256 : Nat) : Int) := by
        rw [u32_or8 _ _ (by omega) (by omega) (by omega) (by omega) (by omega)]; omega
      have hp : Hid (numP a.toNat b.toNat c.toNat d.toNat 2 = a.toNat + b.toNat * 256) := Lib.hid rfl
      go_wp2
      exact ⟨⟨2, by omega, rfl, by rw [hp.out]; rfl⟩, by simp [intOf]⟩
    · rw [show numP a.toNat b.toNat c.toNat d.toNat 2 = a.toNat + b.toNat * 256 from rfl]
      obtain ⟨q, hq⟩ : ∃ q, a.toNat + b.toNat * 256 = q := ⟨_, rfl⟩
      have hq' : q < 65536 := by omega
      have hv : bits .or .u32 (q : Int) ((c.toNat : Int) * 65536) = ((q + c.toNat * 65536 : Nat) : Int) := by
        rw [u32_or16 _ _ (by omega) (by omega) (by omega) (by omega) (by omega)]; omega
      have hp : Hid (numP a.toNat b.toNat c.toNat d.toNat 3 = q + c.toNat * 65536) := Lib.hid (by rw [← hq]; rfl)
      rw [hq]
      clear hq
      go_wp2
      exact ⟨⟨3, by omega, rfl, by rw [hp.out]; rfl⟩, by simp [intOf]⟩
    · rw [show numP a.toNat b.toNat c.toNat d.toNat 3 = a.toNat + b.toNat * 256 + c.toNat * 65536 from rfl]
      obtain ⟨q, hq⟩ : ∃ q, a.toNat + b.toNat * 256 + c.toNat * 65536 = q := ⟨_, rfl⟩
      have hq' : q < 16777216 := by omega
      have hv : bits .or .u32 (q : Int) ((d.toNat : Int) * 16777216) = ((q + d.toNat * 16777216 : Nat) : Int) := by
        rw [u32_or24 _ _ (by omega) (by omega) (by omega) (by omega) (by omega)]; omega
      have hp : Hid (numP a.toNat b.toNat c.toNat d.toNat 4 = q + d.toNat * 16777216) := Lib.hid (by rw [← hq]; rfl)
      rw [hq]
      clear hq
      go_wp2
      exact ⟨⟨4, by omega, rfl, by rw [hp.out]; rfl⟩, by simp [intOf]⟩
    · rw [show numP a.toNat b.toNat c.toNat d.toNat 4 = a.toNat + b.toNat * 256 + c.toNat * 65536 + d.toNat * 16777216 from rfl]
      go_wp2
      go_ret
      exact ⟨by rw [hn.out]; rfl, rfl⟩
set_option maxRecDepth 100000 in
set_option maxHeartbeats 2000000 in
theorem rf_number (s : ByteArray) (h : 4 ≤ s.size) (hs : s.size ≤ 140737488351232) (w : World) : Calls Try.prog 50 #[.string s] w fun e w' => e = .returned (.int .u32 (numL s.data.toList)) ∧ Below w.heap.size w w' := by
  have hn := Lib.hid (num_bytes s h)
  have ha : s[0].toNat < 256 := s[0].toNat_lt
  have hb : s[1].toNat < 256 := s[1].toNat_lt
  have hc : s[2].toNat < 256 := s[2].toNat_lt
  have hd : s[3].toNat < 256 := s[3].toNat_lt
  generalize h0 : s[0] = a at *
  generalize h1 : s[1] = b at *
  generalize h2 : s[2] = c at *
  generalize h3 : s[3] = d at *
  generalize numL s.data.toList = z at *
  have v1 : bits .or .u32 (a.toNat : Int) ((b.toNat : Int) * 256) = (a.toNat : Int) + (b.toNat : Int) * 256 := u32_or8 _ _ (by omega) (by omega) (by omega) (by omega) (by omega)
  have v2 : bits .or .u32 ((a.toNat : Int) + (b.toNat : Int) * 256) ((c.toNat : Int) * 65536) = (a.toNat : Int) + (b.toNat : Int) * 256 + (c.toNat : Int) * 65536 := u32_or16 _ _ (by omega) (by omega) (by omega) (by omega) (by omega)
  have v3 : bits .or .u32 ((a.toNat : Int) + (b.toNat : Int) * 256 + (c.toNat : Int) * 65536) ((d.toNat : Int) * 16777216) = (a.toNat : Int) + (b.toNat : Int) * 256 + (c.toNat : Int) * 65536 + (d.toNat : Int) * 16777216 := u32_or24 _ _ (by omega) (by omega) (by omega) (by omega) (by omega)
  go_enter Try.func50, Try.ntmps50
  go_wp2_with fail
  refine wp_region_ext (by kernel_rfl) (by kernel_rfl) ?_
  repeat (go_big_quiet_step ((fail)))
  refine wpQuiet_nil ?_
  intro w1 hx
  obtain ⟨x, rfl⟩ := hx
  go_wp2_with fail
  go_ret
  exact ⟨by rw [hn.out]; rfl, extn_below _ x⟩
theorem size_four (x : Nat) : (bs (fourL x)).size = 4 := rfl
theorem bs_head (s : ByteArray) : bs (fourL s.size) ++ s = bs (headL s.data.toList) := by
  unfold headL
  rw [size_list, bs_append, bs_data]
set_option maxRecDepth 100000 in
  set_option maxHeartbeats 2000000 in
  theorem fr_Frame (s : ByteArray) (hs : s.size ≤ 140737488351232) (w : World) : Calls Try.prog 14 #[.string s] w fun e w' => e = .returned (if 65536 < s.size then .tuple #[.string ⟨#[]⟩, .int .i64 4] else .tuple #[.string (bs (frameL s.data.toList)), .int .i64 0]) ∧ Below w.heap.size w w' := by
    by_cases hbig : 65536 < s.size
    · rw [if_pos hbig]
      go_enter Try.func14, Try.ntmps14
      go_wp2_with fail
      refine bodyPost_ret (v := .tuple #[.string ⟨#[]⟩, .int .i64 4]) (by simp [results, Try.results14, go_sem]) rfl ?_
      exact ⟨rfl, Below.refl _ _⟩
    rw [if_neg hbig]
    have C1 := Lib.hid (fun w => fr_four s.size (by omega) w)
    have e1 : bs (fourL s.size) ++ s = bs (headL s.data.toList) := bs_head s
    have hl : (bs (headL s.data.toList)).size = s.size + 4 := by rw [bs_size, headL_len, size_list]
    have c2 := fun w => sum_Of (bs (headL s.data.toList)) (by omega) w
    rw [bs_list] at c2
    have C2 : Hid (∀ w, Calls _ _ _ w _) := Lib.hid c2
    have C3 := Lib.hid (fun w => fr_four (sumL (headL s.data.toList)) (sumL_lt _) w)
    have hu : u (moreB 0#32 (headL s.data.toList)) = ((sumL (headL s.data.toList) : Nat) : Int) := rfl
    rw [hu] at C2
    have e2 : Hid (bs (headL s.data.toList) ++ bs (fourL (sumL (headL s.data.toList))) = bs (frameL s.data.toList)) := Lib.hid (bs_append _ _).symm
    have z1 := size_four s.size
    have z2 := size_four (sumL (headL s.data.toList))
    clear hu c2
    generalize bs (frameL s.data.toList) = f at *
    generalize sumL (headL s.data.toList) = y at *
    generalize bs (headL s.data.toList) = h at *
    generalize bs (fourL y) = t2 at *
    generalize bs (fourL s.size) = t1 at *
    have hB := below_self w
    go_enter Try.func14, Try.ntmps14
    go_wp2_with fail
    refine (C1.out _).mono ?_
    rintro r ww ⟨rfl, hb⟩; dsimp only
    replace hB := below_to hB hb
    clear hb
    go_wp2_with fail
    refine (C2.out _).mono ?_
    rintro r ww ⟨rfl, hb⟩; dsimp only
    replace hB := below_to hB hb
    clear hb
    go_wp2_with fail
    refine (C3.out _).mono ?_
    rintro r ww ⟨rfl, hb⟩; dsimp only
    replace hB := below_to hB hb
    clear hb
    go_wp2_with fail
    refine bodyPost_ret (v := .tuple #[.string (h ++ t2), .int .i64 0]) (by simp [results, Try.results14, go_sem]) rfl ?_
    exact ⟨by rw [e2.out], hB⟩
set_option maxRecDepth 100000 in
    set_option maxHeartbeats 2000000 in
    theorem rf_Frame (s : ByteArray) (hs : s.size ≤ 140737488351232) (w : World) : Calls Try.prog 15 #[.string s] w fun e w' => e = .returned (if 65536 < s.size then .tuple #[.string ⟨#[]⟩, .int .i64 4] else .tuple #[.string (bs (frameL s.data.toList)), .int .i64 0]) ∧ Below w.heap.size w w' := by
      by_cases hbig : 65536 < s.size
      · rw [if_pos hbig]
        go_enter Try.func15, Try.ntmps15
        go_wp2_with fail
        refine bodyPost_ret (v := .tuple #[.string ⟨#[]⟩, .int .i64 4]) (by simp [results, Try.results15, go_sem]) rfl ?_
        exact ⟨rfl, Below.refl _ _⟩
      rw [if_neg hbig]
      have C1 := Lib.hid (fun w => rf_four s.size (by omega) w)
      have e1 : bs (fourL s.size) ++ s = bs (headL s.data.toList) := bs_head s
      have hl : (bs (headL s.data.toList)).size = s.size + 4 := by rw [bs_size, headL_len, size_list]
      have c2 := fun w => ref_Of02 (bs (headL s.data.toList)) (by omega) w
      rw [bs_list] at c2
      have C2 : Hid (∀ w, Calls _ _ _ w _) := Lib.hid c2
      have C3 := Lib.hid (fun w => rf_four (sumL (headL s.data.toList)) (sumL_lt _) w)
      have hu : u (moreB 0#32 (headL s.data.toList)) = ((sumL (headL s.data.toList) : Nat) : Int) := rfl
      rw [hu] at C2
      have e2 : Hid (bs (headL s.data.toList) ++ bs (fourL (sumL (headL s.data.toList))) = bs (frameL s.data.toList)) := Lib.hid (bs_append _ _).symm
      have z1 := size_four s.size
      have z2 := size_four (sumL (headL s.data.toList))
      clear hu c2
      generalize bs (frameL s.data.toList) = f at *
      generalize sumL (headL s.data.toList) = y at *
      generalize bs (headL s.data.toList) = h at *
      generalize bs (fourL y) = t2 at *
      generalize bs (fourL s.size) = t1 at *
      have hB := below_self w
      go_enter Try.func15, Try.ntmps15
      go_wp2_with fail
      refine (C1.out _).mono ?_
      rintro r ww ⟨rfl, hb⟩; dsimp only
      replace hB := below_to hB hb
      clear hb
      go_wp2_with fail
      refine (C2.out _).mono ?_
      rintro r ww ⟨rfl, rfl⟩; dsimp only
      go_wp2_with fail
      refine (C3.out _).mono ?_
      rintro r ww ⟨rfl, hb⟩; dsimp only
      replace hB := below_to hB hb
      clear hb
      go_wp2_with fail
      refine bodyPost_ret (v := .tuple #[.string (h ++ t2), .int .i64 0]) (by simp [results, Try.results15, go_sem]) rfl ?_
      exact ⟨by rw [e2.out], hB⟩
end Go.Proofs.Ythlninijnbmjfaa
