/- Whole numbers and truths are taken from bytes; the end. Conditions: the text is in memory. -/
import Derived.Test.YteglieoeblehpaaWire3
namespace Go.Proofs.Yteglieoeblehpaa
open Go.RowKit

theorem bits_xor_comm (k : IntKind) (a b : Int) : bits .xor k a b = bits .xor k b a := by
  show k.wrap _ = k.wrap _
  rw [BitVec.xor_comm]
theorem xor_unzig (x : Nat) (hx : x < 18446744073709551616) : bits BinOp.xor IntKind.i64 ((x : Int) / 2) (wrap64 (-wrap64 (bits BinOp.and IntKind.u64 (x : Int) 1))) = unzig x := by
  rw [Lib.u64_and1 _ (by omega) (by omega)]
  have e : ((x : Int) / 2) = ((x / 2 : Nat) : Int) := by omega
  rw [e]
  unfold unzig
  by_cases h : x % 2 = 0
  · rw [if_pos h, show wrap64 (-wrap64 ((x : Int) % 2)) = 0 by unfold wrap64; omega]
    show IntKind.i64.wrap ((BitVec.ofInt 64 ((x / 2 : Nat) : Int) ^^^ BitVec.ofInt 64 0).toNat : Int) = _
    rw [show BitVec.ofInt 64 0 = 0#64 from rfl, BitVec.xor_zero, BitVec.ofInt_natCast, BitVec.toNat_ofNat, Nat.mod_eq_of_lt (by omega), IntKind.wrap_i64]
    omega
  · rw [if_neg h, show wrap64 (-wrap64 ((x : Int) % 2)) = -1 by unfold wrap64; omega, bits_xor_comm, Lib.i64_not _ (by omega)]
set_option maxHeartbeats 2000000 in
theorem rd_Int1 (P B L M : Nat) (s : ByteArray) (f : Int) (least most : Int) (w : World) (hs : s.size ≤ 140737488351232) (h : Rd w P s f) (hB : Blk w B 33 #[.pointer (some ⟨P, 0, none⟩)]) (hL : Blk w L 2 #[.int .i64 least]) (hM : Blk w M 2 #[.int .i64 most]) :
    Calls Try.prog 47 #[.pointer (some ⟨B, 0, none⟩), .pointer (some ⟨L, 0, none⟩), .pointer (some ⟨M, 0, none⟩)] w fun e w' => e = .returned (.tuple #[.int .i64 (qInt s least most).1, .int .i64 (qInt s least most).2.1, .int .i64 (qInt s least most).2.2]) ∧ w = w' := by
  have C := wr_number P s f w hs h
  have hbd := vnum_bd s
  unfold numE at C
  unfold qInt
  dsimp only
  generalize (vnum s).1 = x at *
  generalize (vnum s).2 = n at *
  obtain ⟨Bc, Bf, Bl⟩ := hB.facts
  obtain ⟨Lc, Lf, Ll⟩ := hL.facts
  obtain ⟨Mc, Mf, Ml⟩ := hM.facts
  clear h hB hM hL
  obtain ⟨hb1, hb2⟩ := hbd
  have hz := xor_unzig x hb1
  have hzb := unzig_bd x hb1
  generalize unzig x = z at *
  by_cases hn : n = 0
  · subst hn
    rw [if_pos rfl] at *
    replace C := Lib.hid C
    go_enter Try.func47, Try.ntmps47
    go_wp2_with fail
    refine (C.out).mono ?_
    rintro r ww ⟨rfl, rfl⟩; dsimp only
    go_wp2_with fail
    refine bodyPost_ret (v := .tuple #[.int .i64 z, .int .i64 0, .int .i64 8]) (by simp [results, Try.results47, go_sem]) rfl ?_
    exact ⟨rfl, rfl⟩
  rw [if_neg hn] at *
  replace C := Lib.hid C
  by_cases h1 : z < least
  · rw [if_pos (.inl h1)]
    go_enter Try.func47, Try.ntmps47
    go_wp2_with fail
    refine (C.out).mono ?_
    rintro r ww ⟨rfl, rfl⟩; dsimp only
    go_wp2_with fail
    refine bodyPost_ret (v := .tuple #[.int .i64 z, .int .i64 n, .int .i64 9]) (by simp [results, Try.results47, go_sem]) rfl ?_
    exact ⟨rfl, rfl⟩
  by_cases h2 : most < z
  · rw [if_pos (.inr h2)]
    go_enter Try.func47, Try.ntmps47
    go_wp2_with fail
    refine (C.out).mono ?_
    rintro r ww ⟨rfl, rfl⟩; dsimp only
    go_wp2_with fail
    refine bodyPost_ret (v := .tuple #[.int .i64 z, .int .i64 n, .int .i64 9]) (by simp [results, Try.results47, go_sem]) rfl ?_
    exact ⟨rfl, rfl⟩
  rw [if_neg (not_or.2 ⟨h1, h2⟩)]
  go_enter Try.func47, Try.ntmps47
  go_wp2_with fail
  refine (C.out).mono ?_
  rintro r ww ⟨rfl, rfl⟩; dsimp only
  go_wp2_with fail
  refine bodyPost_ret (v := .tuple #[.int .i64 z, .int .i64 n, .int .i64 0]) (by simp [results, Try.results47, go_sem]) rfl ?_
  exact ⟨rfl, rfl⟩
set_option maxHeartbeats 2000000 in
  theorem take_Int (P B L M: Nat) (s : ByteArray) (f : Int) (y : Int) (n : Nat) (e : Int) (w : World) (hs : s.size ≤ 140737488351232) (h : Rd w P s f) (hn : n ≤ s.size)
      (C : Calls Try.prog 47 #[.pointer (some ⟨B, 0, none⟩), .pointer (some ⟨L, 0, none⟩), .pointer (some ⟨M, 0, none⟩)] w fun r w' => r = .returned (.tuple #[.int .i64 y, .int .i64 n, .int .i64 e]) ∧ w = w') :
      Calls Try.prog 46 #[.pointer (some ⟨P, 0, none⟩), .func (.func 47) #[] #[.pointer (some ⟨B, 0, none⟩), .pointer (some ⟨L, 0, none⟩), .pointer (some ⟨M, 0, none⟩)]] w fun r w' => r = .returned (.int .i64 (rdV f (y, n, e) 0)) ∧ Rd w' P (rdS f (y, n, e) s) (rdF f (y, n, e)) ∧ Kept P w w' := by
    have N := Lib.hid (rd_none P s f w h)
    have H := Lib.hid h
    replace C := Lib.hid C
    obtain ⟨Pc, Pf, Pl⟩ := Blk.facts h
    clear h
    by_cases hf : f = 0
    · subst hf
      by_cases he : e = 0
      · subst he
        rw [show rdV 0 (y, n, 0) 0 = y from rfl, show rdS 0 (y, n, 0) s = s.extract n s.size from rfl, show rdF 0 (y, n, 0) = 0 from rfl]
        go_enter Try.func46, Try.ntmps46
        go_wp2_with fail
        refine (N.out).mono ?_
        rintro r ww ⟨rfl, rfl⟩; dsimp only
        go_wp2_with fail
        refine (C.out).mono ?_
        rintro r ww ⟨rfl, rfl⟩; dsimp only
        go_wp2_with fail
        go_ret
        exact ⟨rfl, Blk.put H.out 0 _ rfl, Kept.set_ 0 _⟩
      · rw [show rdV 0 (y, n, e) 0 = 0 by simp [rdV, he], show rdS 0 (y, n, e) s = s by simp [rdS, he], show rdF 0 (y, n, e) = e from rfl]
        have he' : (e == 0) = false := by simpa using he
        have he'' : (e != 0) = true := by simpa using he
        clear he
        go_enter Try.func46, Try.ntmps46
        go_wp2_with fail
        refine (N.out).mono ?_
        rintro r ww ⟨rfl, rfl⟩; dsimp only
        go_wp2_with fail
        refine (C.out).mono ?_
        rintro r ww ⟨rfl, rfl⟩; dsimp only
        go_wp2_with fail
        go_ret
        exact ⟨rfl, Blk.put H.out 1 _ rfl, Kept.set_ 1 _⟩
    · rw [show rdV f (y, n, e) 0 = 0 by simp [rdV, hf], show rdS f (y, n, e) s = s by simp [rdS, hf], show rdF f (y, n, e) = f by simp [rdF, hf]]
      have hf' : (f == 0) = false := by simpa using hf
      have hf'' : (f != 0) = true := by simpa using hf
      clear hf
      go_enter Try.func46, Try.ntmps46
      go_wp2_with fail
      refine (N.out).mono ?_
      rintro r ww ⟨rfl, rfl⟩; dsimp only
      go_wp2_with fail
      go_ret
      exact ⟨rfl, H.out, Kept.refl _ _⟩
set_option maxHeartbeats 2000000 in
theorem rd_Int (P : Nat) (s : ByteArray) (f : Int) (least most : Int) (w : World) (hs : s.size ≤ 140737488351232) (h : Rd w P s f) :
    Calls Try.prog 27 #[.pointer (some ⟨P, 0, none⟩), .int .i64 least, .int .i64 most] w fun r w' => r = .returned (.int .i64 (rdV f (qInt s least most) 0)) ∧ Rd w' P (rdS f (qInt s least most) s) (rdF f (qInt s least most)) ∧ Kept P w w' := by
  have hq : (qInt s least most).2.1 ≤ s.size := (vnum_bd s).2
  have hR := (((Blk.alloc h (.cells #[.pointer (some ⟨P, 0, none⟩)] 33)).alloc (.cells #[.int .i64 least] 2)).alloc (.cells #[.int .i64 most] 2))
  have C := Lib.hid (take_Int P w.heap.size (w.heap.size + 1) (w.heap.size + 1 + 1) s f (qInt s least most).1 (qInt s least most).2.1 (qInt s least most).2.2 _ hs hR hq (rd_Int1 P _ _ _ s f _ _ _ hs hR (((Blk.new _ _ _).alloc _).alloc _) ((Blk.new1 _ _ _ _).alloc _) (Blk.new2 _ _ _ _ _)))
  generalize qInt s least most = q at *
  clear h hR
  go_enter Try.func27, Try.ntmps27
  go_wp2_with fail
  refine (C.out).mono ?_
  rintro r w1 ⟨rfl, hr, hk⟩; dsimp only
  go_wp2_with fail
  go_ret
  exact ⟨rfl, hr, hk.under (by go_grown)⟩
set_option maxHeartbeats 2000000 in
theorem rd_truth (P : Nat) (s : ByteArray) (f : Int) (w : World) (h : Rd w P s f) :
    Calls Try.prog 60 #[.pointer (some ⟨P, 0, none⟩)] w fun e w' => e = .returned (.tuple #[.bool (qBool s).1, .int .i64 (qBool s).2.1, .int .i64 (qBool s).2.2]) ∧ w = w' := by
  obtain ⟨Pc, Pf, Pl⟩ := Blk.facts h
  clear h
  by_cases h0 : 0 < s.size
  · have he := isE_no s h0
    have hb : qBool s = if 1 < s[0].toNat then (false, 0, 8) else (decide (s[0].toNat = 1), 1, 0) := by
      have hd := drop_byte s 0 h0
      simp only [List.drop_zero] at hd
      unfold qBool
      rw [hd]
    have hc : s[0].toNat < 256 := s[0].toNat_lt
    generalize hc : s[0] = b at *
    by_cases h1 : 1 < b.toNat
    · rw [if_pos h1] at hb
      rw [hb]
      clear hb
      go_enter Try.func60, Try.ntmps60
      go_wp2_with fail
      refine bodyPost_ret (v := .tuple #[.bool false, .int .i64 0, .int .i64 8]) (by simp [results, Try.results60, go_sem]) rfl ?_
      exact ⟨rfl, rfl⟩
    · rw [if_neg h1] at hb
      rw [hb]
      clear hb
      obtain ⟨z, hz⟩ : ∃ z, ((b.toNat : Int) == 1) = z := ⟨_, rfl⟩
      have hz' : decide (b.toNat = 1) = z := by rw [← hz]; by_cases e : b.toNat = 1 <;> simp [e] <;> omega
      rw [hz']
      clear hz'
      go_enter Try.func60, Try.ntmps60
      go_wp2_with fail
      refine bodyPost_ret (v := .tuple #[.bool z, .int .i64 1, .int .i64 0]) (by simp [results, Try.results60, go_sem]) rfl ?_
      exact ⟨rfl, rfl⟩
  · have he := isE_yes s (by omega)
    have hb : qBool s = (false, 0, 8) := by
      unfold qBool
      rw [show s.data.toList = [] from List.eq_nil_of_length_eq_zero (by rw [size_list]; omega)]
    rw [hb]
    clear hb
    go_enter Try.func60, Try.ntmps60
    go_wp2_with fail
    refine bodyPost_ret (v := .tuple #[.bool false, .int .i64 0, .int .i64 8]) (by simp [results, Try.results60, go_sem]) rfl ?_
    exact ⟨rfl, rfl⟩
theorem qBool_bd (s : ByteArray) : (qBool s).2.1 ≤ s.size := by
  unfold qBool
  split
  · exact Nat.zero_le _
  · rename_i b r h
    have := size_list s
    rw [h] at this
    simp only [List.length_cons] at this
    split
    · exact Nat.zero_le _
    · show 1 ≤ s.size; omega
set_option maxHeartbeats 2000000 in
    theorem take_Bool (P : Nat) (s : ByteArray) (f : Int) (y : Bool) (n : Nat) (e : Int) (w : World) (hs : s.size ≤ 140737488351232) (h : Rd w P s f) (hn : n ≤ s.size)
        (C : Calls Try.prog 60 #[.pointer (some ⟨P, 0, none⟩)] w fun r w' => r = .returned (.tuple #[.bool y, .int .i64 n, .int .i64 e]) ∧ w = w') :
        Calls Try.prog 59 #[.pointer (some ⟨P, 0, none⟩), .func (.func 60) #[.pointer (some ⟨P, 0, none⟩)] #[]] w fun r w' => r = .returned (.bool (rdV f (y, n, e) false)) ∧ Rd w' P (rdS f (y, n, e) s) (rdF f (y, n, e)) ∧ Kept P w w' := by
      have N := Lib.hid (rd_none P s f w h)
      have H := Lib.hid h
      replace C := Lib.hid C
      obtain ⟨Pc, Pf, Pl⟩ := Blk.facts h
      clear h
      by_cases hf : f = 0
      · subst hf
        by_cases he : e = 0
        · subst he
          rw [show rdV 0 (y, n, 0) false = y from rfl, show rdS 0 (y, n, 0) s = s.extract n s.size from rfl, show rdF 0 (y, n, 0) = 0 from rfl]
          go_enter Try.func59, Try.ntmps59
          go_wp2_with fail
          refine (N.out).mono ?_
          rintro r ww ⟨rfl, rfl⟩; dsimp only
          go_wp2_with fail
          refine (C.out).mono ?_
          rintro r ww ⟨rfl, rfl⟩; dsimp only
          go_wp2_with fail
          go_ret
          exact ⟨rfl, Blk.put H.out 0 _ rfl, Kept.set_ 0 _⟩
        · rw [show rdV 0 (y, n, e) false = false by simp [rdV, he], show rdS 0 (y, n, e) s = s by simp [rdS, he], show rdF 0 (y, n, e) = e from rfl]
          have he' : (e == 0) = false := by simpa using he
          have he'' : (e != 0) = true := by simpa using he
          clear he
          go_enter Try.func59, Try.ntmps59
          go_wp2_with fail
          refine (N.out).mono ?_
          rintro r ww ⟨rfl, rfl⟩; dsimp only
          go_wp2_with fail
          refine (C.out).mono ?_
          rintro r ww ⟨rfl, rfl⟩; dsimp only
          go_wp2_with fail
          go_ret
          exact ⟨rfl, Blk.put H.out 1 _ rfl, Kept.set_ 1 _⟩
      · rw [show rdV f (y, n, e) false = false by simp [rdV, hf], show rdS f (y, n, e) s = s by simp [rdS, hf], show rdF f (y, n, e) = f by simp [rdF, hf]]
        have hf' : (f == 0) = false := by simpa using hf
        have hf'' : (f != 0) = true := by simpa using hf
        clear hf
        go_enter Try.func59, Try.ntmps59
        go_wp2_with fail
        refine (N.out).mono ?_
        rintro r ww ⟨rfl, rfl⟩; dsimp only
        go_wp2_with fail
        go_ret
        exact ⟨rfl, H.out, Kept.refl _ _⟩
set_option maxHeartbeats 2000000 in
theorem rd_Bool (P : Nat) (s : ByteArray) (f : Int) (w : World) (hs : s.size ≤ 140737488351232) (h : Rd w P s f) :
    Calls Try.prog 31 #[.pointer (some ⟨P, 0, none⟩)] w fun r w' => r = .returned (.bool (rdV f (qBool s) false)) ∧ Rd w' P (rdS f (qBool s) s) (rdF f (qBool s)) ∧ Kept P w w' := by
  have N := Lib.hid (rd_none P s f w h)
  have C := Lib.hid (take_Bool P s f (qBool s).1 (qBool s).2.1 (qBool s).2.2 _ hs h (qBool_bd s) (rd_truth P s f w h))
  generalize qBool s = q at *
  clear h
  go_enter Try.func31, Try.ntmps31
  go_wp2_with fail
  refine (N.out).mono ?_
  rintro r ww ⟨rfl, rfl⟩; dsimp only
  go_wp2_with fail
  refine (C.out).mono ?_
  rintro r w1 ⟨rfl, hr, hk⟩; dsimp only
  go_wp2_with fail
  go_ret
  exact ⟨rfl, hr, hk⟩
set_option maxHeartbeats 2000000 in
theorem rd_End (P : Nat) (s : ByteArray) (f : Int) (w : World) (h : Rd w P s f) :
    Calls Try.prog 23 #[.pointer (some ⟨P, 0, none⟩)] w fun r w' => r = .returned (.int .i64 (endF s f)) ∧ Rd w' P s (endF s f) ∧ Kept P w w' := by
  have N := Lib.hid (rd_none P s f w h)
  have E := Lib.hid (rd_Err P s f w h)
  have H := Lib.hid h
  obtain ⟨Pc, Pf, Pl⟩ := Blk.facts h
  clear h
  by_cases hf : f = 0
  · subst hf
    by_cases h0 : 0 < s.size
    · have he := isE_no s h0
      have hr : Rd (w.setCell ⟨P, 1, none⟩ (.int .i64 8)) P s 8 := Blk.put H.out 1 _ rfl
      have C := Lib.hid (rd_Err P s 8 _ hr)
      rw [show endF s 0 = 8 by unfold endF; rw [if_pos ⟨rfl, h0⟩]]
      have HR := Lib.hid hr
      clear hr h0
      go_enter Try.func23, Try.ntmps23
      go_wp2_with fail
      refine (N.out).mono ?_
      rintro r ww ⟨rfl, rfl⟩; dsimp only
      go_wp2_with fail
      refine (C.out).mono ?_
      rintro r w1 ⟨rfl, rfl⟩; dsimp only
      go_wp2_with fail
      go_ret
      exact ⟨rfl, HR.out, Kept.set_ 1 _⟩
    · have he := isE_yes s (by omega)
      rw [show endF s 0 = 0 by unfold endF; rw [if_neg (fun h => h0 h.2)]]
      clear h0
      go_enter Try.func23, Try.ntmps23
      go_wp2_with fail
      refine (N.out).mono ?_
      rintro r ww ⟨rfl, rfl⟩; dsimp only
      go_wp2_with fail
      refine (E.out).mono ?_
      rintro r ww ⟨rfl, rfl⟩; dsimp only
      go_wp2_with fail
      go_ret
      exact ⟨rfl, H.out, Kept.refl _ _⟩
  · rw [show endF s f = f by unfold endF; rw [if_neg (fun h => hf h.1)]]
    have hf' : (f == 0) = false := by simpa using hf
    clear hf
    go_enter Try.func23, Try.ntmps23
    go_wp2_with fail
    refine (N.out).mono ?_
    rintro r ww ⟨rfl, rfl⟩; dsimp only
    go_wp2_with fail
    refine (E.out).mono ?_
    rintro r ww ⟨rfl, rfl⟩; dsimp only
    go_wp2_with fail
    go_ret
    exact ⟨rfl, H.out, Kept.refl _ _⟩
theorem rd_New (s : ByteArray) (w : World) : Calls Try.prog 21 #[.string s] w fun r w' => r = .returned (.pointer (some ⟨w.heap.size, 0, none⟩)) ∧ Rd w' w.heap.size s 0 ∧ Below w.heap.size w w' := by
  go_enter Try.func21, Try.ntmps21
  go_wp2_with fail
  go_ret
  exact ⟨rfl, Blk.new _ _ _, by go_grown⟩
end Go.Proofs.Yteglieoeblehpaa
