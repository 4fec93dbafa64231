/- Bricks are taken from bytes, one by one. Conditions: the text is in memory. -/
import Derived.Test.YteglieoeblehpaaWire1
import Derived.Test.YteglieoeblehpaaK9
namespace Go.Proofs.Yteglieoeblehpaa
open Go.RowKit

set_option maxHeartbeats 1000000 in
theorem rd_none (P : Nat) (s : ByteArray) (f : Int) (w : World) (h : Rd w P s f) :
    Calls Try.prog 42 #[.pointer (some ⟨P, 0, none⟩)] w fun e w' => e = .returned (.bool false) ∧ w = w' := by
  obtain ⟨Pc, Pf, Pl⟩ := Blk.facts h
  clear h
  go_enter Try.func42, Try.ntmps42
  go_wp2_with fail
  go_ret
  exact ⟨rfl, rfl⟩
set_option maxHeartbeats 1000000 in
theorem rd_Left (P : Nat) (s : ByteArray) (f : Int) (w : World) (h : Rd w P s f) :
    Calls Try.prog 26 #[.pointer (some ⟨P, 0, none⟩)] w fun e w' => e = .returned (.int .i64 s.size) ∧ w = w' := by
  have C := Lib.hid (rd_none P s f w h)
  obtain ⟨Pc, Pf, Pl⟩ := Blk.facts h
  clear h
  go_enter Try.func26, Try.ntmps26
  go_wp2_with fail
  refine (C.out).mono ?_
  rintro r ww ⟨rfl, rfl⟩; dsimp only
  go_wp2_with fail
  go_ret
  exact ⟨rfl, rfl⟩
set_option maxHeartbeats 1000000 in
theorem rd_Err (P : Nat) (s : ByteArray) (f : Int) (w : World) (h : Rd w P s f) :
    Calls Try.prog 25 #[.pointer (some ⟨P, 0, none⟩)] w fun e w' => e = .returned (.int .i64 f) ∧ w = w' := by
  have C := Lib.hid (rd_none P s f w h)
  obtain ⟨Pc, Pf, Pl⟩ := Blk.facts h
  clear h
  go_enter Try.func25, Try.ntmps25
  go_wp2_with fail
  refine (C.out).mono ?_
  rintro r ww ⟨rfl, rfl⟩; dsimp only
  go_wp2_with fail
  go_ret
  exact ⟨rfl, rfl⟩
set_option maxHeartbeats 1000000 in
theorem rd_Uint1 (P B M : Nat) (s : ByteArray) (f : Int) (most : Nat) (w : World) (hs : s.size ≤ 140737488351232) (h : Rd w P s f) (hB : Blk w B 33 #[.pointer (some ⟨P, 0, none⟩)]) (hM : Blk w M 22 #[.int .u64 most]) :
    Calls Try.prog 44 #[.pointer (some ⟨B, 0, none⟩), .pointer (some ⟨M, 0, none⟩)] w fun e w' => e = .returned (.tuple #[.int .u64 (qUint s most).1, .int .i64 (qUint s most).2.1, .int .i64 (qUint s most).2.2]) ∧ w = w' := by
  have C := wr_number P s f w hs h
  unfold numE at C
  unfold qUint
  dsimp only
  generalize (vnum s).1 = x at *
  generalize (vnum s).2 = n at *
  obtain ⟨Bc, Bf, Bl⟩ := hB.facts
  obtain ⟨Mc, Mf, Ml⟩ := hM.facts
  clear h hB hM
  by_cases hn : n = 0
  · subst hn
    rw [if_pos rfl] at *
    replace C := Lib.hid C
    go_enter Try.func44, Try.ntmps44
    go_wp2_with fail
    refine (C.out).mono ?_
    rintro r ww ⟨rfl, rfl⟩; dsimp only
    go_wp2_with fail
    refine bodyPost_ret (v := .tuple #[.int .u64 x, .int .i64 0, .int .i64 8]) (by simp [results, Try.results44, go_sem]) rfl ?_
    exact ⟨rfl, rfl⟩
  · rw [if_neg hn] at *
    replace C := Lib.hid C
    by_cases hx : most < x
    · rw [if_pos hx]
      go_enter Try.func44, Try.ntmps44
      go_wp2_with fail
      refine (C.out).mono ?_
      rintro r ww ⟨rfl, rfl⟩; dsimp only
      go_wp2_with fail
      refine bodyPost_ret (v := .tuple #[.int .u64 x, .int .i64 n, .int .i64 9]) (by simp [results, Try.results44, go_sem]) rfl ?_
      exact ⟨rfl, rfl⟩
    · rw [if_neg hx]
      go_enter Try.func44, Try.ntmps44
      go_wp2_with fail
      refine (C.out).mono ?_
      rintro r ww ⟨rfl, rfl⟩; dsimp only
      go_wp2_with fail
      refine bodyPost_ret (v := .tuple #[.int .u64 x, .int .i64 n, .int .i64 0]) (by simp [results, Try.results44, go_sem]) rfl ?_
      exact ⟨rfl, rfl⟩
set_option maxHeartbeats 2000000 in
      theorem take_Uint (P B M: Nat) (s : ByteArray) (f : Int) (y : Int) (n : Nat) (e : Int) (w : World) (hs : s.size ≤ 140737488351232) (h : Rd w P s f) (hn : n ≤ s.size)
          (C : Calls Try.prog 44 #[.pointer (some ⟨B, 0, none⟩), .pointer (some ⟨M, 0, none⟩)] w fun r w' => r = .returned (.tuple #[.int .u64 y, .int .i64 n, .int .i64 e]) ∧ w = w') :
          Calls Try.prog 43 #[.pointer (some ⟨P, 0, none⟩), .func (.func 44) #[] #[.pointer (some ⟨B, 0, none⟩), .pointer (some ⟨M, 0, none⟩)]] w fun r w' => r = .returned (.int .u64 (rdV f (y, n, e) 0)) ∧ Rd w' P (rdS f (y, n, e) s) (rdF f (y, n, e)) ∧ Kept P w w' := by
        have N := Lib.hid (rd_none P s f w h)
        have H := Lib.hid h
        replace C := Lib.hid C
        obtain ⟨Pc, Pf, Pl⟩ := Blk.facts h
        clear h
        by_cases hf : f = 0
        · subst hf
          by_cases he : e = 0
          · subst he
            rw [show rdV 0 (y, n, 0) 0 = y from rfl, show rdS 0 (y, n, 0) s = s.extract n s.size from rfl, show rdF 0 (y, n, 0) = 0 from rfl]
            go_enter Try.func43, Try.ntmps43
            go_wp2_with fail
            refine (N.out).mono ?_
            rintro r ww ⟨rfl, rfl⟩; dsimp only
            go_wp2_with fail
            refine (C.out).mono ?_
            rintro r ww ⟨rfl, rfl⟩; dsimp only
            go_wp2_with fail
            go_ret
            exact ⟨rfl, Blk.put H.out 0 _ rfl, Kept.set_ 0 _⟩
          · rw [show rdV 0 (y, n, e) 0 = 0 by simp [rdV, he], show rdS 0 (y, n, e) s = s by simp [rdS, he], show rdF 0 (y, n, e) = e from rfl]
            have he' : (e == 0) = false := by simpa using he
            have he'' : (e != 0) = true := by simpa using he
            clear he
            go_enter Try.func43, Try.ntmps43
            go_wp2_with fail
            refine (N.out).mono ?_
            rintro r ww ⟨rfl, rfl⟩; dsimp only
            go_wp2_with fail
            refine (C.out).mono ?_
            rintro r ww ⟨rfl, rfl⟩; dsimp only
            go_wp2_with fail
            go_ret
            exact ⟨rfl, Blk.put H.out 1 _ rfl, Kept.set_ 1 _⟩
        · rw [show rdV f (y, n, e) 0 = 0 by simp [rdV, hf], show rdS f (y, n, e) s = s by simp [rdS, hf], show rdF f (y, n, e) = f by simp [rdF, hf]]
          have hf' : (f == 0) = false := by simpa using hf
          have hf'' : (f != 0) = true := by simpa using hf
          clear hf
          go_enter Try.func43, Try.ntmps43
          go_wp2_with fail
          refine (N.out).mono ?_
          rintro r ww ⟨rfl, rfl⟩; dsimp only
          go_wp2_with fail
          go_ret
          exact ⟨rfl, H.out, Kept.refl _ _⟩
set_option maxHeartbeats 2000000 in
          theorem rd_Uint (P : Nat) (s : ByteArray) (f : Int) (most : Nat) (w : World) (hs : s.size ≤ 140737488351232) (h : Rd w P s f) :
              Calls Try.prog 24 #[.pointer (some ⟨P, 0, none⟩), .int .u64 most] w fun r w' => r = .returned (.int .u64 (rdV f (qUint s most) 0)) ∧ Rd w' P (rdS f (qUint s most) s) (rdF f (qUint s most)) ∧ Kept P w w' := by
            have hq : (qUint s most).2.1 ≤ s.size := (vnum_bd s).2
            have hR := ((Blk.alloc h (.cells #[.pointer (some ⟨P, 0, none⟩)] 33)).alloc (.cells #[.int .u64 most] 22))
            have C := Lib.hid (take_Uint P w.heap.size (w.heap.size + 1) s f (qUint s most).1 (qUint s most).2.1 (qUint s most).2.2 _ hs hR hq (rd_Uint1 P _ _ s f _ _ hs hR ((Blk.new _ _ _).alloc _) (Blk.new1 _ _ _ _)))
            generalize qUint s most = q at *
            clear h hR
            go_enter Try.func24, Try.ntmps24
            go_wp2_with fail
            refine (C.out).mono ?_
            rintro r w1 ⟨rfl, hr, hk⟩; dsimp only
            go_wp2_with fail
            go_ret
            exact ⟨rfl, hr, hk.under (by go_grown)⟩
set_option maxHeartbeats 2000000 in
theorem rd_count (P : Nat) (s : ByteArray) (f : Int) (most : Int) (w : World) (hs : s.size ≤ 140737488351232) (h : Rd w P s f) (hm0 : -9223372036854775808 ≤ most) (hm1 : most ≤ 9223372036854775807) :
    Calls Try.prog 56 #[.pointer (some ⟨P, 0, none⟩), .int .i64 most] w fun e w' => e = .returned (.tuple #[.int .i64 (qCount s most).1, .int .i64 (qCount s most).2.1, .int .i64 (qCount s most).2.2]) ∧ w = w' := by
  have C := wr_number P s f w hs h
  have hbd := vnum_bd s
  unfold numE at C
  obtain ⟨Pc, Pf, Pl⟩ := Blk.facts h
  clear h
  unfold qCount cntE
  generalize (vnum s).1 = x at *
  generalize (vnum s).2 = n at *
  obtain ⟨hb1, hb2⟩ := hbd
  by_cases hn : n = 0
  · subst hn
    rw [if_pos rfl] at *
    rw [if_neg (by decide)]
    replace C := Lib.hid C
    go_enter Try.func56, Try.ntmps56
    go_wp2_with fail
    refine (C.out).mono ?_
    rintro r ww ⟨rfl, rfl⟩; dsimp only
    go_wp2_with fail
    refine bodyPost_ret (v := .tuple #[.int .i64 0, .int .i64 0, .int .i64 8]) (by simp [results, Try.results56, go_sem]) rfl ?_
    exact ⟨rfl, rfl⟩
  rw [if_neg hn] at *
  replace C := Lib.hid C
  by_cases hm : most < x
  · rw [if_pos hm, if_neg (by decide)]
    by_cases hmz : most < 0
    · go_enter Try.func56, Try.ntmps56
      go_wp2_with fail
      refine (C.out).mono ?_
      rintro r ww ⟨rfl, rfl⟩; dsimp only
      go_wp2_with fail
      refine bodyPost_ret (v := .tuple #[.int .i64 0, .int .i64 0, .int .i64 4]) (by simp [results, Try.results56, go_sem]) rfl ?_
      exact ⟨rfl, rfl⟩
    · go_enter Try.func56, Try.ntmps56
      go_wp2_with fail
      refine (C.out).mono ?_
      rintro r ww ⟨rfl, rfl⟩; dsimp only
      go_wp2_with fail
      refine bodyPost_ret (v := .tuple #[.int .i64 0, .int .i64 0, .int .i64 4]) (by simp [results, Try.results56, go_sem]) rfl ?_
      exact ⟨rfl, rfl⟩
  rw [if_neg hm]
  have hmz : ¬ most < 0 := by omega
  by_cases hx : s.size < x + n
  · rw [if_pos hx, if_neg (by decide)]
    have hx' : (s.size : Int) - n < x := by omega
    go_enter Try.func56, Try.ntmps56
    go_wp2_with fail
    refine (C.out).mono ?_
    rintro r ww ⟨rfl, rfl⟩; dsimp only
    go_wp2_with fail
    refine bodyPost_ret (v := .tuple #[.int .i64 0, .int .i64 0, .int .i64 8]) (by simp [results, Try.results56, go_sem]) rfl ?_
    exact ⟨rfl, rfl⟩
  · rw [if_neg hx, if_pos rfl]
    have hx' : ¬ (s.size : Int) - n < x := by omega
    go_enter Try.func56, Try.ntmps56
    go_wp2_with fail
    refine (C.out).mono ?_
    rintro r ww ⟨rfl, rfl⟩; dsimp only
    go_wp2_with fail
    refine bodyPost_ret (v := .tuple #[.int .i64 x, .int .i64 n, .int .i64 0]) (by simp [results, Try.results56, go_sem]) rfl ?_
    exact ⟨rfl, rfl⟩
set_option maxHeartbeats 2000000 in
theorem rd_Count1 (P B M : Nat) (s : ByteArray) (f : Int) (most : Int) (w : World) (hs : s.size ≤ 140737488351232) (h : Rd w P s f) (hB : Blk w B 33 #[.pointer (some ⟨P, 0, none⟩)]) (hM : Blk w M 3 #[.int .i64 most]) (hm0 : -9223372036854775808 ≤ most) (hm1 : most ≤ 9223372036854775807) :
    Calls Try.prog 58 #[.pointer (some ⟨B, 0, none⟩), .pointer (some ⟨M, 0, none⟩)] w fun e w' => e = .returned (.tuple #[.int .i64 (qCountI s most).1, .int .i64 (qCountI s most).2.1, .int .i64 (qCountI s most).2.2]) ∧ w = w' := by
  have C := Lib.hid (rd_count P s f most w hs h hm0 hm1)
  unfold qCountI
  generalize qCount s most = q at *
  obtain ⟨x, n, e⟩ := q
  obtain ⟨Bc, Bf, Bl⟩ := hB.facts
  obtain ⟨Mc, Mf, Ml⟩ := hM.facts
  clear h hB hM
  go_enter Try.func58, Try.ntmps58
  go_wp2_with fail
  refine (C.out).mono ?_
  rintro r ww ⟨rfl, rfl⟩; dsimp only
  go_wp2_with fail
  refine bodyPost_ret (v := .tuple #[.int .i64 x, .int .i64 n, .int .i64 e]) (by simp [results, Try.results58, go_sem]) rfl ?_
  exact ⟨rfl, rfl⟩
theorem qCount_bd (s : ByteArray) (most : Int) : (qCount s most).2.1 + (qCount s most).1 ≤ s.size := by
  unfold qCount
  by_cases h : cntE s most = 0
  · rw [if_pos h]
    unfold cntE at h
    by_cases h1 : (vnum s).2 = 0
    · rw [if_pos h1] at h; exact absurd h (by decide)
    rw [if_neg h1] at h
    by_cases h2 : most < (vnum s).1
    · rw [if_pos h2] at h; exact absurd h (by decide)
    rw [if_neg h2] at h
    by_cases h3 : s.size < (vnum s).1 + (vnum s).2
    · rw [if_pos h3] at h; exact absurd h (by decide)
    show (vnum s).2 + (vnum s).1 ≤ s.size
    omega
  · rw [if_neg h]; exact Nat.zero_le _
set_option maxHeartbeats 2000000 in
theorem rd_Text1 (P B M : Nat) (s : ByteArray) (f : Int) (most : Int) (w : World) (hs : s.size ≤ 140737488351232) (h : Rd w P s f) (hB : Blk w B 33 #[.pointer (some ⟨P, 0, none⟩)]) (hM : Blk w M 3 #[.int .i64 most]) (hm0 : -9223372036854775808 ≤ most) (hm1 : most ≤ 9223372036854775807) :
    Calls Try.prog 55 #[.pointer (some ⟨B, 0, none⟩), .pointer (some ⟨M, 0, none⟩)] w fun e w' => e = .returned (.tuple #[.string (qText s most).1, .int .i64 (qText s most).2.1, .int .i64 (qText s most).2.2]) ∧ w = w' := by
  have C := Lib.hid (rd_count P s f most w hs h hm0 hm1)
  have hbd := qCount_bd s most
  unfold qText
  generalize qCount s most = q at *
  obtain ⟨x, n, e⟩ := q
  dsimp only at hbd ⊢
  obtain ⟨Bc, Bf, Bl⟩ := hB.facts
  obtain ⟨Mc, Mf, Ml⟩ := hM.facts
  obtain ⟨Pc, Pf, Pl⟩ := Blk.facts h
  clear h hB hM
  go_enter Try.func55, Try.ntmps55
  go_wp2_with fail
  refine (C.out).mono ?_
  rintro r ww ⟨rfl, rfl⟩; dsimp only
  go_wp2_with fail
  refine bodyPost_ret (v := .tuple #[.string (s.extract n (n + x)), .int .i64 (n + x : Nat), .int .i64 e]) (by simp [results, Try.results55, go_sem]) rfl ?_
  exact ⟨rfl, rfl⟩
theorem qText_bd (s : ByteArray) (most : Int) : (qText s most).2.1 ≤ s.size := qCount_bd s most
theorem qCountI_bd (s : ByteArray) (most : Int) : (qCountI s most).2.1 ≤ s.size := by
  have h := qCount_bd s most
  show (qCount s most).2.1 ≤ s.size
  omega
set_option maxHeartbeats 2000000 in
  theorem take_Count (P B M: Nat) (s : ByteArray) (f : Int) (y : Int) (n : Nat) (e : Int) (w : World) (hs : s.size ≤ 140737488351232) (h : Rd w P s f) (hn : n ≤ s.size)
      (C : Calls Try.prog 58 #[.pointer (some ⟨B, 0, none⟩), .pointer (some ⟨M, 0, none⟩)] w fun r w' => r = .returned (.tuple #[.int .i64 y, .int .i64 n, .int .i64 e]) ∧ w = w') :
      Calls Try.prog 57 #[.pointer (some ⟨P, 0, none⟩), .func (.func 58) #[] #[.pointer (some ⟨B, 0, none⟩), .pointer (some ⟨M, 0, none⟩)]] w fun r w' => r = .returned (.int .i64 (rdV f (y, n, e) 0)) ∧ Rd w' P (rdS f (y, n, e) s) (rdF f (y, n, e)) ∧ Kept P w w' := by
    have N := Lib.hid (rd_none P s f w h)
    have H := Lib.hid h
    replace C := Lib.hid C
    obtain ⟨Pc, Pf, Pl⟩ := Blk.facts h
    clear h
    by_cases hf : f = 0
    · subst hf
      by_cases he : e = 0
      · subst he
        rw [show rdV 0 (y, n, 0) 0 = y from rfl, show rdS 0 (y, n, 0) s = s.extract n s.size from rfl, show rdF 0 (y, n, 0) = 0 from rfl]
        go_enter Try.func57, Try.ntmps57
        go_wp2_with fail
        refine (N.out).mono ?_
        rintro r ww ⟨rfl, rfl⟩; dsimp only
        go_wp2_with fail
        refine (C.out).mono ?_
        rintro r ww ⟨rfl, rfl⟩; dsimp only
        go_wp2_with fail
        go_ret
        exact ⟨rfl, Blk.put H.out 0 _ rfl, Kept.set_ 0 _⟩
      · rw [show rdV 0 (y, n, e) 0 = 0 by simp [rdV, he], show rdS 0 (y, n, e) s = s by simp [rdS, he], show rdF 0 (y, n, e) = e from rfl]
        have he' : (e == 0) = false := by simpa using he
        have he'' : (e != 0) = true := by simpa using he
        clear he
        go_enter Try.func57, Try.ntmps57
        go_wp2_with fail
        refine (N.out).mono ?_
        rintro r ww ⟨rfl, rfl⟩; dsimp only
        go_wp2_with fail
        refine (C.out).mono ?_
        rintro r ww ⟨rfl, rfl⟩; dsimp only
        go_wp2_with fail
        go_ret
        exact ⟨rfl, Blk.put H.out 1 _ rfl, Kept.set_ 1 _⟩
    · rw [show rdV f (y, n, e) 0 = 0 by simp [rdV, hf], show rdS f (y, n, e) s = s by simp [rdS, hf], show rdF f (y, n, e) = f by simp [rdF, hf]]
      have hf' : (f == 0) = false := by simpa using hf
      have hf'' : (f != 0) = true := by simpa using hf
      clear hf
      go_enter Try.func57, Try.ntmps57
      go_wp2_with fail
      refine (N.out).mono ?_
      rintro r ww ⟨rfl, rfl⟩; dsimp only
      go_wp2_with fail
      go_ret
      exact ⟨rfl, H.out, Kept.refl _ _⟩
set_option maxHeartbeats 2000000 in
      theorem take_Text (P B M: Nat) (s : ByteArray) (f : Int) (y : ByteArray) (n : Nat) (e : Int) (w : World) (hs : s.size ≤ 140737488351232) (h : Rd w P s f) (hn : n ≤ s.size)
          (C : Calls Try.prog 55 #[.pointer (some ⟨B, 0, none⟩), .pointer (some ⟨M, 0, none⟩)] w fun r w' => r = .returned (.tuple #[.string y, .int .i64 n, .int .i64 e]) ∧ w = w') :
          Calls Try.prog 54 #[.pointer (some ⟨P, 0, none⟩), .func (.func 55) #[] #[.pointer (some ⟨B, 0, none⟩), .pointer (some ⟨M, 0, none⟩)]] w fun r w' => r = .returned (.string (rdV f (y, n, e) ByteArray.empty)) ∧ Rd w' P (rdS f (y, n, e) s) (rdF f (y, n, e)) ∧ Kept P w w' := by
        have N := Lib.hid (rd_none P s f w h)
        have H := Lib.hid h
        replace C := Lib.hid C
        obtain ⟨Pc, Pf, Pl⟩ := Blk.facts h
        clear h
        by_cases hf : f = 0
        · subst hf
          by_cases he : e = 0
          · subst he
            rw [show rdV 0 (y, n, 0) ByteArray.empty = y from rfl, show rdS 0 (y, n, 0) s = s.extract n s.size from rfl, show rdF 0 (y, n, 0) = 0 from rfl]
            go_enter Try.func54, Try.ntmps54
            go_wp2_with fail
            refine (N.out).mono ?_
            rintro r ww ⟨rfl, rfl⟩; dsimp only
            go_wp2_with fail
            refine (C.out).mono ?_
            rintro r ww ⟨rfl, rfl⟩; dsimp only
            go_wp2_with fail
            go_ret
            exact ⟨rfl, Blk.put H.out 0 _ rfl, Kept.set_ 0 _⟩
          · rw [show rdV 0 (y, n, e) ByteArray.empty = ByteArray.empty by simp [rdV, he], show rdS 0 (y, n, e) s = s by simp [rdS, he], show rdF 0 (y, n, e) = e from rfl]
            have he' : (e == 0) = false := by simpa using he
            have he'' : (e != 0) = true := by simpa using he
            clear he
            go_enter Try.func54, Try.ntmps54
            go_wp2_with fail
            refine (N.out).mono ?_
            rintro r ww ⟨rfl, rfl⟩; dsimp only
            go_wp2_with fail
            refine (C.out).mono ?_
            rintro r ww ⟨rfl, rfl⟩; dsimp only
            go_wp2_with fail
            go_ret
            exact ⟨rfl, Blk.put H.out 1 _ rfl, Kept.set_ 1 _⟩
        · rw [show rdV f (y, n, e) ByteArray.empty = ByteArray.empty by simp [rdV, hf], show rdS f (y, n, e) s = s by simp [rdS, hf], show rdF f (y, n, e) = f by simp [rdF, hf]]
          have hf' : (f == 0) = false := by simpa using hf
          have hf'' : (f != 0) = true := by simpa using hf
          clear hf
          go_enter Try.func54, Try.ntmps54
          go_wp2_with fail
          refine (N.out).mono ?_
          rintro r ww ⟨rfl, rfl⟩; dsimp only
          go_wp2_with fail
          go_ret
          exact ⟨rfl, H.out, Kept.refl _ _⟩
set_option maxHeartbeats 2000000 in
          theorem rd_Count (P : Nat) (s : ByteArray) (f : Int) (most : Int) (hm0 : -9223372036854775808 ≤ most) (hm1 : most ≤ 9223372036854775807) (w : World) (hs : s.size ≤ 140737488351232) (h : Rd w P s f) :
              Calls Try.prog 30 #[.pointer (some ⟨P, 0, none⟩), .int .i64 most] w fun r w' => r = .returned (.int .i64 (rdV f (qCountI s most) 0)) ∧ Rd w' P (rdS f (qCountI s most) s) (rdF f (qCountI s most)) ∧ Kept P w w' := by
            have hq : (qCountI s most).2.1 ≤ s.size := (qCountI_bd s most)
            have hR := ((Blk.alloc h (.cells #[.pointer (some ⟨P, 0, none⟩)] 33)).alloc (.cells #[.int .i64 most] 3))
            have C := Lib.hid (take_Count P w.heap.size (w.heap.size + 1) s f (qCountI s most).1 (qCountI s most).2.1 (qCountI s most).2.2 _ hs hR hq (rd_Count1 P _ _ s f most _ hs hR ((Blk.new _ _ _).alloc _) (Blk.new1 _ _ _ _) hm0 hm1))
            generalize qCountI s most = q at *
            clear h hR
            go_enter Try.func30, Try.ntmps30
            go_wp2_with fail
            refine (C.out).mono ?_
            rintro r w1 ⟨rfl, hr, hk⟩; dsimp only
            go_wp2_with fail
            go_ret
            exact ⟨rfl, hr, hk.under (by go_grown)⟩
set_option maxHeartbeats 2000000 in
            theorem rd_Text (P : Nat) (s : ByteArray) (f : Int) (most : Int) (hm0 : -9223372036854775808 ≤ most) (hm1 : most ≤ 9223372036854775807) (w : World) (hs : s.size ≤ 140737488351232) (h : Rd w P s f) :
                Calls Try.prog 29 #[.pointer (some ⟨P, 0, none⟩), .int .i64 most] w fun r w' => r = .returned (.string (rdV f (qText s most) ByteArray.empty)) ∧ Rd w' P (rdS f (qText s most) s) (rdF f (qText s most)) ∧ Kept P w w' := by
              have hq : (qText s most).2.1 ≤ s.size := (qText_bd s most)
              have hR := ((Blk.alloc h (.cells #[.pointer (some ⟨P, 0, none⟩)] 33)).alloc (.cells #[.int .i64 most] 3))
              have C := Lib.hid (take_Text P w.heap.size (w.heap.size + 1) s f (qText s most).1 (qText s most).2.1 (qText s most).2.2 _ hs hR hq (rd_Text1 P _ _ s f most _ hs hR ((Blk.new _ _ _).alloc _) (Blk.new1 _ _ _ _) hm0 hm1))
              generalize qText s most = q at *
              clear h hR
              go_enter Try.func29, Try.ntmps29
              go_wp2_with fail
              refine (C.out).mono ?_
              rintro r w1 ⟨rfl, hr, hk⟩; dsimp only
              go_wp2_with fail
              go_ret
              exact ⟨rfl, hr, hk.under (by go_grown)⟩
end Go.Proofs.Yteglieoeblehpaa
