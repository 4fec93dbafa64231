/- The reference's bricks are taken from bytes. Conditions: the text is in memory. -/
import Derived.Test.YteglieoeblehpaaWire1r
import Derived.Test.YteglieoeblehpaaWire4
namespace Go.Proofs.Yteglieoeblehpaa
open Go.RowKit

set_option maxHeartbeats 1000000 in
theorem rx_fail (P : Nat) (s : ByteArray) (f e : Int) (w : World) (h : RRd w P s f) :
    Calls Try.prog 69 #[.pointer (some ⟨P, 0, none⟩), .int .i64 e] w fun r w' => r = .returned (.tuple #[]) ∧ w' = w.setCell ⟨P, 1, none⟩ (.int .i64 e) := by
  obtain ⟨Pc, Pf, Pl⟩ := Blk.facts h
  clear h
  go_enter Try.func69, Try.ntmps69
  go_wp2_with fail
  go_end0
  exact ⟨rfl, rfl⟩
theorem rx_failed {P : Nat} {s : ByteArray} {f e : Int} {w : World} (h : RRd w P s f) : RRd (w.setCell ⟨P, 1, none⟩ (.int .i64 e)) P s e := Blk.put h 1 _ rfl
set_option maxHeartbeats 2000000 in
theorem rx_Uint (P : Nat) (s : ByteArray) (f : Int) (most : Nat) (w : World) (hs : s.size ≤ 140737488351232) (h : RRd w P s f) :
    Calls Try.prog 48 #[.pointer (some ⟨P, 0, none⟩), .int .u64 most] w fun r w' => r = .returned (.int .u64 (rdV f (qUint s most) 0)) ∧ RRd w' P (rdS f (qUint s most) s) (rdF f (qUint s most)) ∧ Kept P w w' := by
  have C := Lib.hid (rr_number s w hs)
  have F := Lib.hid (fun e => rx_fail P s f e w h)
  have H := Lib.hid h
  have hbd := vnum_bd s
  obtain ⟨Pc, Pf, Pl⟩ := Blk.facts h
  clear h
  unfold qUint
  generalize (vnum s).1 = x at *
  generalize (vnum s).2 = n at *
  obtain ⟨hb1, hb2⟩ := hbd
  by_cases hf : f = 0
  · subst hf
    by_cases hn : n = 0
    · subst hn
      rw [if_pos rfl]
      show Calls _ _ _ _ fun r w' => r = .returned (.int .u64 0) ∧ RRd w' P s 8 ∧ Kept P w w'
      go_enter Try.func48, Try.ntmps48
      go_wp2_with fail
      refine (C.out).mono ?_
      rintro r ww ⟨rfl, rfl⟩; dsimp only
      go_wp2_with fail
      refine ((F.out 8)).mono ?_
      rintro r ww ⟨rfl, rfl⟩; dsimp only
      go_wp2_with fail
      go_ret
      exact ⟨rfl, rx_failed H.out, Kept.set_ 1 _⟩
    rw [if_neg hn]
    by_cases hx : most < x
    · rw [if_pos hx]
      show Calls _ _ _ _ fun r w' => r = .returned (.int .u64 0) ∧ RRd w' P s 9 ∧ Kept P w w'
      go_enter Try.func48, Try.ntmps48
      go_wp2_with fail
      refine (C.out).mono ?_
      rintro r ww ⟨rfl, rfl⟩; dsimp only
      go_wp2_with fail
      refine ((F.out 9)).mono ?_
      rintro r ww ⟨rfl, rfl⟩; dsimp only
      go_wp2_with fail
      go_ret
      exact ⟨rfl, rx_failed H.out, Kept.set_ 1 _⟩
    · rw [if_neg hx]
      show Calls _ _ _ _ fun r w' => r = .returned (.int .u64 x) ∧ RRd w' P (s.extract n s.size) 0 ∧ Kept P w w'
      go_enter Try.func48, Try.ntmps48
      go_wp2_with fail
      refine (C.out).mono ?_
      rintro r ww ⟨rfl, rfl⟩; dsimp only
      go_wp2_with fail
      go_ret
      exact ⟨rfl, Blk.put H.out 0 _ rfl, Kept.set_ 0 _⟩
  · generalize (if n = 0 then (8 : Int) else if most < x then 9 else 0) = e at *
    rw [show rdV f ((x : Int), n, e) 0 = 0 by simp [rdV, hf], show rdS f ((x : Int), n, e) s = s by simp [rdS, hf], show rdF f ((x : Int), n, e) = f by simp [rdF, hf]]
    have hf' : (f == 0) = false := by simpa using hf
    have hf'' : (f != 0) = true := by simpa using hf
    clear hf
    go_enter Try.func48, Try.ntmps48
    go_wp2_with fail
    refine (C.out).mono ?_
    rintro r ww ⟨rfl, rfl⟩; dsimp only
    go_wp2_with fail
    go_ret
    exact ⟨rfl, H.out, Kept.refl _ _⟩
set_option maxHeartbeats 2000000 in
theorem rx_Int (P : Nat) (s : ByteArray) (f : Int) (least most : Int) (w : World) (hs : s.size ≤ 140737488351232) (h : RRd w P s f) :
    Calls Try.prog 49 #[.pointer (some ⟨P, 0, none⟩), .int .i64 least, .int .i64 most] w fun r w' => r = .returned (.int .i64 (rdV f (qInt s least most) 0)) ∧ RRd w' P (rdS f (qInt s least most) s) (rdF f (qInt s least most)) ∧ Kept P w w' := by
  have C := Lib.hid (rr_number s w hs)
  have F := Lib.hid (fun e => rx_fail P s f e w h)
  have H := Lib.hid h
  have hbd := vnum_bd s
  obtain ⟨Pc, Pf, Pl⟩ := Blk.facts h
  clear h
  unfold qInt
  generalize (vnum s).1 = x at *
  generalize (vnum s).2 = n at *
  obtain ⟨hb1, hb2⟩ := hbd
  have hzb := unzig_bd x hb1
  have ha := Lib.u64_and1 (x : Int) (by omega) (by omega)
  by_cases hodd : x % 2 = 0
  · have hz : unzig x = (x : Int) / 2 := by unfold unzig; rw [if_pos hodd]; omega
    have hb : (bits .and .u64 (x : Int) 1 == 1) = false := by rw [ha, show (x : Int) % 2 = 0 by omega]; rfl
    rw [hz] at *
    clear hz ha hodd
    by_cases hf : f = 0
    · subst hf
      by_cases hn : n = 0
      · subst hn
        rw [if_pos rfl]
        show Calls _ _ _ _ fun r w' => r = .returned (.int .i64 0) ∧ RRd w' P s 8 ∧ Kept P w w'
        go_enter Try.func49, Try.ntmps49
        go_wp2_with fail
        refine (C.out).mono ?_
        rintro r ww ⟨rfl, rfl⟩; dsimp only
        go_wp2_with fail
        refine ((F.out 8)).mono ?_
        rintro r ww ⟨rfl, rfl⟩; dsimp only
        go_wp2_with fail
        go_ret
        exact ⟨rfl, rx_failed H.out, Kept.set_ 1 _⟩
      rw [if_neg hn]
      by_cases h1 : ((x : Int) / 2) < least
      · rw [if_pos (.inl h1)]
        show Calls _ _ _ _ fun r w' => r = .returned (.int .i64 0) ∧ RRd w' P s 9 ∧ Kept P w w'
        go_enter Try.func49, Try.ntmps49
        go_wp2_with fail
        refine (C.out).mono ?_
        rintro r ww ⟨rfl, rfl⟩; dsimp only
        go_wp2_with fail
        refine ((F.out 9)).mono ?_
        rintro r ww ⟨rfl, rfl⟩; dsimp only
        go_wp2_with fail
        go_ret
        exact ⟨rfl, rx_failed H.out, Kept.set_ 1 _⟩
      by_cases h2 : most < ((x : Int) / 2)
      · rw [if_pos (.inr h2)]
        show Calls _ _ _ _ fun r w' => r = .returned (.int .i64 0) ∧ RRd w' P s 9 ∧ Kept P w w'
        go_enter Try.func49, Try.ntmps49
        go_wp2_with fail
        refine (C.out).mono ?_
        rintro r ww ⟨rfl, rfl⟩; dsimp only
        go_wp2_with fail
        refine ((F.out 9)).mono ?_
        rintro r ww ⟨rfl, rfl⟩; dsimp only
        go_wp2_with fail
        go_ret
        exact ⟨rfl, rx_failed H.out, Kept.set_ 1 _⟩
      rw [if_neg (not_or.2 ⟨h1, h2⟩)]
      show Calls _ _ _ _ fun r w' => r = .returned (.int .i64 ((x : Int) / 2)) ∧ RRd w' P (s.extract n s.size) 0 ∧ Kept P w w'
      go_enter Try.func49, Try.ntmps49
      go_wp2_with fail
      refine (C.out).mono ?_
      rintro r ww ⟨rfl, rfl⟩; dsimp only
      go_wp2_with fail
      go_ret
      exact ⟨rfl, Blk.put H.out 0 _ rfl, Kept.set_ 0 _⟩
    · generalize (if n = 0 then (8 : Int) else if ((x : Int) / 2) < least ∨ most < ((x : Int) / 2) then 9 else 0) = e at *
      rw [show rdV f (((x : Int) / 2), n, e) 0 = 0 by simp [rdV, hf], show rdS f (((x : Int) / 2), n, e) s = s by simp [rdS, hf], show rdF f (((x : Int) / 2), n, e) = f by simp [rdF, hf]]
      have hf' : (f == 0) = false := by simpa using hf
      have hf'' : (f != 0) = true := by simpa using hf
      clear hf
      go_enter Try.func49, Try.ntmps49
      go_wp2_with fail
      refine (C.out).mono ?_
      rintro r ww ⟨rfl, rfl⟩; dsimp only
      go_wp2_with fail
      go_ret
      exact ⟨rfl, H.out, Kept.refl _ _⟩
  · have hz : unzig x = -((x : Int) / 2) - 1 := by unfold unzig; rw [if_neg hodd]; omega
    have hb : (bits .and .u64 (x : Int) 1 == 1) = true := by rw [ha, show (x : Int) % 2 = 1 by omega]; rfl
    rw [hz] at *
    clear hz ha hodd
    by_cases hf : f = 0
    · subst hf
      by_cases hn : n = 0
      · subst hn
        rw [if_pos rfl]
        show Calls _ _ _ _ fun r w' => r = .returned (.int .i64 0) ∧ RRd w' P s 8 ∧ Kept P w w'
        go_enter Try.func49, Try.ntmps49
        go_wp2_with fail
        refine (C.out).mono ?_
        rintro r ww ⟨rfl, rfl⟩; dsimp only
        go_wp2_with fail
        refine ((F.out 8)).mono ?_
        rintro r ww ⟨rfl, rfl⟩; dsimp only
        go_wp2_with fail
        go_ret
        exact ⟨rfl, rx_failed H.out, Kept.set_ 1 _⟩
      rw [if_neg hn]
      by_cases h1 : (-((x : Int) / 2) - 1) < least
      · rw [if_pos (.inl h1)]
        show Calls _ _ _ _ fun r w' => r = .returned (.int .i64 0) ∧ RRd w' P s 9 ∧ Kept P w w'
        go_enter Try.func49, Try.ntmps49
        go_wp2_with fail
        refine (C.out).mono ?_
        rintro r ww ⟨rfl, rfl⟩; dsimp only
        go_wp2_with fail
        refine ((F.out 9)).mono ?_
        rintro r ww ⟨rfl, rfl⟩; dsimp only
        go_wp2_with fail
        go_ret
        exact ⟨rfl, rx_failed H.out, Kept.set_ 1 _⟩
      by_cases h2 : most < (-((x : Int) / 2) - 1)
      · rw [if_pos (.inr h2)]
        show Calls _ _ _ _ fun r w' => r = .returned (.int .i64 0) ∧ RRd w' P s 9 ∧ Kept P w w'
        go_enter Try.func49, Try.ntmps49
        go_wp2_with fail
        refine (C.out).mono ?_
        rintro r ww ⟨rfl, rfl⟩; dsimp only
        go_wp2_with fail
        refine ((F.out 9)).mono ?_
        rintro r ww ⟨rfl, rfl⟩; dsimp only
        go_wp2_with fail
        go_ret
        exact ⟨rfl, rx_failed H.out, Kept.set_ 1 _⟩
      rw [if_neg (not_or.2 ⟨h1, h2⟩)]
      show Calls _ _ _ _ fun r w' => r = .returned (.int .i64 (-((x : Int) / 2) - 1)) ∧ RRd w' P (s.extract n s.size) 0 ∧ Kept P w w'
      go_enter Try.func49, Try.ntmps49
      go_wp2_with fail
      refine (C.out).mono ?_
      rintro r ww ⟨rfl, rfl⟩; dsimp only
      go_wp2_with fail
      go_ret
      exact ⟨rfl, Blk.put H.out 0 _ rfl, Kept.set_ 0 _⟩
    · generalize (if n = 0 then (8 : Int) else if (-((x : Int) / 2) - 1) < least ∨ most < (-((x : Int) / 2) - 1) then 9 else 0) = e at *
      rw [show rdV f ((-((x : Int) / 2) - 1), n, e) 0 = 0 by simp [rdV, hf], show rdS f ((-((x : Int) / 2) - 1), n, e) s = s by simp [rdS, hf], show rdF f ((-((x : Int) / 2) - 1), n, e) = f by simp [rdF, hf]]
      have hf' : (f == 0) = false := by simpa using hf
      have hf'' : (f != 0) = true := by simpa using hf
      clear hf
      go_enter Try.func49, Try.ntmps49
      go_wp2_with fail
      refine (C.out).mono ?_
      rintro r ww ⟨rfl, rfl⟩; dsimp only
      go_wp2_with fail
      go_ret
      exact ⟨rfl, H.out, Kept.refl _ _⟩
set_option maxHeartbeats 2000000 in
theorem rx_count (P : Nat) (s : ByteArray) (f : Int) (most : Int) (w : World) (hs : s.size ≤ 140737488351232) (h : RRd w P s f) (hm0 : -9223372036854775808 ≤ most) (hm1 : most ≤ 9223372036854775807) :
    Calls Try.prog 70 #[.pointer (some ⟨P, 0, none⟩), .int .i64 most] w fun r w' => r = .returned (.tuple #[.int .i64 (if f = 0 ∧ cntE s most = 0 then (qCount s most).1 else 0), .int .i64 (if f = 0 ∧ cntE s most = 0 then (qCount s most).2.1 else -1)]) ∧ RRd w' P s (if f = 0 then cntE s most else f) ∧ Kept P w w' := by
  have C := Lib.hid (rr_number s w hs)
  have F := Lib.hid (fun e => rx_fail P s f e w h)
  have H := Lib.hid h
  have hbd := vnum_bd s
  obtain ⟨Pc, Pf, Pl⟩ := Blk.facts h
  clear h
  unfold qCount cntE
  generalize (vnum s).1 = x at *
  generalize (vnum s).2 = n at *
  obtain ⟨hb1, hb2⟩ := hbd
  by_cases hf : f = 0
  · subst hf
    by_cases hn : n = 0
    · subst hn
      rw [if_pos rfl]
      show Calls _ _ _ _ fun r w' => r = .returned (.tuple #[.int .i64 0, .int .i64 (-1)]) ∧ RRd w' P s 8 ∧ Kept P w w'
      go_enter Try.func70, Try.ntmps70
      go_wp2_with fail
      refine (C.out).mono ?_
      rintro r ww ⟨rfl, rfl⟩; dsimp only
      go_wp2_with fail
      refine ((F.out 8)).mono ?_
      rintro r ww ⟨rfl, rfl⟩; dsimp only
      go_wp2_with fail
      refine bodyPost_ret (v := .tuple #[.int .i64 0, .int .i64 (-1)]) (by simp [results, Try.results70, go_sem]) rfl ?_
      exact ⟨rfl, rx_failed H.out, Kept.set_ 1 _⟩
    rw [if_neg hn]
    by_cases hm : most < x
    · rw [if_pos hm]
      show Calls _ _ _ _ fun r w' => r = .returned (.tuple #[.int .i64 0, .int .i64 (-1)]) ∧ RRd w' P s 4 ∧ Kept P w w'
      by_cases hmz : most < 0
      · go_enter Try.func70, Try.ntmps70
        go_wp2_with fail
        refine (C.out).mono ?_
        rintro r ww ⟨rfl, rfl⟩; dsimp only
        go_wp2_with fail
        refine ((F.out 4)).mono ?_
        rintro r ww ⟨rfl, rfl⟩; dsimp only
        go_wp2_with fail
        refine bodyPost_ret (v := .tuple #[.int .i64 0, .int .i64 (-1)]) (by simp [results, Try.results70, go_sem]) rfl ?_
        exact ⟨rfl, rx_failed H.out, Kept.set_ 1 _⟩
      · go_enter Try.func70, Try.ntmps70
        go_wp2_with fail
        refine (C.out).mono ?_
        rintro r ww ⟨rfl, rfl⟩; dsimp only
        go_wp2_with fail
        refine ((F.out 4)).mono ?_
        rintro r ww ⟨rfl, rfl⟩; dsimp only
        go_wp2_with fail
        refine bodyPost_ret (v := .tuple #[.int .i64 0, .int .i64 (-1)]) (by simp [results, Try.results70, go_sem]) rfl ?_
        exact ⟨rfl, rx_failed H.out, Kept.set_ 1 _⟩
    rw [if_neg hm]
    have hmz : ¬ most < 0 := by omega
    by_cases hx : s.size < x + n
    · rw [if_pos hx]
      show Calls _ _ _ _ fun r w' => r = .returned (.tuple #[.int .i64 0, .int .i64 (-1)]) ∧ RRd w' P s 8 ∧ Kept P w w'
      have hx' : (s.size : Int) - n < x := by omega
      go_enter Try.func70, Try.ntmps70
      go_wp2_with fail
      refine (C.out).mono ?_
      rintro r ww ⟨rfl, rfl⟩; dsimp only
      go_wp2_with fail
      refine ((F.out 8)).mono ?_
      rintro r ww ⟨rfl, rfl⟩; dsimp only
      go_wp2_with fail
      refine bodyPost_ret (v := .tuple #[.int .i64 0, .int .i64 (-1)]) (by simp [results, Try.results70, go_sem]) rfl ?_
      exact ⟨rfl, rx_failed H.out, Kept.set_ 1 _⟩
    · rw [if_neg hx]
      show Calls _ _ _ _ fun r w' => r = .returned (.tuple #[.int .i64 x, .int .i64 n]) ∧ RRd w' P s 0 ∧ Kept P w w'
      have hx' : ¬ (s.size : Int) - n < x := by omega
      go_enter Try.func70, Try.ntmps70
      go_wp2_with fail
      refine (C.out).mono ?_
      rintro r ww ⟨rfl, rfl⟩; dsimp only
      go_wp2_with fail
      refine bodyPost_ret (v := .tuple #[.int .i64 x, .int .i64 n]) (by simp [results, Try.results70, go_sem]) rfl ?_
      exact ⟨rfl, H.out, Kept.refl _ _⟩
  · rw [if_neg (fun h => hf h.1), if_neg (fun h => hf h.1), if_neg hf]
    have hf' : (f == 0) = false := by simpa using hf
    have hf'' : (f != 0) = true := by simpa using hf
    clear hf
    go_enter Try.func70, Try.ntmps70
    go_wp2_with fail
    refine (C.out).mono ?_
    rintro r ww ⟨rfl, rfl⟩; dsimp only
    go_wp2_with fail
    refine bodyPost_ret (v := .tuple #[.int .i64 0, .int .i64 (-1)]) (by simp [results, Try.results70, go_sem]) rfl ?_
    exact ⟨rfl, H.out, Kept.refl _ _⟩
theorem count_ok {f : Int} {s : ByteArray} {most : Int} (h : f = 0 ∧ cntE s most = 0) : (qCount s most).2.2 = 0 := by unfold qCount; rw [if_pos h.2]
theorem count_bad {f : Int} {s : ByteArray} {most : Int} (h : ¬ (f = 0 ∧ cntE s most = 0)) : ¬ (f = 0 ∧ (qCount s most).2.2 = 0) := by
  intro h2
  unfold qCount at h2
  by_cases hc : cntE s most = 0
  · exact h ⟨h2.1, hc⟩
  · rw [if_neg hc] at h2; exact hc h2.2
theorem count_err (f : Int) (s : ByteArray) (most : Int) : (if f = 0 then cntE s most else f) = rdF f (qCount s most) := by
  unfold rdF qCount
  split
  · split
    · assumption
    · rfl
  · rfl
set_option maxHeartbeats 2000000 in
theorem rx_Count (P : Nat) (s : ByteArray) (f : Int) (most : Int) (hm0 : -9223372036854775808 ≤ most) (hm1 : most ≤ 9223372036854775807) (w : World) (hs : s.size ≤ 140737488351232) (h : RRd w P s f) :
    Calls Try.prog 51 #[.pointer (some ⟨P, 0, none⟩), .int .i64 most] w fun r w' => r = .returned (.int .i64 (rdV f (qCountI s most) 0)) ∧ RRd w' P (rdS f (qCountI s most) s) (rdF f (qCountI s most)) ∧ Kept P w w' := by
  have C := rx_count P s f most w hs h hm0 hm1
  have hbd := qCount_bd s most
  rw [count_err] at C
  clear h
  by_cases hc : f = 0 ∧ cntE s most = 0
  · rw [if_pos hc, if_pos hc] at C
    have h2 := count_ok hc
    unfold qCountI rdV rdS
    rw [if_pos ⟨hc.1, h2⟩, if_pos ⟨hc.1, h2⟩]
    show Calls _ _ _ _ fun r w' => r = .returned (.int .i64 (qCount s most).1) ∧ RRd w' P (s.extract (qCount s most).2.1 s.size) (rdF f (qCount s most)) ∧ Kept P w w'
    generalize rdF f (qCount s most) = f' at *
    clear h2 hc
    generalize qCount s most = q at *
    obtain ⟨x, n, e⟩ := q
    dsimp only at *
    replace C := Lib.hid C
    go_enter Try.func51, Try.ntmps51
    go_wp2_with fail
    refine (C.out).mono ?_
    rintro r w1 ⟨rfl, hr, hk⟩; dsimp only
    have H := Lib.hid hr
    obtain ⟨Pc, Pf, Pl⟩ := Blk.facts hr
    clear hr
    go_wp2_with fail
    go_ret
    exact ⟨rfl, Blk.put H.out 0 _ rfl, hk.trans (Kept.set_ 0 _)⟩
  · rw [if_neg hc, if_neg hc] at C
    have h2 := count_bad hc
    unfold qCountI rdV rdS
    rw [if_neg h2, if_neg h2]
    show Calls _ _ _ _ fun r w' => r = .returned (.int .i64 0) ∧ RRd w' P s (rdF f (qCount s most)) ∧ Kept P w w'
    generalize rdF f (qCount s most) = f' at *
    clear h2 hc hbd
    replace C := Lib.hid C
    go_enter Try.func51, Try.ntmps51
    go_wp2_with fail
    refine (C.out).mono ?_
    rintro r w1 ⟨rfl, hr, hk⟩; dsimp only
    go_wp2_with fail
    go_ret
    exact ⟨rfl, hr, hk⟩
set_option maxHeartbeats 2000000 in
theorem rx_Text (P : Nat) (s : ByteArray) (f : Int) (most : Int) (hm0 : -9223372036854775808 ≤ most) (hm1 : most ≤ 9223372036854775807) (w : World) (hs : s.size ≤ 140737488351232) (h : RRd w P s f) :
    Calls Try.prog 50 #[.pointer (some ⟨P, 0, none⟩), .int .i64 most] w fun r w' => r = .returned (.string (rdV f (qText s most) ByteArray.empty)) ∧ RRd w' P (rdS f (qText s most) s) (rdF f (qText s most)) ∧ Kept P w w' := by
  have C := rx_count P s f most w hs h hm0 hm1
  have hbd := qCount_bd s most
  rw [count_err] at C
  clear h
  by_cases hc : f = 0 ∧ cntE s most = 0
  · rw [if_pos hc, if_pos hc] at C
    have h2 := count_ok hc
    unfold qText rdV rdS
    rw [if_pos ⟨hc.1, h2⟩, if_pos ⟨hc.1, h2⟩]
    show Calls _ _ _ _ fun r w' => r = .returned (.string (s.extract (qCount s most).2.1 ((qCount s most).2.1 + (qCount s most).1))) ∧ RRd w' P (s.extract ((qCount s most).2.1 + (qCount s most).1) s.size) (rdF f (qCount s most)) ∧ Kept P w w'
    generalize rdF f (qCount s most) = f' at *
    clear h2 hc
    generalize qCount s most = q at *
    obtain ⟨x, n, e⟩ := q
    dsimp only at *
    replace C := Lib.hid C
    go_enter Try.func50, Try.ntmps50
    go_wp2_with fail
    refine (C.out).mono ?_
    rintro r w1 ⟨rfl, hr, hk⟩; dsimp only
    have H := Lib.hid hr
    obtain ⟨Pc, Pf, Pl⟩ := Blk.facts hr
    clear hr
    go_wp2_with fail
    go_ret
    exact ⟨rfl, Blk.put H.out 0 _ rfl, hk.trans (Kept.set_ 0 _)⟩
  · rw [if_neg hc, if_neg hc] at C
    have h2 := count_bad hc
    unfold qText rdV rdS
    rw [if_neg h2, if_neg h2]
    show Calls _ _ _ _ fun r w' => r = .returned (.string ByteArray.empty) ∧ RRd w' P s (rdF f (qCount s most)) ∧ Kept P w w'
    generalize rdF f (qCount s most) = f' at *
    clear h2 hc hbd
    replace C := Lib.hid C
    go_enter Try.func50, Try.ntmps50
    go_wp2_with fail
    refine (C.out).mono ?_
    rintro r w1 ⟨rfl, hr, hk⟩; dsimp only
    go_wp2_with fail
    go_ret
    exact ⟨rfl, hr, hk⟩
set_option maxHeartbeats 2000000 in
theorem rx_Bool (P : Nat) (s : ByteArray) (f : Int) (w : World) (hs : s.size ≤ 140737488351232) (h : RRd w P s f) :
    Calls Try.prog 52 #[.pointer (some ⟨P, 0, none⟩)] w fun r w' => r = .returned (.bool (rdV f (qBool s) false)) ∧ RRd w' P (rdS f (qBool s) s) (rdF f (qBool s)) ∧ Kept P w w' := by
  have F := Lib.hid (fun e => rx_fail P s f e w h)
  have H := Lib.hid h
  obtain ⟨Pc, Pf, Pl⟩ := Blk.facts h
  clear h
  by_cases hf : f = 0
  · subst hf
    by_cases h0 : 0 < s.size
    · have he := isE_no s h0
      have hb : qBool s = if 1 < s[0].toNat then (false, 0, 8) else (decide (s[0].toNat = 1), 1, 0) := by
        have hd := drop_byte s 0 h0
        simp only [List.drop_zero] at hd
        unfold qBool
        rw [hd]
      have hc : s[0].toNat < 256 := s[0].toNat_lt
      generalize hc : s[0] = b at *
      by_cases h1 : 1 < b.toNat
      · rw [if_pos h1] at hb
        rw [hb]
        clear hb
        show Calls _ _ _ _ fun r w' => r = .returned (.bool false) ∧ RRd w' P s 8 ∧ Kept P w w'
        go_enter Try.func52, Try.ntmps52
        go_wp2_with fail
        refine ((F.out 8)).mono ?_
        rintro r ww ⟨rfl, rfl⟩; dsimp only
        go_wp2_with fail
        go_ret
        exact ⟨rfl, rx_failed H.out, Kept.set_ 1 _⟩
      · rw [if_neg h1] at hb
        rw [hb]
        clear hb
        obtain ⟨z, hz⟩ : ∃ z, ((b.toNat : Int) == 1) = z := ⟨_, rfl⟩
        have hz' : decide (b.toNat = 1) = z := by rw [← hz]; by_cases e : b.toNat = 1 <;> simp [e] <;> omega
        rw [hz']
        clear hz'
        show Calls _ _ _ _ fun r w' => r = .returned (.bool z) ∧ RRd w' P (s.extract 1 s.size) 0 ∧ Kept P w w'
        go_enter Try.func52, Try.ntmps52
        go_wp2_with fail
        go_ret
        exact ⟨rfl, Blk.put H.out 0 _ rfl, Kept.set_ 0 _⟩
    · have he := isE_yes s (by omega)
      have hb : qBool s = (false, 0, 8) := by
        unfold qBool
        rw [show s.data.toList = [] from List.eq_nil_of_length_eq_zero (by rw [size_list]; omega)]
      rw [hb]
      clear hb
      show Calls _ _ _ _ fun r w' => r = .returned (.bool false) ∧ RRd w' P s 8 ∧ Kept P w w'
      go_enter Try.func52, Try.ntmps52
      go_wp2_with fail
      refine ((F.out 8)).mono ?_
      rintro r ww ⟨rfl, rfl⟩; dsimp only
      go_wp2_with fail
      go_ret
      exact ⟨rfl, rx_failed H.out, Kept.set_ 1 _⟩
  · generalize qBool s = q
    rw [show rdV f q false = false by simp [rdV, hf], show rdS f q s = s by simp [rdS, hf], show rdF f q = f by simp [rdF, hf]]
    have hf' : (f == 0) = false := by simpa using hf
    have hf'' : (f != 0) = true := by simpa using hf
    clear hf
    go_enter Try.func52, Try.ntmps52
    go_wp2_with fail
    go_ret
    exact ⟨rfl, H.out, Kept.refl _ _⟩
set_option maxHeartbeats 2000000 in
theorem rx_End (P : Nat) (s : ByteArray) (f : Int) (w : World) (h : RRd w P s f) :
    Calls Try.prog 53 #[.pointer (some ⟨P, 0, none⟩)] w fun r w' => r = .returned (.int .i64 (endF s f)) ∧ RRd w' P s (endF s f) ∧ Kept P w w' := by
  have F := Lib.hid (fun e => rx_fail P s f e w h)
  have H := Lib.hid h
  obtain ⟨Pc, Pf, Pl⟩ := Blk.facts h
  clear h
  by_cases hf : f = 0
  · subst hf
    by_cases h0 : 0 < s.size
    · have he := isE_no s h0
      rw [show endF s 0 = 8 by unfold endF; rw [if_pos ⟨rfl, h0⟩]]
      clear h0
      go_enter Try.func53, Try.ntmps53
      go_wp2_with fail
      refine ((F.out 8)).mono ?_
      rintro r ww ⟨rfl, rfl⟩; dsimp only
      go_wp2_with fail
      go_ret
      exact ⟨rfl, rx_failed H.out, Kept.set_ 1 _⟩
    · have he := isE_yes s (by omega)
      rw [show endF s 0 = 0 by unfold endF; rw [if_neg (fun h => h0 h.2)]]
      clear h0
      go_enter Try.func53, Try.ntmps53
      go_wp2_with fail
      go_ret
      exact ⟨rfl, H.out, Kept.refl _ _⟩
  · rw [show endF s f = f by unfold endF; rw [if_neg (fun h => hf h.1)]]
    have hf' : (f == 0) = false := by simpa using hf
    clear hf
    go_enter Try.func53, Try.ntmps53
    go_wp2_with fail
    go_ret
    exact ⟨rfl, H.out, Kept.refl _ _⟩
end Go.Proofs.Yteglieoeblehpaa
