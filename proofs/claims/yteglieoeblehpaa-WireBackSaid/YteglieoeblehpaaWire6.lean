/- The known run of reevelaw03; what is asked of both readers. Conditions: the text is in memory. -/
import Derived.Test.YteglieoeblehpaaWire2
import Derived.Test.YteglieoeblehpaaWire5
import Derived.Deep.RegionHeld3
namespace Go.Proofs.Yteglieoeblehpaa
open Go.RowKit

theorem bs_extract {l : List UInt8} {n m : Nat} (h : l.length = m) : (bs l).extract n m = bs (l.drop n) := by subst h; exact extract_bs l n
theorem uv_small (x : Nat) (h : x < 128) : Lib.uvarint x = [x.toUInt8] := Lib.uvarint_small h
theorem uv_128 : Lib.uvarint 128 = [128, 1] := by rw [Lib.uvarint_big (by decide), Lib.uvarint_small (by decide)]; rfl
set_option maxRecDepth 100000 in
set_option maxHeartbeats 4000000 in
theorem alive03 (w : World) : Calls Try.prog 11 #[] w fun e w' => e = .returned (.bool true) ∧ Below w.heap.size w w' := by
  have C0 := Lib.hid (rd_New (bs [128, 1, 2, 97, 98, 1, 1]))
  go_enter Try.func11, Try.ntmps11
  go_wp2_with fail
  refine (C0.out _).mono ?_
  rintro r w1 ⟨rfl, h, hB⟩; dsimp only
  obtain ⟨P, hP⟩ : ∃ P, P = w.heap.size := ⟨_, rfl⟩
  have hPw : w.heap.size ≤ P := by omega
  rw [← hP] at h ⊢
  clear hP C0
  have C1 := rd_Uint P _ _ 200 w1 (by decide) h
  rw [show qUint (bs [128, 1, 2, 97, 98, 1, 1]) 200 = (128, 2, 0) by decide, show rdS 0 ((128 : Int), 2, 0) (bs [128, 1, 2, 97, 98, 1, 1]) = bs [2, 97, 98, 1, 1] from extract_bs [128, 1, 2, 97, 98, 1, 1] 2, show rdV 0 ((128 : Int), 2, 0) 0 = 128 from rfl, show rdF 0 ((128 : Int), 2, 0) = 0 from rfl] at C1
  replace C1 := Lib.hid C1
  clear h
  go_wp2_with fail
  refine (C1.out).mono ?_
  rintro r w2 ⟨rfl, h, hk⟩; dsimp only
  replace hB : Below w.heap.size w w2 := hk.below hB hPw
  clear hk C1
  have C1 := rd_Text P _ _ 2 (by decide) (by decide) w2 (by decide) h
  rw [show qText (bs [2, 97, 98, 1, 1]) 2 = (⟨#[97, 98]⟩, 3, 0) by decide, show rdS 0 ((⟨#[97, 98]⟩ : ByteArray), 3, 0) (bs [2, 97, 98, 1, 1]) = bs [1, 1] from extract_bs [2, 97, 98, 1, 1] 3, show rdV 0 ((⟨#[97, 98]⟩ : ByteArray), 3, 0) ByteArray.empty = ⟨#[97, 98]⟩ from rfl, show rdF 0 ((⟨#[97, 98]⟩ : ByteArray), 3, 0) = 0 from rfl] at C1
  replace C1 := Lib.hid C1
  clear h
  go_wp2_with fail
  refine (C1.out).mono ?_
  rintro r w3 ⟨rfl, h, hk⟩; dsimp only
  replace hB : Below w.heap.size w w3 := hk.below hB hPw
  clear hk C1
  have C1 := rd_Int P _ _ (-5) 5 w3 (by decide) h
  rw [show qInt (bs [1, 1]) (-5) 5 = (-1, 1, 0) by decide, show rdS 0 ((-1 : Int), 1, 0) (bs [1, 1]) = bs [1] from extract_bs [1, 1] 1, show rdV 0 ((-1 : Int), 1, 0) 0 = -1 from rfl, show rdF 0 ((-1 : Int), 1, 0) = 0 from rfl] at C1
  replace C1 := Lib.hid C1
  clear h
  go_wp2_with fail
  refine (C1.out).mono ?_
  rintro r w4 ⟨rfl, h, hk⟩; dsimp only
  replace hB : Below w.heap.size w w4 := hk.below hB hPw
  clear hk C1
  have C1 := rd_Bool P _ _ w4 (by decide) h
  rw [show qBool (bs [1]) = (true, 1, 0) by decide, show rdS 0 (true, 1, 0) (bs [1]) = bs [] from extract_bs [1] 1, show rdV 0 (true, 1, 0) false = true from rfl, show rdF 0 (true, 1, 0) = 0 from rfl] at C1
  replace C1 := Lib.hid C1
  clear h
  go_wp2_with fail
  refine (C1.out).mono ?_
  rintro r w5 ⟨rfl, h, hk⟩; dsimp only
  replace hB : Below w.heap.size w w5 := hk.below hB hPw
  clear hk C1
  have C1 := rd_End P _ _ w5 h
  rw [show endF (bs []) 0 = 0 by decide] at C1
  replace C1 := Lib.hid C1
  clear h
  go_wp2_with fail
  refine (C1.out).mono ?_
  rintro r w6 ⟨rfl, h, hk⟩; dsimp only
  replace hB : Below w.heap.size w w6 := hk.below hB hPw
  clear hk C1
  clear h
  have C0 := Lib.hid (rd_New (bs [128, 0]))
  go_wp2_with fail
  refine (C0.out _).mono ?_
  rintro r w7 ⟨rfl, h, hb⟩; dsimp only
  have hXw := hB.size
  replace hB := below_to hB hb
  clear hb C0
  generalize w6.heap.size = X at *
  have C1 := rd_Uint X _ _ 9 w7 (by decide) h
  rw [show qUint (bs [128, 0]) 9 = (0, 0, 8) by decide, show rdS 0 ((0 : Int), 0, 8) (bs [128, 0]) = bs [128, 0] from rfl, show rdV 0 ((0 : Int), 0, 8) 0 = 0 from rfl, show rdF 0 ((0 : Int), 0, 8) = 8 from rfl] at C1
  replace C1 := Lib.hid C1
  clear h
  go_wp2_with fail
  refine (C1.out).mono ?_
  rintro r w8 ⟨rfl, h, hk⟩; dsimp only
  replace hB : Below w.heap.size w w8 := hk.below hB hXw
  clear hk C1
  have C1 := Lib.hid (rd_Err X _ _ w8 h)
  clear h
  have C2 := fun w => wr_Uint 128 (by decide) w
  rw [uv_128, show bs [128, 1] = ⟨#[128, 1]⟩ from rfl] at C2
  replace C2 := Lib.hid C2
  have C3 := fun w => wr_Int (-1) (by decide) (by decide) w
  rw [show Lib.zigzag (-1) = 1 from rfl, uv_small 1 (by decide), show bs [(1 : Nat).toUInt8] = ⟨#[1]⟩ from rfl] at C3
  replace C3 := Lib.hid C3
  have C4 := fun w => wr_Text ⟨#[97, 98]⟩ (by decide) w
  rw [show (⟨#[97, 98]⟩ : ByteArray).size = 2 from rfl, uv_small 2 (by decide), show bs [(2 : Nat).toUInt8] ++ (⟨#[97, 98]⟩ : ByteArray) = ⟨#[2, 97, 98]⟩ by decide] at C4
  replace C4 := Lib.hid C4
  have C5 := fun w => wr_Bool true w
  rw [show bs [if true = true then 1 else 0] = ⟨#[1]⟩ from rfl] at C5
  replace C5 := Lib.hid C5
  go_wp2_with fail
  refine (C1.out).mono ?_
  rintro r w9 ⟨rfl, rfl⟩; dsimp only
  go_wp2_with fail
  refine (C2.out _).mono ?_
  rintro r w9 ⟨rfl, hb⟩; dsimp only
  replace hB := below_to hB hb
  clear hb
  go_wp2_with fail
  refine (C3.out _).mono ?_
  rintro r w10 ⟨rfl, hb⟩; dsimp only
  replace hB := below_to hB hb
  clear hb
  go_wp2_with fail
  refine (C4.out _).mono ?_
  rintro r w11 ⟨rfl, hb⟩; dsimp only
  replace hB := below_to hB hb
  clear hb
  go_wp2_with fail
  refine (C5.out _).mono ?_
  rintro r w12 ⟨rfl, rfl⟩; dsimp only
  go_wp2_with fail
  go_ret
  exact ⟨rfl, hB⟩
/-- Only blocks P and R have been written, of those that were there. -/
def Kept2 (P R : Nat) (w w' : World) : Prop := (∀ B, B ≤ P → B ≤ R → B ≤ w.heap.size → Below B w w') ∧ w.heap.size ≤ w'.heap.size ∧ ∀ g t cs, g ≠ P → g ≠ R → Blk w g t cs → Blk w' g t cs
theorem Kept2.of {P R : Nat} {w w1 w2 w3 : World} (hb : Below w.heap.size w w1) (h : Kept P w1 w2) (h' : Kept R w2 w3) : Kept2 P R w w3 :=
  ⟨fun B a a' c => ((hb.mono c).trans (h.1 B a (Nat.le_trans c hb.size))).trans (h'.1 B a' (Nat.le_trans c (Nat.le_trans hb.size h.2.1))), Nat.le_trans hb.size (Nat.le_trans h.2.1 h'.2.1), fun g t cs a a' c => h'.2.2 g t cs a' (h.2.2 g t cs a (c.past hb))⟩
theorem Kept2.below {P R : Nat} {w0 w w' : World} (h : Kept2 P R w w') (hb : Below w0.heap.size w0 w) (hP : w0.heap.size ≤ P) (hR : w0.heap.size ≤ R) : Below w0.heap.size w0 w' := hb.trans (h.1 _ hP hR hb.size)
/-- Both readers are alike behind it. -/
def Both (P R : Nat) (s : ByteArray) (w' : World) : Prop := ∃ s' f', s'.size ≤ s.size ∧ Rd w' P s' f' ∧ RRd w' R s' f'
theorem rdS_le {α : Type} (f : Int) (q : α × Nat × Int) (s : ByteArray) : (rdS f q s).size ≤ s.size := by
  unfold rdS
  split
  · simp
  · exact Nat.le_refl _
set_option maxRecDepth 100000 in
set_option maxHeartbeats 8000000 in
theorem asked0 (P R : Nat) (s : ByteArray) (f : Int) (d : Int) (least : Int) (most : Nat) (hd0 : 0 ≤ d) (hd1 : d < 256) (hd : d % 6 = 0) (w : World) (hs : s.size ≤ 140737488351232) (h : Rd w P s f) (hx : RRd w R s f) (hPR : P ≠ R) :
    Calls Try.prog 28 #[.pointer (some ⟨P, 0, none⟩), .pointer (some ⟨R, 0, none⟩), .agg #[.int .u8 d, .int .i64 least, .int .u64 most]] w fun e w' => e = .returned (.bool true) ∧ Both P R s w' ∧ Kept2 P R w w' := by
  have hX := Blk.new w 48 #[.int .u8 d, .int .i64 least, .int .u64 most]
  have h1 := Blk.alloc h (.cells #[.int .u8 d, .int .i64 least, .int .u64 most] 48)
  have x1 := Blk.alloc hx (.cells #[.int .u8 d, .int .i64 least, .int .u64 most] 48)
  have hBP : w.heap.size ≠ P := Nat.ne_of_gt (Blk.lt h)
  have hBR : w.heap.size ≠ R := Nat.ne_of_gt (Blk.lt hx)
  have j1 := hX.cell 1
  have j2 := hX.cell 2
  have H := Lib.hid h1
  have X := Lib.hid x1
  have HX := Lib.hid hX
  have hbw : Below w.heap.size w (w.alloc (.cells #[.int .u8 d, .int .i64 least, .int .u64 most] 48)) := by go_grown
  have HB := Lib.hid hbw
  clear h hx h1 x1 hX hbw
  go_enter Try.func28, Try.ntmps28
  go_wp2_with fail
  go_region_held3 (fun w' => w'.cell? ⟨w.heap.size, 2, none⟩ = some (.int .u64 most))
    (first
      | exact j2
      | (with_reducible assumption)
      | exact e2
      | exact e3)
    (first
      | (go_at_call 24; refine (rd_Uint P s f most _ hs (by exact H.out)).mono ?_; rintro r w2 ⟨rfl, hr2, hk2⟩; have e2 := (hk2.blk (by exact HX.out) hBP).cell 2)
      | (go_at_call 48; refine (rx_Uint R s f most _ hs (by exact hk2.blk (by exact X.out) hPR.symm)).mono ?_; rintro r w3 ⟨rfl, hr3, hk3⟩; have e3 := (hk3.blk (by exact hk2.blk (by exact HX.out) hBP) hBR).cell 2))
  all_goals
    go_wp2_with fail
    go_ret
    exact ⟨rfl, ⟨_, _, rdS_le _ _ _, hk3.blk hr2 hPR, hr3⟩, Kept2.of (Below.drew HB.out) hk2 hk3⟩
set_option maxRecDepth 100000 in
set_option maxHeartbeats 8000000 in
theorem asked1 (P R : Nat) (s : ByteArray) (f : Int) (d : Int) (least : Int) (most : Nat) (hd0 : 0 ≤ d) (hd1 : d < 256) (hd : d % 6 = 1) (w : World) (hs : s.size ≤ 140737488351232) (h : Rd w P s f) (hx : RRd w R s f) (hPR : P ≠ R) :
    Calls Try.prog 28 #[.pointer (some ⟨P, 0, none⟩), .pointer (some ⟨R, 0, none⟩), .agg #[.int .u8 d, .int .i64 least, .int .u64 most]] w fun e w' => e = .returned (.bool true) ∧ Both P R s w' ∧ Kept2 P R w w' := by
  have hX := Blk.new w 48 #[.int .u8 d, .int .i64 least, .int .u64 most]
  have h1 := Blk.alloc h (.cells #[.int .u8 d, .int .i64 least, .int .u64 most] 48)
  have x1 := Blk.alloc hx (.cells #[.int .u8 d, .int .i64 least, .int .u64 most] 48)
  have hBP : w.heap.size ≠ P := Nat.ne_of_gt (Blk.lt h)
  have hBR : w.heap.size ≠ R := Nat.ne_of_gt (Blk.lt hx)
  have j1 := hX.cell 1
  have j2 := hX.cell 2
  have H := Lib.hid h1
  have X := Lib.hid x1
  have HX := Lib.hid hX
  have hbw : Below w.heap.size w (w.alloc (.cells #[.int .u8 d, .int .i64 least, .int .u64 most] 48)) := by go_grown
  have HB := Lib.hid hbw
  clear h hx h1 x1 hX hbw
  go_enter Try.func28, Try.ntmps28
  go_wp2_with fail
  go_region_held3 (fun w' => w'.cell? ⟨w.heap.size, 1, none⟩ = some (.int .i64 least) ∧ w'.cell? ⟨w.heap.size, 2, none⟩ = some (.int .u64 most))
    (first
      | exact ⟨j1, j2⟩
      | (with_reducible assumption)
      | exact e2
      | exact e3)
    (first
      | (go_at_call 27; refine (rd_Int P s f least _ _ hs (by exact H.out)).mono ?_; rintro r w2 ⟨rfl, hr2, hk2⟩; have e2 := And.intro ((hk2.blk (by exact HX.out) hBP).cell 1) ((hk2.blk (by exact HX.out) hBP).cell 2))
      | (go_at_call 49; refine (rx_Int R s f least _ _ hs (by exact hk2.blk (by exact X.out) hPR.symm)).mono ?_; rintro r w3 ⟨rfl, hr3, hk3⟩; have e3 := And.intro ((hk3.blk (by exact hk2.blk (by exact HX.out) hBP) hBR).cell 1) ((hk3.blk (by exact hk2.blk (by exact HX.out) hBP) hBR).cell 2)))
  all_goals
    go_wp2_with fail
    go_ret
    exact ⟨rfl, ⟨_, _, rdS_le _ _ _, hk3.blk hr2 hPR, hr3⟩, Kept2.of (Below.drew HB.out) hk2 hk3⟩
set_option maxRecDepth 100000 in
set_option maxHeartbeats 8000000 in
theorem asked2 (P R : Nat) (s : ByteArray) (f : Int) (d : Int) (least : Int) (most : Nat) (hd0 : 0 ≤ d) (hd1 : d < 256) (hd : d % 6 = 2) (hl0 : -9223372036854775808 ≤ least) (hl1 : least ≤ 9223372036854775807) (w : World) (hs : s.size ≤ 140737488351232) (h : Rd w P s f) (hx : RRd w R s f) (hPR : P ≠ R) :
    Calls Try.prog 28 #[.pointer (some ⟨P, 0, none⟩), .pointer (some ⟨R, 0, none⟩), .agg #[.int .u8 d, .int .i64 least, .int .u64 most]] w fun e w' => e = .returned (.bool true) ∧ Both P R s w' ∧ Kept2 P R w w' := by
  have hX := Blk.new w 48 #[.int .u8 d, .int .i64 least, .int .u64 most]
  have h1 := Blk.alloc h (.cells #[.int .u8 d, .int .i64 least, .int .u64 most] 48)
  have x1 := Blk.alloc hx (.cells #[.int .u8 d, .int .i64 least, .int .u64 most] 48)
  have hBP : w.heap.size ≠ P := Nat.ne_of_gt (Blk.lt h)
  have hBR : w.heap.size ≠ R := Nat.ne_of_gt (Blk.lt hx)
  have j1 := hX.cell 1
  have j2 := hX.cell 2
  have H := Lib.hid h1
  have X := Lib.hid x1
  have HX := Lib.hid hX
  have hbw : Below w.heap.size w (w.alloc (.cells #[.int .u8 d, .int .i64 least, .int .u64 most] 48)) := by go_grown
  have HB := Lib.hid hbw
  clear h hx h1 x1 hX hbw
  go_enter Try.func28, Try.ntmps28
  go_wp2_with fail
  go_region_held3 (fun w' => w'.cell? ⟨w.heap.size, 1, none⟩ = some (.int .i64 least))
    (first
      | exact j1
      | (with_reducible assumption)
      | exact e2
      | exact e3)
    (first
      | (go_at_call 29; refine (rd_Text P s f least hl0 hl1 _ hs (by exact H.out)).mono ?_; rintro r w2 ⟨rfl, hr2, hk2⟩; have e2 := (hk2.blk (by exact HX.out) hBP).cell 1)
      | (go_at_call 50; refine (rx_Text R s f least hl0 hl1 _ hs (by exact hk2.blk (by exact X.out) hPR.symm)).mono ?_; rintro r w3 ⟨rfl, hr3, hk3⟩; have e3 := (hk3.blk (by exact hk2.blk (by exact HX.out) hBP) hBR).cell 1))
  all_goals
    go_wp2_with fail
    go_ret
    exact ⟨rfl, ⟨_, _, rdS_le _ _ _, hk3.blk hr2 hPR, hr3⟩, Kept2.of (Below.drew HB.out) hk2 hk3⟩
set_option maxRecDepth 100000 in
set_option maxHeartbeats 8000000 in
theorem asked3 (P R : Nat) (s : ByteArray) (f : Int) (d : Int) (least : Int) (most : Nat) (hd0 : 0 ≤ d) (hd1 : d < 256) (hd : d % 6 = 3) (hl0 : -9223372036854775808 ≤ least) (hl1 : least ≤ 9223372036854775807) (w : World) (hs : s.size ≤ 140737488351232) (h : Rd w P s f) (hx : RRd w R s f) (hPR : P ≠ R) :
    Calls Try.prog 28 #[.pointer (some ⟨P, 0, none⟩), .pointer (some ⟨R, 0, none⟩), .agg #[.int .u8 d, .int .i64 least, .int .u64 most]] w fun e w' => e = .returned (.bool true) ∧ Both P R s w' ∧ Kept2 P R w w' := by
  have hX := Blk.new w 48 #[.int .u8 d, .int .i64 least, .int .u64 most]
  have h1 := Blk.alloc h (.cells #[.int .u8 d, .int .i64 least, .int .u64 most] 48)
  have x1 := Blk.alloc hx (.cells #[.int .u8 d, .int .i64 least, .int .u64 most] 48)
  have hBP : w.heap.size ≠ P := Nat.ne_of_gt (Blk.lt h)
  have hBR : w.heap.size ≠ R := Nat.ne_of_gt (Blk.lt hx)
  have j1 := hX.cell 1
  have j2 := hX.cell 2
  have H := Lib.hid h1
  have X := Lib.hid x1
  have HX := Lib.hid hX
  have hbw : Below w.heap.size w (w.alloc (.cells #[.int .u8 d, .int .i64 least, .int .u64 most] 48)) := by go_grown
  have HB := Lib.hid hbw
  clear h hx h1 x1 hX hbw
  go_enter Try.func28, Try.ntmps28
  go_wp2_with fail
  go_region_held3 (fun w' => w'.cell? ⟨w.heap.size, 1, none⟩ = some (.int .i64 least))
    (first
      | exact j1
      | (with_reducible assumption)
      | exact e2
      | exact e3)
    (first
      | (go_at_call 30; refine (rd_Count P s f least hl0 hl1 _ hs (by exact H.out)).mono ?_; rintro r w2 ⟨rfl, hr2, hk2⟩; have e2 := (hk2.blk (by exact HX.out) hBP).cell 1)
      | (go_at_call 51; refine (rx_Count R s f least hl0 hl1 _ hs (by exact hk2.blk (by exact X.out) hPR.symm)).mono ?_; rintro r w3 ⟨rfl, hr3, hk3⟩; have e3 := (hk3.blk (by exact hk2.blk (by exact HX.out) hBP) hBR).cell 1))
  all_goals
    go_wp2_with fail
    go_ret
    exact ⟨rfl, ⟨_, _, rdS_le _ _ _, hk3.blk hr2 hPR, hr3⟩, Kept2.of (Below.drew HB.out) hk2 hk3⟩
set_option maxRecDepth 100000 in
set_option maxHeartbeats 8000000 in
theorem asked4 (P R : Nat) (s : ByteArray) (f : Int) (d : Int) (least : Int) (most : Nat) (hd0 : 0 ≤ d) (hd1 : d < 256) (hd : d % 6 = 4) (w : World) (hs : s.size ≤ 140737488351232) (h : Rd w P s f) (hx : RRd w R s f) (hPR : P ≠ R) :
    Calls Try.prog 28 #[.pointer (some ⟨P, 0, none⟩), .pointer (some ⟨R, 0, none⟩), .agg #[.int .u8 d, .int .i64 least, .int .u64 most]] w fun e w' => e = .returned (.bool true) ∧ Both P R s w' ∧ Kept2 P R w w' := by
  have hX := Blk.new w 48 #[.int .u8 d, .int .i64 least, .int .u64 most]
  have h1 := Blk.alloc h (.cells #[.int .u8 d, .int .i64 least, .int .u64 most] 48)
  have x1 := Blk.alloc hx (.cells #[.int .u8 d, .int .i64 least, .int .u64 most] 48)
  have hBP : w.heap.size ≠ P := Nat.ne_of_gt (Blk.lt h)
  have hBR : w.heap.size ≠ R := Nat.ne_of_gt (Blk.lt hx)
  have j1 := hX.cell 1
  have j2 := hX.cell 2
  have H := Lib.hid h1
  have X := Lib.hid x1
  have HX := Lib.hid hX
  have hbw : Below w.heap.size w (w.alloc (.cells #[.int .u8 d, .int .i64 least, .int .u64 most] 48)) := by go_grown
  have HB := Lib.hid hbw
  clear h hx h1 x1 hX hbw
  go_enter Try.func28, Try.ntmps28
  go_wp2_with fail
  refine (rd_Bool P s f _ hs H.out).mono ?_
  rintro r w2 ⟨rfl, hr2, hk2⟩; dsimp only
  have C := Lib.hid (rx_Bool R s f _ hs (hk2.blk X.out hPR.symm))
  go_wp2_with fail
  refine (C.out).mono ?_
  rintro r w3 ⟨rfl, hr3, hk3⟩; dsimp only
  go_wp2_with fail
  go_ret
  exact ⟨rfl, ⟨_, _, rdS_le _ _ _, hk3.blk hr2 hPR, hr3⟩, Kept2.of HB.out hk2 hk3⟩
set_option maxRecDepth 100000 in
set_option maxHeartbeats 8000000 in
theorem asked5 (P R : Nat) (s : ByteArray) (f : Int) (d : Int) (least : Int) (most : Nat) (hd0 : 0 ≤ d) (hd1 : d < 256) (hd : d % 6 = 5) (w : World) (hs : s.size ≤ 140737488351232) (h : Rd w P s f) (hx : RRd w R s f) (hPR : P ≠ R) :
    Calls Try.prog 28 #[.pointer (some ⟨P, 0, none⟩), .pointer (some ⟨R, 0, none⟩), .agg #[.int .u8 d, .int .i64 least, .int .u64 most]] w fun e w' => e = .returned (.bool true) ∧ Both P R s w' ∧ Kept2 P R w w' := by
  have hX := Blk.new w 48 #[.int .u8 d, .int .i64 least, .int .u64 most]
  have h1 := Blk.alloc h (.cells #[.int .u8 d, .int .i64 least, .int .u64 most] 48)
  have x1 := Blk.alloc hx (.cells #[.int .u8 d, .int .i64 least, .int .u64 most] 48)
  have hBP : w.heap.size ≠ P := Nat.ne_of_gt (Blk.lt h)
  have hBR : w.heap.size ≠ R := Nat.ne_of_gt (Blk.lt hx)
  have j1 := hX.cell 1
  have j2 := hX.cell 2
  have H := Lib.hid h1
  have X := Lib.hid x1
  have HX := Lib.hid hX
  have hbw : Below w.heap.size w (w.alloc (.cells #[.int .u8 d, .int .i64 least, .int .u64 most] 48)) := by go_grown
  have HB := Lib.hid hbw
  clear h hx h1 x1 hX hbw
  go_enter Try.func28, Try.ntmps28
  go_wp2_with fail
  refine (rd_End P s f _ H.out).mono ?_
  rintro r w2 ⟨rfl, hr2, hk2⟩; dsimp only
  have C := Lib.hid (rx_End R s f _ (hk2.blk X.out hPR.symm))
  go_wp2_with fail
  refine (C.out).mono ?_
  rintro r w3 ⟨rfl, hr3, hk3⟩; dsimp only
  go_wp2_with fail
  go_ret
  exact ⟨rfl, ⟨_, _, Nat.le_refl _, hk3.blk hr2 hPR, hr3⟩, Kept2.of HB.out hk2 hk3⟩
end Go.Proofs.Yteglieoeblehpaa
