/- The laws VecAdds, VecSums, VecCompares of reevelaw01, walked. Conditions: the numbers are of their kinds. -/
import Derived.Test.YtblcaidbocnblaaRef1c
namespace Go.Proofs.Ytblcaidbocnblaa
open Go.RowKit

theorem ok_small {a b c : Int} (ha : I64 a) (hb : I64 b) (hc : I64 c) : (⟨a, b, c⟩ : Vec).ok := ⟨ha, hb, hc⟩
set_option maxHeartbeats 1000000 in
theorem alive01 (w : World) : Calls Try.prog 12 #[] w fun e w' => e = .returned (.bool true) ∧ Below w.heap.size w w' := by
  have c1 := Lib.hid (fun w => vec_Add ⟨1, 2, 3⟩ ⟨4, 5, 6⟩ (by decide) (by decide) w)
  have c2 := Lib.hid (fun w => vec_Add ⟨9223372036854775807, 0, 0⟩ ⟨1, 0, 0⟩ (by decide) (by decide) w)
  rw [show addV ⟨1, 2, 3⟩ ⟨4, 5, 6⟩ = (⟨5, 7, 9⟩, 0) by decide] at c1
  rw [show addV ⟨9223372036854775807, 0, 0⟩ ⟨1, 0, 0⟩ = (⟨0, 0, 0⟩, 9) by decide] at c2
  have c3 := Lib.hid (fun A c w hr => vec_Sum A 3 c [⟨9223372036854775807, 0, 0⟩, ⟨1, 0, 0⟩, ⟨-1, 0, 0⟩] w rfl (by decide) (by intro x hx; simp at hx; rcases hx with rfl | rfl | rfl <;> decide) hr)
  rw [show sumV [⟨9223372036854775807, 0, 0⟩, ⟨1, 0, 0⟩, ⟨-1, 0, 0⟩] = (⟨9223372036854775807, 0, 0⟩, 0) by decide] at c3
  have c4 := Lib.hid (fun w => vec_Fits ⟨1, 0, 0⟩ ⟨2, 0, 0⟩ w)
  have c5 := Lib.hid (fun w => vec_Fits ⟨3, 0, 0⟩ ⟨2, 0, 0⟩ w)
  have c6 := Lib.hid (fun w => vec_May ⟨1, 0, 0⟩ w)
  have c7 := Lib.hid (fun w => vec_May ⟨-1, 0, 0⟩ w)
  rw [show fitsV ⟨1, 0, 0⟩ ⟨2, 0, 0⟩ = true by decide] at c4
  rw [show fitsV ⟨3, 0, 0⟩ ⟨2, 0, 0⟩ = false by decide] at c5
  rw [show mayV ⟨1, 0, 0⟩ = true by decide] at c6
  rw [show mayV ⟨-1, 0, 0⟩ = false by decide] at c7
  go_enter Try.func12, Try.ntmps12
  go_wp2_with fail
  refine (c1.out _).mono ?_
  rintro e w1 ⟨rfl, hb1⟩
  go_wp2_with fail
  refine (c2.out _).mono ?_
  rintro e w2 ⟨rfl, hb2⟩
  have a2 := (Blk.new w1 _ _).past hb2
  have b2 := below_to (below_own hb1 _) hb2
  clear hb1 hb2
  go_wp2_with fail
  refine (c3.out _ _ _ ?_).mono ?_
  · intro _
    refine ⟨_, _, rfl, by simp, ?_⟩
    intro i hi
    simp only [List.length_cons, List.length_nil] at hi
    match i, hi with
    | 0, _ => exact ⟨by simp [go_sem], by simp [go_sem], by simp [go_sem]⟩
    | 1, _ => exact ⟨by simp [go_sem], by simp [go_sem], by simp [go_sem]⟩
    | 2, _ => exact ⟨by simp [go_sem], by simp [go_sem], by simp [go_sem]⟩
  rintro e w3 ⟨rfl, hb3⟩
  have a3 := ((a2.alloc _).alloc _).past hb3
  have b3 := below_to (below_own (below_own b2 _) _) hb3
  clear a2 b2 hb3
  obtain ⟨a3c, a3f, a3l⟩ := a3.facts
  go_wp2_with fail
  refine (c4.out _).mono ?_
  rintro e w4 ⟨rfl, hb4⟩
  have b4 := below_to (below_own b3 _) hb4
  clear hb4 a3 a3c a3f a3l b3
  go_wp2_with fail
  refine (c5.out _).mono ?_
  rintro e w5 ⟨rfl, hb5⟩
  have b5 := below_to b4 hb5
  go_wp2_with fail
  refine (c6.out _).mono ?_
  rintro e w6 ⟨rfl, hb6⟩
  have b6 := below_to b5 hb6
  go_wp2_with fail
  refine (c7.out _).mono ?_
  rintro e w7 ⟨rfl, hb7⟩
  have b7 := below_to b6 hb7
  go_wp2_with fail
  go_ret
  exact ⟨rfl, b7⟩

theorem vecsIn_below {w w1 : World} {A : Option Addr} {xs : List Vec} (h : VecsIn w A xs) (hb : Below w.heap.size w w1) : VecsIn w1 A xs := by
  intro hne
  obtain ⟨b, off, hA, hlt, hc⟩ := h hne
  refine ⟨b, off, hA, Nat.lt_of_lt_of_le hlt hb.size, fun i hi => ?_⟩
  obtain ⟨c0, c1, c2⟩ := hc i hi
  exact ⟨(hb.cell (p := ⟨b, _, none⟩) hlt).trans c0, (hb.cell (p := ⟨b, _, none⟩) hlt).trans c1, (hb.cell (p := ⟨b, _, none⟩) hlt).trans c2⟩
set_option maxHeartbeats 1000000 in
theorem VecSums_walk (A : Option Addr) (n c : Nat) (xs : List Vec) (hl : xs.length = n) (hn : n * 24 ≤ 140737488351232) (hok : ∀ x ∈ xs, x.ok) {w : World} (hr : VecsIn w A xs) :
    Calls Try.prog 3 #[.slice A n c] w fun e w' => e = .returned (.bool true) ∧ Below w.heap.size w w' := by
  have al := Lib.hid alive01
  by_cases hbig : 4096 < n
  · have hb : (4096 : Int) < n := by omega
    clear hr hok hl
    go_enter Try.func3, Try.ntmps3
    go_wp2_with fail
    refine (al.out _).mono ?_
    rintro e w1 ⟨rfl, hb1⟩
    go_wp2_with fail
    go_ret
    exact ⟨rfl, hb1⟩
  · have hb : ¬ (4096 : Int) < n := by omega
    have c1 := fun w hr => vec_Sum A n c xs w hl (by omega) hok hr
    have c2 := fun w hr => ref_Sum A n c xs w hl (by omega) hok hr
    have hr' := Lib.hid hr
    clear hr
    generalize sumV xs = r at c1 c2
    obtain ⟨⟨r0, r1, r2⟩, r3⟩ := r
    have C1 := Lib.hid c1
    have C2 := Lib.hid c2
    clear c1 c2 hok hl
    go_enter Try.func3, Try.ntmps3
    go_wp2_with fail
    refine (C1.out _ hr'.out).mono ?_
    rintro e w1 ⟨rfl, hb1⟩
    go_wp2_with fail
    refine (C2.out _ (vecsIn_below hr'.out (below_own hb1 _))).mono ?_
    rintro e w2 ⟨rfl, hb2⟩
    have a2 := (Blk.new w1 _ _).past hb2
    have b2 := below_to (below_own hb1 _) hb2
    clear hb1 hb2
    obtain ⟨a2c, a2f, a2l⟩ := a2.facts
    go_wp2_with fail
    refine (al.out _).mono ?_
    rintro e w3 ⟨rfl, hb3⟩
    have b3 := below_to (below_own b2 _) hb3
    go_wp2_with fail
    go_ret
    exact ⟨rfl, b3⟩

set_option maxHeartbeats 1000000 in
theorem VecCompares_walk (a : Vec) (ha : a.ok) (b : Vec) (hb : b.ok) (w : World) :
    Calls Try.prog 4 #[a.v, b.v] w fun e w' => e = .returned (.bool true) ∧ Below w.heap.size w w' := by
  have al := Lib.hid alive01
  have c1 := vec_May a
  have c2 := ref_May a
  have c3 := vec_Fits a b
  have c4 := ref_Fits a b
  have c5 := vec_Max a b ha hb
  have c6 := ref_Max a b
  have c7 := vec_Min a b ha hb
  have c8 := ref_Min a b
  generalize mayV a = m at *
  generalize fitsV a b = f at *
  generalize maxV a b = x at *
  generalize minV a b = n at *
  obtain ⟨a0, a1, a2⟩ := a
  obtain ⟨b0, b1, b2⟩ := b
  obtain ⟨x0, x1, x2⟩ := x
  obtain ⟨n0, n1, n2⟩ := n
  have C1 := Lib.hid c1
  have C2 := Lib.hid c2
  have C3 := Lib.hid c3
  have C4 := Lib.hid c4
  have C5 := Lib.hid c5
  have C6 := Lib.hid c6
  have C7 := Lib.hid c7
  have C8 := Lib.hid c8
  clear c1 c2 c3 c4 c5 c6 c7 c8 ha hb
  go_enter Try.func4, Try.ntmps4
  go_wp2_with fail
  refine wp_region_ext (by kernel_rfl) (by kernel_rfl) ?_
  repeat (go_big_quiet_step ((first | (go_at_call 15; exact ext_of (C1.out _)) | (go_at_call 16; exact ext_of (C2.out _)) | (go_at_call 17; exact ext_of (C3.out _)) | (go_at_call 18; exact ext_of (C4.out _)) | (go_at_call 19; exact ext_of (C5.out _)) | (go_at_call 20; exact ext_of (C6.out _)) | (go_at_call 21; exact ext_of (C7.out _)) | (go_at_call 22; exact ext_of (C8.out _)) | (go_at_call 12; exact ext_of (al.out _)))))
  refine wpQuiet_nil ?_
  intro w1 hx
  have hB : Below w.heap.size w w1 := below_to (by go_grown) (after_region hx).2.2.2.2
  clear hx
  go_wp2
  go_ret
  exact ⟨rfl, hB⟩

set_option maxHeartbeats 1000000 in
theorem VecAdds_walk (a : Vec) (ha : a.ok) (b : Vec) (hb : b.ok) (n : Int) (hn : I64 n) (w : World) :
    Calls Try.prog 10 #[a.v, b.v, .int .i64 n] w fun e w' => e = .returned (.bool true) ∧ Below w.heap.size w w' := by
  have al := Lib.hid alive01
  have c1 := vec_Add a b ha hb
  have c2 := ref_Add a b ha hb
  have c3 := vec_Sub a b ha hb
  have c4 := ref_Sub a b ha hb
  have c5 := vec_Times a n ha hn
  have c6 := ref_Times a n ha hn
  generalize addV a b = x at *
  generalize subV a b = y at *
  generalize timesV a n = z at *
  obtain ⟨a0, a1, a2⟩ := a
  obtain ⟨b0, b1, b2⟩ := b
  obtain ⟨⟨x0, x1, x2⟩, x3⟩ := x
  obtain ⟨⟨y0, y1, y2⟩, y3⟩ := y
  obtain ⟨⟨z0, z1, z2⟩, z3⟩ := z
  have C1 := Lib.hid c1
  have C2 := Lib.hid c2
  have C3 := Lib.hid c3
  have C4 := Lib.hid c4
  have C5 := Lib.hid c5
  have C6 := Lib.hid c6
  clear c1 c2 c3 c4 c5 c6 ha hb hn
  go_enter Try.func10, Try.ntmps10
  go_wp2_with fail
  refine (C1.out _).mono ?_
  rintro e w1 ⟨rfl, hb⟩
  have A := ((Blk.new w _ _).alloc _).past hb
  have B := (Blk.new1 w _ _ _).past hb
  have L := below_to (below_own (below_own (below_self w) _) _) hb
  clear hb
  obtain ⟨Ac, Af, Al⟩ := A.facts
  obtain ⟨Bc, Bf, Bl⟩ := B.facts
  go_wp2_with fail
  clear Ac Af Al Bc Bf Bl
  refine (C2.out _).mono ?_
  rintro e w2 ⟨rfl, hb⟩
  replace A := (A.alloc _).past hb
  replace B := (B.alloc _).past hb
  have R1 := (Blk.new w1 _ _).past hb
  replace L := below_to (below_own L _) hb
  clear hb
  obtain ⟨Ac, Af, Al⟩ := A.facts
  obtain ⟨Bc, Bf, Bl⟩ := B.facts
  go_wp2_with fail
  clear Ac Af Al Bc Bf Bl
  refine (C3.out _).mono ?_
  rintro e w3 ⟨rfl, hb⟩
  replace A := (A.alloc _).past hb
  replace B := (B.alloc _).past hb
  replace R1 := (R1.alloc _).past hb
  have R2 := (Blk.new w2 _ _).past hb
  replace L := below_to (below_own L _) hb
  clear hb
  obtain ⟨Ac, Af, Al⟩ := A.facts
  obtain ⟨Bc, Bf, Bl⟩ := B.facts
  go_wp2_with fail
  clear Ac Af Al Bc Bf Bl
  refine (C4.out _).mono ?_
  rintro e w4 ⟨rfl, hb⟩
  replace A := (A.alloc _).past hb
  replace B := (B.alloc _).past hb
  replace R1 := (R1.alloc _).past hb
  replace R2 := (R2.alloc _).past hb
  have R3 := (Blk.new w3 _ _).past hb
  replace L := below_to (below_own L _) hb
  clear hb
  obtain ⟨Ac, Af, Al⟩ := A.facts
  obtain ⟨Bc, Bf, Bl⟩ := B.facts
  go_wp2_with fail
  clear Ac Af Al Bc Bf Bl
  refine (C5.out _).mono ?_
  rintro e w5 ⟨rfl, hb⟩
  replace A := (A.alloc _).past hb
  replace B := (B.alloc _).past hb
  replace R1 := (R1.alloc _).past hb
  replace R2 := (R2.alloc _).past hb
  replace R3 := (R3.alloc _).past hb
  have R4 := (Blk.new w4 _ _).past hb
  replace L := below_to (below_own L _) hb
  clear hb
  obtain ⟨Ac, Af, Al⟩ := A.facts
  obtain ⟨Bc, Bf, Bl⟩ := B.facts
  go_wp2_with fail
  clear Ac Af Al Bc Bf Bl
  refine (C6.out _).mono ?_
  rintro e w6 ⟨rfl, hb⟩
  replace A := (A.alloc _).past hb
  replace B := (B.alloc _).past hb
  replace R1 := (R1.alloc _).past hb
  replace R2 := (R2.alloc _).past hb
  replace R3 := (R3.alloc _).past hb
  replace R4 := (R4.alloc _).past hb
  have R5 := (Blk.new w5 _ _).past hb
  replace L := below_to (below_own L _) hb
  clear hb
  obtain ⟨R1c, R1f, R1l⟩ := R1.facts
  obtain ⟨R2c, R2f, R2l⟩ := R2.facts
  obtain ⟨R3c, R3f, R3l⟩ := R3.facts
  obtain ⟨R4c, R4f, R4l⟩ := R4.facts
  obtain ⟨R5c, R5f, R5l⟩ := R5.facts
  go_wp2_with fail
  refine (al.out _).mono ?_
  rintro e w7 ⟨rfl, hb⟩
  replace L := below_to (below_own L _) hb
  go_wp2_with fail
  go_ret
  exact ⟨rfl, L⟩
end Go.Proofs.Ytblcaidbocnblaa
