/- The laws VecLaws, VecTimes of reevelaw01, walked. Conditions: the numbers are of their kinds. -/
import Derived.Test.YtblcaidbocnblaaL01a
import Derived.Test.YtblcaidbocnblaaEq
namespace Go.Proofs.Ytblcaidbocnblaa
open Go.RowKit

/-! ### Plain facts -/
theorem sumV_cab (a b c : Vec) : sumV [c, a, b] = sumV [a, b, c] := by
  have e : ∀ f : Vec → Int, sumC f [c, a, b] = sumC f [a, b, c] := fun f => by simp [sumC]; omega
  simp only [sumV, e]
theorem sumV_bac (a b c : Vec) : sumV [b, a, c] = sumV [a, b, c] := by
  have e : ∀ f : Vec → Int, sumC f [b, a, c] = sumC f [a, b, c] := fun f => by simp [sumC]; omega
  simp only [sumV, e]
theorem fits_I64 {z : Int} : fits z = true ↔ I64 z := by unfold fits I64; simp
theorem eachV_cases (op : Int → Int → Int) (a b : Vec) : ((eachV op a b).2 = 0 ∧ (eachV op a b).1 = ⟨op a.cpu b.cpu, op a.mem b.mem, op a.disk b.disk⟩ ∧ (eachV op a b).1.ok) ∨ eachV op a b = (zeroV, 9) := by
  unfold eachV
  split
  · rename_i h
    simp only [Bool.and_eq_true] at h
    exact .inl ⟨rfl, rfl, fits_I64.1 h.1.1, fits_I64.1 h.1.2, fits_I64.1 h.2⟩
  · exact .inr rfl
theorem eachV_ok (op : Int → Int → Int) (a b : Vec) : (eachV op a b).1.ok := by
  rcases eachV_cases op a b with h | h
  · exact h.2.2
  · rw [h]; decide
theorem sub_add (a c : Vec) (ha : a.ok) (h : (addV a c).2 = 0) : subV (addV a c).1 c = (a, 0) := by
  rcases eachV_cases (· + ·) a c with h' | h'
  · obtain ⟨_, h2, _⟩ := h'
    show eachV (· - ·) (eachV (· + ·) a c).1 c = _
    rw [h2]
    have e : ∀ x y : Int, x + y - y = x := by omega
    simp only [eachV, e]
    rw [if_pos (by simp only [Bool.and_eq_true]; exact ⟨⟨fits_I64.2 ha.1, fits_I64.2 ha.2.1⟩, fits_I64.2 ha.2.2⟩)]
  · have : (addV a c).2 = 9 := congrArg Prod.snd h'
    omega
theorem fits_add (a b c : Vec) (h : (addV a c).2 = 0) (h' : (addV b c).2 = 0) : fitsV (addV a c).1 (addV b c).1 = fitsV a b := by
  rcases eachV_cases (· + ·) a c with k | k
  · rcases eachV_cases (· + ·) b c with k' | k'
    · show fitsV (eachV (· + ·) a c).1 (eachV (· + ·) b c).1 = _
      rw [k.2.1, k'.2.1]
      unfold fitsV
      rw [Bool.eq_iff_iff]
      simp only [Bool.and_eq_true, decide_eq_true_eq]
      omega
    · have : (addV b c).2 = 9 := congrArg Prod.snd k'
      omega
  · have : (addV a c).2 = 9 := congrArg Prod.snd k
    omega
theorem fits_min (a b : Vec) : fitsV (minV a b) a = true := by
  unfold fitsV minV pickV
  simp only [Bool.and_eq_true, decide_eq_true_eq]
  omega
theorem fits_max (a b : Vec) : fitsV b (maxV a b) = true := by
  unfold fitsV maxV pickV
  simp only [Bool.and_eq_true, decide_eq_true_eq]
  omega
theorem max_eq (a b : Vec) : ((maxV a b).cpu == b.cpu && ((maxV a b).mem == b.mem && (maxV a b).disk == b.disk)) = fitsV a b := by
  unfold fitsV maxV pickV
  rw [Bool.eq_iff_iff]
  simp only [Bool.and_eq_true, decide_eq_true_eq, beq_iff_eq]
  omega
theorem max_eqV (a b : Vec) : eqV (maxV a b) b = fitsV a b := by
  rw [← max_eq]
  unfold eqV
  rw [Bool.eq_iff_iff]
  generalize maxV a b = m
  obtain ⟨m0, m1, m2⟩ := m
  obtain ⟨b0, b1, b2⟩ := b
  simp
theorem maxV_ok {a b : Vec} (ha : a.ok) (hb : b.ok) : (maxV a b).ok := by
  obtain ⟨⟨_, _⟩, ⟨_, _⟩, _, _⟩ := ha
  obtain ⟨⟨_, _⟩, ⟨_, _⟩, _, _⟩ := hb
  refine ⟨⟨?_, ?_⟩, ⟨?_, ?_⟩, ?_, ?_⟩ <;> simp only [maxV, pickV] <;> omega


set_option maxHeartbeats 4000000 in
theorem VecLaws_walk (a : Vec) (ha : a.ok) (b : Vec) (hb : b.ok) (c : Vec) (hc : c.ok) (w : World) :
    Calls Try.prog 9 #[a.v, b.v, c.v] w fun e w' => e = .returned (.bool true) ∧ Below w.heap.size w w' := by
  have al := Lib.hid alive01
  have ok3 : ∀ x y z : Vec, x.ok → y.ok → z.ok → ∀ v ∈ [x, y, z], v.ok := by intro x y z hx hy hz v hv; simp at hv; rcases hv with rfl | rfl | rfl <;> assumption
  have c1 := fun A k W hr => vec_Sum A 3 k [a, b, c] W rfl (by decide) (ok3 _ _ _ ha hb hc) hr
  have c2 := fun A k W hr => vec_Sum A 3 k [c, a, b] W rfl (by decide) (ok3 _ _ _ hc ha hb) hr
  have c3 := fun A k W hr => vec_Sum A 3 k [b, a, c] W rfl (by decide) (ok3 _ _ _ hb ha hc) hr
  rw [sumV_cab] at c2
  rw [sumV_bac] at c3
  have c4 := vec_Add a c ha hc
  have c5 := vec_Add b c hb hc
  have c6 := fun h : (addV a c).2 = 0 => vec_Sub (addV a c).1 c (eachV_ok _ _ _) hc
  have c6 : (addV a c).2 = 0 → ∀ w, Calls Try.prog 31 #[(addV a c).1.v, c.v] w fun e w' => e = .returned (.tuple #[a.v, .int .i64 0]) ∧ Below w.heap.size w w' := fun h => by
    have := c6 h
    rw [sub_add a c ha h] at this
    exact this
  have c7 : (addV a c).2 = 0 → (addV b c).2 = 0 → ∀ w, Calls Try.prog 17 #[(addV a c).1.v, (addV b c).1.v] w fun e w' => e = .returned (.bool (fitsV a b)) ∧ Below w.heap.size w w' := fun h h' => by
    have := vec_Fits (addV a c).1 (addV b c).1
    rw [fits_add a b c h h'] at this
    exact this
  have c8 := vec_Fits a b
  have c9 := vec_Min a b ha hb
  have c10 := vec_Fits (minV a b) a
  rw [fits_min] at c10
  have c11 := vec_Max a b ha hb
  have c12 := vec_Fits b (maxV a b)
  rw [fits_max] at c12
  have hm : eqV (maxV a b) b = fitsV a b := (max_eqV a b)
  generalize sumV [a, b, c] = s at *
  generalize addV a c = x at *
  generalize addV b c = y at *
  generalize fitsV a b = f at *
  generalize minV a b = n at *
  generalize maxV a b = m at *
  obtain ⟨a0, a1, a2⟩ := a
  obtain ⟨b0, b1, b2⟩ := b
  obtain ⟨d0, d1, d2⟩ := c
  obtain ⟨⟨s0, s1, s2⟩, s3⟩ := s
  obtain ⟨⟨x0, x1, x2⟩, x3⟩ := x
  obtain ⟨⟨y0, y1, y2⟩, y3⟩ := y
  obtain ⟨n0, n1, n2⟩ := n
  obtain ⟨m0, m1, m2⟩ := m
  have C1 := Lib.hid c1
  have C2 := Lib.hid c2
  have C3 := Lib.hid c3
  have C4 := Lib.hid c4
  have C5 := Lib.hid c5
  have C6 := Lib.hid c6
  have C7 := Lib.hid c7
  have C8 := Lib.hid c8
  have C9 := Lib.hid c9
  have C10 := Lib.hid c10
  have C11 := Lib.hid c11
  have C12 := Lib.hid c12
  clear c1 c2 c3 c4 c5 c6 c7 c8 c9 c10 c11 c12 ok3 ha hb hc
  have HM := Lib.hid hm
  clear hm
  go_enter Try.func9, Try.ntmps9
  go_wp2_with fail

  have L := below_own (below_own (below_own (below_self w) (.cells #[.int .i64 a0, .int .i64 a1, .int .i64 a2] 25)) (.cells #[.int .i64 b0, .int .i64 b1, .int .i64 b2] 25)) (.cells #[.int .i64 d0, .int .i64 d1, .int .i64 d2] 25)
  refine (C1.out _ _ _ ?_).mono ?_
  · intro _
    refine ⟨_, _, rfl, by simp, ?_⟩
    intro i hi
    simp only [List.length_cons, List.length_nil] at hi
    match i, hi with
    | 0, _ => exact ⟨by simp [go_sem], by simp [go_sem], by simp [go_sem]⟩
    | 1, _ => exact ⟨by simp [go_sem], by simp [go_sem], by simp [go_sem]⟩
    | 2, _ => exact ⟨by simp [go_sem], by simp [go_sem], by simp [go_sem]⟩
  rintro e w1 ⟨rfl, hb⟩; dsimp only
  have A := ((((Blk.new w _ _).alloc _).alloc _).alloc _).past hb
  have B := (((Blk.new1 w _ _ _).alloc _).alloc _).past hb
  have D := ((Blk.new2 w _ _ _ _).alloc _).past hb
  replace L := below_to (below_own L _) hb
  clear hb
  obtain ⟨Ac, Af, Al⟩ := A.facts
  obtain ⟨Bc, Bf, Bl⟩ := B.facts
  obtain ⟨Dc, Df, Dl⟩ := D.facts
  go_wp2_with fail
  clear Ac Af Al Bc Bf Bl Dc Df Dl
  refine (C2.out _ _ _ ?_).mono ?_
  · intro _
    refine ⟨_, _, rfl, by simp, ?_⟩
    intro i hi
    simp only [List.length_cons, List.length_nil] at hi
    match i, hi with
    | 0, _ => exact ⟨by simp [go_sem], by simp [go_sem], by simp [go_sem]⟩
    | 1, _ => exact ⟨by simp [go_sem], by simp [go_sem], by simp [go_sem]⟩
    | 2, _ => exact ⟨by simp [go_sem], by simp [go_sem], by simp [go_sem]⟩
  rintro e w2 ⟨rfl, hb⟩; dsimp only
  replace A := ((A.alloc _).alloc _).past hb
  replace B := ((B.alloc _).alloc _).past hb
  replace D := ((D.alloc _).alloc _).past hb
  have S1 := (((Blk.new w1 _ _).alloc _)).past hb
  replace L := below_to (below_own (below_own L _) _) hb
  clear hb
  obtain ⟨Ac, Af, Al⟩ := A.facts
  obtain ⟨Bc, Bf, Bl⟩ := B.facts
  obtain ⟨Dc, Df, Dl⟩ := D.facts
  obtain ⟨S1c, S1f, S1l⟩ := S1.facts
  go_wp2_with fail
  clear Ac Af Al Bc Bf Bl Dc Df Dl S1c S1f S1l
  refine (C3.out _ _ _ ?_).mono ?_
  · intro _
    refine ⟨_, _, rfl, by simp, ?_⟩
    intro i hi
    simp only [List.length_cons, List.length_nil] at hi
    match i, hi with
    | 0, _ => exact ⟨by simp [go_sem], by simp [go_sem], by simp [go_sem]⟩
    | 1, _ => exact ⟨by simp [go_sem], by simp [go_sem], by simp [go_sem]⟩
    | 2, _ => exact ⟨by simp [go_sem], by simp [go_sem], by simp [go_sem]⟩
  rintro e w3 ⟨rfl, hb⟩; dsimp only
  replace A := ((A.alloc _).alloc _).past hb
  replace B := ((B.alloc _).alloc _).past hb
  replace D := ((D.alloc _).alloc _).past hb
  replace S1 := ((S1.alloc _).alloc _).past hb
  have S2 := (((Blk.new w2 _ _).alloc _)).past hb
  replace L := below_to (below_own (below_own L _) _) hb
  clear hb
  obtain ⟨Ac, Af, Al⟩ := A.facts
  obtain ⟨Bc, Bf, Bl⟩ := B.facts
  obtain ⟨Dc, Df, Dl⟩ := D.facts
  obtain ⟨S1c, S1f, S1l⟩ := S1.facts
  obtain ⟨S2c, S2f, S2l⟩ := S2.facts
  go_wp2_with fail
  clear Ac Af Al Bc Bf Bl Dc Df Dl S1c S1f S1l S2c S2f S2l
  refine (C4.out _).mono ?_
  rintro e w4 ⟨rfl, hb⟩; dsimp only
  replace A := (A.alloc _).past hb
  replace B := (B.alloc _).past hb
  replace D := (D.alloc _).past hb
  replace S1 := (S1.alloc _).past hb
  replace S2 := (S2.alloc _).past hb
  have S3 := (Blk.new w3 _ _).past hb
  replace L := below_to (below_own L _) hb
  clear hb
  obtain ⟨Ac, Af, Al⟩ := A.facts
  obtain ⟨Bc, Bf, Bl⟩ := B.facts
  obtain ⟨Dc, Df, Dl⟩ := D.facts
  go_wp2_with fail
  clear Ac Af Al Bc Bf Bl Dc Df Dl
  refine (C5.out _).mono ?_
  rintro e w5 ⟨rfl, hb⟩; dsimp only
  replace A := (A.alloc _).past hb
  replace B := (B.alloc _).past hb
  replace D := (D.alloc _).past hb
  replace S1 := (S1.alloc _).past hb
  replace S2 := (S2.alloc _).past hb
  replace S3 := (S3.alloc _).past hb
  have X := (Blk.new w4 _ _).past hb
  replace L := below_to (below_own L _) hb
  clear hb

  have q1 := eql_vec
  have q2 := neq_vec
  have q3 := eqV_self
  have q4 := HM.out
  obtain ⟨Ac, Af, Al⟩ := A.facts
  obtain ⟨Bc, Bf, Bl⟩ := B.facts
  obtain ⟨Dc, Df, Dl⟩ := D.facts
  obtain ⟨Xc, Xf, Xl⟩ := X.facts
  by_cases hx : x3 = 0
  · subst hx
    go_wp2_with fail
    refine (C6.out (by trivial) _).mono ?_
    rintro e w6 ⟨rfl, hb⟩; dsimp only
    clear Ac Af Al Bc Bf Bl Dc Df Dl Xc Xf Xl D S1 S2 S3
    have Y := (Blk.new w5 25 #[.int .i64 y0, .int .i64 y1, .int .i64 y2]).past hb
    replace A := (A.alloc _).past hb
    replace B := (B.alloc _).past hb
    replace X := (X.alloc _).past hb
    replace L := below_to (below_own L _) hb
    clear hb
    obtain ⟨Ac, Af, Al⟩ := A.facts
    obtain ⟨Bc, Bf, Bl⟩ := B.facts
    obtain ⟨Xc, Xf, Xl⟩ := X.facts
    obtain ⟨Yc, Yf, Yl⟩ := Y.facts
    by_cases hy : y3 = 0
    · subst hy
      have D7 := C7.out (by trivial) (by trivial)
      have E7 := Lib.hid D7
      clear D7
      go_wp2_with fail
      refine wp_region_ext (by kernel_rfl) (by kernel_rfl) ?_
      repeat (go_big_quiet_step ((go_at_call 17; first | with_reducible exact ext_of (C8.out _) | with_reducible exact ext_of (E7.out _))))
      refine wpQuiet_nil ?_
      intro w8 hx
      obtain ⟨x12, rfl⟩ := hx
      clear Ac Af Al Bc Bf Bl Xc Xf Xl Yc Yf Yl
      replace A := (A.alloc _).past (extn_below _ x12)
      replace B := (B.alloc _).past (extn_below _ x12)
      replace L := below_to (below_own L _) (extn_below _ x12)
      obtain ⟨Ac, Af, Al⟩ := A.facts
      obtain ⟨Bc, Bf, Bl⟩ := B.facts
      go_wp2_with fail
      refine wp_region_ext (by kernel_rfl) (by kernel_rfl) ?_
      repeat (go_big_quiet_step ((first | (go_at_call 21; with_reducible exact ext_of (C9.out _)) | (go_at_call 19; with_reducible exact ext_of (C11.out _)) | (go_at_call 12; exact ext_of (al.out _)) | (go_at_call 17; first | with_reducible exact ext_of (C10.out _) | with_reducible exact ext_of (C12.out _) | with_reducible exact ext_of (C8.out _)))))
      refine wpQuiet_nil ?_
      intro w9 hx
      obtain ⟨xx, rfl⟩ := hx
      go_wp2_with fail
      go_ret
      exact ⟨by first | rfl | simp, below_to L (extn_below _ xx)⟩
    · have hy' : (y3 == 0) = false := by simpa using hy
      go_wp2_with fail
      refine wp_region_ext (by kernel_rfl) (by kernel_rfl) ?_
      repeat (go_big_quiet_step (fail))
      refine wpQuiet_nil ?_
      intro w8 hx
      obtain ⟨x12, rfl⟩ := hx
      clear Ac Af Al Bc Bf Bl Xc Xf Xl Yc Yf Yl
      replace A := (A.alloc _).past (extn_below _ x12)
      replace B := (B.alloc _).past (extn_below _ x12)
      replace L := below_to (below_own L _) (extn_below _ x12)
      obtain ⟨Ac, Af, Al⟩ := A.facts
      obtain ⟨Bc, Bf, Bl⟩ := B.facts
      go_wp2_with fail
      refine wp_region_ext (by kernel_rfl) (by kernel_rfl) ?_
      repeat (go_big_quiet_step ((first | (go_at_call 21; with_reducible exact ext_of (C9.out _)) | (go_at_call 19; with_reducible exact ext_of (C11.out _)) | (go_at_call 12; exact ext_of (al.out _)) | (go_at_call 17; first | with_reducible exact ext_of (C10.out _) | with_reducible exact ext_of (C12.out _) | with_reducible exact ext_of (C8.out _)))))
      refine wpQuiet_nil ?_
      intro w9 hx
      obtain ⟨xx, rfl⟩ := hx
      go_wp2_with fail
      go_ret
      exact ⟨by first | rfl | simp, below_to L (extn_below _ xx)⟩
  · have hx' : (x3 == 0) = false := by simpa using hx
    go_wp2_with fail
    refine wp_region_ext (by kernel_rfl) (by kernel_rfl) ?_
    repeat (go_big_quiet_step (fail))
    refine wpQuiet_nil ?_
    intro w8 hx
    obtain ⟨x12, rfl⟩ := hx
    clear Ac Af Al Bc Bf Bl Dc Df Dl Xc Xf Xl
    replace A := (A.alloc _).past (extn_below _ x12)
    replace B := (B.alloc _).past (extn_below _ x12)
    replace L := below_to (below_own L _) (extn_below _ x12)
    obtain ⟨Ac, Af, Al⟩ := A.facts
    obtain ⟨Bc, Bf, Bl⟩ := B.facts
    go_wp2_with fail
    refine wp_region_ext (by kernel_rfl) (by kernel_rfl) ?_
    repeat (go_big_quiet_step ((first | (go_at_call 21; with_reducible exact ext_of (C9.out _)) | (go_at_call 19; with_reducible exact ext_of (C11.out _)) | (go_at_call 12; exact ext_of (al.out _)) | (go_at_call 17; first | with_reducible exact ext_of (C10.out _) | with_reducible exact ext_of (C12.out _) | with_reducible exact ext_of (C8.out _)))))
    refine wpQuiet_nil ?_
    intro w9 hx
    obtain ⟨xx, rfl⟩ := hx
    go_wp2_with fail
    go_ret
    exact ⟨by first | rfl | simp, below_to L (extn_below _ xx)⟩
end Go.Proofs.Ytblcaidbocnblaa
