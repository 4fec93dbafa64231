/- Commands: how the coder reads jobs, and sets of allocs, walked. Conditions: the bytes are in memory. -/
import Derived.Test.YteglieoeblehpaaCmd8
namespace Go.Proofs.Yteglieoeblehpaa
open Go.RowKit

abbrev St : Type := ByteArray × Int × Array Value
/-- A step keeps how many cells there are, and leaves no more bytes. -/
def Fair (x y : St) : Prop := y.1.size ≤ x.1.size ∧ y.2.2.size = x.2.2.size
theorem fairT (x : St) (i : Nat) : Fair x (stepT x i) := ⟨rdS_size _ _ _, by simp [stepT]⟩
theorem fairS (x : St) (i : Nat) : Fair x (stepS x i) := ⟨rdS_size _ _ _, by simp [stepS]⟩
theorem fairG (x : St) (i : Nat) : Fair x (stepG x i) := ⟨rdS_size _ _ _, by simp [stepG]⟩
theorem fairI (x : St) (i : Nat) : Fair x (stepI x i) := ⟨rdS_size _ _ _, by simp [stepI]⟩
theorem Fair.trans {x y z : St} (h : Fair x y) (k : Fair y z) : Fair x z := ⟨Nat.le_trans k.1 h.1, k.2.trans h.2⟩
def jobS (x : St) (off : Nat) : St := stepI (stepI (stepT ([off + 4, off + 4 + 1, off + 4 + 2].foldl stepI (stepI (stepS (stepT (stepT x off) (off + 1)) (off + 2)) (off + 3))) (off + 7)) (off + 8)) (off + 8 + 1)
def allocS (x : St) (off : Nat) : St := [off + 3, off + 3 + 1, off + 3 + 2].foldl stepI (stepI (stepT (stepT x off) (off + 1)) (off + 2))
set_option maxHeartbeats 4000000 in
theorem cr_job (P R C off : Nat) (o : ByteArray) (bd : Bool) (x : St) (hs : x.1.size ≤ 140737488351232) (w : World) (hP : Cr w P R o bd) (hR : Rd w R x.1 x.2.1) (t : TypeId) (hC : Blk w C t x.2.2) (hi : off + 9 < x.2.2.size) (n1 : P ≠ R) (n2 : P ≠ C) (n3 : C ≠ R) :
    Calls Try.prog 88 #[.pointer (some ⟨P, 0, none⟩), .pointer (some ⟨C, off, none⟩)] w fun e w' => (∃ v, e = .returned v) ∧ Rd w' R (jobS x off).1 (jobS x off).2.1 ∧ Blk w' C t (jobS x off).2.2 ∧ KeptRC R C w w' := by
  obtain ⟨z, hz⟩ : ∃ z, z = jobS x off := ⟨_, rfl⟩
  rw [← hz]
  unfold jobS at hz
  replace hz := Lib.hid hz
  have f0 : Fair x x := ⟨Nat.le_refl _, rfl⟩
  have hK0 := KeptRC.old (R := R) (C := C) (Below.refl w.heap.size w)
  obtain ⟨x0, hx0⟩ : ∃ x0, x0 = x := ⟨_, rfl⟩
  rw [← hx0] at hz
  have hR0 : Rd w R x0.1 x0.2.1 := by rw [hx0]; exact hR
  have hC0 : Blk w C t x0.2.2 := by rw [hx0]; exact hC
  replace f0 : Fair x x0 := by rw [hx0]; exact f0
  clear hR hC hx0
  go_enter Try.func88, Try.ntmps88
  have hP0 : Cr w P R o bd := hK0.2.2 _ _ _ n1 n2 hP
  go_wp2_with fail
  refine (cr_text P R C off o bd x0.1 x0.2.1 (Nat.le_trans f0.1 hs) w hP0 hR0 t x0.2.2 hC0 (by have := f0.2; omega) n1 n2 n3).mono ?_
  rintro r w1 ⟨⟨v, rfl⟩, hR1, hC1, hk⟩; dsimp only
  have hK1 := hK0.trans hk
  have f1 := f0.trans (fairT x0 off)
  obtain ⟨x1, hx1⟩ : ∃ y, y = stepT x0 off := ⟨_, rfl⟩
  replace hR1 : Rd w1 R x1.1 x1.2.1 := by rw [hx1]; exact hR1
  replace hC1 : Blk w1 C t x1.2.2 := by rw [hx1]; exact hC1
  replace f1 : Fair x x1 := by rw [hx1]; exact f1
  replace hz := Lib.hid (by have := hz.out; rw [← hx1] at this; exact this)
  clear hk hP0 hR0 hC0 hK0 f0 hx1
  have hP1 : Cr w1 P R o bd := hK1.2.2 _ _ _ n1 n2 hP
  go_wp2_with fail
  refine (cr_text P R C (off + 1) o bd x1.1 x1.2.1 (Nat.le_trans f1.1 hs) w1 hP1 hR1 t x1.2.2 hC1 (by have := f1.2; omega) n1 n2 n3).mono ?_
  rintro r w2 ⟨⟨v, rfl⟩, hR2, hC2, hk⟩; dsimp only
  have hK2 := hK1.trans hk
  have f2 := f1.trans (fairT x1 (off + 1))
  obtain ⟨x2, hx2⟩ : ∃ y, y = stepT x1 (off + 1) := ⟨_, rfl⟩
  replace hR2 : Rd w2 R x2.1 x2.2.1 := by rw [hx2]; exact hR2
  replace hC2 : Blk w2 C t x2.2.2 := by rw [hx2]; exact hC2
  replace f2 : Fair x x2 := by rw [hx2]; exact f2
  replace hz := Lib.hid (by have := hz.out; rw [← hx2] at this; exact this)
  clear hk hP1 hR1 hC1 hK1 f1 hx2
  have hP2 : Cr w2 P R o bd := hK2.2.2 _ _ _ n1 n2 hP
  go_wp2_with fail
  refine (cr_small P R C (off + 2) o bd x2.1 x2.2.1 (Nat.le_trans f2.1 hs) w2 hP2 hR2 t x2.2.2 hC2 (by have := f2.2; omega) n1 n2 n3).mono ?_
  rintro r w3 ⟨⟨v, rfl⟩, hR3, hC3, hk⟩; dsimp only
  have hK3 := hK2.trans hk
  have f3 := f2.trans (fairS x2 (off + 2))
  obtain ⟨x3, hx3⟩ : ∃ y, y = stepS x2 (off + 2) := ⟨_, rfl⟩
  replace hR3 : Rd w3 R x3.1 x3.2.1 := by rw [hx3]; exact hR3
  replace hC3 : Blk w3 C t x3.2.2 := by rw [hx3]; exact hC3
  replace f3 : Fair x x3 := by rw [hx3]; exact f3
  replace hz := Lib.hid (by have := hz.out; rw [← hx3] at this; exact this)
  clear hk hP2 hR2 hC2 hK2 f2 hx3
  have hP3 : Cr w3 P R o bd := hK3.2.2 _ _ _ n1 n2 hP
  go_wp2_with fail
  refine (oneR_numI P R C (off + 3) o bd x3 (Nat.le_trans f3.1 hs) w3 hP3 hR3 t hC3 (by have := f3.2; omega) n1 n2 n3).mono ?_
  rintro r w4 ⟨⟨v, rfl⟩, hR4, hC4, hk⟩; dsimp only
  have hK4 := hK3.trans hk
  have f4 := f3.trans (fairI x3 (off + 3))
  obtain ⟨x4, hx4⟩ : ∃ y, y = stepI x3 (off + 3) := ⟨_, rfl⟩
  replace hR4 : Rd w4 R x4.1 x4.2.1 := by rw [hx4]; exact hR4
  replace hC4 : Blk w4 C t x4.2.2 := by rw [hx4]; exact hC4
  replace f4 : Fair x x4 := by rw [hx4]; exact f4
  replace hz := Lib.hid (by have := hz.out; rw [← hx4] at this; exact this)
  clear hk hP3 hR3 hC3 hK3 f3 hx4
  have hP4 : Cr w4 P R o bd := hK4.2.2 _ _ _ n1 n2 hP
  go_wp2_with fail
  refine (cr_vec P R C (off + 4) o bd x4 (Nat.le_trans f4.1 hs) w4 hP4 hR4 t hC4 (by have := f4.2; omega) n1 n2 n3).mono ?_
  rintro r w5 ⟨⟨v, rfl⟩, hR5, hC5, hk⟩; dsimp only
  have hK5 := hK4.trans hk
  have f5 := f4.trans (((fairI x4 (off + 4)).trans (fairI _ (off + 4 + 1))).trans (fairI _ (off + 4 + 2)))
  obtain ⟨x5, hx5⟩ : ∃ y, y = [off + 4, off + 4 + 1, off + 4 + 2].foldl stepI x4 := ⟨_, rfl⟩
  replace hR5 : Rd w5 R x5.1 x5.2.1 := by rw [hx5]; exact hR5
  replace hC5 : Blk w5 C t x5.2.2 := by rw [hx5]; exact hC5
  replace f5 : Fair x x5 := by rw [hx5]; exact f5
  replace hz := Lib.hid (by have := hz.out; rw [← hx5] at this; exact this)
  clear hk hP4 hR4 hC4 hK4 f4 hx5
  have hP5 : Cr w5 P R o bd := hK5.2.2 _ _ _ n1 n2 hP
  go_wp2_with fail
  refine (cr_text P R C (off + 7) o bd x5.1 x5.2.1 (Nat.le_trans f5.1 hs) w5 hP5 hR5 t x5.2.2 hC5 (by have := f5.2; omega) n1 n2 n3).mono ?_
  rintro r w6 ⟨⟨v, rfl⟩, hR6, hC6, hk⟩; dsimp only
  have hK6 := hK5.trans hk
  have f6 := f5.trans (fairT x5 (off + 7))
  obtain ⟨x6, hx6⟩ : ∃ y, y = stepT x5 (off + 7) := ⟨_, rfl⟩
  replace hR6 : Rd w6 R x6.1 x6.2.1 := by rw [hx6]; exact hR6
  replace hC6 : Blk w6 C t x6.2.2 := by rw [hx6]; exact hC6
  replace f6 : Fair x x6 := by rw [hx6]; exact f6
  replace hz := Lib.hid (by have := hz.out; rw [← hx6] at this; exact this)
  clear hk hP5 hR5 hC5 hK5 f5 hx6
  have hP6 : Cr w6 P R o bd := hK6.2.2 _ _ _ n1 n2 hP
  go_wp2_with fail
  refine (oneR_numI P R C (off + 8) o bd x6 (Nat.le_trans f6.1 hs) w6 hP6 hR6 t hC6 (by have := f6.2; omega) n1 n2 n3).mono ?_
  rintro r w7 ⟨⟨v, rfl⟩, hR7, hC7, hk⟩; dsimp only
  have hK7 := hK6.trans hk
  have f7 := f6.trans (fairI x6 (off + 8))
  obtain ⟨x7, hx7⟩ : ∃ y, y = stepI x6 (off + 8) := ⟨_, rfl⟩
  replace hR7 : Rd w7 R x7.1 x7.2.1 := by rw [hx7]; exact hR7
  replace hC7 : Blk w7 C t x7.2.2 := by rw [hx7]; exact hC7
  replace f7 : Fair x x7 := by rw [hx7]; exact f7
  replace hz := Lib.hid (by have := hz.out; rw [← hx7] at this; exact this)
  clear hk hP6 hR6 hC6 hK6 f6 hx7
  have hP7 : Cr w7 P R o bd := hK7.2.2 _ _ _ n1 n2 hP
  go_wp2_with fail
  refine (oneR_numL P R C (off + 8 + 1) o bd x7 (Nat.le_trans f7.1 hs) w7 hP7 hR7 t hC7 (by have := f7.2; omega) n1 n2 n3).mono ?_
  rintro r w8 ⟨⟨v, rfl⟩, hR8, hC8, hk⟩; dsimp only
  have hK8 := hK7.trans hk
  have f8 := f7.trans (fairI x7 (off + 8 + 1))
  obtain ⟨x8, hx8⟩ : ∃ y, y = stepI x7 (off + 8 + 1) := ⟨_, rfl⟩
  replace hR8 : Rd w8 R x8.1 x8.2.1 := by rw [hx8]; exact hR8
  replace hC8 : Blk w8 C t x8.2.2 := by rw [hx8]; exact hC8
  replace f8 : Fair x x8 := by rw [hx8]; exact f8
  replace hz := Lib.hid (by have := hz.out; rw [← hx8] at this; exact this)
  clear hk hP7 hR7 hC7 hK7 f7 hx8
  go_wp2_with fail
  go_end0
  have e := hz.out
  subst e
  exact ⟨⟨_, rfl⟩, hR8, hC8, hK8⟩
set_option maxHeartbeats 4000000 in
theorem cr_alloc (P R C off : Nat) (o : ByteArray) (bd : Bool) (x : St) (hs : x.1.size ≤ 140737488351232) (w : World) (hP : Cr w P R o bd) (hR : Rd w R x.1 x.2.1) (t : TypeId) (hC : Blk w C t x.2.2) (hi : off + 5 < x.2.2.size) (n1 : P ≠ R) (n2 : P ≠ C) (n3 : C ≠ R) :
    Calls Try.prog 90 #[.pointer (some ⟨P, 0, none⟩), .pointer (some ⟨C, off, none⟩)] w fun e w' => (∃ v, e = .returned v) ∧ Rd w' R (allocS x off).1 (allocS x off).2.1 ∧ Blk w' C t (allocS x off).2.2 ∧ KeptRC R C w w' := by
  obtain ⟨z, hz⟩ : ∃ z, z = allocS x off := ⟨_, rfl⟩
  rw [← hz]
  unfold allocS at hz
  replace hz := Lib.hid hz
  have f0 : Fair x x := ⟨Nat.le_refl _, rfl⟩
  have hK0 := KeptRC.old (R := R) (C := C) (Below.refl w.heap.size w)
  obtain ⟨x0, hx0⟩ : ∃ x0, x0 = x := ⟨_, rfl⟩
  rw [← hx0] at hz
  have hR0 : Rd w R x0.1 x0.2.1 := by rw [hx0]; exact hR
  have hC0 : Blk w C t x0.2.2 := by rw [hx0]; exact hC
  replace f0 : Fair x x0 := by rw [hx0]; exact f0
  clear hR hC hx0
  go_enter Try.func90, Try.ntmps90
  have hP0 : Cr w P R o bd := hK0.2.2 _ _ _ n1 n2 hP
  go_wp2_with fail
  refine (cr_text P R C off o bd x0.1 x0.2.1 (Nat.le_trans f0.1 hs) w hP0 hR0 t x0.2.2 hC0 (by have := f0.2; omega) n1 n2 n3).mono ?_
  rintro r w1 ⟨⟨v, rfl⟩, hR1, hC1, hk⟩; dsimp only
  have hK1 := hK0.trans hk
  have f1 := f0.trans (fairT x0 off)
  obtain ⟨x1, hx1⟩ : ∃ y, y = stepT x0 off := ⟨_, rfl⟩
  replace hR1 : Rd w1 R x1.1 x1.2.1 := by rw [hx1]; exact hR1
  replace hC1 : Blk w1 C t x1.2.2 := by rw [hx1]; exact hC1
  replace f1 : Fair x x1 := by rw [hx1]; exact f1
  replace hz := Lib.hid (by have := hz.out; rw [← hx1] at this; exact this)
  clear hk hP0 hR0 hC0 hK0 f0 hx1
  have hP1 : Cr w1 P R o bd := hK1.2.2 _ _ _ n1 n2 hP
  go_wp2_with fail
  refine (cr_text P R C (off + 1) o bd x1.1 x1.2.1 (Nat.le_trans f1.1 hs) w1 hP1 hR1 t x1.2.2 hC1 (by have := f1.2; omega) n1 n2 n3).mono ?_
  rintro r w2 ⟨⟨v, rfl⟩, hR2, hC2, hk⟩; dsimp only
  have hK2 := hK1.trans hk
  have f2 := f1.trans (fairT x1 (off + 1))
  obtain ⟨x2, hx2⟩ : ∃ y, y = stepT x1 (off + 1) := ⟨_, rfl⟩
  replace hR2 : Rd w2 R x2.1 x2.2.1 := by rw [hx2]; exact hR2
  replace hC2 : Blk w2 C t x2.2.2 := by rw [hx2]; exact hC2
  replace f2 : Fair x x2 := by rw [hx2]; exact f2
  replace hz := Lib.hid (by have := hz.out; rw [← hx2] at this; exact this)
  clear hk hP1 hR1 hC1 hK1 f1 hx2
  have hP2 : Cr w2 P R o bd := hK2.2.2 _ _ _ n1 n2 hP
  go_wp2_with fail
  refine (oneR_numI P R C (off + 2) o bd x2 (Nat.le_trans f2.1 hs) w2 hP2 hR2 t hC2 (by have := f2.2; omega) n1 n2 n3).mono ?_
  rintro r w3 ⟨⟨v, rfl⟩, hR3, hC3, hk⟩; dsimp only
  have hK3 := hK2.trans hk
  have f3 := f2.trans (fairI x2 (off + 2))
  obtain ⟨x3, hx3⟩ : ∃ y, y = stepI x2 (off + 2) := ⟨_, rfl⟩
  replace hR3 : Rd w3 R x3.1 x3.2.1 := by rw [hx3]; exact hR3
  replace hC3 : Blk w3 C t x3.2.2 := by rw [hx3]; exact hC3
  replace f3 : Fair x x3 := by rw [hx3]; exact f3
  replace hz := Lib.hid (by have := hz.out; rw [← hx3] at this; exact this)
  clear hk hP2 hR2 hC2 hK2 f2 hx3
  have hP3 : Cr w3 P R o bd := hK3.2.2 _ _ _ n1 n2 hP
  go_wp2_with fail
  refine (cr_vec P R C (off + 3) o bd x3 (Nat.le_trans f3.1 hs) w3 hP3 hR3 t hC3 (by have := f3.2; omega) n1 n2 n3).mono ?_
  rintro r w4 ⟨⟨v, rfl⟩, hR4, hC4, hk⟩; dsimp only
  have hK4 := hK3.trans hk
  have f4 := f3.trans (((fairI x3 (off + 3)).trans (fairI _ (off + 3 + 1))).trans (fairI _ (off + 3 + 2)))
  obtain ⟨x4, hx4⟩ : ∃ y, y = [off + 3, off + 3 + 1, off + 3 + 2].foldl stepI x3 := ⟨_, rfl⟩
  replace hR4 : Rd w4 R x4.1 x4.2.1 := by rw [hx4]; exact hR4
  replace hC4 : Blk w4 C t x4.2.2 := by rw [hx4]; exact hC4
  replace f4 : Fair x x4 := by rw [hx4]; exact f4
  replace hz := Lib.hid (by have := hz.out; rw [← hx4] at this; exact this)
  clear hk hP3 hR3 hC3 hK3 f3 hx4
  go_wp2_with fail
  go_end0
  have e := hz.out
  subst e
  exact ⟨⟨_, rfl⟩, hR4, hC4, hK4⟩
end Go.Proofs.Yteglieoeblehpaa
