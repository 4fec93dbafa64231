/- The laws FrameLong, FrameTurned: the plain part. Conditions: none. -/
import Derived.Test.YthlninijnbmjfaaFr7
namespace Go.Proofs.Ythlninijnbmjfaa
open Go.RowKit Go.Shelf

theorem numL_take (l : List UInt8) : numL (l.take 4) = numL l := by
  match l with
  | [] => rfl
  | [_] => rfl
  | [_, _] => rfl
  | [_, _, _] => rfl
  | _ :: _ :: _ :: _ :: _ => rfl
theorem byteB_ofNat (x : UInt8) : byteB x = BitVec.ofNat 32 x.toNat := by
  apply BitVec.eq_of_toNat_eq
  have := x.toNat_lt
  simp [byteB]
theorem tb_mod (y i k : Nat) : (y / 2 ^ k % 256).testBit i = (decide (i < 8) && y.testBit (k + i)) := by
  rw [show (256 : Nat) = 2 ^ 8 from rfl, Nat.testBit_mod_two_pow, Nat.testBit_div_two_pow, Nat.add_comm]
theorem four_bits (y : Nat) : byteB (y % 256).toUInt8 ^^^ (byteB (y / 256 % 256).toUInt8 <<< 8) ^^^ (byteB (y / 65536 % 256).toUInt8 <<< 16) ^^^ (byteB (y / 16777216 % 256).toUInt8 <<< 24) = BitVec.ofNat 32 y := by
  rw [byteB_ofNat, byteB_ofNat, byteB_ofNat, byteB_ofNat, u8_nat (by omega), u8_nat (by omega), u8_nat (by omega), u8_nat (by omega)]
  apply BitVec.eq_of_getLsbD_eq
  intro i hi
  simp only [BitVec.getLsbD_xor, BitVec.getLsbD_shiftLeft, BitVec.getLsbD_ofNat]
  have h0 := tb_mod y i 0
  have h1 := tb_mod y (i - 8) 8
  have h2 := tb_mod y (i - 16) 16
  have h3 := tb_mod y (i - 24) 24
  simp only [Nat.pow_zero, Nat.div_one, Nat.zero_add, Nat.reducePow] at h0 h1 h2 h3
  rw [h0, h1, h2, h3]
  rcases (show i < 8 ∨ (8 ≤ i ∧ i < 16) ∨ (16 ≤ i ∧ i < 24) ∨ (24 ≤ i ∧ i < 32) by omega) with h | ⟨h, h'⟩ | ⟨h, h'⟩ | ⟨h, h'⟩
  · simp [h, hi, show i < 16 by omega, show i < 24 by omega]
  · simp [hi, show ¬ i < 8 by omega, show i < 16 by omega, show i < 24 by omega, show i - 8 < 8 by omega, show 8 + (i - 8) = i by omega, show i - 8 < 32 by omega]
  · simp [hi, show ¬ i < 8 by omega, show ¬ i < 16 by omega, show i < 24 by omega, show ¬ i - 8 < 8 by omega, show i - 16 < 8 by omega, show 16 + (i - 16) = i by omega, show i - 16 < 32 by omega]
  · simp [hi, show ¬ i < 8 by omega, show ¬ i < 16 by omega, show ¬ i < 24 by omega, show ¬ i - 8 < 8 by omega, show ¬ i - 16 < 8 by omega, show i - 24 < 8 by omega, show 24 + (i - 24) = i by omega, show i - 24 < 32 by omega]
theorem byteB_small (x : UInt8) : (byteB x).toNat < 256 := by
  rw [byteB_ofNat]
  have := x.toNat_lt
  simp
  omega
theorem shl_nat (c : B32) (k : Nat) (h : c.toNat * 2 ^ k < 2 ^ 32) : (c <<< k).toNat = c.toNat * 2 ^ k := by
  rw [BitVec.toNat_shiftLeft, Nat.shiftLeft_eq, Nat.mod_eq_of_lt h]
theorem shl_shl (c : B32) (m n : Nat) : c <<< (m + n) = (c <<< m) <<< n := BitVec.shiftLeft_add c m n
/-- Four bytes, the lowest first, are taken at once. -/
theorem crc_four (c : B32) (y : Nat) : crcL c (fourL y) = bsteps 32 (c ^^^ BitVec.ofNat 32 y) := by
  rw [← four_bits y]
  unfold fourL
  generalize (y % 256).toUInt8 = b0
  generalize (y / 256 % 256).toUInt8 = b1
  generalize (y / 65536 % 256).toUInt8 = b2
  generalize (y / 16777216 % 256).toUInt8 = b3
  have s1 := byteB_small b1
  have s2 := byteB_small b2
  have s3 := byteB_small b3
  have h1 : bsteps 8 (byteB b1 <<< 8) = byteB b1 := bsteps_shl 8 _ (by omega)
  have h2 : bsteps 8 (byteB b2 <<< 16) = byteB b2 <<< 8 := by
    rw [shl_shl _ 8 8]; exact bsteps_shl 8 _ (by rw [shl_nat _ _ (by omega)]; omega)
  have h3 : bsteps 8 (byteB b3 <<< 24) = byteB b3 <<< 16 := by
    rw [shl_shl _ 16 8]; exact bsteps_shl 8 _ (by rw [shl_nat _ _ (by omega)]; omega)
  have h4 : bsteps 8 (byteB b2 <<< 8) = byteB b2 := bsteps_shl 8 _ (by omega)
  have h5 : bsteps 8 (byteB b3 <<< 16) = byteB b3 <<< 8 := by
    rw [shl_shl _ 8 8]; exact bsteps_shl 8 _ (by rw [shl_nat _ _ (by omega)]; omega)
  have h6 : bsteps 8 (byteB b3 <<< 8) = byteB b3 := bsteps_shl 8 _ (by omega)
  show crcB (crcB (crcB (crcB c b0) b1) b2) b3 = _
  unfold crcB
  have h32 : ∀ x, bsteps 32 x = bsteps 8 (bsteps 8 (bsteps 8 (bsteps 8 x))) := fun x => by rw [show bsteps 32 x = bsteps (8 + (8 + (8 + 8))) x from rfl, bsteps_add, bsteps_add, bsteps_add]
  rw [h32]
  rw [show c ^^^ (byteB b0 ^^^ byteB b1 <<< 8 ^^^ byteB b2 <<< 16 ^^^ byteB b3 <<< 24) = (c ^^^ byteB b0) ^^^ (byteB b1 <<< 8) ^^^ (byteB b2 <<< 16) ^^^ (byteB b3 <<< 24) by simp only [BitVec.xor_assoc]]
  rw [bsteps_xor 8 _ (byteB b3 <<< 24), bsteps_xor 8 _ (byteB b2 <<< 16), bsteps_xor 8 _ (byteB b1 <<< 8), h1, h2, h3]
  rw [bsteps_xor 8 _ (byteB b3 <<< 16), bsteps_xor 8 _ (byteB b2 <<< 8), h4, h5]
  rw [bsteps_xor 8 _ (byteB b3 <<< 8), h6]
/-- Bytes that end in their sum leave always the same. -/
theorem crc_rest {L : List UInt8} {m : Nat} (hl : L.length = m + 4) (h : sumL (L.take m) = numL (L.drop m)) : crcL (~~~ 0#32) L = bsteps 32 (BitVec.allOnes 32) := by
  have hd : fourL (numL (L.drop m)) = L.drop m := by
    rw [four_num _ (by rw [List.length_drop]; omega), List.take_of_length_le (by rw [List.length_drop]; omega)]
  rw [← List.take_append_drop m L, ← hd, ← h, crcL_append, crc_four]
  unfold sumL moreB
  generalize crcL (~~~ 0#32) (L.take m) = c
  congr 1
  rw [BitVec.ofNat_toNat, BitVec.setWidth_eq, not_xor, ← BitVec.xor_assoc, BitVec.xor_self, BitVec.zero_xor]
theorem turned {t L : List UInt8} {p : B32} {d : Nat} (ht : t.length ≤ 65536) (hL : L.length = t.length + 8) (h4 : L.take 4 = (frameL t).take 4) (hp : p ≠ 0#32)
    (hc : ∀ c, crcL c L = crcL c (frameL t) ^^^ bsteps d p) : readE L = 41 := by
  have hr := (read_frame t [] ht).1
  rw [List.append_nil] at hr
  obtain ⟨-, -, -, hs⟩ := readE_ok hr
  have hn : numL L = t.length := by
    rw [← numL_take, h4, numL_take]
    unfold frameL headL
    rw [List.append_assoc, numL_four _ (by omega)]
  have hn' : numL (frameL t) = t.length := by
    unfold frameL headL
    rw [List.append_assoc, numL_four _ (by omega)]
  rw [hn'] at hs
  have hne : sumL (L.take (t.length + 4)) ≠ numL (L.drop (t.length + 4)) := fun h => by
    have e1 := crc_rest (by omega) h
    have e2 := crc_rest (by rw [frameL_len]) hs
    have e3 := hc (~~~ 0#32)
    rw [e1, e2] at e3
    have e4 : bsteps d p = 0#32 := by
      have := congrArg (fun x => bsteps 32 (BitVec.allOnes 32) ^^^ x) e3
      simp only [← BitVec.xor_assoc, BitVec.xor_self, BitVec.zero_xor] at this
      exact this.symm
    exact hp (bsteps_none d e4)
  unfold readE
  rw [if_neg (by omega), hn, if_neg (by omega), if_neg (by omega), if_pos hne]
end Go.Proofs.Ythlninijnbmjfaa
