/- Frames: the plain part. Conditions: none. -/
import Derived.Test.YthlninijnbmjfaaWire0
import Derived.Test.YthlninijnbmjfaaSum0
namespace Go.Proofs.Ythlninijnbmjfaa

/-- A number's four bytes, the lowest first. -/
def fourL (x : Nat) : List UInt8 := [(x % 256).toUInt8, (x / 256 % 256).toUInt8, (x / 65536 % 256).toUInt8, (x / 16777216 % 256).toUInt8]
theorem fourL_len (x : Nat) : (fourL x).length = 4 := rfl
/-- The number of the first four bytes. -/
def numL : List UInt8 → Nat
  | a :: b :: c :: d :: _ => a.toNat + b.toNat * 256 + c.toNat * 65536 + d.toNat * 16777216
  | _ => 0
theorem numL_lt (l : List UInt8) : numL l < 4294967296 := by
  unfold numL
  split
  · rename_i a b c d _
    have := a.toNat_lt; have := b.toNat_lt; have := c.toNat_lt; have := d.toNat_lt
    omega
  · decide
theorem numL_four (x : Nat) (hx : x < 4294967296) (r : List UInt8) : numL (fourL x ++ r) = x := by
  simp only [fourL, List.cons_append, List.nil_append, numL]
  rw [u8_nat (by omega), u8_nat (by omega), u8_nat (by omega), u8_nat (by omega)]
  omega
theorem four_num (l : List UInt8) (h : 4 ≤ l.length) : fourL (numL l) = l.take 4 := by
  match l, h with
  | a :: b :: c :: d :: r, _ =>
    have ha := a.toNat_lt; have hb := b.toNat_lt; have hc := c.toNat_lt; have hd := d.toNat_lt
    simp only [numL, fourL, List.take_succ_cons, List.take_zero]
    congr 1
    · apply UInt8.toNat.inj; rw [u8_nat (by omega)]; omega
    congr 1
    · apply UInt8.toNat.inj; rw [u8_nat (by omega)]; omega
    congr 1
    · apply UInt8.toNat.inj; rw [u8_nat (by omega)]; omega
    congr 1
    apply UInt8.toNat.inj; rw [u8_nat (by omega)]; omega
/-- The sum of bytes. -/
def sumL (l : List UInt8) : Nat := (moreB 0#32 l).toNat
theorem sumL_lt (l : List UInt8) : sumL l < 4294967296 := (moreB 0#32 l).isLt
/-- A text's frame. -/
def headL (t : List UInt8) : List UInt8 := fourL t.length ++ t
def frameL (t : List UInt8) : List UInt8 := headL t ++ fourL (sumL (headL t))
theorem headL_len (t : List UInt8) : (headL t).length = t.length + 4 := by simp [headL, fourL_len]; omega
theorem frameL_len (t : List UInt8) : (frameL t).length = t.length + 8 := by simp [frameL, headL_len, fourL_len]
/-- What is at the front: 0 OK, 4 too long, 40 torn, 41 the sum is another. -/
def readE (l : List UInt8) : Int :=
  if l.length < 4 then 40 else if 65536 < numL l then 4 else if l.length < numL l + 8 then 40 else if sumL (l.take (numL l + 4)) ≠ numL (l.drop (numL l + 4)) then 41 else 0
def readT (l : List UInt8) : List UInt8 := if readE l = 0 then (l.take (numL l + 4)).drop 4 else []
def readN (l : List UInt8) : Nat := if readE l = 0 then numL l + 8 else 0
theorem readE_ok {l : List UInt8} (h : readE l = 0) : 4 ≤ l.length ∧ numL l ≤ 65536 ∧ numL l + 8 ≤ l.length ∧ sumL (l.take (numL l + 4)) = numL (l.drop (numL l + 4)) := by
  unfold readE at h
  by_cases h1 : l.length < 4
  · rw [if_pos h1] at h; exact absurd h (by decide)
  rw [if_neg h1] at h
  by_cases h2 : 65536 < numL l
  · rw [if_pos h2] at h; exact absurd h (by decide)
  rw [if_neg h2] at h
  by_cases h3 : l.length < numL l + 8
  · rw [if_pos h3] at h; exact absurd h (by decide)
  rw [if_neg h3] at h
  by_cases h4 : sumL (l.take (numL l + 4)) ≠ numL (l.drop (numL l + 4))
  · rw [if_pos h4] at h; exact absurd h (by decide)
  exact ⟨by omega, by omega, by omega, by simpa using h4⟩
/-- A frame that is read is the frame of what is read. -/
theorem read_back {l : List UInt8} (h : readE l = 0) : l.take (readN l) = frameL (readT l) ∧ (readT l).length = numL l := by
  obtain ⟨h1, h2, h3, h4⟩ := readE_ok h
  have hN : readN l = numL l + 8 := by unfold readN; rw [if_pos h]
  have hT : readT l = (l.take (numL l + 4)).drop 4 := by unfold readT; rw [if_pos h]
  have hl : (readT l).length = numL l := by rw [hT, List.length_drop, List.length_take]; omega
  refine ⟨?_, hl⟩
  have hh : headL (readT l) = l.take (numL l + 4) := by
    unfold headL
    rw [hl, four_num l h1, hT]
    have e : l.take 4 = (l.take (numL l + 4)).take 4 := by rw [List.take_take, Nat.min_eq_left (by omega)]
    rw [e, List.take_append_drop]
  unfold frameL
  rw [hh, h4, four_num _ (by rw [List.length_drop]; omega), hN]
  rw [show numL l + 8 = (numL l + 4) + 4 by omega, List.take_add]
/-- A text's frame is read as the text. -/
theorem read_frame (t r : List UInt8) (h : t.length ≤ 65536) : readE (frameL t ++ r) = 0 ∧ readT (frameL t ++ r) = t ∧ readN (frameL t ++ r) = t.length + 8 := by
  have hn : numL (frameL t ++ r) = t.length := by
    unfold frameL headL
    rw [List.append_assoc, List.append_assoc, numL_four _ (by omega)]
  have ht : (frameL t ++ r).take (t.length + 4) = headL t := by
    unfold frameL
    rw [List.append_assoc, ← headL_len t, List.take_left]
  have hd : (frameL t ++ r).drop (t.length + 4) = fourL (sumL (headL t)) ++ r := by
    unfold frameL
    rw [List.append_assoc, ← headL_len t, List.drop_left]
  have hE : readE (frameL t ++ r) = 0 := by
    unfold readE
    rw [if_neg (by rw [List.length_append, frameL_len]; omega), hn, if_neg (by omega), if_neg (by rw [List.length_append, frameL_len]; omega), ht, hd, numL_four _ (sumL_lt _), if_neg (by simp)]
  refine ⟨hE, ?_, ?_⟩
  · unfold readT
    rw [if_pos hE, hn, ht]
    unfold headL
    rw [← fourL_len t.length, List.drop_left]
  · unfold readN; rw [if_pos hE, hn]
/-- What is shorter than its frame is torn. -/
theorem read_torn (t : List UInt8) (k : Nat) (h : t.length ≤ 65536) (hk : k < t.length + 8) : readE ((frameL t).take k) = 40 := by
  have hl : ((frameL t).take k).length = k := by rw [List.length_take, frameL_len]; omega
  unfold readE
  by_cases h4 : k < 4
  · rw [if_pos (by omega)]
  · have hn : numL ((frameL t).take k) = t.length := by
      unfold frameL headL
      rw [List.append_assoc, List.take_append, fourL_len, List.take_of_length_le (by rw [fourL_len]; omega), numL_four _ (by omega)]
    rw [if_neg (by omega), hn, if_neg (by omega), if_pos (by omega)]
/-- The texts of the frames at the front; where the good ends; what stopped it. -/
def scanL : Nat → List UInt8 → List (List UInt8) × Nat × Int
  | 0, _ => ([], 0, 0)
  | f + 1, l => if l = [] then ([], 0, 0) else if readE l = 0 then (readT l :: (scanL f (l.drop (readN l))).1, readN l + (scanL f (l.drop (readN l))).2.1, (scanL f (l.drop (readN l))).2.2) else ([], 0, readE l)
end Go.Proofs.Ythlninijnbmjfaa
