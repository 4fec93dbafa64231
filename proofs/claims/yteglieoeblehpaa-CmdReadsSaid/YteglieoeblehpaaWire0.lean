/- Bricks of bytes: numbers, whole numbers, texts, as plain functions of bytes. Conditions: none. -/
import Derived.Lib.VarintMem
import Derived.Lib.VarintBits
import Derived.Lib.Zigzag
import Derived.Laws.Strings
namespace Go.Proofs.Yteglieoeblehpaa

def bs (l : List UInt8) : ByteArray := ⟨l.toArray⟩
theorem bs_data (s : ByteArray) : bs s.data.toList = s := by cases s; simp [bs]
theorem bs_size (l : List UInt8) : (bs l).size = l.length := by simp [bs, ByteArray.size]
theorem bs_list (l : List UInt8) : (bs l).data.toList = l := by simp [bs]
theorem bs_append (a b : List UInt8) : bs (a ++ b) = bs a ++ bs b := by
  apply ByteArray.ext
  rw [ByteArray.data_append]
  show (a ++ b).toArray = a.toArray ++ b.toArray
  simp
theorem bs_inj {a b : List UInt8} (h : bs a = bs b) : a = b := by have := congrArg (fun s : ByteArray => s.data.toList) h; exact this
theorem size_list (s : ByteArray) : s.data.toList.length = s.size := rfl
theorem extract_list (s : ByteArray) (a b : Nat) : (s.extract a b).data.toList = (s.data.toList.take b).drop a := by
  simp [ByteArray.data_extract, Array.toList_extract, List.extract]
  rw [List.drop_take]
theorem extract_bs (l : List UInt8) (a : Nat) : (bs l).extract a l.length = bs (l.drop a) := by
  apply ByteArray.ext
  simp [bs, ByteArray.data_extract, List.take_of_length_le]

theorem byte_eq (s : ByteArray) (k : Nat) (h : k < s.size) : s[k] = s.data.toList[k]'(by simpa using h) := rfl
theorem drop_byte (s : ByteArray) (k : Nat) (h : k < s.size) : s.data.toList.drop k = s[k] :: s.data.toList.drop (k + 1) := by
  rw [byte_eq s k h]; exact List.drop_eq_getElem_cons _
theorem isE_no (s : ByteArray) (h : 0 < s.size) : s.toList.isEmpty = false := by
  rw [ByteArray.toList_eq]
  cases hl : s.data.toList with
  | nil => have := size_list s; rw [hl] at this; simp at this; omega
  | cons _ _ => rfl
theorem isE_yes (s : ByteArray) (h : s.size = 0) : s.toList.isEmpty = true := by
  rw [ByteArray.toList_eq]
  cases hl : s.data.toList with
  | nil => rfl
  | cons _ _ => have := size_list s; rw [hl] at this; simp at this; omega

/-- The number at the front from its byte i on: what it is, and how many bytes it has in all; 0: there is none. -/
def vnumL (i acc : Nat) : List UInt8 → Nat × Nat
  | [] => (0, 0)
  | b :: r => if 10 ≤ i then (0, 0) else if (i = 9 ∧ 1 < b.toNat) ∨ (0 < i ∧ b.toNat = 0) then (0, 0) else if b.toNat < 128 then (acc + b.toNat * 2 ^ (7 * i), i + 1) else vnumL (i + 1) (acc + b.toNat % 128 * 2 ^ (7 * i)) r
def vnum (s : ByteArray) : Nat × Nat := vnumL 0 0 s.data.toList
theorem u8_nat {a : Nat} (h : a < 256) : (a.toUInt8).toNat = a := Lib.toUInt8_toNat h

theorem pow7_ge {i : Nat} (h : 10 ≤ i) : 2 ^ 70 ≤ 2 ^ (7 * i) := Nat.pow_le_pow_right (by decide) (by omega)
theorem pow7_succ (i : Nat) : 2 ^ (7 * (i + 1)) = 128 * 2 ^ (7 * i) := by
  rw [show 7 * (i + 1) = 7 * i + 7 by omega, Nat.pow_add]; omega
theorem vnumL_enc (x : Nat) : ∀ (i acc : Nat) (rest : List UInt8), x * 2 ^ (7 * i) < 18446744073709551616 → (0 < i → 0 < x) → vnumL i acc (Lib.uvarint x ++ rest) = (acc + x * 2 ^ (7 * i), i + (Lib.uvarint x).length) := by
  induction x using Nat.strongRecOn with
  | ind x ih =>
    intro i acc rest hx hpos
    have hi : ¬ 10 ≤ i := by
      intro h
      have h1 := pow7_ge h
      have h2 : 1 * 2 ^ (7 * i) ≤ x * 2 ^ (7 * i) := Nat.mul_le_mul_right _ (hpos (by omega))
      have h3 : (2 : Nat) ^ 70 = 1180591620717411303424 := by decide
      omega
    have h9 : i = 9 → x ≤ 1 := by
      intro h
      subst h
      have e : (2 : Nat) ^ (7 * 9) = 9223372036854775808 := by decide
      omega
    by_cases hs : x < 128
    · rw [Lib.uvarint_small hs]
      simp only [List.cons_append, List.nil_append, vnumL, u8_nat (show x < 256 by omega), List.length_singleton]
      rw [if_neg hi, if_neg (by omega), if_pos hs]
    · rw [Lib.uvarint_big (by omega)]
      simp only [List.cons_append, vnumL, u8_nat (show x % 128 + 128 < 256 by omega), List.length_cons]
      have hd : x % 128 * 2 ^ (7 * i) + x / 128 * (128 * 2 ^ (7 * i)) = x * 2 ^ (7 * i) := by
        rw [← Nat.mul_assoc, ← Nat.add_mul]; congr 1; omega
      rw [if_neg hi, if_neg (by omega), if_neg (by omega), ih (x / 128) (by omega) (i + 1) _ rest (by rw [pow7_succ]; omega) (by omega), pow7_succ]
      rw [show (x % 128 + 128) % 128 = x % 128 by omega]
      congr 1 <;> omega
theorem vnum_enc (x : Nat) (hx : x < 18446744073709551616) (rest : List UInt8) : vnumL 0 0 (Lib.uvarint x ++ rest) = (x, (Lib.uvarint x).length) := by
  rw [vnumL_enc x 0 0 rest (by simpa using hx) (by omega)]; simp
theorem vnumL_dec : ∀ (l : List UInt8) (i acc : Nat), acc < 2 ^ (7 * i) → (vnumL i acc l).2 ≠ 0 → ∃ x, (vnumL i acc l).1 = acc + x * 2 ^ (7 * i) ∧ i < (vnumL i acc l).2 ∧ (vnumL i acc l).2 ≤ i + l.length ∧ l.take ((vnumL i acc l).2 - i) = Lib.uvarint x ∧ (0 < i → 0 < x) ∧ x * 2 ^ (7 * i) + acc < 18446744073709551616 := by
  intro l
  induction l with
  | nil => intro i acc _ h; simp [vnumL] at h
  | cons b r ih =>
    intro i acc hacc h
    have hb := b.toNat_lt
    simp only [vnumL] at h ⊢
    by_cases h10 : 10 ≤ i
    · simp [h10] at h
    rw [if_neg h10] at h ⊢
    by_cases hbad : (i = 9 ∧ 1 < b.toNat) ∨ (0 < i ∧ b.toNat = 0)
    · simp [hbad] at h
    rw [if_neg hbad] at h ⊢
    have hlim : b.toNat < 128 → acc + b.toNat * 2 ^ (7 * i) < 18446744073709551616 := by
      intro hb1
      have : i = 0 ∨ i = 1 ∨ i = 2 ∨ i = 3 ∨ i = 4 ∨ i = 5 ∨ i = 6 ∨ i = 7 ∨ i = 8 ∨ i = 9 := by omega
      rcases this with rfl | rfl | rfl | rfl | rfl | rfl | rfl | rfl | rfl | rfl <;> simp only [Nat.reduceMul, Nat.reducePow] at hacc ⊢ <;> omega
    by_cases hs : b.toNat < 128
    · rw [if_pos hs]
      refine ⟨b.toNat, rfl, by simp, by simp, ?_, by omega, by have := hlim hs; omega⟩
      rw [show i + 1 - i = 1 by omega, Lib.uvarint_small hs]
      simp
    · rw [if_neg hs] at h ⊢
      obtain ⟨x, h1, h2, h3, h4, h5, h6⟩ := ih (i + 1) (acc + b.toNat % 128 * 2 ^ (7 * i)) (by
        have : b.toNat % 128 * 2 ^ (7 * i) ≤ 127 * 2 ^ (7 * i) := Nat.mul_le_mul_right _ (by omega)
        rw [pow7_succ]; omega) h
      have hx0 := h5 (by omega)
      have e1 : (x * 128 + b.toNat % 128) * 2 ^ (7 * i) = b.toNat % 128 * 2 ^ (7 * i) + x * (128 * 2 ^ (7 * i)) := by
        rw [Nat.add_mul, Nat.mul_assoc]; omega
      rw [pow7_succ] at h1 h6
      refine ⟨x * 128 + b.toNat % 128, by rw [h1, e1]; omega, by omega, by simp only [List.length_cons]; omega, ?_, by omega, by rw [e1]; omega⟩
      rw [Lib.uvarint_big (by omega), show (x * 128 + b.toNat % 128) / 128 = x by omega, ← h4]
      rw [show (vnumL (i + 1) (acc + b.toNat % 128 * 2 ^ (7 * i)) r).2 - i = ((vnumL (i + 1) (acc + b.toNat % 128 * 2 ^ (7 * i)) r).2 - (i + 1)) + 1 by omega, List.take_succ_cons]
      congr 1
      apply UInt8.toNat.inj
      rw [u8_nat (by omega)]
      omega
theorem vnumL_zero (l : List UInt8) : ∀ (i acc : Nat), (vnumL i acc l).2 = 0 → (vnumL i acc l).1 = 0 := by
  induction l with
  | nil => intro i acc _; rfl
  | cons b r ih =>
    intro i acc h
    simp only [vnumL] at h ⊢
    by_cases h1 : 10 ≤ i
    · rw [if_pos h1]
    rw [if_neg h1] at h ⊢
    by_cases h2 : (i = 9 ∧ 1 < b.toNat) ∨ (0 < i ∧ b.toNat = 0)
    · rw [if_pos h2]
    rw [if_neg h2] at h ⊢
    by_cases h3 : b.toNat < 128
    · rw [if_pos h3] at h; cases h
    rw [if_neg h3] at h ⊢
    exact ih _ _ h
theorem vnumL_bd (l : List UInt8) (i acc : Nat) (hacc : acc < 2 ^ (7 * i)) : (vnumL i acc l).1 < 18446744073709551616 ∧ (vnumL i acc l).2 ≤ i + l.length := by
  by_cases h : (vnumL i acc l).2 = 0
  · rw [vnumL_zero l i acc h]
    exact ⟨by decide, by omega⟩
  · obtain ⟨x, h1, h2, h3, h4, h5, h6⟩ := vnumL_dec l i acc hacc h
    exact ⟨by omega, h3⟩
theorem vnum_bd (s : ByteArray) : (vnum s).1 < 18446744073709551616 ∧ (vnum s).2 ≤ s.size := by
  have h := vnumL_bd s.data.toList 0 0 (by decide)
  rw [size_list] at h
  unfold vnum
  omega
theorem vnum_zero (s : ByteArray) (h : (vnum s).2 = 0) : (vnum s).1 = 0 := vnumL_zero _ _ _ h
/-- What is read as a number is written so. -/
theorem vnum_dec (s : ByteArray) (h : (vnum s).2 ≠ 0) : s.data.toList.take (vnum s).2 = Lib.uvarint (vnum s).1 := by
  obtain ⟨x, h1, h2, h3, h4, h5, h6⟩ := vnumL_dec s.data.toList 0 0 (by decide) h
  simp only [Nat.mul_zero, Nat.pow_zero, Nat.mul_one, Nat.zero_add, Nat.sub_zero] at h1 h4
  unfold vnum
  rw [h4, h1]

/-- A whole number's number, back. -/
def unzig (u : Nat) : Int := if u % 2 = 0 then (u / 2 : Nat) else -((u / 2 : Nat) : Int) - 1
theorem unzig_zigzag (x : Int) : unzig (Lib.zigzag x) = x := by
  unfold unzig Lib.zigzag
  split <;> split <;> omega
theorem zigzag_unzig (u : Nat) : Lib.zigzag (unzig u) = u := by
  unfold unzig Lib.zigzag
  split <;> split <;> omega
theorem unzig_bd (u : Nat) (h : u < 18446744073709551616) : -9223372036854775808 ≤ unzig u ∧ unzig u ≤ 9223372036854775807 := by
  unfold unzig; split <;> omega

/-! ### a brick: what it is, how many bytes it has, or the fault -/
def qUint (s : ByteArray) (most : Nat) : Int × Nat × Int := ((vnum s).1, (vnum s).2, if (vnum s).2 = 0 then 8 else if most < (vnum s).1 then 9 else 0)
def qInt (s : ByteArray) (least most : Int) : Int × Nat × Int := (unzig (vnum s).1, (vnum s).2, if (vnum s).2 = 0 then 8 else if unzig (vnum s).1 < least ∨ most < unzig (vnum s).1 then 9 else 0)
def cntE (s : ByteArray) (most : Int) : Int := if (vnum s).2 = 0 then 8 else if most < (vnum s).1 then 4 else if s.size < (vnum s).1 + (vnum s).2 then 8 else 0
def qCount (s : ByteArray) (most : Int) : Nat × Nat × Int := if cntE s most = 0 then ((vnum s).1, (vnum s).2, 0) else (0, 0, cntE s most)
def qCountI (s : ByteArray) (most : Int) : Int × Nat × Int := ((qCount s most).1, (qCount s most).2)
def qText (s : ByteArray) (most : Int) : ByteArray × Nat × Int := (s.extract (qCount s most).2.1 ((qCount s most).2.1 + (qCount s most).1), (qCount s most).2.1 + (qCount s most).1, (qCount s most).2.2)
def qBool (s : ByteArray) : Bool × Nat × Int := match s.data.toList with
  | [] => (false, 0, 8)
  | b :: _ => if 1 < b.toNat then (false, 0, 8) else (decide (b.toNat = 1), 1, 0)
/-- What is taken, what is left, the fault. -/
def rdV {α : Type} (f : Int) (q : α × Nat × Int) (zero : α) : α := if f = 0 ∧ q.2.2 = 0 then q.1 else zero
def rdS {α : Type} (f : Int) (q : α × Nat × Int) (s : ByteArray) : ByteArray := if f = 0 ∧ q.2.2 = 0 then s.extract q.2.1 s.size else s
def rdF {α : Type} (f : Int) (q : α × Nat × Int) : Int := if f = 0 then q.2.2 else f
def endF (s : ByteArray) (f : Int) : Int := if f = 0 ∧ 0 < s.size then 8 else f
end Go.Proofs.Yteglieoeblehpaa
