/- What was written as bricks is read as itself: the plain part. Conditions: none. -/
import Derived.Test.YteglieoeblehpaaWire5
import Derived.Test.YteglieoeblehpaaTWire
namespace Go.Proofs.Yteglieoeblehpaa
open Go.RowKit

theorem vnum_bs (x : Nat) (hx : x < 18446744073709551616) (rest : List UInt8) : vnum (bs (Lib.uvarint x ++ rest)) = (x, (Lib.uvarint x).length) := by
  unfold vnum
  rw [bs_list, vnum_enc x hx]
theorem uv_ne (x : Nat) : (Lib.uvarint x).length ≠ 0 := by have := Lib.uvarint_pos x; omega
theorem qUint_enc (x : Nat) (hx : x < 18446744073709551616) (rest : List UInt8) : qUint (bs (Lib.uvarint x ++ rest)) 18446744073709551615 = ((x : Int), (Lib.uvarint x).length, 0) := by
  unfold qUint
  rw [vnum_bs x hx, if_neg (uv_ne x), if_neg (by dsimp only; omega)]
theorem qInt_enc (y : Int) (h0 : -9223372036854775808 ≤ y) (h1 : y ≤ 9223372036854775807) (rest : List UInt8) : qInt (bs (Lib.uvarint (Lib.zigzag y) ++ rest)) (-9223372036854775808) 9223372036854775807 = (y, (Lib.uvarint (Lib.zigzag y)).length, 0) := by
  unfold qInt
  rw [vnum_bs _ (Lib.zigzag_lt h0 h1), if_neg (uv_ne _)]
  dsimp only
  rw [unzig_zigzag, if_neg (by omega)]
theorem bs_drop (a b : List UInt8) : (bs (a ++ b)).extract a.length (bs (a ++ b)).size = bs b := by
  rw [bs_size, extract_bs]; simp
theorem rdS_bs {α : Type} (v : α) (a b : List UInt8) (n : Nat) (h : a.length = n) : rdS 0 (v, n, 0) (bs (a ++ b)) = bs b := by
  subst h
  show (bs (a ++ b)).extract a.length (bs (a ++ b)).size = bs b
  exact bs_drop a b
theorem bs_text (a b : List UInt8) (s : ByteArray) : (bs (a ++ (s.data.toList ++ b))).extract a.length (a.length + s.size) = s := by
  apply ByteArray.ext
  apply Array.ext'
  rw [extract_list, bs_list, ← size_list, List.take_length_add_append, List.drop_left]
  simp
theorem qText_enc (s : ByteArray) (most : Int) (h : (s.size : Int) ≤ most) (hs : s.size < 18446744073709551616) (rest : List UInt8) : qText (bs (Lib.uvarint s.size ++ (s.data.toList ++ rest))) most = (s, (Lib.uvarint s.size).length + s.size, 0) := by
  have hc : cntE (bs (Lib.uvarint s.size ++ (s.data.toList ++ rest))) most = 0 := by
    unfold cntE
    rw [vnum_bs _ hs, if_neg (uv_ne _), if_neg (by dsimp only; omega), if_neg]
    rw [bs_size]
    simp only [List.length_append, size_list]
    omega
  unfold qText qCount
  rw [if_pos hc, vnum_bs _ hs]
  dsimp only
  rw [bs_text]
/-- The bytes of an item. -/
def itemB (i : Item) : List UInt8 :=
  if i.kind % 4 = 0 then Lib.uvarint i.x.toNat
  else if i.kind % 4 = 1 then Lib.uvarint (Lib.zigzag (wrap64 i.x))
  else if i.kind % 4 = 2 then Lib.uvarint i.s.size ++ i.s.data.toList
  else [if i.x % 2 = 1 then 1 else 0]
theorem wrap64_bd (x : Int) : -9223372036854775808 ≤ wrap64 x ∧ wrap64 x ≤ 9223372036854775807 := by unfold wrap64; omega
theorem itemB_len (i : Item) (h : i.ok) (hs : i.s.size ≤ 1024) : (itemB i).length ≤ 1034 := by
  have h1 := Lib.uvarint_length64 (x := i.x.toNat) (by have := h.2.1; unfold U64 at this; omega)
  have h2 := Lib.uvarint_length64 (Lib.zigzag_lt (wrap64_bd i.x).1 (wrap64_bd i.x).2)
  have h3 := Lib.uvarint_length64 (x := i.s.size) (by omega)
  unfold itemB
  split
  · omega
  split
  · omega
  split
  · rw [List.length_append, size_list]; omega
  · simp
def allB (l : List Item) : List UInt8 := l.flatMap itemB
theorem allB_snoc (l : List Item) (k : Nat) (h : k < l.length) : allB (l.take (k + 1)) = allB (l.take k) ++ itemB l[k] := by
  unfold allB
  rw [List.take_succ_eq_append_getElem h, List.flatMap_append, List.flatMap_cons, List.flatMap_nil, List.append_nil]
theorem allB_drop (l : List Item) (k : Nat) (h : k < l.length) : allB (l.drop k) = itemB l[k] ++ allB (l.drop (k + 1)) := by
  unfold allB
  rw [List.drop_eq_getElem_cons h, List.flatMap_cons]
/-- Bytes that are read as a number are written as themselves. -/
theorem uint_back (s : ByteArray) (h : (vnum s).2 ≠ 0) : s.extract 0 (vnum s).2 = bs (Lib.uvarint (vnum s).1) := by
  apply ByteArray.ext
  apply Array.ext'
  rw [extract_list, bs_list, List.drop_zero, vnum_dec s h]
end Go.Proofs.Yteglieoeblehpaa
