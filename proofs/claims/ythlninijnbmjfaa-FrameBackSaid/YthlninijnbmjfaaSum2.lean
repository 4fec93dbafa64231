/- The contracts of package sum, the second part, and of the document's answer for it. Conditions: none. -/
import Derived.Test.YthlninijnbmjfaaSum1
namespace Go.Proofs.Ythlninijnbmjfaa
open Go.RowKit

theorem u_not (c : B32) : bits .xor .u32 IntKind.u32.max (u c) = u (~~~ c) := by
  have e : IntKind.u32.max = u (BitVec.allOnes 32) := rfl
  rw [e, u_xor, BitVec.xor_comm, ← not_xor]
theorem take_snocB (s : ByteArray) (k : Nat) (h : k < s.size) : s.data.toList.take (k + 1) = s.data.toList.take k ++ [s[k]] := by
  rw [List.take_succ_eq_append_getElem (by simpa using h)]; rfl
theorem crc_snoc (c : B32) (s : ByteArray) (k : Nat) (h : k < s.size) : crcL c (s.data.toList.take (k + 1)) = crcB (crcL c (s.data.toList.take k)) s[k] := by
  rw [take_snocB s k h, crcL_snoc]
theorem take_allB (s : ByteArray) : s.data.toList.take s.size = s.data.toList := List.take_of_length_le (by simp)
/-- Where a byte stands in the table. -/
def spot (d : B32) (x : UInt8) : Nat := ((d ^^^ byteB x) &&& 255#32).toNat
theorem spot_lt (d : B32) (x : UInt8) : spot d x < 256 := by
  unfold spot
  rw [BitVec.toNat_and]
  exact Nat.lt_of_le_of_lt Nat.and_le_right (by decide)
theorem spot_eq (d : B32) (x : UInt8) : bits .xor .u8 (u d % (256 : Int)) (x.toNat : Int) = ((spot d x : Nat) : Int) := by
  have e : u d % (256 : Int) = ((d.toNat % 256 : Nat) : Int) := by unfold u; omega
  have hx := x.toNat_lt
  rw [e, u8_xor_nat _ _ (by omega) hx]
  congr 1
  unfold spot byteB
  rw [BitVec.toNat_and, BitVec.toNat_xor, BitVec.toNat_setWidth]
  have h255 : (255#32).toNat = 2 ^ 8 - 1 := rfl
  have ex : x.toBitVec.toNat = x.toNat := rfl
  rw [h255, Nat.and_two_pow_sub_one_eq_mod, ex, Nat.mod_eq_of_lt (show x.toNat < 2 ^ 32 by omega), Nat.xor_mod_two_pow (n := 8)]
  show d.toNat % 2 ^ 8 ^^^ x.toNat = _
  rw [Nat.mod_eq_of_lt (a := x.toNat) (by omega)]
theorem spot_bv (d : B32) (x : UInt8) : BitVec.ofNat 32 (spot d x) = (d ^^^ byteB x) &&& 255#32 := by
  unfold spot
  rw [BitVec.ofNat_toNat, BitVec.setWidth_eq]
theorem spot_next (d : B32) (x : UInt8) : bits .xor .u32 (u d / (256 : Int)) (u (bsteps 8 (BitVec.ofNat 32 (spot d x)))) = u (crcB d x) := by
  rw [u_eighth, u_xor, spot_bv, crcB_table]
set_option maxRecDepth 100000 in
set_option maxHeartbeats 400000 in
theorem sum_More (c : B32) (s : ByteArray) (hs : s.size ≤ 9223372036854775807) (w : World) :
    Calls Try.prog 74 #[.int .u32 (u c), .string s] w fun e w' => e = .returned (.int .u32 (u (moreB c s.data.toList))) ∧ Below w.heap.size w w' := by
  obtain ⟨Z, hZ, hz⟩ : ∃ Z : Array Value, Z.size = 256 ∧ ∀ w, (zeroValue 128).run Try.prog w = .ok (.agg Z) w := ⟨tabC 0, tabC_size 0, tab_zero⟩
  obtain ⟨C, hsz, h1, hC, hcall⟩ : ∃ C : Array Value, C.size = 256 ∧ C.all (·.oneCell') = true ∧ (∀ i, i < 256 → C[i]? = some (.int .u32 (u (bsteps 8 (BitVec.ofNat 32 i))))) ∧ ∀ w, Calls Try.prog 91 #[] w fun e w' => e = .returned (.agg C) ∧ Below w.heap.size w w' :=
    ⟨tabC 256, tabC_size 256, tab_one 256, fun i hi => by rw [tabC_get _ _ hi, if_pos hi], sum_table⟩
  have hn := u_not c
  have HC := Lib.hid hC
  have H1 := Lib.hid h1
  have HZ := Lib.hid hZ
  have HCL := Lib.hid hcall
  clear hC h1 hZ hcall
  go_enter Try.func74, Try.ntmps74
  go_wp2_with fail
  refine (HCL.out _).mono ?_
  rintro e w1 ⟨rfl, hb⟩; dsimp only
  have hst := store_cells (Blk.new w1 128 Z) (HZ.out.trans hsz.symm) H1.out
  have hT := (Blk.new w1 128 Z).row (cs := C)
  have hB : Below w.heap.size w ((w1.alloc (.cells Z 128)).setRow w1.heap.size C) := below_setRow (below_own hb _) hb.size _
  obtain ⟨w2, hw2⟩ : ∃ w2, w2 = (w1.alloc (.cells Z 128)).setRow w1.heap.size C := ⟨_, rfl⟩
  rw [← hw2] at hst hT hB
  clear hb hw2
  go_wp2_with fail
  clear hst hz hsz
  obtain ⟨N, hN⟩ : ∃ N, N = w1.heap.size := ⟨_, rfl⟩
  rw [← hN] at hT ⊢
  clear hN
  go_loop [6, 13] (fun x i => ∃ k : Nat, k ≤ s.size ∧ i = .int .i64 k ∧ x = .int .u32 (u (crcL (~~~ c) (s.data.toList.take k)))) (fun _ i => s.size - (intOf i).toNat)
  case atStart => exact ⟨0, Nat.zero_le _, rfl, rfl⟩
  case round =>
    obtain ⟨k, hk, rfl, rfl⟩ := hrel
    have hN := hT.lt
    by_cases hlt : k < s.size
    · have hsn := Lib.hid (crc_snoc (~~~ c) s k hlt)
      generalize crcL (~~~ c) (s.data.toList.take k) = d at *
      have h1 := spot_eq d s[k]
      have h2 := spot_next d s[k]
      have hl := spot_lt d s[k]
      have hc : w2.cell? ⟨N, spot d s[k], none⟩ = some (.int .u32 (u (bsteps 8 (BitVec.ofNat 32 (spot d s[k]))))) := by rw [hT.cell]; exact HC.out _ hl
      generalize spot d s[k] = p at *
      generalize bsteps 8 (BitVec.ofNat 32 p) = q at *
      go_wp2
      go_round
      case rel => exact ⟨k + 1, by omega, by go_num, by rw [hsn.out]⟩
      case measure => simp [intOf]; omega
    · obtain rfl : k = s.size := by omega
      have ht := Lib.hid (take_allB s)
      have hn2 := u_not (crcL (~~~ c) (s.data.toList.take s.size))
      go_wp2
      go_ret
      exact ⟨by rw [ht.out]; rfl, hB⟩
set_option maxHeartbeats 400000 in
theorem sum_Of (s : ByteArray) (hs : s.size ≤ 9223372036854775807) (w : World) :
    Calls Try.prog 46 #[.string s] w fun e w' => e = .returned (.int .u32 (u (moreB 0#32 s.data.toList))) ∧ Below w.heap.size w w' := by
  have c1 : ∀ w, Calls Try.prog 74 #[.int .u32 0, .string s] w fun e w' => e = .returned (.int .u32 (u (moreB 0#32 s.data.toList))) ∧ Below w.heap.size w w' := fun w => sum_More 0#32 s hs w
  have C1 := Lib.hid c1
  clear c1
  go_enter Try.func46, Try.ntmps46
  go_wp2_with fail
  refine (C1.out _).mono ?_
  rintro e w1 ⟨rfl, hb⟩; dsimp only
  go_wp2_with fail
  go_ret
  exact ⟨rfl, hb⟩
theorem u_pow (c : B32) (k : Nat) : u c / ((2 : Int) ^ k) = u (c >>> k) := by
  unfold u
  rw [BitVec.toNat_ushiftRight, Nat.shiftRight_eq_div_pow]
  simp
theorem u_bitk (c : B32) (k : Nat) : bits .and .u32 (u c / ((2 : Int) ^ k)) 1 = if c.getLsbD k then 1 else 0 := by
  rw [u_pow, u_bit, BitVec.getLsbD_ushiftRight, Nat.add_zero]
end Go.Proofs.Ythlninijnbmjfaa
