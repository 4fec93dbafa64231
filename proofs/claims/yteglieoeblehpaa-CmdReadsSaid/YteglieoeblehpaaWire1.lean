/- Bricks of bytes: what is written, what is at the front. Conditions: the texts are in memory. -/
import Derived.Test.YteglieoeblehpaaK4
import Derived.Test.YteglieoeblehpaaWire0
import Derived.Deep.DeepAppendWide
import Derived.Laws.BytesArg
namespace Go.Proofs.Yteglieoeblehpaa
open Go.RowKit

/-- A reader as it lies. -/
def Rd (w : World) (P : Nat) (s : ByteArray) (f : Int) : Prop := Blk w P 82 #[.string s, .int .i64 f, .bool true]
def numE (s : ByteArray) : Int := if (vnum s).2 = 0 then 8 else 0
theorem vnumL_bad {i acc : Nat} {b : UInt8} {r : List UInt8} (h : (i = 9 ∧ 1 < b.toNat) ∨ (0 < i ∧ b.toNat = 0)) : vnumL i acc (b :: r) = (0, 0) := by
  simp only [vnumL]; split <;> simp [h]
theorem vnumL_end {i acc : Nat} {b : UInt8} {r : List UInt8} (hi : i < 10) (h : ¬ ((i = 9 ∧ 1 < b.toNat) ∨ (0 < i ∧ b.toNat = 0))) (hb : b.toNat < 128) : vnumL i acc (b :: r) = (acc + b.toNat * 2 ^ (7 * i), i + 1) := by
  simp only [vnumL]; rw [if_neg (by omega), if_neg h, if_pos hb]
theorem vnumL_more {i acc : Nat} {b : UInt8} {r : List UInt8} (hi : i < 10) (h : ¬ ((i = 9 ∧ 1 < b.toNat) ∨ (0 < i ∧ b.toNat = 0))) (hb : ¬ b.toNat < 128) : vnumL i acc (b :: r) = vnumL (i + 1) (acc + b.toNat % 128 * 2 ^ (7 * i)) r := by
  simp only [vnumL]; rw [if_neg (by omega), if_neg h, if_neg hb]
theorem vnumL_ten {acc : Nat} {r : List UInt8} : vnumL 10 acc r = (0, 0) := by cases r <;> simp [vnumL]
set_option maxRecDepth 100000 in
set_option maxHeartbeats 4000000 in
theorem wr_number (P : Nat) (s : ByteArray) (f : Int) (w : World) (hs : s.size ≤ 140737488351232) (h : Rd w P s f) :
    Calls Try.prog 45 #[.pointer (some ⟨P, 0, none⟩)] w fun e w' => e = .returned (.tuple #[.int .u64 (vnum s).1, .int .i64 (vnum s).2, .int .i64 (numE s)]) ∧ w = w' := by
  obtain ⟨Pc, Pf, Pl⟩ := Blk.facts h
  clear h
  go_enter Try.func45, Try.ntmps45
  go_wp2_with fail
  go_loop [2, 3] (fun x n => ∃ k acc : Nat, k ≤ 10 ∧ k ≤ s.size ∧ n = .int .i64 k ∧ x = .int .u64 acc ∧ acc < 2 ^ (7 * k) ∧ Hid (vnum s = vnumL k acc (s.data.toList.drop k))) (fun _ n => 10 - (intOf n).toNat)
  case atStart => exact ⟨0, 0, by omega, by omega, rfl, rfl, by decide, Lib.hid (by simp [vnum])⟩
  case round =>
    obtain ⟨k, acc, hk, hks, rfl, rfl, hacc, hv⟩ := hrel
    have HA := Lib.hid hacc
    clear hacc
    by_cases hlt : k < s.size
    · have HV := Lib.hid (hv.out.trans (congrArg _ (drop_byte s k hlt)))
      have hb : (s[k]).toNat < 256 := (s[k]).toNat_lt
      generalize hc : s[k] = b at *
      obtain ⟨r, hr⟩ : ∃ r, r = s.data.toList.drop (k + 1) := ⟨_, rfl⟩
      rw [← hr] at HV
      have HR := Lib.hid hr
      clear hr
      clear hv
      obtain rfl | rfl | rfl | rfl | rfl | rfl | rfl | rfl | rfl | rfl | rfl : k = 0 ∨ k = 1 ∨ k = 2 ∨ k = 3 ∨ k = 4 ∨ k = 5 ∨ k = 6 ∨ k = 7 ∨ k = 8 ∨ k = 9 ∨ k = 10 := by omega
      · obtain rfl : acc = 0 := by simpa using HA.out
        by_cases hb1 : b.toNat < 128
        · have hor : bits .or .u64 (0 : Int) (IntKind.u64.wrap (IntKind.u64.wrap (bits .and .u8 (b.toNat : Int) 127))) = ((0 + b.toNat * 1 : Nat) : Int) := by
            simp (disch := omega) only [u8_and127, u64_wrap_id, u64_orv0]
            omega
          have hz := Lib.hid (HV.out.trans (vnumL_end (i := 0) (acc := 0) (r := r) (by omega) (by omega) hb1))
          clear HV HA
          go_wp2
          refine bodyPost_ret (v := .tuple #[.int .u64 ((0 + b.toNat * 1 : Nat) : Int), .int .i64 (0 + 1), .int .i64 0]) (by simp [results, Try.results45, go_sem]) rfl ?_
          exact ⟨by unfold numE; rw [hz.out]; rfl, rfl⟩
        · have hor : bits .or .u64 (0 : Int) (IntKind.u64.wrap (IntKind.u64.wrap (bits .and .u8 (b.toNat : Int) 127))) = ((0 + b.toNat % 128 * 1 : Nat) : Int) := by
            simp (disch := omega) only [u8_and127, u64_wrap_id, u64_orv0]
            omega
          have hz := Lib.hid (HV.out.trans (vnumL_more (i := 0) (acc := 0) (r := r) (by omega) (by omega) hb1))
          clear HV HA
          go_wp2
          go_round
          case rel => exact ⟨0 + 1, 0 + b.toNat % 128 * 1, by omega, by omega, by go_num, (by first | rfl | (congr 1; omega)), (by show _ < 128; omega), Lib.hid (by rw [← HR.out]; exact hz.out)⟩
          case measure => simp [intOf]
      · have hacc : acc < 128 := by simpa using HA.out
        by_cases hbad : b.toNat = 0
        · have hz := Lib.hid (HV.out.trans (vnumL_bad (i := 1) (acc := acc) (r := r) (show (1 = 9 ∧ 1 < b.toNat) ∨ (0 < 1 ∧ b.toNat = 0) by omega)))
          clear HV HA
          go_wp2
          refine bodyPost_ret (v := .tuple #[.int .u64 0, .int .i64 0, .int .i64 8]) (by simp [results, Try.results45, go_sem]) rfl ?_
          exact ⟨by unfold numE; rw [hz.out]; rfl, rfl⟩
        · by_cases hb1 : b.toNat < 128
          · have hor : bits .or .u64 (acc : Int) (IntKind.u64.wrap (IntKind.u64.wrap (bits .and .u8 (b.toNat : Int) 127) * 128)) = ((acc + b.toNat * 128 : Nat) : Int) := by
              simp (disch := omega) only [u8_and127, u64_wrap_id, u64_orv7]
              omega
            have hz := Lib.hid (HV.out.trans (vnumL_end (i := 1) (acc := acc) (r := r) (by omega) (by omega) hb1))
            clear HV HA
            go_wp2
            refine bodyPost_ret (v := .tuple #[.int .u64 ((acc + b.toNat * 128 : Nat) : Int), .int .i64 (1 + 1), .int .i64 0]) (by simp [results, Try.results45, go_sem]) rfl ?_
            exact ⟨by unfold numE; rw [hz.out]; rfl, rfl⟩
          · have hor : bits .or .u64 (acc : Int) (IntKind.u64.wrap (IntKind.u64.wrap (bits .and .u8 (b.toNat : Int) 127) * 128)) = ((acc + b.toNat % 128 * 128 : Nat) : Int) := by
              simp (disch := omega) only [u8_and127, u64_wrap_id, u64_orv7]
              omega
            have hz := Lib.hid (HV.out.trans (vnumL_more (i := 1) (acc := acc) (r := r) (by omega) (by omega) hb1))
            clear HV HA
            go_wp2
            go_round
            case rel => exact ⟨1 + 1, acc + b.toNat % 128 * 128, by omega, by omega, by go_num, (by first | rfl | (congr 1; omega)), (by show _ < 16384; omega), Lib.hid (by rw [← HR.out]; exact hz.out)⟩
            case measure => simp [intOf]
      · have hacc : acc < 16384 := by simpa using HA.out
        by_cases hbad : b.toNat = 0
        · have hz := Lib.hid (HV.out.trans (vnumL_bad (i := 2) (acc := acc) (r := r) (show (2 = 9 ∧ 1 < b.toNat) ∨ (0 < 2 ∧ b.toNat = 0) by omega)))
          clear HV HA
          go_wp2
          refine bodyPost_ret (v := .tuple #[.int .u64 0, .int .i64 0, .int .i64 8]) (by simp [results, Try.results45, go_sem]) rfl ?_
          exact ⟨by unfold numE; rw [hz.out]; rfl, rfl⟩
        · by_cases hb1 : b.toNat < 128
          · have hor : bits .or .u64 (acc : Int) (IntKind.u64.wrap (IntKind.u64.wrap (bits .and .u8 (b.toNat : Int) 127) * 16384)) = ((acc + b.toNat * 16384 : Nat) : Int) := by
              simp (disch := omega) only [u8_and127, u64_wrap_id, u64_orv14]
              omega
            have hz := Lib.hid (HV.out.trans (vnumL_end (i := 2) (acc := acc) (r := r) (by omega) (by omega) hb1))
            clear HV HA
            go_wp2
            refine bodyPost_ret (v := .tuple #[.int .u64 ((acc + b.toNat * 16384 : Nat) : Int), .int .i64 (2 + 1), .int .i64 0]) (by simp [results, Try.results45, go_sem]) rfl ?_
            exact ⟨by unfold numE; rw [hz.out]; rfl, rfl⟩
          · have hor : bits .or .u64 (acc : Int) (IntKind.u64.wrap (IntKind.u64.wrap (bits .and .u8 (b.toNat : Int) 127) * 16384)) = ((acc + b.toNat % 128 * 16384 : Nat) : Int) := by
              simp (disch := omega) only [u8_and127, u64_wrap_id, u64_orv14]
              omega
            have hz := Lib.hid (HV.out.trans (vnumL_more (i := 2) (acc := acc) (r := r) (by omega) (by omega) hb1))
            clear HV HA
            go_wp2
            go_round
            case rel => exact ⟨2 + 1, acc + b.toNat % 128 * 16384, by omega, by omega, by go_num, (by first | rfl | (congr 1; omega)), (by show _ < 2097152; omega), Lib.hid (by rw [← HR.out]; exact hz.out)⟩
            case measure => simp [intOf]
      · have hacc : acc < 2097152 := by simpa using HA.out
        by_cases hbad : b.toNat = 0
        · have hz := Lib.hid (HV.out.trans (vnumL_bad (i := 3) (acc := acc) (r := r) (show (3 = 9 ∧ 1 < b.toNat) ∨ (0 < 3 ∧ b.toNat = 0) by omega)))
          clear HV HA
          go_wp2
          refine bodyPost_ret (v := .tuple #[.int .u64 0, .int .i64 0, .int .i64 8]) (by simp [results, Try.results45, go_sem]) rfl ?_
          exact ⟨by unfold numE; rw [hz.out]; rfl, rfl⟩
        · by_cases hb1 : b.toNat < 128
          · have hor : bits .or .u64 (acc : Int) (IntKind.u64.wrap (IntKind.u64.wrap (bits .and .u8 (b.toNat : Int) 127) * 2097152)) = ((acc + b.toNat * 2097152 : Nat) : Int) := by
              simp (disch := omega) only [u8_and127, u64_wrap_id, u64_orv21]
              omega
            have hz := Lib.hid (HV.out.trans (vnumL_end (i := 3) (acc := acc) (r := r) (by omega) (by omega) hb1))
            clear HV HA
            go_wp2
            refine bodyPost_ret (v := .tuple #[.int .u64 ((acc + b.toNat * 2097152 : Nat) : Int), .int .i64 (3 + 1), .int .i64 0]) (by simp [results, Try.results45, go_sem]) rfl ?_
            exact ⟨by unfold numE; rw [hz.out]; rfl, rfl⟩
          · have hor : bits .or .u64 (acc : Int) (IntKind.u64.wrap (IntKind.u64.wrap (bits .and .u8 (b.toNat : Int) 127) * 2097152)) = ((acc + b.toNat % 128 * 2097152 : Nat) : Int) := by
              simp (disch := omega) only [u8_and127, u64_wrap_id, u64_orv21]
              omega
            have hz := Lib.hid (HV.out.trans (vnumL_more (i := 3) (acc := acc) (r := r) (by omega) (by omega) hb1))
            clear HV HA
            go_wp2
            go_round
            case rel => exact ⟨3 + 1, acc + b.toNat % 128 * 2097152, by omega, by omega, by go_num, (by first | rfl | (congr 1; omega)), (by show _ < 268435456; omega), Lib.hid (by rw [← HR.out]; exact hz.out)⟩
            case measure => simp [intOf]
      · have hacc : acc < 268435456 := by simpa using HA.out
        by_cases hbad : b.toNat = 0
        · have hz := Lib.hid (HV.out.trans (vnumL_bad (i := 4) (acc := acc) (r := r) (show (4 = 9 ∧ 1 < b.toNat) ∨ (0 < 4 ∧ b.toNat = 0) by omega)))
          clear HV HA
          go_wp2
          refine bodyPost_ret (v := .tuple #[.int .u64 0, .int .i64 0, .int .i64 8]) (by simp [results, Try.results45, go_sem]) rfl ?_
          exact ⟨by unfold numE; rw [hz.out]; rfl, rfl⟩
        · by_cases hb1 : b.toNat < 128
          · have hor : bits .or .u64 (acc : Int) (IntKind.u64.wrap (IntKind.u64.wrap (bits .and .u8 (b.toNat : Int) 127) * 268435456)) = ((acc + b.toNat * 268435456 : Nat) : Int) := by
              simp (disch := omega) only [u8_and127, u64_wrap_id, u64_orv28]
              omega
            have hz := Lib.hid (HV.out.trans (vnumL_end (i := 4) (acc := acc) (r := r) (by omega) (by omega) hb1))
            clear HV HA
            go_wp2
            refine bodyPost_ret (v := .tuple #[.int .u64 ((acc + b.toNat * 268435456 : Nat) : Int), .int .i64 (4 + 1), .int .i64 0]) (by simp [results, Try.results45, go_sem]) rfl ?_
            exact ⟨by unfold numE; rw [hz.out]; rfl, rfl⟩
          · have hor : bits .or .u64 (acc : Int) (IntKind.u64.wrap (IntKind.u64.wrap (bits .and .u8 (b.toNat : Int) 127) * 268435456)) = ((acc + b.toNat % 128 * 268435456 : Nat) : Int) := by
              simp (disch := omega) only [u8_and127, u64_wrap_id, u64_orv28]
              omega
            have hz := Lib.hid (HV.out.trans (vnumL_more (i := 4) (acc := acc) (r := r) (by omega) (by omega) hb1))
            clear HV HA
            go_wp2
            go_round
            case rel => exact ⟨4 + 1, acc + b.toNat % 128 * 268435456, by omega, by omega, by go_num, (by first | rfl | (congr 1; omega)), (by show _ < 34359738368; omega), Lib.hid (by rw [← HR.out]; exact hz.out)⟩
            case measure => simp [intOf]
      · have hacc : acc < 34359738368 := by simpa using HA.out
        by_cases hbad : b.toNat = 0
        · have hz := Lib.hid (HV.out.trans (vnumL_bad (i := 5) (acc := acc) (r := r) (show (5 = 9 ∧ 1 < b.toNat) ∨ (0 < 5 ∧ b.toNat = 0) by omega)))
          clear HV HA
          go_wp2
          refine bodyPost_ret (v := .tuple #[.int .u64 0, .int .i64 0, .int .i64 8]) (by simp [results, Try.results45, go_sem]) rfl ?_
          exact ⟨by unfold numE; rw [hz.out]; rfl, rfl⟩
        · by_cases hb1 : b.toNat < 128
          · have hor : bits .or .u64 (acc : Int) (IntKind.u64.wrap (IntKind.u64.wrap (bits .and .u8 (b.toNat : Int) 127) * 34359738368)) = ((acc + b.toNat * 34359738368 : Nat) : Int) := by
              simp (disch := omega) only [u8_and127, u64_wrap_id, u64_orv35]
              omega
            have hz := Lib.hid (HV.out.trans (vnumL_end (i := 5) (acc := acc) (r := r) (by omega) (by omega) hb1))
            clear HV HA
            go_wp2
            refine bodyPost_ret (v := .tuple #[.int .u64 ((acc + b.toNat * 34359738368 : Nat) : Int), .int .i64 (5 + 1), .int .i64 0]) (by simp [results, Try.results45, go_sem]) rfl ?_
            exact ⟨by unfold numE; rw [hz.out]; rfl, rfl⟩
          · have hor : bits .or .u64 (acc : Int) (IntKind.u64.wrap (IntKind.u64.wrap (bits .and .u8 (b.toNat : Int) 127) * 34359738368)) = ((acc + b.toNat % 128 * 34359738368 : Nat) : Int) := by
              simp (disch := omega) only [u8_and127, u64_wrap_id, u64_orv35]
              omega
            have hz := Lib.hid (HV.out.trans (vnumL_more (i := 5) (acc := acc) (r := r) (by omega) (by omega) hb1))
            clear HV HA
            go_wp2
            go_round
            case rel => exact ⟨5 + 1, acc + b.toNat % 128 * 34359738368, by omega, by omega, by go_num, (by first | rfl | (congr 1; omega)), (by show _ < 4398046511104; omega), Lib.hid (by rw [← HR.out]; exact hz.out)⟩
            case measure => simp [intOf]
      · have hacc : acc < 4398046511104 := by simpa using HA.out
        by_cases hbad : b.toNat = 0
        · have hz := Lib.hid (HV.out.trans (vnumL_bad (i := 6) (acc := acc) (r := r) (show (6 = 9 ∧ 1 < b.toNat) ∨ (0 < 6 ∧ b.toNat = 0) by omega)))
          clear HV HA
          go_wp2
          refine bodyPost_ret (v := .tuple #[.int .u64 0, .int .i64 0, .int .i64 8]) (by simp [results, Try.results45, go_sem]) rfl ?_
          exact ⟨by unfold numE; rw [hz.out]; rfl, rfl⟩
        · by_cases hb1 : b.toNat < 128
          · have hor : bits .or .u64 (acc : Int) (IntKind.u64.wrap (IntKind.u64.wrap (bits .and .u8 (b.toNat : Int) 127) * 4398046511104)) = ((acc + b.toNat * 4398046511104 : Nat) : Int) := by
              simp (disch := omega) only [u8_and127, u64_wrap_id, u64_orv42]
              omega
            have hz := Lib.hid (HV.out.trans (vnumL_end (i := 6) (acc := acc) (r := r) (by omega) (by omega) hb1))
            clear HV HA
            go_wp2
            refine bodyPost_ret (v := .tuple #[.int .u64 ((acc + b.toNat * 4398046511104 : Nat) : Int), .int .i64 (6 + 1), .int .i64 0]) (by simp [results, Try.results45, go_sem]) rfl ?_
            exact ⟨by unfold numE; rw [hz.out]; rfl, rfl⟩
          · have hor : bits .or .u64 (acc : Int) (IntKind.u64.wrap (IntKind.u64.wrap (bits .and .u8 (b.toNat : Int) 127) * 4398046511104)) = ((acc + b.toNat % 128 * 4398046511104 : Nat) : Int) := by
              simp (disch := omega) only [u8_and127, u64_wrap_id, u64_orv42]
              omega
            have hz := Lib.hid (HV.out.trans (vnumL_more (i := 6) (acc := acc) (r := r) (by omega) (by omega) hb1))
            clear HV HA
            go_wp2
            go_round
            case rel => exact ⟨6 + 1, acc + b.toNat % 128 * 4398046511104, by omega, by omega, by go_num, (by first | rfl | (congr 1; omega)), (by show _ < 562949953421312; omega), Lib.hid (by rw [← HR.out]; exact hz.out)⟩
            case measure => simp [intOf]
      · have hacc : acc < 562949953421312 := by simpa using HA.out
        by_cases hbad : b.toNat = 0
        · have hz := Lib.hid (HV.out.trans (vnumL_bad (i := 7) (acc := acc) (r := r) (show (7 = 9 ∧ 1 < b.toNat) ∨ (0 < 7 ∧ b.toNat = 0) by omega)))
          clear HV HA
          go_wp2
          refine bodyPost_ret (v := .tuple #[.int .u64 0, .int .i64 0, .int .i64 8]) (by simp [results, Try.results45, go_sem]) rfl ?_
          exact ⟨by unfold numE; rw [hz.out]; rfl, rfl⟩
        · by_cases hb1 : b.toNat < 128
          · have hor : bits .or .u64 (acc : Int) (IntKind.u64.wrap (IntKind.u64.wrap (bits .and .u8 (b.toNat : Int) 127) * 562949953421312)) = ((acc + b.toNat * 562949953421312 : Nat) : Int) := by
              simp (disch := omega) only [u8_and127, u64_wrap_id, u64_orv49]
              omega
            have hz := Lib.hid (HV.out.trans (vnumL_end (i := 7) (acc := acc) (r := r) (by omega) (by omega) hb1))
            clear HV HA
            go_wp2
            refine bodyPost_ret (v := .tuple #[.int .u64 ((acc + b.toNat * 562949953421312 : Nat) : Int), .int .i64 (7 + 1), .int .i64 0]) (by simp [results, Try.results45, go_sem]) rfl ?_
            exact ⟨by unfold numE; rw [hz.out]; rfl, rfl⟩
          · have hor : bits .or .u64 (acc : Int) (IntKind.u64.wrap (IntKind.u64.wrap (bits .and .u8 (b.toNat : Int) 127) * 562949953421312)) = ((acc + b.toNat % 128 * 562949953421312 : Nat) : Int) := by
              simp (disch := omega) only [u8_and127, u64_wrap_id, u64_orv49]
              omega
            have hz := Lib.hid (HV.out.trans (vnumL_more (i := 7) (acc := acc) (r := r) (by omega) (by omega) hb1))
            clear HV HA
            go_wp2
            go_round
            case rel => exact ⟨7 + 1, acc + b.toNat % 128 * 562949953421312, by omega, by omega, by go_num, (by first | rfl | (congr 1; omega)), (by show _ < 72057594037927936; omega), Lib.hid (by rw [← HR.out]; exact hz.out)⟩
            case measure => simp [intOf]
      · have hacc : acc < 72057594037927936 := by simpa using HA.out
        by_cases hbad : b.toNat = 0
        · have hz := Lib.hid (HV.out.trans (vnumL_bad (i := 8) (acc := acc) (r := r) (show (8 = 9 ∧ 1 < b.toNat) ∨ (0 < 8 ∧ b.toNat = 0) by omega)))
          clear HV HA
          go_wp2
          refine bodyPost_ret (v := .tuple #[.int .u64 0, .int .i64 0, .int .i64 8]) (by simp [results, Try.results45, go_sem]) rfl ?_
          exact ⟨by unfold numE; rw [hz.out]; rfl, rfl⟩
        · by_cases hb1 : b.toNat < 128
          · have hor : bits .or .u64 (acc : Int) (IntKind.u64.wrap (IntKind.u64.wrap (bits .and .u8 (b.toNat : Int) 127) * 72057594037927936)) = ((acc + b.toNat * 72057594037927936 : Nat) : Int) := by
              simp (disch := omega) only [u8_and127, u64_wrap_id, u64_orv56]
              omega
            have hz := Lib.hid (HV.out.trans (vnumL_end (i := 8) (acc := acc) (r := r) (by omega) (by omega) hb1))
            clear HV HA
            go_wp2
            refine bodyPost_ret (v := .tuple #[.int .u64 ((acc + b.toNat * 72057594037927936 : Nat) : Int), .int .i64 (8 + 1), .int .i64 0]) (by simp [results, Try.results45, go_sem]) rfl ?_
            exact ⟨by unfold numE; rw [hz.out]; rfl, rfl⟩
          · have hor : bits .or .u64 (acc : Int) (IntKind.u64.wrap (IntKind.u64.wrap (bits .and .u8 (b.toNat : Int) 127) * 72057594037927936)) = ((acc + b.toNat % 128 * 72057594037927936 : Nat) : Int) := by
              simp (disch := omega) only [u8_and127, u64_wrap_id, u64_orv56]
              omega
            have hz := Lib.hid (HV.out.trans (vnumL_more (i := 8) (acc := acc) (r := r) (by omega) (by omega) hb1))
            clear HV HA
            go_wp2
            go_round
            case rel => exact ⟨8 + 1, acc + b.toNat % 128 * 72057594037927936, by omega, by omega, by go_num, (by first | rfl | (congr 1; omega)), (by show _ < 9223372036854775808; omega), Lib.hid (by rw [← HR.out]; exact hz.out)⟩
            case measure => simp [intOf]
      · have hacc : acc < 9223372036854775808 := by simpa using HA.out
        by_cases hbad : 1 < b.toNat ∨ b.toNat = 0
        · have hz := Lib.hid (HV.out.trans (vnumL_bad (i := 9) (acc := acc) (r := r) (show (9 = 9 ∧ 1 < b.toNat) ∨ (0 < 9 ∧ b.toNat = 0) by omega)))
          clear HV HA
          rcases hbad with hbad | hbad
          all_goals
            go_wp2
            refine bodyPost_ret (v := .tuple #[.int .u64 0, .int .i64 0, .int .i64 8]) (by simp [results, Try.results45, go_sem]) rfl ?_
            exact ⟨by unfold numE; rw [hz.out]; rfl, rfl⟩
        · obtain ⟨hb9, hb0⟩ := not_or.1 hbad
          have hb1 : b.toNat < 128 := by omega
          have hb9' : decide (1 < (b.toNat : Int)) = false := decide_eq_false (by omega)
          have hor : bits .or .u64 (acc : Int) (IntKind.u64.wrap (IntKind.u64.wrap (bits .and .u8 (b.toNat : Int) 127) * 9223372036854775808)) = ((acc + b.toNat * 9223372036854775808 : Nat) : Int) := by
            simp (disch := omega) only [u8_and127, u64_wrap_id, u64_orv63]
            omega
          have hz := Lib.hid (HV.out.trans (vnumL_end (i := 9) (acc := acc) (r := r) (by omega) (by omega) hb1))
          clear HV HA
          go_wp2
          refine bodyPost_ret (v := .tuple #[.int .u64 ((acc + b.toNat * 9223372036854775808 : Nat) : Int), .int .i64 (9 + 1), .int .i64 0]) (by simp [results, Try.results45, go_sem]) rfl ?_
          exact ⟨by unfold numE; rw [hz.out]; rfl, rfl⟩
      · have hz := Lib.hid (HV.out.trans vnumL_ten)
        clear HV HA HR
        go_wp2
        refine bodyPost_ret (v := .tuple #[.int .u64 0, .int .i64 0, .int .i64 8]) (by simp [results, Try.results45, go_sem]) rfl ?_
        exact ⟨by unfold numE; rw [hz.out]; rfl, rfl⟩
    · have hz := Lib.hid (hv.out.trans (congrArg _ (List.drop_eq_nil_of_le (by rw [size_list]; omega))))
      clear HA
      go_wp2
      refine bodyPost_ret (v := .tuple #[.int .u64 0, .int .i64 0, .int .i64 8]) (by simp [results, Try.results45, go_sem]) rfl ?_
      exact ⟨by unfold numE; rw [hz.out]; rfl, rfl⟩
end Go.Proofs.Yteglieoeblehpaa
