/- The laws SumOfs, SumJoins, SumParts of reevelaw02, walked. Conditions: the strings are within the reach. -/
import Derived.Test.YthlninijnbmjfaaSum4
namespace Go.Proofs.Ythlninijnbmjfaa
open Go.RowKit

theorem u_byte (d : B32) (x : UInt8) : bits .xor .u32 (u d) ((x.toNat : Int) % (4294967296 : Int)) = u (d ^^^ byteB x) := by
  have e : (x.toNat : Int) % (4294967296 : Int) = u (byteB x) := by
    unfold u byteB
    rw [BitVec.toNat_setWidth]
    have := x.toNat_lt
    show _ = ((x.toNat % 2 ^ 32 : Nat) : Int)
    omega
  rw [e, u_xor]
set_option maxHeartbeats 4000000 in
theorem ref_More02 (c : B32) (s : ByteArray) (hs : s.size ≤ 9223372036854775807) (w : World) :
    Calls Try.prog 75 #[.int .u32 (u c), .string s] w fun e w' => e = .returned (.int .u32 (u (moreB c s.data.toList))) ∧ w = w' := by
  have hx := u_not c
  go_enter Try.func75, Try.ntmps75
  go_wp2_with fail
  go_loop [5, 6] (fun x i => ∃ k : Nat, k ≤ s.size ∧ i = .int .i64 k ∧ x = .int .u32 (u (crcL (~~~ c) (s.data.toList.take k)))) (fun _ i => s.size - (intOf i).toNat)
  case atStart => exact ⟨0, Nat.zero_le _, rfl, rfl⟩
  case round =>
    obtain ⟨k, hk, rfl, rfl⟩ := hrel
    by_cases hlt : k < s.size
    · have hfin : Hid (crcL (~~~ c) (s.data.toList.take (k + 1)) = bsteps 8 (crcL (~~~ c) (s.data.toList.take k) ^^^ byteB s[k])) := Lib.hid (crc_snoc (~~~ c) s k hlt)
      generalize crcL (~~~ c) (s.data.toList.take k) = d at *
      have h1 := u_byte d s[k]
      have hsz : Hid (k + 1 ≤ s.size) := Lib.hid (by omega)
      generalize d ^^^ byteB (s[k]'hlt) = f at *
      go_wp2_with fail
      clear h1 hx
      go_loop [5, 7] (fun x i => ∃ k : Nat, k ≤ 8 ∧ i = .int .i64 k ∧ x = .int .u32 (u (bsteps k f))) (fun _ i => 8 - (intOf i).toNat)
      case atStart => exact ⟨0, Nat.zero_le _, rfl, rfl⟩
      case round =>
        obtain ⟨j, hj, rfl, rfl⟩ := hrel
        by_cases hlj : j < 8
        · have hs := Lib.hid (bsteps_succ j f)
          generalize bsteps j f = q at *
          cases hb : q.getLsbD 0 with
          | true =>
            obtain ⟨h1, h2⟩ := u_step1 hb
            clear hb
            go_wp2
            go_round
            case rel => exact ⟨j + 1, by omega, by go_num, by rw [hs.out]⟩
            case measure => simp [intOf]; omega
          | false =>
            obtain ⟨h1, h2⟩ := u_step0 hb
            clear hb
            go_wp2
            go_round
            case rel => exact ⟨j + 1, by omega, by go_num, by rw [hs.out]⟩
            case measure => simp [intOf]; omega
        · obtain rfl : j = 8 := by omega
          go_wp2
          go_round
          case rel => exact ⟨k + 1, hsz.out, by go_num, by rw [hfin.out]⟩
          case measure => simp [intOf]; omega
    · obtain rfl : k = s.size := by omega
      have ht := Lib.hid (take_allB s)
      have hn2 := u_not (crcL (~~~ c) (s.data.toList.take s.size))
      go_wp2
      go_ret
      exact ⟨by rw [ht.out]; rfl, rfl⟩
set_option maxHeartbeats 400000 in
theorem ref_Of02 (s : ByteArray) (hs : s.size ≤ 9223372036854775807) (w : World) :
    Calls Try.prog 48 #[.string s] w fun e w' => e = .returned (.int .u32 (u (moreB 0#32 s.data.toList))) ∧ w = w' := by
  have c1 : ∀ w, Calls Try.prog 75 #[.int .u32 0, .string s] w fun e w' => e = .returned (.int .u32 (u (moreB 0#32 s.data.toList))) ∧ w = w' := fun w => ref_More02 0#32 s hs w
  have C1 := Lib.hid c1
  clear c1
  go_enter Try.func48, Try.ntmps48
  go_wp2_with fail
  refine (C1.out _).mono ?_
  rintro r ww ⟨rfl, rfl⟩; dsimp only
  go_wp2_with fail
  go_ret
  exact ⟨rfl, rfl⟩
theorem crc_nine : moreB 0#32 [49, 50, 51, 52, 53, 54, 55, 56, 57] = 3808858755#32 := by decide +kernel
end Go.Proofs.Ythlninijnbmjfaa
