/- The laws SumOfs, SumJoins, SumParts of reevelaw02, walked. Conditions: the strings are within the reach. -/
import Derived.Test.YtblcaidbocnblaaSum4
namespace Go.Proofs.Ytblcaidbocnblaa
open Go.RowKit

theorem u_byte (d : B32) (x : UInt8) : bits .xor .u32 (u d) ((x.toNat : Int) % (4294967296 : Int)) = u (d ^^^ byteB x) := by
  have e : (x.toNat : Int) % (4294967296 : Int) = u (byteB x) := by
    unfold u byteB
    rw [BitVec.toNat_setWidth]
    have := x.toNat_lt
    show _ = ((x.toNat % 2 ^ 32 : Nat) : Int)
    omega
  rw [e, u_xor]
set_option maxHeartbeats 4000000 in
theorem ref_More02 (c : B32) (s : ByteArray) (hs : s.size ≤ 9223372036854775807) (w : World) :
    Calls Try.prog 27 #[.int .u32 (u c), .string s] w fun e w' => e = .returned (.int .u32 (u (moreB c s.data.toList))) ∧ w = w' := by
  have hx := u_not c
  go_enter Try.func27, Try.ntmps27
  go_wp2_with fail
  go_loop [5, 6] (fun x i => ∃ k : Nat, k ≤ s.size ∧ i = .int .i64 k ∧ x = .int .u32 (u (crcL (~~~ c) (s.data.toList.take k)))) (fun _ i => s.size - (intOf i).toNat)
  case atStart => exact ⟨0, Nat.zero_le _, rfl, rfl⟩
  case round =>
    obtain ⟨k, hk, rfl, rfl⟩ := hrel
    by_cases hlt : k < s.size
    · have hfin : Hid (crcL (~~~ c) (s.data.toList.take (k + 1)) = bsteps 8 (crcL (~~~ c) (s.data.toList.take k) ^^^ byteB s[k])) := Lib.hid (crc_snoc (~~~ c) s k hlt)
      generalize crcL (~~~ c) (s.data.toList.take k) = d at *
      have h1 := u_byte d s[k]
      have hsz : Hid (k + 1 ≤ s.size) := Lib.hid (by omega)
      generalize d ^^^ byteB (s[k]'hlt) = f at *
      go_wp2_with fail
      clear h1 hx
      go_loop [5, 7] (fun x i => ∃ k : Nat, k ≤ 8 ∧ i = .int .i64 k ∧ x = .int .u32 (u (bsteps k f))) (fun _ i => 8 - (intOf i).toNat)
      case atStart => exact ⟨0, Nat.zero_le _, rfl, rfl⟩
      case round =>
        obtain ⟨j, hj, rfl, rfl⟩ := hrel
        by_cases hlj : j < 8
        · have hs := Lib.hid (bsteps_succ j f)
          generalize bsteps j f = q at *
          cases hb : q.getLsbD 0 with
          | true =>
            obtain ⟨h1, h2⟩ := u_step1 hb
            clear hb
            go_wp2
            go_round
            case rel => exact ⟨j + 1, by omega, by go_num, by rw [hs.out]⟩
            case measure => simp [intOf]; omega
          | false =>
            obtain ⟨h1, h2⟩ := u_step0 hb
            clear hb
            go_wp2
            go_round
            case rel => exact ⟨j + 1, by omega, by go_num, by rw [hs.out]⟩
            case measure => simp [intOf]; omega
        · obtain rfl : j = 8 := by omega
          go_wp2
          go_round
          case rel => exact ⟨k + 1, hsz.out, by go_num, by rw [hfin.out]⟩
          case measure => simp [intOf]; omega
    · obtain rfl : k = s.size := by omega
      have ht := Lib.hid (take_allB s)
      have hn2 := u_not (crcL (~~~ c) (s.data.toList.take s.size))
      go_wp2
      go_ret
      exact ⟨by rw [ht.out]; rfl, rfl⟩
set_option maxHeartbeats 400000 in
theorem ref_Of02 (s : ByteArray) (hs : s.size ≤ 9223372036854775807) (w : World) :
    Calls Try.prog 25 #[.string s] w fun e w' => e = .returned (.int .u32 (u (moreB 0#32 s.data.toList))) ∧ w = w' := by
  have c1 : ∀ w, Calls Try.prog 27 #[.int .u32 0, .string s] w fun e w' => e = .returned (.int .u32 (u (moreB 0#32 s.data.toList))) ∧ w = w' := fun w => ref_More02 0#32 s hs w
  have C1 := Lib.hid c1
  clear c1
  go_enter Try.func25, Try.ntmps25
  go_wp2_with fail
  refine (C1.out _).mono ?_
  rintro r ww ⟨rfl, rfl⟩; dsimp only
  go_wp2_with fail
  go_ret
  exact ⟨rfl, rfl⟩
theorem crc_nine : moreB 0#32 [49, 50, 51, 52, 53, 54, 55, 56, 57] = 3808858755#32 := by decide +kernel
set_option maxHeartbeats 1000000 in
theorem alive02 (w : World) : Calls Try.prog 23 #[] w fun e w' => e = .returned (.bool true) ∧ Below w.heap.size w w' := by
  have c1 : ∀ w, Calls Try.prog 24 #[.string ⟨#[]⟩] w fun e w' => e = .returned (.int .u32 0) ∧ Below w.heap.size w w' := fun w => sum_Of ⟨#[]⟩ (by decide) w
  have c2 : ∀ w, Calls Try.prog 24 #[.string ⟨#[49, 50, 51, 52, 53, 54, 55, 56, 57]⟩] w fun e w' => e = .returned (.int .u32 3808858755) ∧ Below w.heap.size w w' := fun w => by
    have := sum_Of ⟨#[49, 50, 51, 52, 53, 54, 55, 56, 57]⟩ (by decide) w
    rw [show (⟨#[49, 50, 51, 52, 53, 54, 55, 56, 57]⟩ : ByteArray).data.toList = [49, 50, 51, 52, 53, 54, 55, 56, 57] from rfl, crc_nine] at this
    exact this
  have c3 := sum_Of ⟨#[49, 50, 51, 52, 53]⟩ (by decide)
  have c4 : ∀ w, Calls Try.prog 26 #[.int .u32 (u (moreB 0#32 [49, 50, 51, 52, 53])), .string ⟨#[54, 55, 56, 57]⟩] w fun e w' => e = .returned (.int .u32 3808858755) ∧ Below w.heap.size w w' := fun w => by
    have := sum_More (moreB 0#32 [49, 50, 51, 52, 53]) ⟨#[54, 55, 56, 57]⟩ (by decide) w
    rw [show (⟨#[54, 55, 56, 57]⟩ : ByteArray).data.toList = [54, 55, 56, 57] from rfl, more_append, show [49, 50, 51, 52, 53] ++ [54, 55, 56, 57] = ([49, 50, 51, 52, 53, 54, 55, 56, 57] : List UInt8) from rfl, crc_nine] at this
    exact this
  have c5 := sum_Of ⟨#[49, 50, 51, 52]⟩ (by decide)
  have c6 := sum_Of ⟨#[53, 54, 55, 56, 57]⟩ (by decide)
  have c7 : ∀ w, Calls Try.prog 28 #[.int .u32 (u (moreB 0#32 [49, 50, 51, 52])), .int .u32 (u (moreB 0#32 [53, 54, 55, 56, 57])), .int .i64 5] w fun e w' => e = .returned (.int .u32 3808858755) ∧ Below w.heap.size w w' := fun w => by
    have := sum_Join (moreB 0#32 [49, 50, 51, 52]) (moreB 0#32 [53, 54, 55, 56, 57]) 5 (by decide) w
    have e := more_join [49, 50, 51, 52] [53, 54, 55, 56, 57]
    rw [show ([53, 54, 55, 56, 57] : List UInt8).length = 5 from rfl, show [49, 50, 51, 52] ++ [53, 54, 55, 56, 57] = ([49, 50, 51, 52, 53, 54, 55, 56, 57] : List UInt8) from rfl, crc_nine] at e
    rw [e] at this
    exact this
  rw [show (⟨#[49, 50, 51, 52, 53]⟩ : ByteArray).data.toList = [49, 50, 51, 52, 53] from rfl] at c3
  rw [show (⟨#[49, 50, 51, 52]⟩ : ByteArray).data.toList = [49, 50, 51, 52] from rfl] at c5
  rw [show (⟨#[53, 54, 55, 56, 57]⟩ : ByteArray).data.toList = [53, 54, 55, 56, 57] from rfl] at c6
  generalize moreB 0#32 [49, 50, 51, 52, 53] = q5 at *
  generalize moreB 0#32 [49, 50, 51, 52] = q4 at *
  generalize moreB 0#32 [53, 54, 55, 56, 57] = p5 at *
  have C1 := Lib.hid c1
  have C2 := Lib.hid c2
  have C3 := Lib.hid c3
  have C4 := Lib.hid c4
  have C5 := Lib.hid c5
  have C6 := Lib.hid c6
  have C7 := Lib.hid c7
  clear c1 c2 c3 c4 c5 c6 c7
  have hB : Below w.heap.size w w := below_self w
  go_enter Try.func23, Try.ntmps23
  go_wp2_with fail
  refine (C1.out _).mono ?_
  rintro r ww ⟨rfl, hb⟩; dsimp only
  replace hB := below_to hB hb
  clear hb
  go_wp2_with fail
  refine (C2.out _).mono ?_
  rintro r ww ⟨rfl, hb⟩; dsimp only
  replace hB := below_to hB hb
  clear hb
  go_wp2_with fail
  refine (C3.out _).mono ?_
  rintro r ww ⟨rfl, hb⟩; dsimp only
  replace hB := below_to hB hb
  clear hb
  go_wp2_with fail
  refine (C4.out _).mono ?_
  rintro r ww ⟨rfl, hb⟩; dsimp only
  replace hB := below_to hB hb
  clear hb
  go_wp2_with fail
  refine (C5.out _).mono ?_
  rintro r ww ⟨rfl, hb⟩; dsimp only
  replace hB := below_to hB hb
  clear hb
  go_wp2_with fail
  refine (C6.out _).mono ?_
  rintro r ww ⟨rfl, hb⟩; dsimp only
  replace hB := below_to hB hb
  clear hb
  go_wp2_with fail
  refine (C7.out _).mono ?_
  rintro r ww ⟨rfl, hb⟩; dsimp only
  replace hB := below_to hB hb
  clear hb
  go_wp2_with fail
  go_ret
  exact ⟨rfl, hB⟩
set_option maxHeartbeats 1000000 in
theorem SumOfs_walk (s : ByteArray) (hs' : s.size ≤ 140737488351232) (x : Int) (hx : U32 x) (w : World) :
    Calls Try.prog 5 #[.string s, .int .u32 x] w fun e w' => e = .returned (.bool true) ∧ Below w.heap.size w w' := by
  obtain ⟨c, rfl⟩ : ∃ c : B32, x = u c := ⟨BitVec.ofNat 32 x.toNat, by obtain ⟨h0, h1⟩ := hx; rw [← u_nat (by omega)]; omega⟩
  have hs : s.size ≤ 9223372036854775807 := by omega
  have C1 := Lib.hid (sum_Of s hs)
  have C2 := Lib.hid (ref_Of02 s hs)
  have C3 := Lib.hid (sum_More c s hs)
  have C4 := Lib.hid (ref_More02 c s hs)
  have al := Lib.hid alive02
  have hB : Below w.heap.size w w := below_self w
  generalize moreB 0#32 s.data.toList = a at *
  generalize moreB c s.data.toList = b at *
  clear hx
  by_cases h : 8192 < s.size
  · go_enter Try.func5, Try.ntmps5
    go_wp2_with fail
    refine (al.out _).mono ?_
    rintro r ww ⟨rfl, hb⟩; dsimp only
    replace hB := below_to hB hb
    clear hb
    go_wp2_with fail
    go_ret
    exact ⟨rfl, hB⟩
  · go_enter Try.func5, Try.ntmps5
    go_wp2_with fail
    refine (C1.out _).mono ?_
    rintro r ww ⟨rfl, hb⟩; dsimp only
    replace hB := below_to hB hb
    clear hb
    go_wp2_with fail
    refine (C2.out _).mono ?_
    rintro r ww ⟨rfl, rfl⟩; dsimp only
    go_wp2_with fail
    refine (C3.out _).mono ?_
    rintro r ww ⟨rfl, hb⟩; dsimp only
    replace hB := below_to hB hb
    clear hb
    go_wp2_with fail
    refine (C4.out _).mono ?_
    rintro r ww ⟨rfl, rfl⟩; dsimp only
    go_wp2_with fail
    refine (al.out _).mono ?_
    rintro r ww ⟨rfl, hb⟩; dsimp only
    replace hB := below_to hB hb
    clear hb
    go_wp2_with fail
    go_ret
    exact ⟨by first | rfl | simp, hB⟩
set_option maxHeartbeats 1000000 in
theorem SumJoins_walk (x : Int) (hx : U32 x) (y : Int) (hy : U32 y) (n : Int) (hn : I64 n) (w : World) :
    Calls Try.prog 6 #[.int .u32 x, .int .u32 y, .int .i64 n] w fun e w' => e = .returned (.bool true) ∧ Below w.heap.size w w' := by
  obtain ⟨a, rfl⟩ : ∃ c : B32, x = u c := ⟨BitVec.ofNat 32 x.toNat, by obtain ⟨h0, h1⟩ := hx; rw [← u_nat (by omega)]; omega⟩
  obtain ⟨b, rfl⟩ : ∃ c : B32, y = u c := ⟨BitVec.ofNat 32 y.toNat, by obtain ⟨h0, h1⟩ := hy; rw [← u_nat (by omega)]; omega⟩
  obtain ⟨n0, n1⟩ := hn
  have al := Lib.hid alive02
  have hB : Below w.heap.size w w := below_self w
  clear hx hy
  by_cases h : 8192 < n
  · go_enter Try.func6, Try.ntmps6
    go_wp2_with fail
    refine (al.out _).mono ?_
    rintro r ww ⟨rfl, hb⟩; dsimp only
    replace hB := below_to hB hb
    clear hb
    go_wp2_with fail
    go_ret
    exact ⟨rfl, hB⟩
  · by_cases h0 : n < 0
    · have C1 := Lib.hid (sum_Join_neg a b n h0)
      have C2 := Lib.hid (ref_Join02_neg a b n h0)
      go_enter Try.func6, Try.ntmps6
      go_wp2_with fail
      refine (C1.out _).mono ?_
      rintro r ww ⟨rfl, hb⟩; dsimp only
      replace hB := below_to hB hb
      clear hb
      go_wp2_with fail
      refine (C2.out _).mono ?_
      rintro r ww ⟨rfl, rfl⟩; dsimp only
      go_wp2_with fail
      refine (al.out _).mono ?_
      rintro r ww ⟨rfl, hb⟩; dsimp only
      replace hB := below_to hB hb
      clear hb
      go_wp2_with fail
      go_ret
      exact ⟨by first | rfl | simp, hB⟩
    · obtain ⟨N, rfl⟩ : ∃ N : Nat, n = N := ⟨n.toNat, by omega⟩
      have C1 := Lib.hid (sum_Join a b N (by omega))
      have C2 := Lib.hid (ref_Join02 a b N (by omega))
      generalize joinB a b N = z at *
      go_enter Try.func6, Try.ntmps6
      go_wp2_with fail
      refine (C1.out _).mono ?_
      rintro r ww ⟨rfl, hb⟩; dsimp only
      replace hB := below_to hB hb
      clear hb
      go_wp2_with fail
      refine (C2.out _).mono ?_
      rintro r ww ⟨rfl, hb⟩; dsimp only
      replace hB := below_to hB hb
      clear hb
      go_wp2_with fail
      refine (al.out _).mono ?_
      rintro r ww ⟨rfl, hb⟩; dsimp only
      replace hB := below_to hB hb
      clear hb
      go_wp2_with fail
      go_ret
      exact ⟨by first | rfl | simp, hB⟩
end Go.Proofs.Ytblcaidbocnblaa
