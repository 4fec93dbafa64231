/- The contract of sum.Join, and the known run of reevelaw02. Conditions: none. -/
import Derived.Test.YtblcaidbocnblaaSum3
namespace Go.Proofs.Ytblcaidbocnblaa
open Go.RowKit

/-- What so many bytes 0 do to each bit. -/
def zmat (p : Nat) (i : Nat) : B32 := bsteps (8 * p) (1#32 <<< i)
theorem zmat_of (p : Nat) (c : B32) : mofB (zmat p) c 32 = bsteps (8 * p) c := mofB_steps (8 * p) (zmat p) (fun _ _ => rfl) c
theorem zmat_twice (p : Nat) : matC (fun i => mofB (zmat p) (zmat p i) 32) 32 = matC (zmat (2 * p)) 32 := matC_congr fun i _ => by
  rw [zmat_of]
  unfold zmat
  rw [← bsteps_add, show 8 * p + 8 * p = 8 * (2 * p) by omega]
theorem zmat_one (k : Nat) : zmat 1 k = bsteps 8 (1#32 <<< k) := rfl
set_option maxRecDepth 100000 in
set_option maxHeartbeats 1000000 in
theorem sum_Join_neg (a b : B32) (n : Int) (hn : n < 0) (w : World) :
    Calls Try.prog 28 #[.int .u32 (u a), .int .u32 (u b), .int .i64 n] w fun e w' => e = .returned (.int .u32 0) ∧ Below w.heap.size w w' := by
  go_enter Try.func28, Try.ntmps28
  go_wp2
  go_ret
  exact ⟨rfl, below_self w⟩
set_option maxRecDepth 100000 in
set_option maxHeartbeats 4000000 in
theorem sum_Join (a b : B32) (n : Nat) (hn : n ≤ 9223372036854775807) (w : World) :
    Calls Try.prog 28 #[.int .u32 (u a), .int .u32 (u b), .int .i64 n] w fun e w' => e = .returned (.int .u32 (u (joinB a b n))) ∧ Below w.heap.size w w' := by
  have hz := mat_zero (zmat 1)
  have hsz := matC_size (zmat 1) 32
  go_enter Try.func28, Try.ntmps28
  go_wp2_with fail
  have hM := Blk.new w 72 (matC (zmat 1) 0)
  have hB : Below w.heap.size w (w.alloc (.cells (matC (zmat 1) 0) 72)) := below_own (below_self w) _
  refine wp_world (fun W => Blk W w.heap.size 72 (matC (zmat 1) 0) ∧ Below w.heap.size w W) ⟨hM, hB⟩ ?_
  clear hM hB hz hsz
  rintro W ⟨hM, hB⟩
  go_loopw [13] (fun i wr => ∃ k : Nat, k ≤ 32 ∧ i = .int .i64 k ∧ Blk wr w.heap.size 72 (matC (zmat 1) k) ∧ Below w.heap.size w wr) (fun i _ => 32 - (intOf i).toNat)
  case atStart => exact ⟨0, Nat.zero_le _, rfl, hM, hB⟩
  case round =>
    clear hM hB
    obtain ⟨k, hk, rfl, hM, hB⟩ := hrel
    by_cases hlt : k < 32
    · have hs := Lib.hid (matC_set (zmat 1) k)
      have hg : ∃ v, (matC (zmat 1) k)[k]? = some v := ⟨_, matC_get _ k k hlt⟩
      obtain ⟨v, hg⟩ := hg
      have c1 := sum_shifted (1#32 <<< k)
      rw [← zmat_one] at c1
      have C1 := Lib.hid c1
      clear c1
      have hu := u_shl k hlt
      have hN := hM.lt
      have hg0 : wr.cell? ⟨w.heap.size, k, none⟩ = some v := (hM.cell k).trans hg
      have hf0 := hM.frozen k
      generalize zmat 1 k = z at *
      clear hg
      go_wp2_with fail
      refine (C1.out _).mono ?_
      rintro e w1 ⟨rfl, rfl⟩; dsimp only
      go_wp2_with fail
      go_roundw
      case rel => exact ⟨k + 1, by omega, by go_num, hM.put k _ hs.out, hB.setCell (Nat.le_refl _) _⟩
      case measure => simp [intOf]; omega
    · obtain rfl : k = 32 := by omega
      go_wp2_with fail
      go_loopw [2, 10] (fun x c wr => ∃ d p k : Nat, d + p * k = n ∧ k ≤ n ∧ x = .int .i64 k ∧ c = .int .u32 (u (bsteps (8 * d) a)) ∧ Blk wr w.heap.size 72 (matC (zmat p) 32) ∧ Below w.heap.size w wr) (fun x _ _ => (intOf x).toNat)
      case atStart => exact ⟨0, 1, n, by omega, Nat.le_refl _, rfl, rfl, hM, hB⟩
      case round =>
        clear hM hB
        obtain ⟨d, p, k, hd, hk, rfl, rfl, hM, hB⟩ := hrel
        have HD := Lib.hid hd
        clear hd
        have hN := hM.lt
        have hodd := i64_odd k
        have ct := sum_twice (zmat p) w.heap.size
        rw [zmat_twice] at ct
        have CT := Lib.hid ct
        clear ct
        rcases (show k = 0 ∨ (0 < k ∧ k % 2 = 1) ∨ (0 < k ∧ k % 2 = 0) by omega) with rfl | ⟨h0, h1⟩ | ⟨h0, h1⟩
        · have hx := u_xor (bsteps (8 * d) a) b
          have hdn : Hid (d = n) := Lib.hid (by have := HD.out; omega)
          go_wp2_with fail
          go_ret
          exact ⟨by rw [← hdn.out]; rfl, hB⟩
        · rw [h1] at hodd
          have c2 := mat_of (zmat p) (matC (zmat p) 32) (matC_full _) (bsteps (8 * d) a)
          rw [zmat_of, ← bsteps_add] at c2
          have C2 := Lib.hid c2
          clear c2
          have H1 := Lib.hid h1
          clear h1
          go_wp2_with (refine wpList_load_row rfl 72 _ rfl w.heap.size rfl 72 _ (0, 0) _ hM Try.underlying72 rfl (by kernel_rfl) ?_)
          refine (C2.out _).mono ?_
          rintro e w1 ⟨rfl, hb⟩; dsimp only
          replace hM := hM.past hb
          replace hB := below_to hB hb
          clear hb
          go_wp2_with fail
          refine (CT.out _ hM).mono ?_
          rintro e w2 ⟨rfl, w3, hb, rfl⟩; dsimp only
          go_wp2_with fail
          go_roundw
          case rel =>
            have E1 : d + p + 2 * p * (k / 2) = n := by
              have h1 := H1.out
              have hd := HD.out
              obtain ⟨j, rfl⟩ : ∃ j, k = 2 * j + 1 := ⟨k / 2, by omega⟩
              rw [show (2 * j + 1) / 2 = j by omega, ← hd, Nat.mul_add, Nat.mul_assoc 2, Nat.mul_left_comm 2]
              omega
            have E2 : k / 2 ≤ n := by omega
            have E3 : Value.int .u32 (u (bsteps (8 * d + 8 * p) a)) = Value.int .u32 (u (bsteps (8 * (d + p)) a)) := by rw [show 8 * (d + p) = 8 * d + 8 * p by omega]
            (repeat apply Exists.intro)
            exact ⟨⟨d + p, 2 * p, k / 2, E1, E2, by go_num, E3, (hM.past hb).row, below_setRow (below_to hB hb) (Nat.le_refl _) _⟩, rfl⟩
          case measure => simp [intOf]; omega
        · rw [h1] at hodd
          have H1 := Lib.hid h1
          clear h1
          go_wp2_with fail
          refine (CT.out _ hM).mono ?_
          rintro e w2 ⟨rfl, w3, hb, rfl⟩; dsimp only
          go_wp2_with fail
          go_roundw
          case rel => exact ⟨d, 2 * p, k / 2, by have h1 := H1.out; have hd := HD.out; obtain ⟨j, rfl⟩ : ∃ j, k = 2 * j := ⟨k / 2, by omega⟩; rw [show 2 * j / 2 = j by omega, ← hd, Nat.mul_assoc 2, Nat.mul_left_comm 2], by omega, by go_num, rfl, (hM.past hb).row, below_setRow (below_to hB hb) (Nat.le_refl _) _⟩
          case measure => simp [intOf]; omega
end Go.Proofs.Ytblcaidbocnblaa
