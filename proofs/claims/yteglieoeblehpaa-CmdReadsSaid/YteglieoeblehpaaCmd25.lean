/- Commands: which command bytes are: the walk. Conditions: none. -/
import Derived.Test.YteglieoeblehpaaCmd25x
namespace Go.Proofs.Yteglieoeblehpaa
open Go.RowKit

set_option maxRecDepth 100000 in
set_option maxHeartbeats 8000000 in
theorem CmdReads_walk (s : ByteArray) (hs : s.size ≤ 140737488351232) (w : World) : Calls Try.prog 8 #[.string s] w fun e w' => e = .returned (.bool true) ∧ Below w.heap.size w w' := by
  have ALV := Lib.hid alive23
  by_cases hbig : 4096 < (s.size : Int)
  · have hd : decide (4096 < (s.size : Int)) = true := decide_eq_true hbig
    go_enter Try.func8, Try.ntmps8
    go_wp2_with fail
    refine (ALV.out _).mono ?_
    rintro r w2 ⟨rfl, hk2⟩; dsimp only
    go_wp2_with fail
    go_ret
    exact ⟨rfl, hk2⟩
  have hd : decide (4096 < (s.size : Int)) = false := decide_eq_false hbig
  have D1 := Lib.hid (fun W => cmd_Decode s hs W)
  have D2 := Lib.hid (fun W => r_Decode s hs W)
  have hceq : ∀ W, (binOp .eql 64 (.agg (csC (decV s))) (.agg (csC (decV s)))).run Try.prog W = .ok (.bool true) W := fun W => by
    have := eql_cmd (decV s) (decV s) W
    rw [decide_eq_true rfl] at this
    exact this
  generalize decV s = d at *
  generalize decE s = y at *
  have hyy : (y == y) = true := beq_self_eq_true _
  go_enter Try.func8, Try.ntmps8
  go_wp2_with fail
  refine (D1.out _).mono ?_
  rintro r w1 ⟨rfl, hb⟩; dsimp only
  have hN : Blk (w1.alloc (.cells #[.int .u8 0, .int .u64 0, .int .u64 0, .string ⟨#[]⟩, .int .u8 0, .int .i64 0, .int .i64 0, .int .i64 0, .int .i64 0, .string ⟨#[]⟩, .string ⟨#[]⟩, .int .u8 0, .int .i64 0, .int .i64 0, .int .i64 0, .int .i64 0, .string ⟨#[]⟩, .int .i64 0, .int .i64 0, .string ⟨#[]⟩, .string ⟨#[]⟩, .int .i64 0, .int .i64 0, .int .i64 0, .int .i64 0, .string ⟨#[]⟩, .int .i64 0, .string ⟨#[]⟩, .int .i64 0, .int .i64 0, .int .i64 0, .int .u8 0, .int .i64 0] 64)) w1.heap.size 64 (csC zeroC) := Blk.new w1 64 _
  have hA := hN.rowK (cs := csC d)
  replace hb := below_setRow (below_own hb (.cells #[.int .u8 0, .int .u64 0, .int .u64 0, .string ⟨#[]⟩, .int .u8 0, .int .i64 0, .int .i64 0, .int .i64 0, .int .i64 0, .string ⟨#[]⟩, .string ⟨#[]⟩, .int .u8 0, .int .i64 0, .int .i64 0, .int .i64 0, .int .i64 0, .string ⟨#[]⟩, .int .i64 0, .int .i64 0, .string ⟨#[]⟩, .string ⟨#[]⟩, .int .i64 0, .int .i64 0, .int .i64 0, .int .i64 0, .string ⟨#[]⟩, .int .i64 0, .string ⟨#[]⟩, .int .i64 0, .int .i64 0, .int .i64 0, .int .u8 0, .int .i64 0] 64)) (show w.heap.size ≤ w1.heap.size from hb.size) (csC d)
  generalize hAe : w1.heap.size = A at *
  go_wp2_with (first | (with_reducible refine st_cmd (.tmp 3) (.tmp 14) (A) d ?_ ?_ (csC zeroC) hN (csC_size zeroC) ?_ ?_) | fail)
  rotate_right
  · skip
    refine (D2.out _).mono ?_
    rintro r w2 ⟨rfl, hk2⟩; dsimp only
    replace hb := hb.trans (hk2.mono hb.size)
    replace hA := hA.past hk2
    clear hk2 hN
    have hN : Blk (w2.alloc (.cells #[.int .u8 0, .int .u64 0, .int .u64 0, .string ⟨#[]⟩, .int .u8 0, .int .i64 0, .int .i64 0, .int .i64 0, .int .i64 0, .string ⟨#[]⟩, .string ⟨#[]⟩, .int .u8 0, .int .i64 0, .int .i64 0, .int .i64 0, .int .i64 0, .string ⟨#[]⟩, .int .i64 0, .int .i64 0, .string ⟨#[]⟩, .string ⟨#[]⟩, .int .i64 0, .int .i64 0, .int .i64 0, .int .i64 0, .string ⟨#[]⟩, .int .i64 0, .string ⟨#[]⟩, .int .i64 0, .int .i64 0, .int .i64 0, .int .u8 0, .int .i64 0] 64)) w2.heap.size 64 (csC zeroC) := Blk.new w2 64 _
    have hne : A ≠ w2.heap.size := by have := hA.lt; omega
    have hB := hN.rowK (cs := csC d)
    replace hA := (hA.alloc (.cells #[.int .u8 0, .int .u64 0, .int .u64 0, .string ⟨#[]⟩, .int .u8 0, .int .i64 0, .int .i64 0, .int .i64 0, .int .i64 0, .string ⟨#[]⟩, .string ⟨#[]⟩, .int .u8 0, .int .i64 0, .int .i64 0, .int .i64 0, .int .i64 0, .string ⟨#[]⟩, .int .i64 0, .int .i64 0, .string ⟨#[]⟩, .string ⟨#[]⟩, .int .i64 0, .int .i64 0, .int .i64 0, .int .i64 0, .string ⟨#[]⟩, .int .i64 0, .string ⟨#[]⟩, .int .i64 0, .int .i64 0, .int .i64 0, .int .u8 0, .int .i64 0] 64)).offRow (cs' := csC d) hne
    replace hb := below_setRow (below_own hb (.cells #[.int .u8 0, .int .u64 0, .int .u64 0, .string ⟨#[]⟩, .int .u8 0, .int .i64 0, .int .i64 0, .int .i64 0, .int .i64 0, .string ⟨#[]⟩, .string ⟨#[]⟩, .int .u8 0, .int .i64 0, .int .i64 0, .int .i64 0, .int .i64 0, .string ⟨#[]⟩, .int .i64 0, .int .i64 0, .string ⟨#[]⟩, .string ⟨#[]⟩, .int .i64 0, .int .i64 0, .int .i64 0, .int .i64 0, .string ⟨#[]⟩, .int .i64 0, .string ⟨#[]⟩, .int .i64 0, .int .i64 0, .int .i64 0, .int .u8 0, .int .i64 0] 64)) (show w.heap.size ≤ w2.heap.size from hb.size) (csC d)
    have hlA := load_cmd hA rfl
    have hlB := load_cmd hB rfl
    go_wp2_with (first | (with_reducible refine st_cmd (.tmp 5) (.tmp 19) (w2.heap.size) d ?_ ?_ (csC zeroC) hN (csC_size zeroC) ?_ ?_) | (with_reducible refine wpList_load_rowW 64 (.tmp 3) (A) ?_ (csC d) hlA ?_ ?_) | (with_reducible refine wpList_load_rowW 64 (.tmp 5) (w2.heap.size) ?_ (csC d) hlB ?_ ?_) | fail)
    rotate_right
    · skip
      refine (ALV.out _).mono ?_
      rintro r w3 ⟨rfl, hk3⟩; dsimp only
      replace hb := hb.trans (hk3.mono hb.size)
      go_wp2_with fail
      go_ret
      exact ⟨rfl, hb⟩
    all_goals first | rfl | (simp [Region.wanted, yielded, Act.put]; done)
  all_goals first | rfl | (simp [Region.wanted, yielded, Act.put]; done)
end Go.Proofs.Yteglieoeblehpaa
