/- Commands: the statements' own small functions, walked. Conditions: none. -/
import Derived.Test.YteglieoeblehpaaCmd18
namespace Go.Proofs.Yteglieoeblehpaa
open Go.RowKit

def webB : ByteArray := ⟨#[119, 101, 98]⟩
def killC : Command := { zeroC with kind := 4, client := 7, seq := 1, name := webB }
def lostC : Command := { zeroC with kind := 11, machine := -4 }
def oneC : Command := { zeroC with n := 1 }
theorem uv_one (x : Nat) (h : x < 128) : Lib.uvarint x = [x.toUInt8] := Lib.uvarint_small h
theorem zig4 : Lib.zigzag (-4) = 7 := by decide
theorem killC_ok : killC.ok := by decide
theorem lostC_ok : lostC.ok := by decide
theorem oneC_ok : oneC.ok := by decide
theorem killC_short : shortC killC := by unfold shortC; decide
theorem zeroC_short : shortC zeroC := by unfold shortC; decide
theorem oneC_short : shortC oneC := by unfold shortC; decide
theorem lostC_short : shortC lostC := by unfold shortC; decide
theorem may_kill : mayC killC = true := by kernel_rfl
theorem may_lost : mayC lostC = true := by kernel_rfl
theorem may_zero : mayC zeroC = true := by kernel_rfl
theorem may_one : mayC oneC = false := by kernel_rfl
theorem enc_kill : encC killC = ⟨#[4, 7, 1, 3, 119, 101, 98]⟩ := by
  have e : encC killC = encU 4 ++ encU 7 ++ encU 1 ++ encT webB := by kernel_rfl
  rw [e]
  unfold encU encT
  rw [uv_one _ (by decide), uv_one _ (by decide), uv_one _ (by decide), uv_one _ (by decide)]
  decide
theorem enc_lost : encC lostC = ⟨#[11, 7]⟩ := by
  have e : encC lostC = encU 11 ++ encI (-4) := by kernel_rfl
  rw [e]
  unfold encU encI
  rw [zig4, uv_one _ (by decide), uv_one _ (by decide)]
  decide
theorem dec_lost : decV ⟨#[11, 7]⟩ = lostC ∧ decE ⟨#[11, 7]⟩ = 0 := by
  have h := decOk_enc lostC lostC_ok may_lost ByteArray.empty
  have hr := (read_enc lostC lostC_ok may_lost ByteArray.empty).1
  rw [ByteArray.append_empty, enc_lost] at h hr
  unfold decV decE
  rw [h, hr]
  exact ⟨rfl, rfl⟩
theorem dec_none : decE ⟨#[15]⟩ = 8 := by
  have e : (⟨#[15]⟩ : ByteArray) = encU 15 ++ ByteArray.empty := by
    unfold encU
    rw [uv_one _ (by decide)]
    decide
  have hk : (rdAll (⟨#[15]⟩, 0)).2.kind = 15 := by
    rw [rdAll_kind, e]
    exact (rS_enc 15 _ (by decide)).1
  unfold decE decOk isC
  rw [hk]
  rfl
set_option maxRecDepth 100000 in
set_option maxHeartbeats 8000000 in
theorem alive23 (w : World) : Calls Try.prog 33 #[] w fun e w' => e = .returned (.bool true) ∧ Below w.heap.size w w' := by
  have E1 : Hid (∀ W, Calls Try.prog 34 #[.agg (csC killC)] W fun e w' => e = .returned (.tuple #[.string ⟨#[4, 7, 1, 3, 119, 101, 98]⟩, .int .i64 0]) ∧ Below W.heap.size W w') := Lib.hid fun W => by
    have := cmd_Enc killC killC_ok killC_short W
    unfold encV' encE at this
    rw [may_kill, enc_kill] at this
    exact this
  have D1 : Hid (∀ W, Calls Try.prog 40 #[.string ⟨#[11, 7]⟩] W fun e w' => e = .returned (.tuple #[.agg (csC lostC), .int .i64 0]) ∧ Below W.heap.size W w') := Lib.hid fun W => by
    have := cmd_Decode ⟨#[11, 7]⟩ (by decide) W
    rw [dec_lost.1, dec_lost.2] at this
    exact this
  have D2 : Hid (∀ W, Calls Try.prog 40 #[.string ⟨#[15]⟩] W fun e w' => e = .returned (.tuple #[.agg (csC (decV ⟨#[15]⟩)), .int .i64 8]) ∧ Below W.heap.size W w') := Lib.hid fun W => by
    have := cmd_Decode ⟨#[15]⟩ (by decide) W
    rw [dec_none] at this
    exact this
  generalize decV ⟨#[15]⟩ = d2 at *
  have M1 : Hid (∀ W, Calls Try.prog 36 #[.agg (csC zeroC)] W fun e w' => e = .returned (.bool true) ∧ Below W.heap.size W w') := Lib.hid fun W => by
    have := cmd_May zeroC zeroC_ok zeroC_short W
    rw [may_zero] at this
    exact this
  have M2 : Hid (∀ W, Calls Try.prog 36 #[.agg (csC oneC)] W fun e w' => e = .returned (.bool false) ∧ Below W.heap.size W w') := Lib.hid fun W => by
    have := cmd_May oneC oneC_ok oneC_short W
    rw [may_one] at this
    exact this
  have hi33 := info_cmd
  have heq : ∀ W, (binOp .eql 64 (.agg (csC lostC)) (.agg #[.int .u8 11, .int .u64 0, .int .u64 0, .string ⟨#[]⟩, .int .u8 0, .int .i64 0, .int .i64 0, .int .i64 0, .int .i64 (-4), .string ⟨#[]⟩, .string ⟨#[]⟩, .int .u8 0, .int .i64 0, .int .i64 0, .int .i64 0, .int .i64 0, .string ⟨#[]⟩, .int .i64 0, .int .i64 0, .string ⟨#[]⟩, .string ⟨#[]⟩, .int .i64 0, .int .i64 0, .int .i64 0, .int .i64 0, .string ⟨#[]⟩, .int .i64 0, .string ⟨#[]⟩, .int .i64 0, .int .i64 0, .int .i64 0, .int .u8 0, .int .i64 0])).run Try.prog W = .ok (.bool true) W := fun W => eql_cmd lostC lostC W
  generalize hL : lostC = lc at heq D1
  clear hL
  go_enter Try.func33, Try.ntmps33
  go_wp2_with fail
  refine (E1.out _).mono ?_
  rintro r w1 ⟨rfl, hb1⟩; dsimp only
  clear E1
  go_wp2_with fail
  refine (D1.out _).mono ?_
  rintro r w2 ⟨rfl, hb2⟩; dsimp only
  clear D1
  replace hb1 := hb1.trans (hb2.mono hb1.size)
  clear hb2
  have hD := Blk.new w2 64 (csC zeroC)
  have hDr := hD.rowK (cs := csC lc)
  replace hb1 := below_setRow (below_own hb1 (.cells (csC zeroC) 64)) (show w.heap.size ≤ w2.heap.size from hb1.size) (csC lc)
  generalize hBe : w2.heap.size = B at *
  go_wp2_with (first | (with_reducible refine wpList_store_rowW 64 (.tmp 3) (.tmp 14) B (csC lc) ?_ ?_ 64 (csC zeroC) ?_ ?_ ?_ ?_ ?_ ?_) | fail)
  rotate_right
  · skip
    refine (D2.out _).mono ?_
    rintro r w3 ⟨rfl, hb3⟩; dsimp only
    replace hb1 := hb1.trans (hb3.mono hb1.size)
    replace hDr := hDr.past hb3
    clear hb3 D2 hD
    have hE := Blk.new w3 64 (csC zeroC)
    have hne : B ≠ w3.heap.size := by have := hDr.lt; omega
    replace hDr := (hDr.alloc (.cells (csC zeroC) 64)).offRow (cs' := csC d2) hne
    replace hb1 := below_setRow (below_own hb1 (.cells (csC zeroC) 64)) (show w.heap.size ≤ w3.heap.size from hb1.size) (csC d2)
    have hlD := load_cmd hDr rfl
    go_wp2_with (first | (with_reducible refine wpList_store_rowW 64 (.tmp 5) (.tmp 18) w3.heap.size (csC d2) ?_ ?_ 64 (csC zeroC) ?_ ?_ ?_ ?_ ?_ ?_) | (with_reducible refine wpList_load_rowW 64 (.tmp 3) B ?_ (csC lc) ?_ ?_ ?_) | fail)
    rotate_right
    · skip
      clear hDr hlD hE
      refine (M1.out _).mono ?_
      rintro r w4 ⟨rfl, hb4⟩; dsimp only
      replace hb1 := hb1.trans (hb4.mono hb1.size)
      clear hb4 M1
      go_wp2_with fail
      refine (M2.out _).mono ?_
      rintro r w5 ⟨rfl, hb5⟩; dsimp only
      replace hb1 := hb1.trans (hb5.mono hb1.size)
      clear hb5 M2
      go_wp2_with fail
      refine (cmd_Client 6 _).mono ?_
      rintro r w6 ⟨rfl, rfl⟩; dsimp only
      have q6 : clientB 6 = true := by decide
      rw [q6]
      go_wp2_with fail
      refine (cmd_Client 7 _).mono ?_
      rintro r w6 ⟨rfl, rfl⟩; dsimp only
      have q7 : clientB 7 = false := by decide
      rw [q7]
      go_wp2_with fail
      go_ret
      exact ⟨rfl, hb1⟩
    all_goals first | exact hE | exact hlD | exact hi33 | exact csC_one _ | rfl | (simp [Region.wanted, yielded, Act.put]; done)
  all_goals first | exact hD | (rw [← hBe]; exact Blk.new _ _ _) | exact hi33 | exact csC_one _ | rfl | (simp [Region.wanted, yielded, Act.put]; done)
/-- A command's texts. -/
def txts (c : Command) : List ByteArray := [c.user, c.name, c.task.job, c.job.name, c.job.user, c.job.alloc, c.alloc.name, c.alloc.user]
/-- Does a text lie above n bytes? -/
def overC (n : Nat) (c : Command) : Bool := (txts c).any fun s => decide (n < s.size)
theorem over_short (c : Command) (h : overC 1024 c = false) : shortC c := by
  unfold overC txts at h
  simp only [List.any_cons, List.any_nil, Bool.or_eq_false_iff, decide_eq_false_iff_not, Nat.not_lt, and_true] at h
  exact h
theorem any_take {α : Type} (l : List α) (f : α → Bool) (h : ∀ x ∈ l, f x = false) : l.any f = false := by
  rw [List.any_eq_false]
  intro x hx
  rw [h x hx]
  exact Bool.false_ne_true
set_option maxRecDepth 100000 in
set_option maxHeartbeats 4000000 in
theorem long23 (c : Command) (hc : c.ok) (w : World) : Calls Try.prog 32 #[.agg (csC c)] w fun e w' => e = .returned (.bool (overC 1024 c)) ∧ Below w.heap.size w w' := by
  have hsz : ∀ s ∈ txts c, s.size ≤ 9223372036854775807 := by
    obtain ⟨_, _, _, o3, _, _, _, ⟨a1, a2, _, _, _, a6, _, _⟩, ⟨b1, b2, _, _⟩, o9, _, ⟨t1, _⟩, _⟩ := hc
    unfold txts
    simp only [List.mem_cons, List.not_mem_nil, or_false, forall_eq_or_imp, forall_eq]
    exact ⟨o3, o9, t1, a1, a2, a6, b1, b2⟩
  have hB := Blk.new w 64 (csC c)
  have hb : Below w.heap.size w (w.alloc (.cells (csC c) 64)) := by go_grown
  have hlen : (txts c).length = 8 := rfl
  have hS := Blk.new1 w (.cells (csC c) 64) 9 #[.string c.user, .string c.name, .string c.task.job, .string c.job.name, .string c.job.user, .string c.job.alloc, .string c.alloc.name, .string c.alloc.user]
  have hb2 := below_own hb (.cells #[.string c.user, .string c.name, .string c.task.job, .string c.job.name, .string c.job.user, .string c.job.alloc, .string c.alloc.name, .string c.alloc.user] 9)
  obtain ⟨R, hR⟩ : ∃ R, R = overC 1024 c := ⟨_, rfl⟩
  rw [← hR]
  unfold overC at hR
  have n3 : (w.alloc (.cells (csC c) 64)).cell? ⟨w.heap.size, 3, none⟩ = some (.string c.user) := blk_cell hB rfl
  have n25 : (w.alloc (.cells (csC c) 64)).cell? ⟨w.heap.size, 25, none⟩ = some (.string c.name) := blk_cell hB rfl
  have n27 : (w.alloc (.cells (csC c) 64)).cell? ⟨w.heap.size, 27, none⟩ = some (.string c.task.job) := blk_cell hB rfl
  have n9 : (w.alloc (.cells (csC c) 64)).cell? ⟨w.heap.size, 9, none⟩ = some (.string c.job.name) := blk_cell hB rfl
  have n10 : (w.alloc (.cells (csC c) 64)).cell? ⟨w.heap.size, 10, none⟩ = some (.string c.job.user) := blk_cell hB rfl
  have n16 : (w.alloc (.cells (csC c) 64)).cell? ⟨w.heap.size, 16, none⟩ = some (.string c.job.alloc) := blk_cell hB rfl
  have n19 : (w.alloc (.cells (csC c) 64)).cell? ⟨w.heap.size, 19, none⟩ = some (.string c.alloc.name) := blk_cell hB rfl
  have n20 : (w.alloc (.cells (csC c) 64)).cell? ⟨w.heap.size, 20, none⟩ = some (.string c.alloc.user) := blk_cell hB rfl
  go_enter Try.func32, Try.ntmps32
  go_wp2_with fail
  generalize (w.alloc (.cells (csC c) 64)).alloc (.cells #[.string c.user, .string c.name, .string c.task.job, .string c.job.name, .string c.job.user, .string c.job.alloc, .string c.alloc.name, .string c.alloc.user] 9) = W at *
  generalize w.heap.size + 1 = B at *
  have hcell : ∀ k, W.cell? ⟨B, k, none⟩ = ((txts c).map Value.string).toArray[k]? := hS.cell
  have hBl := hS.lt
  clear hS n3 n25 n27 n9 n10 n16 n19 n20 hB hb
  generalize txts c = l at *
  replace hcell := Lib.hid hcell
  replace hsz := Lib.hid hsz
  replace hR := Lib.hid hR
  go_loopw [4] (fun i wr => ∃ k : Nat, k ≤ 8 ∧ i = .int .i64 k ∧ (∀ j (h : j < l.length), j < k → ¬ 1024 < l[j].size) ∧ Below W.heap.size W wr) (fun i _ => 8 - (intOf i).toNat)
  case atStart => exact ⟨0, Nat.zero_le _, rfl, fun j _ h => absurd h (Nat.not_lt_zero j), below_self W⟩
  case round =>
    obtain ⟨k, hk, rfl, hno, hW⟩ := hrel
    replace hno := Lib.hid hno
    by_cases hlt : k < 8
    · have hlt' : k < l.length := by omega
      have c0 : wr.cell? ⟨B, k, none⟩ = some (.string l[k]) := (hW.cell (p := ⟨B, k, none⟩) hBl).trans ((hcell.out k).trans (by simp [hlt']))
      have hz := hsz.out _ (List.getElem_mem hlt')
      have hstep : ¬ 1024 < l[k].size → ∀ j (h : j < l.length), j < k + 1 → ¬ 1024 < l[j].size := fun h1 j hj hjk => by
        by_cases e : j = k
        · subst e; exact h1
        · exact hno.out j hj (by omega)
      have hyes : 1024 < l[k].size → R = true := fun h => by
        rw [hR.out, List.any_eq_true]
        exact ⟨_, List.getElem_mem hlt', by simpa using h⟩
      generalize l[k] = s at *
      by_cases hbig : 1024 < s.size
      · have hRt := hyes hbig
        clear hyes hstep
        go_wp2_with fail
        go_ret
        exact ⟨by rw [hRt]; rfl, hb2.trans (hW.mono hb2.size)⟩
      · have hnx := Lib.hid (hstep hbig)
        clear hyes hstep
        go_wp2_with fail
        go_roundw
        case rel => exact ⟨k + 1, by omega, by first | rfl | go_num, hnx.out, hW⟩
        case measure => simp [intOf]; omega
    · obtain rfl : k = 8 := by omega
      have hRf : R = false := by
        rw [hR.out, List.any_eq_false]
        intro x hx
        obtain ⟨j, hj, rfl⟩ := List.getElem_of_mem hx
        simpa using hno.out j hj (by omega)
      go_wp2_with fail
      go_ret
      exact ⟨by rw [hRf]; rfl, hb2.trans (hW.mono hb2.size)⟩
end Go.Proofs.Yteglieoeblehpaa
