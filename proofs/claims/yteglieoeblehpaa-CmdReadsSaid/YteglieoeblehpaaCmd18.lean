/- Commands: May and Decode, walked. Conditions: the texts are short, the bytes are in memory. -/
import Derived.Test.YteglieoeblehpaaCmd17
namespace Go.Proofs.Yteglieoeblehpaa
open Go.RowKit

theorem info_cmd : (Try.prog.info? 64).map (·.size) = some 33 := by kernel_rfl
theorem rdG_texts (k : Nat) (y : RS × Command) (hd : textsC y.2 = true) : textsC (rdG k y).2 = true := by
  unfold textsC at hd ⊢
  simp only [Bool.and_eq_true, Bool.not_eq_true'] at hd ⊢
  obtain ⟨⟨⟨⟨⟨⟨⟨h1, h2⟩, h3⟩, h4⟩, h5⟩, h6⟩, h7⟩, h8⟩ := hd
  match k with
  | 0 => exact ⟨⟨⟨⟨⟨⟨⟨lgT_no (gT_lg _), h2⟩, h3⟩, h4⟩, h5⟩, h6⟩, h7⟩, h8⟩
  | 2 => exact ⟨⟨⟨⟨⟨⟨⟨h1, lgT_no (gT_lg _)⟩, h3⟩, h4⟩, h5⟩, h6⟩, h7⟩, h8⟩
  | 3 => exact ⟨⟨⟨⟨⟨⟨⟨h1, h2⟩, lgT_no (gT_lg _)⟩, h4⟩, h5⟩, h6⟩, h7⟩, h8⟩
  | 10 => exact ⟨⟨⟨⟨⟨⟨⟨h1, h2⟩, h3⟩, lgT_no (gT_lg _)⟩, lgT_no (gT_lg _)⟩, lgT_no (gT_lg _)⟩, h7⟩, h8⟩
  | 11 => exact ⟨⟨⟨⟨⟨⟨⟨h1, h2⟩, h3⟩, h4⟩, h5⟩, h6⟩, lgT_no (gT_lg _)⟩, lgT_no (gT_lg _)⟩
  | 1 | 4 | 5 | 6 | 7 | 8 | 9 | k + 12 => exact ⟨⟨⟨⟨⟨⟨⟨h1, h2⟩, h3⟩, h4⟩, h5⟩, h6⟩, h7⟩, h8⟩
theorem rdK_texts (B : Int) (y : RS × Command) (hd : textsC y.2 = true) : ∀ k, textsC (rdK B k y).2 = true
  | 0 => hd
  | k + 1 => by
    have ih := rdK_texts B y hd k
    unfold rdK
    split
    · exact rdG_texts k _ ih
    · exact ih
theorem rdAll_texts (x : RS) : textsC (rdAll x).2 = true := by
  refine rdK_texts _ _ ?_ 13
  unfold rdHead
  split <;> rfl
theorem lgT_le {s : ByteArray} (h : lgT s = false) : s.size ≤ 1024 := by unfold lgT at h; simp at h; omega
theorem texts_short (c : Command) (h : textsC c = true) : shortC c := by
  unfold textsC at h
  simp only [Bool.and_eq_true, Bool.not_eq_true'] at h
  obtain ⟨⟨⟨⟨⟨⟨⟨h1, h2⟩, h3⟩, h4⟩, h5⟩, h6⟩, h7⟩, h8⟩ := h
  exact ⟨lgT_le h1, lgT_le h2, lgT_le h3, lgT_le h4, lgT_le h5, lgT_le h6, lgT_le h7, lgT_le h8⟩
/-- What Encode answers. -/
def encV' (c : Command) : ByteArray := if mayC c = true then encC c else ByteArray.empty
def encE (c : Command) : Int := if mayC c = true then 0 else 2
theorem cmd_Enc (c : Command) (hc : c.ok) (hl : shortC c) (w : World) :
    Calls Try.prog 34 #[.agg (csC c)] w fun e w' => e = .returned (.tuple #[.string (encV' c), .int .i64 (encE c)]) ∧ Below w.heap.size w w' := by
  unfold encV' encE
  rw [← encOk_may c hc]
  exact cmd_Encode c hc hl w
set_option maxRecDepth 100000 in
set_option maxHeartbeats 4000000 in
theorem cmd_May (c : Command) (hc : c.ok) (hl : shortC c) (w : World) :
    Calls Try.prog 36 #[.agg (csC c)] w fun e w' => e = .returned (.bool (mayC c)) ∧ Below w.heap.size w w' := by
  have hE := Lib.hid (fun W => cmd_Enc c hc hl W)
  have hB := Blk.new w 64 (csC c)
  have hb : Below w.heap.size w (w.alloc (.cells (csC c) 64)) := by go_grown
  have hlB := load_cmd hB rfl
  have he : (encE c == 0) = mayC c := by unfold encE; cases mayC c <;> rfl
  generalize encE c = x at *
  generalize encV' c = y at *
  generalize mayC c = z at *
  go_enter Try.func36, Try.ntmps36
  go_wp2_with (first | (with_reducible refine wpList_load_rowW 64 (.tmp 1) w.heap.size ?_ (csC c) ?_ ?_ ?_) | fail)
  rotate_right
  · skip
    refine (hE.out _).mono ?_
    rintro r w1 ⟨rfl, hb1⟩; dsimp only
    clear hlB hB
    go_wp2_with fail
    go_ret
    exact ⟨rfl, hb.trans (hb1.mono (by simp))⟩
  all_goals first | exact hlB | rfl | (simp [Region.wanted, yielded, Act.put]; done)
/-- What Decode answers. -/
def decV (s : ByteArray) : Command := if decOk s = true then (rdAll (s, 0)).2 else zeroC
def decE (s : ByteArray) : Int := if decOk s = true then 0 else 8
set_option maxRecDepth 100000 in
set_option maxHeartbeats 4000000 in
theorem cmd_Decode (s : ByteArray) (hs : s.size ≤ 140737488351232) (w : World) :
    Calls Try.prog 40 #[.string s] w fun e w' => e = .returned (.tuple #[.agg (csC (decV s)), .int .i64 (decE s)]) ∧ Below w.heap.size w w' := by
  have hR := Lib.hid (fun W => cmd_read s hs W)
  have hM := Lib.hid (fun W => cmd_May (rdAll (s, 0)).2 (rdAll_ok _) (texts_short _ (rdAll_texts _)) W)
  unfold decV decE decOk
  generalize (rdAll (s, 0)).2 = d at *
  generalize isC (s, 0) = is at *
  generalize mayC d = m at *
  have hA := Blk.new w 64 (csC zeroC)
  have hb : Below w.heap.size w (w.alloc (.cells (csC zeroC) 64)) := by go_grown
  have hi33 := info_cmd
  go_enter Try.func40, Try.ntmps40
  go_wp2_with fail
  refine (hR.out _).mono ?_
  rintro r w1 ⟨rfl, hb1⟩; dsimp only
  replace hA := hA.past hb1
  replace hb := hb.trans (hb1.mono (by simp))
  have hne : w.heap.size ≠ w1.heap.size := by have := hA.lt; omega
  clear hb1 hR
  have hD := Blk.new w1 64 (csC zeroC)
  replace hA := hA.alloc (.cells (csC zeroC) 64)
  replace hb := below_own hb (.cells (csC zeroC) 64)
  have hA1 := hA.offRow (cs' := csC d) hne
  have hD1 := hD.rowK (cs := csC d)
  have hlD := load_cmd hD1 rfl
  have hb2 := below_setRow hb (show w.heap.size ≤ w1.heap.size by have := hb.size; simp at this; have := hA.lt; simp at this; omega) (csC d)
  cases is
  case false =>
    go_wp2_with (first | (with_reducible refine wpList_store_rowW 64 (.tmp 4) (.tmp 9) w1.heap.size (csC d) ?_ ?_ 64 (csC zeroC) ?_ ?_ ?_ ?_ ?_ ?_) | (with_reducible refine wpList_store_rowW 64 (.tmp 2) (.tmp 18) w.heap.size (csC zeroC) ?_ ?_ 64 (csC zeroC) ?_ ?_ ?_ ?_ ?_ ?_) | fail)
    rotate_right
    · skip
      refine bodyPost_ret (results_row_tmp Try.results40 _ _ w.heap.size (csC zeroC) rfl (load_cmd (hA1.rowK (cs := csC zeroC)) rfl)) rfl ?_
      exact ⟨rfl, below_setRow hb2 (Nat.le_refl _) _⟩
    all_goals first | exact hD | exact hA1 | exact hi33 | exact csC_one _ | rfl | (simp [Region.wanted, yielded, Act.put]; done)
  case true =>
  cases m
  case false =>
    go_wp2_with (first | (with_reducible refine wpList_store_rowW 64 (.tmp 4) (.tmp 9) w1.heap.size (csC d) ?_ ?_ 64 (csC zeroC) ?_ ?_ ?_ ?_ ?_ ?_) | (with_reducible refine wpList_load_rowW 64 (.tmp 4) w1.heap.size ?_ (csC d) ?_ ?_ ?_) | fail)
    rotate_right
    · skip
      refine (hM.out _).mono ?_
      rintro r w3 ⟨rfl, hb3⟩; dsimp only
      have hA3 := hA1.past hb3
      have hb4 := hb2.trans (hb3.mono hb2.size)
      go_wp2_with (first | (with_reducible refine wpList_store_rowW 64 (.tmp 2) (.tmp 18) w.heap.size (csC zeroC) ?_ ?_ 64 (csC zeroC) ?_ ?_ ?_ ?_ ?_ ?_) | fail)
      rotate_right
      · skip
        refine bodyPost_ret (results_row_tmp Try.results40 _ _ w.heap.size (csC zeroC) rfl (load_cmd (hA3.rowK (cs := csC zeroC)) rfl)) rfl ?_
        exact ⟨rfl, below_setRow hb4 (Nat.le_refl _) _⟩
      all_goals first | exact hA3 | exact hi33 | exact csC_one _ | rfl | (simp [Region.wanted, yielded, Act.put]; done)
    all_goals first | exact hD | exact hlD | exact hi33 | exact csC_one _ | rfl | (simp [Region.wanted, yielded, Act.put]; done)
  case true =>
    go_wp2_with (first | (with_reducible refine wpList_store_rowW 64 (.tmp 4) (.tmp 9) w1.heap.size (csC d) ?_ ?_ 64 (csC zeroC) ?_ ?_ ?_ ?_ ?_ ?_) | (with_reducible refine wpList_load_rowW 64 (.tmp 4) w1.heap.size ?_ (csC d) ?_ ?_ ?_) | fail)
    rotate_right
    · skip
      refine (hM.out _).mono ?_
      rintro r w3 ⟨rfl, hb3⟩; dsimp only
      have hA3 := hA1.past hb3
      have hlD3 := load_cmd (hD1.past hb3) rfl
      have hb4 := hb2.trans (hb3.mono hb2.size)
      go_wp2_with (first | (with_reducible refine wpList_load_rowW 64 (.tmp 4) w1.heap.size ?_ (csC d) ?_ ?_ ?_) | (with_reducible refine wpList_store_rowW 64 (.tmp 2) (.tmp 19) w.heap.size (csC d) ?_ ?_ 64 (csC zeroC) ?_ ?_ ?_ ?_ ?_ ?_) | fail)
      rotate_right
      · skip
        refine bodyPost_ret (results_row_tmp Try.results40 _ _ w.heap.size (csC d) rfl (load_cmd (hA3.rowK (cs := csC d)) rfl)) rfl ?_
        exact ⟨rfl, below_setRow hb4 (Nat.le_refl _) _⟩
      all_goals first | exact hA3 | exact hlD3 | exact hi33 | exact csC_one _ | rfl | (simp [Region.wanted, yielded, Act.put]; done)
    all_goals first | exact hD | exact hlD | exact hi33 | exact csC_one _ | rfl | (simp [Region.wanted, yielded, Act.put]; done)
end Go.Proofs.Yteglieoeblehpaa
