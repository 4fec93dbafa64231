/- Commands: a command is read as it was written: the walk. Conditions: none. -/
import Derived.Test.YteglieoeblehpaaCmd26
namespace Go.Proofs.Yteglieoeblehpaa
open Go.RowKit

theorem st_cmd {ops : Array Oper} {rest : List Oper} {dst : Option Nat} {t' : TypeId} {pos : String} {af : Array Edge} {gd : Option (Nat × Bool)} {a : Act} {w : World} {Q : Exit → Act → World → Prop} (x y : Operand)
    (g : Nat) (c : Command) (hx : a.eval x = .pointer (some ⟨g, 0, none⟩)) (hy : a.eval y = .agg (csC c)) (old : Array Value) (hg : Blk w g 64 old) (hold : old.size = 33)
    (hw : Region.wanted { dst := dst, op := .store 64 x y, type := t', pos := pos, after := af, guard := gd } (yielded ops a.tmps) = true)
    (h : wpList Try.prog ops Q rest (a.put dst undef) (w.setRow g (csC c))) : wpList Try.prog ops Q ({ dst := dst, op := .store 64 x y, type := t', pos := pos, after := af, guard := gd } :: rest) a w :=
  wpList_store_rowW 64 x y g (csC c) hx hy 64 old hg info_cmd hold (csC_one c) hw h
theorem zeroC_texts : textsC zeroC = true := rfl
theorem decV_ok (s : ByteArray) : (decV s).ok ∧ shortC (decV s) := by
  unfold decV
  split
  · exact ⟨rdAll_ok _, texts_short _ (rdAll_texts _)⟩
  · exact ⟨zeroC_ok, zeroC_short⟩
theorem decE_back (s : ByteArray) (h : decE s = 0) : encE (decV s) = 0 ∧ encV' (decV s) = s := by
  have hd : decOk s = true := by
    unfold decE at h
    cases hd : decOk s
    · rw [hd] at h; cases h
    · rfl
  unfold decV
  rw [if_pos hd]
  unfold decOk at hd
  rw [Bool.and_eq_true] at hd
  unfold encE encV'
  rw [if_pos hd.2, if_pos hd.2]
  exact ⟨rfl, (decOk_back s hd.1).symm⟩
theorem dec_enc (c : Command) (hc : c.ok) (hm : mayC c = true) (more : ByteArray) : decE (encC c ++ more) = (if more = ByteArray.empty then 0 else 8) ∧ (more = ByteArray.empty → decV (encC c ++ more) = c) := by
  have h := decOk_enc c hc hm more
  unfold decE decV
  rw [h]
  refine ⟨by simp, fun he => ?_⟩
  rw [decide_eq_true he, (read_enc c hc hm more).1]
  rfl
set_option maxRecDepth 100000 in
set_option maxHeartbeats 8000000 in
theorem CmdBack_walk (c : Command) (oc : c.ok) (s : ByteArray) (hs : s.size ≤ 140737488351232) (more : ByteArray) (hm : more.size ≤ 140737488351232) (w : World) : Calls Try.prog 9 #[c.v, .string s, .string more] w fun e w' => e = .returned (.bool true) ∧ Below w.heap.size w w' := by
  have ALV := Lib.hid alive23
  have L1 := Lib.hid (fun W => long23 c oc W)
  have hA := Blk.new w 64 (csC c)
  have hb : Below w.heap.size w (w.alloc (.cells (csC c) 64)) := by go_grown
  have hlA := load_cmd hA rfl
  have hi33 := info_cmd
  show Calls Try.prog 9 #[.agg (csC c), .string s, .string more] w _
  by_cases hlc : overC 1024 c = true
  · rw [hlc] at L1
    go_enter Try.func9, Try.ntmps9
    go_wp2_with (first | (with_reducible refine wpList_load_rowW 64 (.tmp 3) (w.heap.size) ?_ (csC c) hlA ?_ ?_) | fail)
    rotate_right
    · skip
      refine (L1.out _).mono ?_
      rintro r w1 ⟨rfl, hk1⟩; dsimp only
      replace hb := hb.trans (hk1.mono hb.size)
      go_wp2_with fail
      refine (ALV.out _).mono ?_
      rintro r w2 ⟨rfl, hk2⟩; dsimp only
      replace hb := hb.trans (hk2.mono hb.size)
      go_wp2_with fail
      go_ret
      exact ⟨rfl, hb⟩
    all_goals first | exact hlA | rfl | (simp [Region.wanted, yielded, Act.put]; done)
  replace hlc : overC 1024 c = false := by simpa using hlc
  rw [hlc] at L1
  by_cases hsum : 4096 < (s.size : Int) + more.size
  · have hd : decide (4096 < (s.size : Int) + more.size) = true := decide_eq_true hsum
    go_enter Try.func9, Try.ntmps9
    go_wp2_with (first | (with_reducible refine wpList_load_rowW 64 (.tmp 3) (w.heap.size) ?_ (csC c) hlA ?_ ?_) | fail)
    rotate_right
    · skip
      refine (L1.out _).mono ?_
      rintro r w1 ⟨rfl, hk1⟩; dsimp only
      replace hb := hb.trans (hk1.mono hb.size)
      go_wp2_with fail
      refine (ALV.out _).mono ?_
      rintro r w2 ⟨rfl, hk2⟩; dsimp only
      replace hb := hb.trans (hk2.mono hb.size)
      go_wp2_with fail
      go_ret
      exact ⟨rfl, hb⟩
    all_goals first | exact hlA | rfl | (simp [Region.wanted, yielded, Act.put]; done)
  have hd : decide (4096 < (s.size : Int) + more.size) = false := decide_eq_false hsum
  have hsh := over_short c hlc
  have D1 := Lib.hid (fun W => cmd_Decode s hs W)
  have E1 := Lib.hid (fun W => cmd_Enc (decV s) (decV_ok s).1 (decV_ok s).2 W)
  have E2 := Lib.hid (fun W => cmd_Enc c oc hsh W)
  have M1 := Lib.hid (fun W => cmd_May c oc hsh W)
  have hback := Lib.hid (decE_back s)
  have hex : decE s = 0 ∨ decE s = 8 := by unfold decE; split <;> simp
  have htz : (encV' c).size ≤ 70000 := by unfold encV'; split; exact encC_size c oc hsh; exact Nat.zero_le _
  have hmz : more.size ≤ 4096 := by omega
  obtain ⟨d2, hd2⟩ : ∃ d, d = decV (encV' c ++ more) := ⟨_, rfl⟩
  obtain ⟨y2, hy2⟩ : ∃ y, y = decE (encV' c ++ more) := ⟨_, rfl⟩
  have hcase : (mayC c = false ∧ encE c = 2 ∧ encV' c = ByteArray.empty) ∨ (mayC c = true ∧ encE c = 0 ∧ Hid (∀ W, Calls Try.prog 40 #[.string (encV' c)] W fun e w' => e = .returned (.tuple #[.agg (csC c), .int .i64 0]) ∧ Below W.heap.size W w') ∧ Hid (∀ W, Calls Try.prog 40 #[.string (encV' c ++ more)] W fun e w' => e = .returned (.tuple #[.agg (csC d2), .int .i64 (if more = ByteArray.empty then 0 else 8)]) ∧ Below W.heap.size W w')) := by
    unfold encE encV'
    cases hmc : mayC c
    · exact .inl ⟨rfl, rfl, rfl⟩
    · have hv : encV' c = encC c := by unfold encV'; rw [hmc]; rfl
      rw [hv] at hd2 htz
      have f0 := dec_enc c oc hmc ByteArray.empty
      have f1 := dec_enc c oc hmc more
      rw [ByteArray.append_empty] at f0
      refine .inr ⟨rfl, rfl, Lib.hid fun W => ?_, Lib.hid fun W => ?_⟩
      · have := cmd_Decode (encC c) (by omega) W
        rw [f0.1, f0.2 rfl] at this
        exact this
      · have := cmd_Decode (encC c ++ more) (by rw [ByteArray.size_append]; omega) W
        rw [f1.1, ← hd2] at this
        exact this
  have hmore : ((if more = ByteArray.empty then (0 : Int) else 8) = 0 ∧ more.toList.isEmpty = true) ∨ ((if more = ByteArray.empty then (0 : Int) else 8) = 8 ∧ more.toList.isEmpty = false) := by
    by_cases hm0 : more = ByteArray.empty
    · exact .inl ⟨if_pos hm0, isE_yes _ (by rw [hm0]; rfl)⟩
    · exact .inr ⟨if_neg hm0, isE_no _ (Nat.pos_of_ne_zero fun h => hm0 (ByteArray.size_eq_zero_iff.1 h))⟩
  clear hd2 hy2 y2
  have hceq : ∀ W, (binOp .eql 64 (.agg (csC c)) (.agg (csC c))).run Try.prog W = .ok (.bool true) W := fun W => by
    have := eql_cmd c c W
    rw [decide_eq_true rfl] at this
    exact this
  generalize (if more = ByteArray.empty then (0 : Int) else 8) = y2 at *
  generalize encV' c = t at *
  generalize encE c = y at *
  generalize mayC c = m at *
  replace hcase := Lib.hid hcase
  replace hmore := Lib.hid hmore
  generalize decV s = a at *
  generalize decE s = x at *
  go_enter Try.func9, Try.ntmps9
  go_wp2_with (first | (with_reducible refine wpList_load_rowW 64 (.tmp 3) (w.heap.size) ?_ (csC c) hlA ?_ ?_) | fail)
  rotate_right
  · skip
    refine (L1.out _).mono ?_
    rintro r w1 ⟨rfl, hk1⟩; dsimp only
    replace hb := hb.trans (hk1.mono hb.size)
    replace hA := hA.past hk1
    clear hk1 L1
    go_wp2_with fail
    refine (D1.out _).mono ?_
    rintro r w2 ⟨rfl, hk2⟩; dsimp only
    replace hb := hb.trans (hk2.mono hb.size)
    replace hA := hA.past hk2
    clear hk2 D1 hlA
    have hN : Blk (w2.alloc (.cells #[.int .u8 0, .int .u64 0, .int .u64 0, .string ⟨#[]⟩, .int .u8 0, .int .i64 0, .int .i64 0, .int .i64 0, .int .i64 0, .string ⟨#[]⟩, .string ⟨#[]⟩, .int .u8 0, .int .i64 0, .int .i64 0, .int .i64 0, .int .i64 0, .string ⟨#[]⟩, .int .i64 0, .int .i64 0, .string ⟨#[]⟩, .string ⟨#[]⟩, .int .i64 0, .int .i64 0, .int .i64 0, .int .i64 0, .string ⟨#[]⟩, .int .i64 0, .string ⟨#[]⟩, .int .i64 0, .int .i64 0, .int .i64 0, .int .u8 0, .int .i64 0] 64)) w2.heap.size 64 (csC zeroC) := Blk.new w2 64 _
    have hne : w.heap.size ≠ w2.heap.size := by have := hA.lt; omega
    have hB := hN.rowK (cs := csC a)
    replace hA := (hA.alloc (.cells #[.int .u8 0, .int .u64 0, .int .u64 0, .string ⟨#[]⟩, .int .u8 0, .int .i64 0, .int .i64 0, .int .i64 0, .int .i64 0, .string ⟨#[]⟩, .string ⟨#[]⟩, .int .u8 0, .int .i64 0, .int .i64 0, .int .i64 0, .int .i64 0, .string ⟨#[]⟩, .int .i64 0, .int .i64 0, .string ⟨#[]⟩, .string ⟨#[]⟩, .int .i64 0, .int .i64 0, .int .i64 0, .int .i64 0, .string ⟨#[]⟩, .int .i64 0, .string ⟨#[]⟩, .int .i64 0, .int .i64 0, .int .i64 0, .int .u8 0, .int .i64 0] 64)).offRow (cs' := csC a) hne
    replace hb := below_setRow (below_own hb (.cells #[.int .u8 0, .int .u64 0, .int .u64 0, .string ⟨#[]⟩, .int .u8 0, .int .i64 0, .int .i64 0, .int .i64 0, .int .i64 0, .string ⟨#[]⟩, .string ⟨#[]⟩, .int .u8 0, .int .i64 0, .int .i64 0, .int .i64 0, .int .i64 0, .string ⟨#[]⟩, .int .i64 0, .int .i64 0, .string ⟨#[]⟩, .string ⟨#[]⟩, .int .i64 0, .int .i64 0, .int .i64 0, .int .i64 0, .string ⟨#[]⟩, .int .i64 0, .string ⟨#[]⟩, .int .i64 0, .int .i64 0, .int .i64 0, .int .u8 0, .int .i64 0] 64)) (show w.heap.size ≤ w2.heap.size from hb.size) (csC a)
    have hlA := load_cmd hA rfl
    have hlB := load_cmd hB rfl
    have hmain : ∀ W, Below w.heap.size w W → Blk W w.heap.size 64 (csC c) → True := fun _ _ _ => trivial
    clear hmain
    rcases hex with rfl | rfl
    · obtain ⟨he0, hv0⟩ := hback.out rfl
      rw [he0, hv0] at E1
      clear hback he0 hv0
      have hss : (s.toList == s.toList) = true := beq_self_eq_true _
      go_wp2_with (first | (with_reducible refine st_cmd (.tmp 7) (.tmp 30) (w2.heap.size) a ?_ ?_ (csC zeroC) hN (csC_size zeroC) ?_ ?_) | (with_reducible refine wpList_load_rowW 64 (.tmp 7) (w2.heap.size) ?_ (csC a) hlB ?_ ?_) | fail)
      rotate_right
      · skip
        refine (E1.out _).mono ?_
        rintro r w3 ⟨rfl, hk3⟩; dsimp only
        replace hb := hb.trans (hk3.mono hb.size)
        replace hA := hA.past hk3
        have hlA := load_cmd hA rfl
        clear hk3 E1 hB hlB
        go_wp2_with (first | (with_reducible refine wpList_load_rowW 64 (.tmp 3) (w.heap.size) ?_ (csC c) hlA ?_ ?_) | fail)
        rotate_right
        · skip
          refine (E2.out _).mono ?_
          rintro r w4 ⟨rfl, hk4⟩; dsimp only
          replace hb := hb.trans (hk4.mono hb.size)
          replace hA := hA.past hk4
          replace hlA := load_cmd hA rfl
          clear hk4 E2
          go_wp2_with (first | (with_reducible refine wpList_load_rowW 64 (.tmp 3) (w.heap.size) ?_ (csC c) hlA ?_ ?_) | fail)
          rotate_right
          · skip
            refine (M1.out _).mono ?_
            rintro r w5 ⟨rfl, hk5⟩; dsimp only
            replace hb := hb.trans (hk5.mono hb.size)
            replace hA := hA.past hk5
            clear hk5 M1
            replace hlA := load_cmd hA rfl
            rcases hcase.out with ⟨rfl, rfl, rfl⟩ | ⟨rfl, rfl, D3, D4⟩
            · clear hcase hlA
              go_wp2_with fail
              refine (ALV.out _).mono ?_
              rintro r w6 ⟨rfl, hk6⟩; dsimp only
              replace hb := hb.trans (hk6.mono hb.size)
              go_wp2_with fail
              go_ret
              exact ⟨rfl, hb⟩
            · clear hcase hlA
              go_wp2_with fail
              refine (D3.out _).mono ?_
              rintro r w6 ⟨rfl, hk6⟩; dsimp only
              replace hb := hb.trans (hk6.mono hb.size)
              replace hA := hA.past hk6
              clear hk6 D3
              have hN : Blk (w6.alloc (.cells #[.int .u8 0, .int .u64 0, .int .u64 0, .string ⟨#[]⟩, .int .u8 0, .int .i64 0, .int .i64 0, .int .i64 0, .int .i64 0, .string ⟨#[]⟩, .string ⟨#[]⟩, .int .u8 0, .int .i64 0, .int .i64 0, .int .i64 0, .int .i64 0, .string ⟨#[]⟩, .int .i64 0, .int .i64 0, .string ⟨#[]⟩, .string ⟨#[]⟩, .int .i64 0, .int .i64 0, .int .i64 0, .int .i64 0, .string ⟨#[]⟩, .int .i64 0, .string ⟨#[]⟩, .int .i64 0, .int .i64 0, .int .i64 0, .int .u8 0, .int .i64 0] 64)) w6.heap.size 64 (csC zeroC) := Blk.new w6 64 _
              have hne : w.heap.size ≠ w6.heap.size := by have := hA.lt; omega
              have hB := hN.rowK (cs := csC c)
              replace hA := (hA.alloc (.cells #[.int .u8 0, .int .u64 0, .int .u64 0, .string ⟨#[]⟩, .int .u8 0, .int .i64 0, .int .i64 0, .int .i64 0, .int .i64 0, .string ⟨#[]⟩, .string ⟨#[]⟩, .int .u8 0, .int .i64 0, .int .i64 0, .int .i64 0, .int .i64 0, .string ⟨#[]⟩, .int .i64 0, .int .i64 0, .string ⟨#[]⟩, .string ⟨#[]⟩, .int .i64 0, .int .i64 0, .int .i64 0, .int .i64 0, .string ⟨#[]⟩, .int .i64 0, .string ⟨#[]⟩, .int .i64 0, .int .i64 0, .int .i64 0, .int .u8 0, .int .i64 0] 64)).offRow (cs' := csC c) hne
              replace hb := below_setRow (below_own hb (.cells #[.int .u8 0, .int .u64 0, .int .u64 0, .string ⟨#[]⟩, .int .u8 0, .int .i64 0, .int .i64 0, .int .i64 0, .int .i64 0, .string ⟨#[]⟩, .string ⟨#[]⟩, .int .u8 0, .int .i64 0, .int .i64 0, .int .i64 0, .int .i64 0, .string ⟨#[]⟩, .int .i64 0, .int .i64 0, .string ⟨#[]⟩, .string ⟨#[]⟩, .int .i64 0, .int .i64 0, .int .i64 0, .int .i64 0, .string ⟨#[]⟩, .int .i64 0, .string ⟨#[]⟩, .int .i64 0, .int .i64 0, .int .i64 0, .int .u8 0, .int .i64 0] 64)) (show w.heap.size ≤ w6.heap.size from hb.size) (csC c)
              go_wp2_with (first | (with_reducible refine st_cmd (.tmp 12) (.tmp 66) (w6.heap.size) c ?_ ?_ (csC zeroC) hN (csC_size zeroC) ?_ ?_) | fail)
              rotate_right
              · skip
                refine (D4.out _).mono ?_
                rintro r w7 ⟨rfl, hk7⟩; dsimp only
                replace hb := hb.trans (hk7.mono hb.size)
                replace hA := hA.past hk7
                replace hB := hB.past hk7
                clear hk7 D4 hN
                have hN : Blk (w7.alloc (.cells #[.int .u8 0, .int .u64 0, .int .u64 0, .string ⟨#[]⟩, .int .u8 0, .int .i64 0, .int .i64 0, .int .i64 0, .int .i64 0, .string ⟨#[]⟩, .string ⟨#[]⟩, .int .u8 0, .int .i64 0, .int .i64 0, .int .i64 0, .int .i64 0, .string ⟨#[]⟩, .int .i64 0, .int .i64 0, .string ⟨#[]⟩, .string ⟨#[]⟩, .int .i64 0, .int .i64 0, .int .i64 0, .int .i64 0, .string ⟨#[]⟩, .int .i64 0, .string ⟨#[]⟩, .int .i64 0, .int .i64 0, .int .i64 0, .int .u8 0, .int .i64 0] 64)) w7.heap.size 64 (csC zeroC) := Blk.new w7 64 _
                have hneA : w.heap.size ≠ w7.heap.size := by have := hA.lt; omega
                have hneB : w6.heap.size ≠ w7.heap.size := by have := hB.lt; omega
                replace hA := (hA.alloc (.cells #[.int .u8 0, .int .u64 0, .int .u64 0, .string ⟨#[]⟩, .int .u8 0, .int .i64 0, .int .i64 0, .int .i64 0, .int .i64 0, .string ⟨#[]⟩, .string ⟨#[]⟩, .int .u8 0, .int .i64 0, .int .i64 0, .int .i64 0, .int .i64 0, .string ⟨#[]⟩, .int .i64 0, .int .i64 0, .string ⟨#[]⟩, .string ⟨#[]⟩, .int .i64 0, .int .i64 0, .int .i64 0, .int .i64 0, .string ⟨#[]⟩, .int .i64 0, .string ⟨#[]⟩, .int .i64 0, .int .i64 0, .int .i64 0, .int .u8 0, .int .i64 0] 64)).offRow (cs' := csC d2) hneA
                replace hB := (hB.alloc (.cells #[.int .u8 0, .int .u64 0, .int .u64 0, .string ⟨#[]⟩, .int .u8 0, .int .i64 0, .int .i64 0, .int .i64 0, .int .i64 0, .string ⟨#[]⟩, .string ⟨#[]⟩, .int .u8 0, .int .i64 0, .int .i64 0, .int .i64 0, .int .i64 0, .string ⟨#[]⟩, .int .i64 0, .int .i64 0, .string ⟨#[]⟩, .string ⟨#[]⟩, .int .i64 0, .int .i64 0, .int .i64 0, .int .i64 0, .string ⟨#[]⟩, .int .i64 0, .string ⟨#[]⟩, .int .i64 0, .int .i64 0, .int .i64 0, .int .u8 0, .int .i64 0] 64)).offRow (cs' := csC d2) hneB
                replace hb := below_setRow (below_own hb (.cells #[.int .u8 0, .int .u64 0, .int .u64 0, .string ⟨#[]⟩, .int .u8 0, .int .i64 0, .int .i64 0, .int .i64 0, .int .i64 0, .string ⟨#[]⟩, .string ⟨#[]⟩, .int .u8 0, .int .i64 0, .int .i64 0, .int .i64 0, .int .i64 0, .string ⟨#[]⟩, .int .i64 0, .int .i64 0, .string ⟨#[]⟩, .string ⟨#[]⟩, .int .i64 0, .int .i64 0, .int .i64 0, .int .i64 0, .string ⟨#[]⟩, .int .i64 0, .string ⟨#[]⟩, .int .i64 0, .int .i64 0, .int .i64 0, .int .u8 0, .int .i64 0] 64)) (show w.heap.size ≤ w7.heap.size from hb.size) (csC d2)
                have hlA := load_cmd hA rfl
                have hlB := load_cmd hB rfl
                rcases hmore.out with ⟨rfl, hmt⟩ | ⟨rfl, hmt⟩
                all_goals
                  go_wp2_with (first | (with_reducible refine st_cmd (.tmp 14) (.tmp 73) (w7.heap.size) d2 ?_ ?_ (csC zeroC) hN (csC_size zeroC) ?_ ?_) | (with_reducible refine wpList_load_rowW 64 (.tmp 12) (w6.heap.size) ?_ (csC c) hlB ?_ ?_) | (with_reducible refine wpList_load_rowW 64 (.tmp 3) (w.heap.size) ?_ (csC c) hlA ?_ ?_) | fail)
                  rotate_right
                  · skip
                    refine (ALV.out _).mono ?_
                    rintro r w8 ⟨rfl, hk8⟩; dsimp only
                    replace hb := hb.trans (hk8.mono hb.size)
                    go_wp2_with fail
                    go_ret
                    exact ⟨rfl, hb⟩
                  all_goals first | rfl | (simp [Region.wanted, yielded, Act.put]; done)
              all_goals first | rfl | (simp [Region.wanted, yielded, Act.put]; done)
          all_goals first | rfl | (simp [Region.wanted, yielded, Act.put]; done)
        all_goals first | rfl | (simp [Region.wanted, yielded, Act.put]; done)
      all_goals first | rfl | (simp [Region.wanted, yielded, Act.put]; done)
    · clear E1 hback hlB hB
      go_wp2_with (first | (with_reducible refine st_cmd (.tmp 7) (.tmp 30) (w2.heap.size) a ?_ ?_ (csC zeroC) hN (csC_size zeroC) ?_ ?_) | (with_reducible refine wpList_load_rowW 64 (.tmp 3) (w.heap.size) ?_ (csC c) hlA ?_ ?_) | fail)
      rotate_right
      · skip
        refine (E2.out _).mono ?_
        rintro r w4 ⟨rfl, hk4⟩; dsimp only
        replace hb := hb.trans (hk4.mono hb.size)
        replace hA := hA.past hk4
        replace hlA := load_cmd hA rfl
        clear hk4 E2
        go_wp2_with (first | (with_reducible refine wpList_load_rowW 64 (.tmp 3) (w.heap.size) ?_ (csC c) hlA ?_ ?_) | fail)
        rotate_right
        · skip
          refine (M1.out _).mono ?_
          rintro r w5 ⟨rfl, hk5⟩; dsimp only
          replace hb := hb.trans (hk5.mono hb.size)
          replace hA := hA.past hk5
          clear hk5 M1
          replace hlA := load_cmd hA rfl
          rcases hcase.out with ⟨rfl, rfl, rfl⟩ | ⟨rfl, rfl, D3, D4⟩
          · clear hcase hlA
            go_wp2_with fail
            refine (ALV.out _).mono ?_
            rintro r w6 ⟨rfl, hk6⟩; dsimp only
            replace hb := hb.trans (hk6.mono hb.size)
            go_wp2_with fail
            go_ret
            exact ⟨rfl, hb⟩
          · clear hcase hlA
            go_wp2_with fail
            refine (D3.out _).mono ?_
            rintro r w6 ⟨rfl, hk6⟩; dsimp only
            replace hb := hb.trans (hk6.mono hb.size)
            replace hA := hA.past hk6
            clear hk6 D3
            have hN : Blk (w6.alloc (.cells #[.int .u8 0, .int .u64 0, .int .u64 0, .string ⟨#[]⟩, .int .u8 0, .int .i64 0, .int .i64 0, .int .i64 0, .int .i64 0, .string ⟨#[]⟩, .string ⟨#[]⟩, .int .u8 0, .int .i64 0, .int .i64 0, .int .i64 0, .int .i64 0, .string ⟨#[]⟩, .int .i64 0, .int .i64 0, .string ⟨#[]⟩, .string ⟨#[]⟩, .int .i64 0, .int .i64 0, .int .i64 0, .int .i64 0, .string ⟨#[]⟩, .int .i64 0, .string ⟨#[]⟩, .int .i64 0, .int .i64 0, .int .i64 0, .int .u8 0, .int .i64 0] 64)) w6.heap.size 64 (csC zeroC) := Blk.new w6 64 _
            have hne : w.heap.size ≠ w6.heap.size := by have := hA.lt; omega
            have hB := hN.rowK (cs := csC c)
            replace hA := (hA.alloc (.cells #[.int .u8 0, .int .u64 0, .int .u64 0, .string ⟨#[]⟩, .int .u8 0, .int .i64 0, .int .i64 0, .int .i64 0, .int .i64 0, .string ⟨#[]⟩, .string ⟨#[]⟩, .int .u8 0, .int .i64 0, .int .i64 0, .int .i64 0, .int .i64 0, .string ⟨#[]⟩, .int .i64 0, .int .i64 0, .string ⟨#[]⟩, .string ⟨#[]⟩, .int .i64 0, .int .i64 0, .int .i64 0, .int .i64 0, .string ⟨#[]⟩, .int .i64 0, .string ⟨#[]⟩, .int .i64 0, .int .i64 0, .int .i64 0, .int .u8 0, .int .i64 0] 64)).offRow (cs' := csC c) hne
            replace hb := below_setRow (below_own hb (.cells #[.int .u8 0, .int .u64 0, .int .u64 0, .string ⟨#[]⟩, .int .u8 0, .int .i64 0, .int .i64 0, .int .i64 0, .int .i64 0, .string ⟨#[]⟩, .string ⟨#[]⟩, .int .u8 0, .int .i64 0, .int .i64 0, .int .i64 0, .int .i64 0, .string ⟨#[]⟩, .int .i64 0, .int .i64 0, .string ⟨#[]⟩, .string ⟨#[]⟩, .int .i64 0, .int .i64 0, .int .i64 0, .int .i64 0, .string ⟨#[]⟩, .int .i64 0, .string ⟨#[]⟩, .int .i64 0, .int .i64 0, .int .i64 0, .int .u8 0, .int .i64 0] 64)) (show w.heap.size ≤ w6.heap.size from hb.size) (csC c)
            go_wp2_with (first | (with_reducible refine st_cmd (.tmp 12) (.tmp 66) (w6.heap.size) c ?_ ?_ (csC zeroC) hN (csC_size zeroC) ?_ ?_) | fail)
            rotate_right
            · skip
              refine (D4.out _).mono ?_
              rintro r w7 ⟨rfl, hk7⟩; dsimp only
              replace hb := hb.trans (hk7.mono hb.size)
              replace hA := hA.past hk7
              replace hB := hB.past hk7
              clear hk7 D4 hN
              have hN : Blk (w7.alloc (.cells #[.int .u8 0, .int .u64 0, .int .u64 0, .string ⟨#[]⟩, .int .u8 0, .int .i64 0, .int .i64 0, .int .i64 0, .int .i64 0, .string ⟨#[]⟩, .string ⟨#[]⟩, .int .u8 0, .int .i64 0, .int .i64 0, .int .i64 0, .int .i64 0, .string ⟨#[]⟩, .int .i64 0, .int .i64 0, .string ⟨#[]⟩, .string ⟨#[]⟩, .int .i64 0, .int .i64 0, .int .i64 0, .int .i64 0, .string ⟨#[]⟩, .int .i64 0, .string ⟨#[]⟩, .int .i64 0, .int .i64 0, .int .i64 0, .int .u8 0, .int .i64 0] 64)) w7.heap.size 64 (csC zeroC) := Blk.new w7 64 _
              have hneA : w.heap.size ≠ w7.heap.size := by have := hA.lt; omega
              have hneB : w6.heap.size ≠ w7.heap.size := by have := hB.lt; omega
              replace hA := (hA.alloc (.cells #[.int .u8 0, .int .u64 0, .int .u64 0, .string ⟨#[]⟩, .int .u8 0, .int .i64 0, .int .i64 0, .int .i64 0, .int .i64 0, .string ⟨#[]⟩, .string ⟨#[]⟩, .int .u8 0, .int .i64 0, .int .i64 0, .int .i64 0, .int .i64 0, .string ⟨#[]⟩, .int .i64 0, .int .i64 0, .string ⟨#[]⟩, .string ⟨#[]⟩, .int .i64 0, .int .i64 0, .int .i64 0, .int .i64 0, .string ⟨#[]⟩, .int .i64 0, .string ⟨#[]⟩, .int .i64 0, .int .i64 0, .int .i64 0, .int .u8 0, .int .i64 0] 64)).offRow (cs' := csC d2) hneA
              replace hB := (hB.alloc (.cells #[.int .u8 0, .int .u64 0, .int .u64 0, .string ⟨#[]⟩, .int .u8 0, .int .i64 0, .int .i64 0, .int .i64 0, .int .i64 0, .string ⟨#[]⟩, .string ⟨#[]⟩, .int .u8 0, .int .i64 0, .int .i64 0, .int .i64 0, .int .i64 0, .string ⟨#[]⟩, .int .i64 0, .int .i64 0, .string ⟨#[]⟩, .string ⟨#[]⟩, .int .i64 0, .int .i64 0, .int .i64 0, .int .i64 0, .string ⟨#[]⟩, .int .i64 0, .string ⟨#[]⟩, .int .i64 0, .int .i64 0, .int .i64 0, .int .u8 0, .int .i64 0] 64)).offRow (cs' := csC d2) hneB
              replace hb := below_setRow (below_own hb (.cells #[.int .u8 0, .int .u64 0, .int .u64 0, .string ⟨#[]⟩, .int .u8 0, .int .i64 0, .int .i64 0, .int .i64 0, .int .i64 0, .string ⟨#[]⟩, .string ⟨#[]⟩, .int .u8 0, .int .i64 0, .int .i64 0, .int .i64 0, .int .i64 0, .string ⟨#[]⟩, .int .i64 0, .int .i64 0, .string ⟨#[]⟩, .string ⟨#[]⟩, .int .i64 0, .int .i64 0, .int .i64 0, .int .i64 0, .string ⟨#[]⟩, .int .i64 0, .string ⟨#[]⟩, .int .i64 0, .int .i64 0, .int .i64 0, .int .u8 0, .int .i64 0] 64)) (show w.heap.size ≤ w7.heap.size from hb.size) (csC d2)
              have hlA := load_cmd hA rfl
              have hlB := load_cmd hB rfl
              rcases hmore.out with ⟨rfl, hmt⟩ | ⟨rfl, hmt⟩
              all_goals
                go_wp2_with (first | (with_reducible refine st_cmd (.tmp 14) (.tmp 73) (w7.heap.size) d2 ?_ ?_ (csC zeroC) hN (csC_size zeroC) ?_ ?_) | (with_reducible refine wpList_load_rowW 64 (.tmp 12) (w6.heap.size) ?_ (csC c) hlB ?_ ?_) | (with_reducible refine wpList_load_rowW 64 (.tmp 3) (w.heap.size) ?_ (csC c) hlA ?_ ?_) | fail)
                rotate_right
                · skip
                  refine (ALV.out _).mono ?_
                  rintro r w8 ⟨rfl, hk8⟩; dsimp only
                  replace hb := hb.trans (hk8.mono hb.size)
                  go_wp2_with fail
                  go_ret
                  exact ⟨rfl, hb⟩
                all_goals first | rfl | (simp [Region.wanted, yielded, Act.put]; done)
            all_goals first | rfl | (simp [Region.wanted, yielded, Act.put]; done)
        all_goals first | rfl | (simp [Region.wanted, yielded, Act.put]; done)
      all_goals first | rfl | (simp [Region.wanted, yielded, Act.put]; done)
  all_goals first | exact hlA | rfl | (simp [Region.wanted, yielded, Act.put]; done)
end Go.Proofs.Yteglieoeblehpaa
