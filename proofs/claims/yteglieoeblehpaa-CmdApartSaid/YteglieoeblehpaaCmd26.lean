/- Commands: a command is read as it was written; commands that are not the same have bytes that are not: the walks. Conditions: none. -/
import Derived.Test.YteglieoeblehpaaCmd19
namespace Go.Proofs.Yteglieoeblehpaa
open Go.RowKit

theorem enc_apart (a b : Command) (ha : a.ok) (hb : b.ok) (ma : mayC a = true) (mb : mayC b = true) : ((encC a).toList == (encC b).toList) = decide (a = b) := by
  rw [← beq_toListBytes]
  by_cases h : a = b
  · subst h
    rw [decide_eq_true rfl]
    rw [beq_toListBytes]
    exact beq_self_eq_true _
  · rw [decide_eq_false h]
    cases hq : (encC a == encC b)
    · rfl
    · exfalso
      rw [beq_toListBytes] at hq
      have hq' := eq_of_beq hq
      have he : encC a = encC b := by
        rw [ByteArray.toList_eq, ByteArray.toList_eq] at hq'
        exact ByteArray.ext (Array.ext' hq')
      have h1 := (read_enc a ha ma ByteArray.empty).1
      have h2 := (read_enc b hb mb ByteArray.empty).1
      rw [he, h2] at h1
      exact h (congrArg Prod.snd h1).symm
set_option maxRecDepth 100000 in
set_option maxHeartbeats 8000000 in
theorem CmdApart_walk (a : Command) (oa : a.ok) (b : Command) (ob : b.ok) (w : World) : Calls Try.prog 10 #[a.v, b.v] w fun e w' => e = .returned (.bool true) ∧ Below w.heap.size w w' := by
  have ALV := Lib.hid alive23
  have L1 := Lib.hid (fun W => long23 a oa W)
  have L2 := Lib.hid (fun W => long23 b ob W)
  have hA := (Blk.new w 64 (csC a)).alloc (.cells (csC b) 64)
  have hB := Blk.new1 w (.cells (csC a) 64) 64 (csC b)
  have hb : Below w.heap.size w ((w.alloc (.cells (csC a) 64)).alloc (.cells (csC b) 64)) := by go_grown
  have hlA := load_cmd hA rfl
  have hlB := load_cmd hB rfl
  have E1 : overC 1024 a = false → Hid (∀ W, Calls Try.prog 34 #[.agg (csC a)] W fun e w' => e = .returned (.tuple #[.string (encV' a), .int .i64 (encE a)]) ∧ Below W.heap.size W w') := fun h => Lib.hid (cmd_Enc a oa (over_short a h))
  have E2 : overC 1024 b = false → Hid (∀ W, Calls Try.prog 34 #[.agg (csC b)] W fun e w' => e = .returned (.tuple #[.string (encV' b), .int .i64 (encE b)]) ∧ Below W.heap.size W w') := fun h => Lib.hid (cmd_Enc b ob (over_short b h))
  have X : encE a = 0 → encE b = 0 → ((encV' a).toList == (encV' b).toList) = decide (a = b) := fun h1 h2 => by
    have ma : mayC a = true := by unfold encE at h1; cases hm : mayC a <;> simp_all
    have mb : mayC b = true := by unfold encE at h2; cases hm : mayC b <;> simp_all
    unfold encV'
    rw [if_pos ma, if_pos mb]
    exact enc_apart a b oa ob ma mb
  have heq : ∀ W, (binOp .eql 64 (.agg (csC a)) (.agg (csC b))).run Try.prog W = .ok (.bool (decide (a = b))) W := eql_cmd a b
  have ea : encE a = 0 ∨ encE a = 2 := by unfold encE; split <;> simp
  have eb : encE b = 0 ∨ encE b = 2 := by unfold encE; split <;> simp
  generalize encV' a = s at *
  generalize encV' b = t at *
  generalize encE a = x at *
  generalize encE b = y at *
  generalize overC 1024 a = la at *
  generalize overC 1024 b = lb at *
  generalize decide (a = b) = z at *
  generalize hss : (s.toList == t.toList) = zz at *
  show Calls Try.prog 10 #[.agg (csC a), .agg (csC b)] w _
  cases la
  case true =>
    clear E1 E2 X heq ea eb
    go_enter Try.func10, Try.ntmps10
    go_wp2_with (first | (with_reducible refine wpList_load_rowW 64 (.tmp 2) (w.heap.size) ?_ (csC a) ?_ ?_ ?_) | (with_reducible refine wpList_load_rowW 64 (.tmp 3) (w.heap.size + 1) ?_ (csC b) ?_ ?_ ?_) | fail)
    rotate_right
    · skip
      refine (L1.out _).mono ?_
      rintro r w1 ⟨rfl, hk1⟩; dsimp only
      replace hb := hb.trans (hk1.mono hb.size)
      go_wp2_with fail
      refine (ALV.out _).mono ?_
      rintro r w2 ⟨rfl, hk2⟩; dsimp only
      replace hb := hb.trans (hk2.mono hb.size)
      go_wp2_with fail
      go_ret
      exact ⟨rfl, hb⟩
    all_goals first | exact hlA | exact hlB | rfl | (simp [Region.wanted, yielded, Act.put]; done)
  case false =>
  replace E1 := E1 rfl
  cases lb
  case true =>
    clear E1 E2 X heq ea eb
    go_enter Try.func10, Try.ntmps10
    go_wp2_with (first | (with_reducible refine wpList_load_rowW 64 (.tmp 2) (w.heap.size) ?_ (csC a) ?_ ?_ ?_) | (with_reducible refine wpList_load_rowW 64 (.tmp 3) (w.heap.size + 1) ?_ (csC b) ?_ ?_ ?_) | fail)
    rotate_right
    · skip
      refine (L1.out _).mono ?_
      rintro r w1 ⟨rfl, hk1⟩; dsimp only
      replace hA := hA.past hk1
      replace hB := hB.past hk1
      replace hb := hb.trans ((hk1).mono hb.size)
      replace hlA := load_cmd hA rfl
      replace hlB := load_cmd hB rfl
      go_wp2_with (first | (with_reducible refine wpList_load_rowW 64 (.tmp 2) (w.heap.size) ?_ (csC a) ?_ ?_ ?_) | (with_reducible refine wpList_load_rowW 64 (.tmp 3) (w.heap.size + 1) ?_ (csC b) ?_ ?_ ?_) | fail)
      rotate_right
      · skip
        refine (L2.out _).mono ?_
        rintro r w2 ⟨rfl, hk2⟩; dsimp only
        replace hA := hA.past hk2
        replace hB := hB.past hk2
        replace hb := hb.trans ((hk2).mono hb.size)
        replace hlA := load_cmd hA rfl
        replace hlB := load_cmd hB rfl
        go_wp2_with fail
        refine (ALV.out _).mono ?_
        rintro r w3 ⟨rfl, hk3⟩; dsimp only
        replace hb := hb.trans (hk3.mono hb.size)
        go_wp2_with fail
        go_ret
        exact ⟨rfl, hb⟩
      all_goals first | exact hlA | exact hlB | rfl | (simp [Region.wanted, yielded, Act.put]; done)
    all_goals first | exact hlA | exact hlB | rfl | (simp [Region.wanted, yielded, Act.put]; done)
  case false =>
  replace E2 := E2 rfl
  go_enter Try.func10, Try.ntmps10
  go_wp2_with (first | (with_reducible refine wpList_load_rowW 64 (.tmp 2) (w.heap.size) ?_ (csC a) ?_ ?_ ?_) | (with_reducible refine wpList_load_rowW 64 (.tmp 3) (w.heap.size + 1) ?_ (csC b) ?_ ?_ ?_) | fail)
  rotate_right
  · skip
    refine (L1.out _).mono ?_
    rintro r w1 ⟨rfl, hk1⟩; dsimp only
    replace hA := hA.past hk1
    replace hB := hB.past hk1
    replace hb := hb.trans ((hk1).mono hb.size)
    replace hlA := load_cmd hA rfl
    replace hlB := load_cmd hB rfl
    clear L1
    go_wp2_with (first | (with_reducible refine wpList_load_rowW 64 (.tmp 2) (w.heap.size) ?_ (csC a) ?_ ?_ ?_) | (with_reducible refine wpList_load_rowW 64 (.tmp 3) (w.heap.size + 1) ?_ (csC b) ?_ ?_ ?_) | fail)
    rotate_right
    · skip
      refine (L2.out _).mono ?_
      rintro r w2 ⟨rfl, hk2⟩; dsimp only
      replace hA := hA.past hk2
      replace hB := hB.past hk2
      replace hb := hb.trans ((hk2).mono hb.size)
      replace hlA := load_cmd hA rfl
      replace hlB := load_cmd hB rfl
      clear L2 hk1 hk2
      go_wp2_with (first | (with_reducible refine wpList_load_rowW 64 (.tmp 2) (w.heap.size) ?_ (csC a) ?_ ?_ ?_) | (with_reducible refine wpList_load_rowW 64 (.tmp 3) (w.heap.size + 1) ?_ (csC b) ?_ ?_ ?_) | fail)
      rotate_right
      · skip
        refine (E1.out _).mono ?_
        rintro r w3 ⟨rfl, hk3⟩; dsimp only
        replace hA := hA.past hk3
        replace hB := hB.past hk3
        replace hb := hb.trans ((hk3).mono hb.size)
        replace hlA := load_cmd hA rfl
        replace hlB := load_cmd hB rfl
        clear E1 hk3
        go_wp2_with (first | (with_reducible refine wpList_load_rowW 64 (.tmp 2) (w.heap.size) ?_ (csC a) ?_ ?_ ?_) | (with_reducible refine wpList_load_rowW 64 (.tmp 3) (w.heap.size + 1) ?_ (csC b) ?_ ?_ ?_) | fail)
        rotate_right
        · skip
          refine (E2.out _).mono ?_
          rintro r w4 ⟨rfl, hk4⟩; dsimp only
          replace hA := hA.past hk4
          replace hB := hB.past hk4
          replace hb := hb.trans ((hk4).mono hb.size)
          replace hlA := load_cmd hA rfl
          replace hlB := load_cmd hB rfl
          clear E2 hk4
          rcases ea with rfl | rfl
          · rcases eb with rfl | rfl
            · have hzz := X rfl rfl
              subst hzz
              clear X
              cases zz
              all_goals
                go_wp2_with (first | (with_reducible refine wpList_load_rowW 64 (.tmp 2) (w.heap.size) ?_ (csC a) ?_ ?_ ?_) | (with_reducible refine wpList_load_rowW 64 (.tmp 3) (w.heap.size + 1) ?_ (csC b) ?_ ?_ ?_) | fail)
                rotate_right
                · skip
                  refine (ALV.out _).mono ?_
                  rintro r w5 ⟨rfl, hk5⟩; dsimp only
                  replace hb := hb.trans (hk5.mono hb.size)
                  go_wp2_with fail
                  go_ret
                  exact ⟨rfl, hb⟩
                all_goals first | exact hlA | exact hlB | rfl | (simp [Region.wanted, yielded, Act.put]; done)
            · clear X heq
              go_wp2_with fail
              refine (ALV.out _).mono ?_
              rintro r w5 ⟨rfl, hk5⟩; dsimp only
              replace hb := hb.trans (hk5.mono hb.size)
              go_wp2_with fail
              go_ret
              exact ⟨rfl, hb⟩
          · clear X heq
            go_wp2_with fail
            refine (ALV.out _).mono ?_
            rintro r w5 ⟨rfl, hk5⟩; dsimp only
            replace hb := hb.trans (hk5.mono hb.size)
            go_wp2_with fail
            go_ret
            exact ⟨rfl, hb⟩
        all_goals first | exact hlA | exact hlB | rfl | (simp [Region.wanted, yielded, Act.put]; done)
      all_goals first | exact hlA | exact hlB | rfl | (simp [Region.wanted, yielded, Act.put]; done)
    all_goals first | exact hlA | exact hlB | rfl | (simp [Region.wanted, yielded, Act.put]; done)
  all_goals first | exact hlA | exact hlB | rfl | (simp [Region.wanted, yielded, Act.put]; done)
end Go.Proofs.Yteglieoeblehpaa
