/- The document's answer for layer 16, its second part; what is wanted in all. Conditions: the numbers are of their kinds. -/
import Derived.Test.YthlninijnbmjfaaSpec5
import Derived.Test.YthlninijnbmjfaaSpec3
namespace Go.Proofs.Ythlninijnbmjfaa
open Go.RowKit

set_option maxHeartbeats 1000000 in
theorem ref_limit (v : Vec) (w : World) :
    Calls Try.prog 69 #[v.v] w fun e w' => e = .returned (.bool (limB v)) ∧ Below w.heap.size w w' := by
  have c1 := ref_May v
  unfold limB
  generalize mayV v = m at *
  obtain ⟨v0, v1, v2⟩ := v
  have C1 := Lib.hid c1
  clear c1
  have q := neq_vec
  have hz : zeroV = ⟨0, 0, 0⟩ := rfl
  rw [hz]
  go_enter Try.func69, Try.ntmps69
  go_wp2_with fail
  refine (C1.out _).mono ?_
  rintro r w1 ⟨rfl, hb⟩; dsimp only
  have hV := (Blk.new w 66 #[.int .i64 v0, .int .i64 v1, .int .i64 v2]).past hb
  have hB := below_to (below_own (below_self w) _) hb
  obtain ⟨Bc, Bf, Bl⟩ := hV.facts
  cases m
  all_goals
    go_wp2_with fail
    go_ret
    exact ⟨by first | rfl | simp, hB⟩
theorem band_cases (b : Int) : (b = 1 ∧ bandB b = true) ∨ (b = 2 ∧ bandB b = true) ∨ (b ≠ 1 ∧ b ≠ 2 ∧ bandB b = false) := by
  unfold bandB
  by_cases h1 : b = 1
  · exact .inl ⟨h1, by simp [h1]⟩
  · by_cases h2 : b = 2
    · exact .inr (.inl ⟨h2, by simp [h2]⟩)
    · exact .inr (.inr ⟨h1, h2, by simp [h1, h2]⟩)
theorem cnt_cases (n : Int) : (n < 1 ∧ cntB n = false) ∨ (¬ n < 1 ∧ 64 < n ∧ cntB n = false) ∨ (¬ n < 1 ∧ ¬ 64 < n ∧ cntB n = true) := by
  unfold cntB
  by_cases h1 : n < 1
  · exact .inl ⟨h1, by simp; omega⟩
  · by_cases h2 : 64 < n
    · exact .inr (.inl ⟨h1, h2, by simp; omega⟩)
    · exact .inr (.inr ⟨h1, h2, by simp; omega⟩)
set_option maxRecDepth 100000 in
set_option maxHeartbeats 8000000 in
theorem ref_Job (j : JobSpec) (w : World) :
    Calls Try.prog 36 #[j.v] w fun e w' => e = .returned (.int .i64 (jobI j)) ∧ Below w.heap.size w w' := by
  have c1 := ref_Name j.name
  have c2 := ref_Name j.user
  have c3 := ref_Name j.alloc
  have C4 := Lib.hid (ref_limit j.limit)
  have C5 := Lib.hid (ref_May16 j.budget)
  have hR : Hid (jobI j = firstI [(160, namesB j), (161, bandB j.band), (162, cntB j.count), (163, limB j.limit), (164, mayBud j.budget)]) := Lib.hid rfl
  unfold namesB at hR
  generalize jobI j = z at *
  generalize nameB j.name = b1 at *
  generalize nameB j.user = b2 at *
  generalize nameB j.alloc = b3 at *
  generalize limB j.limit = lm at *
  generalize mayBud j.budget = bd at *
  obtain ⟨n, u, b, c, ⟨l0, l1, l2⟩, a, ⟨bk, bw⟩⟩ := j
  dsimp only at c1 c2 c3 hR
  have C1 := Lib.hid c1
  have C2 := Lib.hid c2
  have C3 := Lib.hid c3
  clear c1 c2 c3
  have hz : a.toList.isEmpty = decide (a.size = 0) := by
    by_cases h0 : a.size = 0
    · rw [str_none h0, decide_eq_true h0]
    · rw [str_some h0, decide_eq_false h0]
  go_enter Try.func36, Try.ntmps36
  go_wp2_with fail
  refine (C1.out _).mono ?_
  rintro r w1 ⟨rfl, rfl⟩; dsimp only
  have h := Blk.new w 68 #[.string n, .string u, .int .u8 b, .int .i64 c, .int .i64 l0, .int .i64 l1, .int .i64 l2, .string a, .int .i64 bk, .int .i64 bw]
  have hB : Below w.heap.size w (w.alloc (.cells #[.string n, .string u, .int .u8 b, .int .i64 c, .int .i64 l0, .int .i64 l1, .int .i64 l2, .string a, .int .i64 bk, .int .i64 bw] 68)) := below_own (below_self w) _
  obtain ⟨w1, hw1⟩ : ∃ w1, w1 = w.alloc (.cells #[.string n, .string u, .int .u8 b, .int .i64 c, .int .i64 l0, .int .i64 l1, .int .i64 l2, .string a, .int .i64 bk, .int .i64 bw] 68) := ⟨_, rfl⟩
  rw [← hw1] at h hB ⊢
  clear hw1
  obtain ⟨Jc, Jf, Jl⟩ := h.facts
  cases b1 with
  | false =>
    go_wp2
    go_ret
    exact ⟨by rw [hR.out]; simp [firstI], hB⟩
  | true =>
    go_wp2_with fail
    refine (C2.out _).mono ?_
    rintro r w2 ⟨rfl, rfl⟩; dsimp only
    cases b2 with
    | false =>
      go_wp2
      go_ret
      exact ⟨by rw [hR.out]; simp [firstI], hB⟩
    | true =>
      by_cases h0 : a.size = 0
      · rw [decide_eq_true h0] at hz
        rw [decide_eq_true h0] at hR
        clear h0
        rcases band_cases b with ⟨rfl, hb1⟩ | ⟨rfl, hb1⟩ | ⟨hb1, hb2, hb3⟩
        rotate_right
        · have e1 : (b == 1) = false := by simpa using hb1
          have e2 : (b == 2) = false := by simpa using hb2
          have e3 : (b != 1) = true := by rw [bne, e1]; rfl
          have e4 : (b != 2) = true := by rw [bne, e2]; rfl
          have HB := Lib.hid hb3
          clear hb1 hb2 hb3
          go_wp2
          all_goals
            go_ret
            exact ⟨by rw [hR.out, HB.out]; simp [firstI], hB⟩
        all_goals
          rcases cnt_cases c with ⟨h1, hc1⟩ | ⟨h1, h2, hc1⟩ | ⟨h1, h2, hc1⟩
          · have HC := Lib.hid hc1
            have HB := Lib.hid hb1
            clear hc1 hb1
            go_wp2
            all_goals
              go_ret
              exact ⟨by rw [hR.out, HC.out, HB.out]; simp [firstI], hB⟩
          · have HC := Lib.hid hc1
            have HB := Lib.hid hb1
            clear hc1 hb1
            go_wp2
            all_goals
              go_ret
              exact ⟨by rw [hR.out, HC.out, HB.out]; simp [firstI], hB⟩
          · have HC := Lib.hid hc1
            have HB := Lib.hid hb1
            clear hc1 hb1
            go_wp2_with fail
            refine (C4.out _).mono ?_
            rintro r w4 ⟨rfl, hb⟩; dsimp only
            clear Jc Jf Jl
            replace h := h.past hb
            replace hB := below_to hB hb
            clear hb
            obtain ⟨Jc, Jf, Jl⟩ := h.facts
            cases lm with
            | false =>
              go_wp2
              go_ret
              exact ⟨by rw [hR.out, HC.out, HB.out]; simp [firstI], hB⟩
            | true =>
              go_wp2_with fail
              refine (C5.out _).mono ?_
              rintro r w5 ⟨rfl, hb⟩; dsimp only
              replace hB := below_to hB hb
              clear hb
              cases bd with
              | false =>
                go_wp2
                go_ret
                exact ⟨by rw [hR.out, HC.out, HB.out]; simp [firstI], hB⟩
              | true =>
                go_wp2
                go_ret
                exact ⟨by rw [hR.out, HC.out, HB.out]; simp [firstI], hB⟩
      · rw [decide_eq_false h0] at hz
        rw [decide_eq_false h0] at hR
        clear h0
        go_wp2_with fail
        refine (C3.out _).mono ?_
        rintro r w3 ⟨rfl, rfl⟩; dsimp only
        cases b3 with
        | false =>
          go_wp2
          go_ret
          exact ⟨by rw [hR.out]; simp [firstI], hB⟩
        | true =>
          rcases band_cases b with ⟨rfl, hb1⟩ | ⟨rfl, hb1⟩ | ⟨hb1, hb2, hb3⟩
          rotate_right
          · have e1 : (b == 1) = false := by simpa using hb1
            have e2 : (b == 2) = false := by simpa using hb2
            have e3 : (b != 1) = true := by rw [bne, e1]; rfl
            have e4 : (b != 2) = true := by rw [bne, e2]; rfl
            have HB := Lib.hid hb3
            clear hb1 hb2 hb3
            go_wp2
            all_goals
              go_ret
              exact ⟨by rw [hR.out, HB.out]; simp [firstI], hB⟩
          all_goals
            rcases cnt_cases c with ⟨h1, hc1⟩ | ⟨h1, h2, hc1⟩ | ⟨h1, h2, hc1⟩
            · have HC := Lib.hid hc1
              have HB := Lib.hid hb1
              clear hc1 hb1
              go_wp2
              all_goals
                go_ret
                exact ⟨by rw [hR.out, HC.out, HB.out]; simp [firstI], hB⟩
            · have HC := Lib.hid hc1
              have HB := Lib.hid hb1
              clear hc1 hb1
              go_wp2
              all_goals
                go_ret
                exact ⟨by rw [hR.out, HC.out, HB.out]; simp [firstI], hB⟩
            · have HC := Lib.hid hc1
              have HB := Lib.hid hb1
              clear hc1 hb1
              go_wp2_with fail
              refine (C4.out _).mono ?_
              rintro r w4 ⟨rfl, hb⟩; dsimp only
              clear Jc Jf Jl
              replace h := h.past hb
              replace hB := below_to hB hb
              clear hb
              obtain ⟨Jc, Jf, Jl⟩ := h.facts
              cases lm with
              | false =>
                go_wp2
                go_ret
                exact ⟨by rw [hR.out, HC.out, HB.out]; simp [firstI], hB⟩
              | true =>
                go_wp2_with fail
                refine (C5.out _).mono ?_
                rintro r w5 ⟨rfl, hb⟩; dsimp only
                replace hB := below_to hB hb
                clear hb
                cases bd with
                | false =>
                  go_wp2
                  go_ret
                  exact ⟨by rw [hR.out, HC.out, HB.out]; simp [firstI], hB⟩
                | true =>
                  go_wp2
                  go_ret
                  exact ⟨by rw [hR.out, HC.out, HB.out]; simp [firstI], hB⟩
end Go.Proofs.Ythlninijnbmjfaa
