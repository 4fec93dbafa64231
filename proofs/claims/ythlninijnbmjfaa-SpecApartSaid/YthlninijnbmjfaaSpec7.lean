/- What jobs and sets want in all. Conditions: the numbers are of their kinds. -/
import Derived.Test.YthlninijnbmjfaaSpec6
namespace Go.Proofs.Ythlninijnbmjfaa
open Go.RowKit

set_option maxRecDepth 100000 in
set_option maxHeartbeats 8000000 in
theorem ref_Alloc (j : AllocSpec) (w : World) :
    Calls Try.prog 43 #[j.v] w fun e w' => e = .returned (.int .i64 (allocI j)) ∧ Below w.heap.size w w' := by
  have c1 := ref_Name j.name
  have c2 := ref_Name j.user
  have C4 := Lib.hid (ref_limit j.limit)
  have hR : Hid (allocI j = firstI [(160, namesA j), (162, cntB j.count), (163, limB j.limit)]) := Lib.hid rfl
  unfold namesA at hR
  generalize allocI j = z at *
  generalize nameB j.name = b1 at *
  generalize nameB j.user = b2 at *
  generalize limB j.limit = lm at *
  obtain ⟨n, u, c, ⟨l0, l1, l2⟩⟩ := j
  dsimp only at c1 c2 hR
  have C1 := Lib.hid c1
  have C2 := Lib.hid c2
  clear c1 c2
  go_enter Try.func43, Try.ntmps43
  go_wp2_with fail
  refine (C1.out _).mono ?_
  rintro r w1 ⟨rfl, rfl⟩; dsimp only
  have h := Blk.new w 79 #[.string n, .string u, .int .i64 c, .int .i64 l0, .int .i64 l1, .int .i64 l2]
  have hB : Below w.heap.size w (w.alloc (.cells #[.string n, .string u, .int .i64 c, .int .i64 l0, .int .i64 l1, .int .i64 l2] 79)) := below_own (below_self w) _
  obtain ⟨w1, hw1⟩ : ∃ w1, w1 = w.alloc (.cells #[.string n, .string u, .int .i64 c, .int .i64 l0, .int .i64 l1, .int .i64 l2] 79) := ⟨_, rfl⟩
  rw [← hw1] at h hB ⊢
  clear hw1
  obtain ⟨Jc, Jf, Jl⟩ := h.facts
  cases b1 with
  | false =>
    go_wp2
    go_ret
    exact ⟨by rw [hR.out]; simp [firstI], hB⟩
  | true =>
    go_wp2_with fail
    refine (C2.out _).mono ?_
    rintro r w2 ⟨rfl, rfl⟩; dsimp only
    cases b2 with
    | false =>
      go_wp2
      go_ret
      exact ⟨by rw [hR.out]; simp [firstI], hB⟩
    | true =>
      rcases cnt_cases c with ⟨h1, hc1⟩ | ⟨h1, h2, hc1⟩ | ⟨h1, h2, hc1⟩
      · have HC := Lib.hid hc1
        clear hc1
        go_wp2
        all_goals
          go_ret
          exact ⟨by rw [hR.out, HC.out]; simp [firstI], hB⟩
      · have HC := Lib.hid hc1
        clear hc1
        go_wp2
        all_goals
          go_ret
          exact ⟨by rw [hR.out, HC.out]; simp [firstI], hB⟩
      · have HC := Lib.hid hc1
        clear hc1
        go_wp2_with fail
        refine (C4.out _).mono ?_
        rintro r w4 ⟨rfl, hb⟩; dsimp only
        replace hB := below_to hB hb
        cases lm with
        | false =>
          go_wp2
          go_ret
          exact ⟨by rw [hR.out, HC.out]; simp [firstI], hB⟩
        | true =>
          go_wp2
          go_ret
          exact ⟨by rw [hR.out, HC.out]; simp [firstI], hB⟩
def allR (e : Int) (l : Vec) (n : Int) : Vec × Int := if e = 0 then timesV l n else (zeroV, e)
set_option maxRecDepth 100000 in
set_option maxHeartbeats 4000000 in
theorem spec_Total (j : JobSpec) (hl : j.limit.ok) (hc : I64 j.count) (w : World) :
    Calls Try.prog 33 #[j.v] w fun e w' => e = .returned (.tuple #[(allR (jobI j) j.limit j.count).1.v, .int .i64 (allR (jobI j) j.limit j.count).2]) ∧ Below w.heap.size w w' := by
  have C1 := Lib.hid (spec_Job j)
  have c2 := vec_Times j.limit j.count hl hc
  unfold allR
  generalize jobI j = z at *
  generalize timesV j.limit j.count = t at *
  obtain ⟨⟨t0, t1, t2⟩, t3⟩ := t
  obtain ⟨n, u, b, c, ⟨l0, l1, l2⟩, a, ⟨bk, bw⟩⟩ := j
  have C2 := Lib.hid c2
  clear c2 hl hc
  by_cases h0 : z = 0
  · rw [if_pos h0]
    subst h0
    go_enter Try.func33, Try.ntmps33
    go_wp2_with fail
    refine (C1.out _).mono ?_
    rintro r w1 ⟨rfl, hb⟩; dsimp only
    have h := ((Blk.new w 68 #[.string n, .string u, .int .u8 b, .int .i64 c, .int .i64 l0, .int .i64 l1, .int .i64 l2, .string a, .int .i64 bk, .int .i64 bw]).alloc _).past hb
    have hZ := (Blk.new1 w _ 66 #[.int .i64 0, .int .i64 0, .int .i64 0]).past hb
    have hB : Below w.heap.size w w1 := below_to (by go_grown) hb
    clear hb
    obtain ⟨Jc, Jf, Jl⟩ := h.facts
    obtain ⟨Zc, Zf, Zl⟩ := hZ.facts
    go_wp2_with fail
    refine (C2.out _).mono ?_
    rintro r w2 ⟨rfl, hb⟩; dsimp only
    clear Jc Jf Jl Zc Zf Zl
    replace hZ := hZ.past hb
    replace hB := below_to hB hb
    obtain ⟨Zc, Zf, Zl⟩ := hZ.facts
    go_wp2_with fail
    refine bodyPost_ret (v := .tuple #[.agg #[.int .i64 t0, .int .i64 t1, .int .i64 t2], .int .i64 t3]) (by simp [results, Try.results33, go_sem, Zc]) rfl ?_
    exact ⟨rfl, by go_grown⟩
  · rw [if_neg h0]
    have h0' : (z == 0) = false := by simpa using h0
    have h0'' : (z != 0) = true := by rw [bne, h0']; rfl
    clear h0
    go_enter Try.func33, Try.ntmps33
    go_wp2_with fail
    refine (C1.out _).mono ?_
    rintro r w1 ⟨rfl, hb⟩; dsimp only
    have h := ((Blk.new w 68 #[.string n, .string u, .int .u8 b, .int .i64 c, .int .i64 l0, .int .i64 l1, .int .i64 l2, .string a, .int .i64 bk, .int .i64 bw]).alloc _).past hb
    have hZ := (Blk.new1 w _ 66 #[.int .i64 0, .int .i64 0, .int .i64 0]).past hb
    have hB : Below w.heap.size w w1 := below_to (by go_grown) hb
    clear hb
    obtain ⟨Jc, Jf, Jl⟩ := h.facts
    obtain ⟨Zc, Zf, Zl⟩ := hZ.facts
    go_wp2_with fail
    refine bodyPost_ret (v := .tuple #[.agg #[.int .i64 0, .int .i64 0, .int .i64 0], .int .i64 z]) (by simp [results, Try.results33, go_sem, Zc]) rfl ?_
    exact ⟨rfl, by go_grown⟩
set_option maxRecDepth 100000 in
set_option maxHeartbeats 4000000 in
theorem ref_Total (j : JobSpec) (hl : j.limit.ok) (hc : I64 j.count) (w : World) :
    Calls Try.prog 34 #[j.v] w fun e w' => e = .returned (.tuple #[(allR (jobI j) j.limit j.count).1.v, .int .i64 (allR (jobI j) j.limit j.count).2]) ∧ Below w.heap.size w w' := by
  have C1 := Lib.hid (ref_Job j)
  have c2 := ref_Times j.limit j.count hl hc
  unfold allR
  generalize jobI j = z at *
  generalize timesV j.limit j.count = t at *
  obtain ⟨⟨t0, t1, t2⟩, t3⟩ := t
  obtain ⟨n, u, b, c, ⟨l0, l1, l2⟩, a, ⟨bk, bw⟩⟩ := j
  have C2 := Lib.hid c2
  clear c2 hl hc
  by_cases h0 : z = 0
  · rw [if_pos h0]
    subst h0
    go_enter Try.func34, Try.ntmps34
    go_wp2_with fail
    refine (C1.out _).mono ?_
    rintro r w1 ⟨rfl, hb⟩; dsimp only
    have h := ((Blk.new w 68 #[.string n, .string u, .int .u8 b, .int .i64 c, .int .i64 l0, .int .i64 l1, .int .i64 l2, .string a, .int .i64 bk, .int .i64 bw]).alloc _).past hb
    have hZ := (Blk.new1 w _ 66 #[.int .i64 0, .int .i64 0, .int .i64 0]).past hb
    have hB : Below w.heap.size w w1 := below_to (by go_grown) hb
    clear hb
    obtain ⟨Jc, Jf, Jl⟩ := h.facts
    obtain ⟨Zc, Zf, Zl⟩ := hZ.facts
    go_wp2_with fail
    refine (C2.out _).mono ?_
    rintro r w2 ⟨rfl, hb⟩; dsimp only
    clear Jc Jf Jl Zc Zf Zl
    replace hZ := hZ.past hb
    replace hB := below_to hB hb
    obtain ⟨Zc, Zf, Zl⟩ := hZ.facts
    go_wp2_with fail
    refine bodyPost_ret (v := .tuple #[.agg #[.int .i64 t0, .int .i64 t1, .int .i64 t2], .int .i64 t3]) (by simp [results, Try.results34, go_sem, Zc]) rfl ?_
    exact ⟨rfl, by go_grown⟩
  · rw [if_neg h0]
    have h0' : (z == 0) = false := by simpa using h0
    have h0'' : (z != 0) = true := by rw [bne, h0']; rfl
    clear h0
    go_enter Try.func34, Try.ntmps34
    go_wp2_with fail
    refine (C1.out _).mono ?_
    rintro r w1 ⟨rfl, hb⟩; dsimp only
    have h := ((Blk.new w 68 #[.string n, .string u, .int .u8 b, .int .i64 c, .int .i64 l0, .int .i64 l1, .int .i64 l2, .string a, .int .i64 bk, .int .i64 bw]).alloc _).past hb
    have hZ := (Blk.new1 w _ 66 #[.int .i64 0, .int .i64 0, .int .i64 0]).past hb
    have hB : Below w.heap.size w w1 := below_to (by go_grown) hb
    clear hb
    obtain ⟨Jc, Jf, Jl⟩ := h.facts
    obtain ⟨Zc, Zf, Zl⟩ := hZ.facts
    go_wp2_with fail
    refine bodyPost_ret (v := .tuple #[.agg #[.int .i64 0, .int .i64 0, .int .i64 0], .int .i64 z]) (by simp [results, Try.results34, go_sem, Zc]) rfl ?_
    exact ⟨rfl, by go_grown⟩
set_option maxRecDepth 100000 in
set_option maxHeartbeats 4000000 in
theorem spec_Held (j : AllocSpec) (hl : j.limit.ok) (hc : I64 j.count) (w : World) :
    Calls Try.prog 40 #[j.v] w fun e w' => e = .returned (.tuple #[(allR (allocI j) j.limit j.count).1.v, .int .i64 (allR (allocI j) j.limit j.count).2]) ∧ Below w.heap.size w w' := by
  have C1 := Lib.hid (spec_Alloc j)
  have c2 := vec_Times j.limit j.count hl hc
  unfold allR
  generalize allocI j = z at *
  generalize timesV j.limit j.count = t at *
  obtain ⟨⟨t0, t1, t2⟩, t3⟩ := t
  obtain ⟨n, u, c, ⟨l0, l1, l2⟩⟩ := j
  have C2 := Lib.hid c2
  clear c2 hl hc
  by_cases h0 : z = 0
  · rw [if_pos h0]
    subst h0
    go_enter Try.func40, Try.ntmps40
    go_wp2_with fail
    refine (C1.out _).mono ?_
    rintro r w1 ⟨rfl, hb⟩; dsimp only
    have h := ((Blk.new w 79 #[.string n, .string u, .int .i64 c, .int .i64 l0, .int .i64 l1, .int .i64 l2]).alloc _).past hb
    have hZ := (Blk.new1 w _ 66 #[.int .i64 0, .int .i64 0, .int .i64 0]).past hb
    have hB : Below w.heap.size w w1 := below_to (by go_grown) hb
    clear hb
    obtain ⟨Jc, Jf, Jl⟩ := h.facts
    obtain ⟨Zc, Zf, Zl⟩ := hZ.facts
    go_wp2_with fail
    refine (C2.out _).mono ?_
    rintro r w2 ⟨rfl, hb⟩; dsimp only
    clear Jc Jf Jl Zc Zf Zl
    replace hZ := hZ.past hb
    replace hB := below_to hB hb
    obtain ⟨Zc, Zf, Zl⟩ := hZ.facts
    go_wp2_with fail
    refine bodyPost_ret (v := .tuple #[.agg #[.int .i64 t0, .int .i64 t1, .int .i64 t2], .int .i64 t3]) (by simp [results, Try.results40, go_sem, Zc]) rfl ?_
    exact ⟨rfl, by go_grown⟩
  · rw [if_neg h0]
    have h0' : (z == 0) = false := by simpa using h0
    have h0'' : (z != 0) = true := by rw [bne, h0']; rfl
    clear h0
    go_enter Try.func40, Try.ntmps40
    go_wp2_with fail
    refine (C1.out _).mono ?_
    rintro r w1 ⟨rfl, hb⟩; dsimp only
    have h := ((Blk.new w 79 #[.string n, .string u, .int .i64 c, .int .i64 l0, .int .i64 l1, .int .i64 l2]).alloc _).past hb
    have hZ := (Blk.new1 w _ 66 #[.int .i64 0, .int .i64 0, .int .i64 0]).past hb
    have hB : Below w.heap.size w w1 := below_to (by go_grown) hb
    clear hb
    obtain ⟨Jc, Jf, Jl⟩ := h.facts
    obtain ⟨Zc, Zf, Zl⟩ := hZ.facts
    go_wp2_with fail
    refine bodyPost_ret (v := .tuple #[.agg #[.int .i64 0, .int .i64 0, .int .i64 0], .int .i64 z]) (by simp [results, Try.results40, go_sem, Zc]) rfl ?_
    exact ⟨rfl, by go_grown⟩
set_option maxRecDepth 100000 in
set_option maxHeartbeats 4000000 in
theorem ref_Held (j : AllocSpec) (hl : j.limit.ok) (hc : I64 j.count) (w : World) :
    Calls Try.prog 41 #[j.v] w fun e w' => e = .returned (.tuple #[(allR (allocI j) j.limit j.count).1.v, .int .i64 (allR (allocI j) j.limit j.count).2]) ∧ Below w.heap.size w w' := by
  have C1 := Lib.hid (ref_Alloc j)
  have c2 := ref_Times j.limit j.count hl hc
  unfold allR
  generalize allocI j = z at *
  generalize timesV j.limit j.count = t at *
  obtain ⟨⟨t0, t1, t2⟩, t3⟩ := t
  obtain ⟨n, u, c, ⟨l0, l1, l2⟩⟩ := j
  have C2 := Lib.hid c2
  clear c2 hl hc
  by_cases h0 : z = 0
  · rw [if_pos h0]
    subst h0
    go_enter Try.func41, Try.ntmps41
    go_wp2_with fail
    refine (C1.out _).mono ?_
    rintro r w1 ⟨rfl, hb⟩; dsimp only
    have h := ((Blk.new w 79 #[.string n, .string u, .int .i64 c, .int .i64 l0, .int .i64 l1, .int .i64 l2]).alloc _).past hb
    have hZ := (Blk.new1 w _ 66 #[.int .i64 0, .int .i64 0, .int .i64 0]).past hb
    have hB : Below w.heap.size w w1 := below_to (by go_grown) hb
    clear hb
    obtain ⟨Jc, Jf, Jl⟩ := h.facts
    obtain ⟨Zc, Zf, Zl⟩ := hZ.facts
    go_wp2_with fail
    refine (C2.out _).mono ?_
    rintro r w2 ⟨rfl, hb⟩; dsimp only
    clear Jc Jf Jl Zc Zf Zl
    replace hZ := hZ.past hb
    replace hB := below_to hB hb
    obtain ⟨Zc, Zf, Zl⟩ := hZ.facts
    go_wp2_with fail
    refine bodyPost_ret (v := .tuple #[.agg #[.int .i64 t0, .int .i64 t1, .int .i64 t2], .int .i64 t3]) (by simp [results, Try.results41, go_sem, Zc]) rfl ?_
    exact ⟨rfl, by go_grown⟩
  · rw [if_neg h0]
    have h0' : (z == 0) = false := by simpa using h0
    have h0'' : (z != 0) = true := by rw [bne, h0']; rfl
    clear h0
    go_enter Try.func41, Try.ntmps41
    go_wp2_with fail
    refine (C1.out _).mono ?_
    rintro r w1 ⟨rfl, hb⟩; dsimp only
    have h := ((Blk.new w 79 #[.string n, .string u, .int .i64 c, .int .i64 l0, .int .i64 l1, .int .i64 l2]).alloc _).past hb
    have hZ := (Blk.new1 w _ 66 #[.int .i64 0, .int .i64 0, .int .i64 0]).past hb
    have hB : Below w.heap.size w w1 := below_to (by go_grown) hb
    clear hb
    obtain ⟨Jc, Jf, Jl⟩ := h.facts
    obtain ⟨Zc, Zf, Zl⟩ := hZ.facts
    go_wp2_with fail
    refine bodyPost_ret (v := .tuple #[.agg #[.int .i64 0, .int .i64 0, .int .i64 0], .int .i64 z]) (by simp [results, Try.results41, go_sem, Zc]) rfl ?_
    exact ⟨rfl, by go_grown⟩
end Go.Proofs.Ythlninijnbmjfaa
