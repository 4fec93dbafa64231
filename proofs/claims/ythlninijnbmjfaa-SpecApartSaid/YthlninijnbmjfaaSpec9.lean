/- The laws SpecJobs and SpecAllocs of reevelaw16, walked. Conditions: the numbers are of their kinds. -/
import Derived.Test.YthlninijnbmjfaaSpec8
namespace Go.Proofs.Ythlninijnbmjfaa
open Go.RowKit

set_option maxRecDepth 100000 in
set_option maxHeartbeats 4000000 in
theorem SpecJobs_walk (j : JobSpec) (hj : j.ok) (w : World) : Calls Try.prog 10 #[j.v] w fun e w' => e = .returned (.bool true) ∧ Below w.heap.size w w' := by
  have c1 := spec_Total j hj.2.2.2.2.1 hj.2.2.2.1
  have c2 := ref_Total j hj.2.2.2.2.1 hj.2.2.2.1
  have c3 := spec_Job j
  have c4 := ref_Job j
  have c5 := spec_Name j.name
  have c6 : ∀ w : World, Calls Try.prog 38 #[.string j.name] w fun e w' => e = .returned (.bool (nameB j.name)) ∧ Below w.heap.size w w' := by
    intro w
    refine (ref_Name j.name w).mono ?_
    rintro r w' ⟨h, rfl⟩
    exact ⟨h, below_self w⟩
  have c7 := spec_May j.budget
  have c8 := ref_May16 j.budget
  have AL := Lib.hid alive16
  generalize allR (jobI j) j.limit j.count = t at *
  obtain ⟨⟨t0, t1, t2⟩, t3⟩ := t
  generalize jobI j = z at *
  generalize nameB j.name = nb at *
  generalize mayBud j.budget = mb at *
  obtain ⟨n, u, b, c, ⟨l0, l1, l2⟩, a, ⟨bk, bw⟩⟩ := j
  have hn : n.size ≤ 9223372036854775807 := hj.1
  have hu : u.size ≤ 9223372036854775807 := hj.2.1
  have ha : a.size ≤ 9223372036854775807 := hj.2.2.2.2.2.1
  have CL := Lib.hid (fun (g cp : Nat) (w : World) (h : Blk w g 9 #[.string n, .string u, .string a]) => law_long g 3 cp [n, u, a] w rfl (by decide) h.lt (by intro s hs; simp only [List.mem_cons, List.not_mem_nil, or_false] at hs; rcases hs with rfl | rfl | rfl <;> assumption) (fun i hi => (h.cell i).trans (by match i, hi with | 0, _ => rfl | 1, _ => rfl | 2, _ => rfl)))
  generalize decide (4096 < lenSum [n, u, a]) = lb at *
  clear hn hu ha hj
  have C1 := Lib.hid c1
  have C2 := Lib.hid c2
  have C3 := Lib.hid c3
  have C4 := Lib.hid c4
  have C5 := Lib.hid c5
  have C6 := Lib.hid c6
  have C7 := Lib.hid c7
  have C8 := Lib.hid c8
  clear c1 c2 c3 c4 c5 c6 c7 c8
  have q1 := eql_vec
  have q2 := eqV_self
  go_enter Try.func10, Try.ntmps10
  go_wp2_with fail
  have L := Blk.new1 w (.cells #[.string n, .string u, .int .u8 b, .int .i64 c, .int .i64 l0, .int .i64 l1, .int .i64 l2, .string a, .int .i64 bk, .int .i64 bw] 68) 9 #[.string n, .string u, .string a]
  refine (CL.out _ _ _ L).mono ?_
  rintro r w1 ⟨rfl, rfl⟩; dsimp only
  have J := (Blk.new w 68 #[.string n, .string u, .int .u8 b, .int .i64 c, .int .i64 l0, .int .i64 l1, .int .i64 l2, .string a, .int .i64 bk, .int .i64 bw]).alloc (.cells #[.string n, .string u, .string a] 9)
  have hB : Below w.heap.size w ((w.alloc (.cells #[.string n, .string u, .int .u8 b, .int .i64 c, .int .i64 l0, .int .i64 l1, .int .i64 l2, .string a, .int .i64 bk, .int .i64 bw] 68)).alloc (.cells #[.string n, .string u, .string a] 9)) := by go_grown
  clear L CL
  obtain ⟨w1, hw1⟩ : ∃ w1, w1 = ((w.alloc (.cells #[.string n, .string u, .int .u8 b, .int .i64 c, .int .i64 l0, .int .i64 l1, .int .i64 l2, .string a, .int .i64 bk, .int .i64 bw] 68)).alloc (.cells #[.string n, .string u, .string a] 9)) := ⟨_, rfl⟩
  rw [← hw1] at J hB ⊢
  clear hw1
  obtain ⟨Jc, Jf, Jl⟩ := J.facts
  cases lb with
  | true =>
    go_wp2_with fail
    refine (AL.out _).mono ?_
    rintro r w2 ⟨rfl, hb⟩; dsimp only
    replace hB : Below w.heap.size w w2 := below_to hB hb
    clear hb J Jc Jf Jl
    go_wp2_with fail
    go_ret
    exact ⟨rfl, hB⟩
  | false =>
    go_wp2_with fail
    refine (C1.out _).mono ?_
    rintro r w2 ⟨rfl, hb⟩; dsimp only
    replace hB : Below w.heap.size w w2 := below_to hB hb
    replace J := J.past hb
    clear hb Jc Jf Jl
    obtain ⟨Jc, Jf, Jl⟩ := J.facts
    go_wp2_with fail
    refine (C2.out _).mono ?_
    rintro r w3 ⟨rfl, hb⟩; dsimp only
    replace hB : Below w.heap.size w w3 := below_to (below_own hB _) hb
    have A := (Blk.new w2 66 #[.int .i64 t0, .int .i64 t1, .int .i64 t2]).past hb
    replace J := (J.alloc _).past hb
    clear hb Jc Jf Jl
    obtain ⟨Jc, Jf, Jl⟩ := J.facts
    obtain ⟨Ac, Af, Al⟩ := A.facts
    generalize w2.heap.size = n2 at *
    go_wp2_with fail
    have q3 : eqV ⟨t0, t1, t2⟩ ⟨t0, t1, t2⟩ = true := eqV_self _
    refine wp_region_ext (by kernel_rfl) (by kernel_rfl) ?_
    repeat (go_big_quiet_step ((first | (go_at_call 35; with_reducible exact ext_of (C3.out _)) | (go_at_call 36; with_reducible exact ext_of (C4.out _)) | (go_at_call 37; with_reducible exact ext_of (C5.out _)) | (go_at_call 38; with_reducible exact ext_of (C6.out _)) | (go_at_call 39; with_reducible exact ext_of (C7.out _)) | (go_at_call 29; with_reducible exact ext_of (C8.out _)) | (go_at_call 32; exact ext_of (AL.out _)))))
    refine wpQuiet_nil ?_
    intro w9 hx
    obtain ⟨x, rfl⟩ := hx
    go_wp2_with fail
    go_ret
    exact ⟨by first | rfl | simp, below_to (below_own hB _) (extn_below _ x)⟩
set_option maxRecDepth 100000 in
set_option maxHeartbeats 4000000 in
theorem SpecAllocs_walk (j : AllocSpec) (hj : j.ok) (w : World) : Calls Try.prog 11 #[j.v] w fun e w' => e = .returned (.bool true) ∧ Below w.heap.size w w' := by
  have c1 := spec_Held j hj.2.2.2 hj.2.2.1
  have c2 := ref_Held j hj.2.2.2 hj.2.2.1
  have c3 := spec_Alloc j
  have c4 := ref_Alloc j
  have AL := Lib.hid alive16
  generalize allR (allocI j) j.limit j.count = t at *
  obtain ⟨⟨t0, t1, t2⟩, t3⟩ := t
  generalize allocI j = z at *
  obtain ⟨n, u, c, ⟨l0, l1, l2⟩⟩ := j
  have hn : n.size ≤ 9223372036854775807 := hj.1
  have hu : u.size ≤ 9223372036854775807 := hj.2.1
  have CL := Lib.hid (fun (g cp : Nat) (w : World) (h : Blk w g 9 #[.string n, .string u]) => law_long g 2 cp [n, u] w rfl (by decide) h.lt (by intro s hs; simp only [List.mem_cons, List.not_mem_nil, or_false] at hs; rcases hs with rfl | rfl <;> assumption) (fun i hi => (h.cell i).trans (by match i, hi with | 0, _ => rfl | 1, _ => rfl)))
  generalize decide (4096 < lenSum [n, u]) = lb at *
  clear hn hu hj
  have C1 := Lib.hid c1
  have C2 := Lib.hid c2
  have C3 := Lib.hid c3
  have C4 := Lib.hid c4
  clear c1 c2 c3 c4
  have q1 := eql_vec
  have q2 := eqV_self
  go_enter Try.func11, Try.ntmps11
  go_wp2_with fail
  have L := Blk.new1 w (.cells #[.string n, .string u, .int .i64 c, .int .i64 l0, .int .i64 l1, .int .i64 l2] 79) 9 #[.string n, .string u]
  refine (CL.out _ _ _ L).mono ?_
  rintro r w1 ⟨rfl, rfl⟩; dsimp only
  have J := (Blk.new w 79 #[.string n, .string u, .int .i64 c, .int .i64 l0, .int .i64 l1, .int .i64 l2]).alloc (.cells #[.string n, .string u] 9)
  have hB : Below w.heap.size w ((w.alloc (.cells #[.string n, .string u, .int .i64 c, .int .i64 l0, .int .i64 l1, .int .i64 l2] 79)).alloc (.cells #[.string n, .string u] 9)) := by go_grown
  clear L CL
  obtain ⟨w1, hw1⟩ : ∃ w1, w1 = ((w.alloc (.cells #[.string n, .string u, .int .i64 c, .int .i64 l0, .int .i64 l1, .int .i64 l2] 79)).alloc (.cells #[.string n, .string u] 9)) := ⟨_, rfl⟩
  rw [← hw1] at J hB ⊢
  clear hw1
  obtain ⟨Jc, Jf, Jl⟩ := J.facts
  cases lb with
  | true =>
    go_wp2_with fail
    refine (AL.out _).mono ?_
    rintro r w2 ⟨rfl, hb⟩; dsimp only
    replace hB : Below w.heap.size w w2 := below_to hB hb
    clear hb J Jc Jf Jl
    go_wp2_with fail
    go_ret
    exact ⟨rfl, hB⟩
  | false =>
    go_wp2_with fail
    refine (C1.out _).mono ?_
    rintro r w2 ⟨rfl, hb⟩; dsimp only
    replace hB : Below w.heap.size w w2 := below_to hB hb
    replace J := J.past hb
    clear hb Jc Jf Jl
    obtain ⟨Jc, Jf, Jl⟩ := J.facts
    go_wp2_with fail
    refine (C2.out _).mono ?_
    rintro r w3 ⟨rfl, hb⟩; dsimp only
    replace hB : Below w.heap.size w w3 := below_to (below_own hB _) hb
    have A := (Blk.new w2 66 #[.int .i64 t0, .int .i64 t1, .int .i64 t2]).past hb
    replace J := (J.alloc _).past hb
    clear hb Jc Jf Jl
    obtain ⟨Jc, Jf, Jl⟩ := J.facts
    obtain ⟨Ac, Af, Al⟩ := A.facts
    generalize w2.heap.size = n2 at *
    go_wp2_with fail
    have q3 : eqV ⟨t0, t1, t2⟩ ⟨t0, t1, t2⟩ = true := eqV_self _
    refine wp_region_ext (by kernel_rfl) (by kernel_rfl) ?_
    repeat (go_big_quiet_step ((first | (go_at_call 42; with_reducible exact ext_of (C3.out _)) | (go_at_call 43; with_reducible exact ext_of (C4.out _)) | (go_at_call 32; exact ext_of (AL.out _)))))
    refine wpQuiet_nil ?_
    intro w9 hx
    obtain ⟨x, rfl⟩ := hx
    go_wp2_with fail
    go_ret
    exact ⟨by first | rfl | simp, below_to (below_own hB _) (extn_below _ x)⟩
end Go.Proofs.Ythlninijnbmjfaa
