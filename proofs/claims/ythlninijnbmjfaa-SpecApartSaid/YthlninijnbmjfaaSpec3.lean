/- The contracts of spec.Job, spec.Alloc. Conditions: none. -/
import Derived.Test.YthlninijnbmjfaaSpec2
import Derived.Deep.RegionHeld3
namespace Go.Proofs.Ythlninijnbmjfaa
open Go.RowKit

/-- What is wrong first with a job. -/
def jobI (j : JobSpec) : Int := firstI [(160, namesB j), (161, bandB j.band), (162, cntB j.count), (163, limB j.limit), (164, mayBud j.budget)]
theorem keepJ {N : Nat} {n u a : ByteArray} {b c l0 l1 l2 bk bw : Int} {W W' : World}
    (h : (W.cell? ⟨N, 3, none⟩ = some (.int .i64 c) ∧ W.cell? ⟨N, 4, none⟩ = some (.int .i64 l0) ∧ W.cell? ⟨N, 5, none⟩ = some (.int .i64 l1) ∧ W.cell? ⟨N, 6, none⟩ = some (.int .i64 l2) ∧ Blk W N 68 #[.string n, .string u, .int .u8 b, .int .i64 c, .int .i64 l0, .int .i64 l1, .int .i64 l2, .string a, .int .i64 bk, .int .i64 bw])) (hb : Below W.heap.size W W') :
    (W'.cell? ⟨N, 3, none⟩ = some (.int .i64 c) ∧ W'.cell? ⟨N, 4, none⟩ = some (.int .i64 l0) ∧ W'.cell? ⟨N, 5, none⟩ = some (.int .i64 l1) ∧ W'.cell? ⟨N, 6, none⟩ = some (.int .i64 l2) ∧ Blk W' N 68 #[.string n, .string u, .int .u8 b, .int .i64 c, .int .i64 l0, .int .i64 l1, .int .i64 l2, .string a, .int .i64 bk, .int .i64 bw]) := by
  have h' := h.2.2.2.2.past hb
  exact ⟨h'.cell 3, h'.cell 4, h'.cell 5, h'.cell 6, h'⟩
set_option maxHeartbeats 400000 in
theorem job_first (w1 w2 : World) (N B1 B2 : Nat) (n u a : ByteArray) (b c l0 l1 l2 bk bw : Int) (hb2 : Below w1.heap.size w1 w2) (hB1 : Blk w1 B1 3 #[.int .i64 c]) (hB2 : Blk w2 B2 66 #[.int .i64 l0, .int .i64 l1, .int .i64 l2])
    (hS : (w2.alloc (.cells #[.int .i64 160, .func (.func 64) #[] #[.pointer (some ⟨N, 0, none⟩)], .int .i64 161, .func (.func 65) #[] #[.pointer (some ⟨N, 0, none⟩)], .int .i64 162, .func (.func 86) #[] #[.pointer (some ⟨B1, 0, none⟩)], .int .i64 163, .func (.func 87) #[] #[.pointer (some ⟨B2, 0, none⟩)], .int .i64 164, .func (.func 68) #[] #[.pointer (some ⟨N, 0, none⟩)]] 106)).cell? ⟨N, 3, none⟩ = some (.int .i64 c) ∧ (w2.alloc (.cells #[.int .i64 160, .func (.func 64) #[] #[.pointer (some ⟨N, 0, none⟩)], .int .i64 161, .func (.func 65) #[] #[.pointer (some ⟨N, 0, none⟩)], .int .i64 162, .func (.func 86) #[] #[.pointer (some ⟨B1, 0, none⟩)], .int .i64 163, .func (.func 87) #[] #[.pointer (some ⟨B2, 0, none⟩)], .int .i64 164, .func (.func 68) #[] #[.pointer (some ⟨N, 0, none⟩)]] 106)).cell? ⟨N, 4, none⟩ = some (.int .i64 l0) ∧ (w2.alloc (.cells #[.int .i64 160, .func (.func 64) #[] #[.pointer (some ⟨N, 0, none⟩)], .int .i64 161, .func (.func 65) #[] #[.pointer (some ⟨N, 0, none⟩)], .int .i64 162, .func (.func 86) #[] #[.pointer (some ⟨B1, 0, none⟩)], .int .i64 163, .func (.func 87) #[] #[.pointer (some ⟨B2, 0, none⟩)], .int .i64 164, .func (.func 68) #[] #[.pointer (some ⟨N, 0, none⟩)]] 106)).cell? ⟨N, 5, none⟩ = some (.int .i64 l1) ∧ (w2.alloc (.cells #[.int .i64 160, .func (.func 64) #[] #[.pointer (some ⟨N, 0, none⟩)], .int .i64 161, .func (.func 65) #[] #[.pointer (some ⟨N, 0, none⟩)], .int .i64 162, .func (.func 86) #[] #[.pointer (some ⟨B1, 0, none⟩)], .int .i64 163, .func (.func 87) #[] #[.pointer (some ⟨B2, 0, none⟩)], .int .i64 164, .func (.func 68) #[] #[.pointer (some ⟨N, 0, none⟩)]] 106)).cell? ⟨N, 6, none⟩ = some (.int .i64 l2) ∧ Blk (w2.alloc (.cells #[.int .i64 160, .func (.func 64) #[] #[.pointer (some ⟨N, 0, none⟩)], .int .i64 161, .func (.func 65) #[] #[.pointer (some ⟨N, 0, none⟩)], .int .i64 162, .func (.func 86) #[] #[.pointer (some ⟨B1, 0, none⟩)], .int .i64 163, .func (.func 87) #[] #[.pointer (some ⟨B2, 0, none⟩)], .int .i64 164, .func (.func 68) #[] #[.pointer (some ⟨N, 0, none⟩)]] 106)) N 68 #[.string n, .string u, .int .u8 b, .int .i64 c, .int .i64 l0, .int .i64 l1, .int .i64 l2, .string a, .int .i64 bk, .int .i64 bw]) :
    Calls Try.prog 63 #[.slice (some ⟨w2.heap.size, 0, none⟩) 5 5] (w2.alloc (.cells #[.int .i64 160, .func (.func 64) #[] #[.pointer (some ⟨N, 0, none⟩)], .int .i64 161, .func (.func 65) #[] #[.pointer (some ⟨N, 0, none⟩)], .int .i64 162, .func (.func 86) #[] #[.pointer (some ⟨B1, 0, none⟩)], .int .i64 163, .func (.func 87) #[] #[.pointer (some ⟨B2, 0, none⟩)], .int .i64 164, .func (.func 68) #[] #[.pointer (some ⟨N, 0, none⟩)]] 106)) fun e w' => e = .returned (.int .i64 (firstI [(160, namesB ⟨n, u, b, c, ⟨l0, l1, l2⟩, a, ⟨bk, bw⟩⟩), (161, bandB b), (162, cntB c), (163, limB ⟨l0, l1, l2⟩), (164, mayBud ⟨bk, bw⟩)])) ∧ Below (w2.alloc (.cells #[.int .i64 160, .func (.func 64) #[] #[.pointer (some ⟨N, 0, none⟩)], .int .i64 161, .func (.func 65) #[] #[.pointer (some ⟨N, 0, none⟩)], .int .i64 162, .func (.func 86) #[] #[.pointer (some ⟨B1, 0, none⟩)], .int .i64 163, .func (.func 87) #[] #[.pointer (some ⟨B2, 0, none⟩)], .int .i64 164, .func (.func 68) #[] #[.pointer (some ⟨N, 0, none⟩)]] 106)).heap.size (w2.alloc (.cells #[.int .i64 160, .func (.func 64) #[] #[.pointer (some ⟨N, 0, none⟩)], .int .i64 161, .func (.func 65) #[] #[.pointer (some ⟨N, 0, none⟩)], .int .i64 162, .func (.func 86) #[] #[.pointer (some ⟨B1, 0, none⟩)], .int .i64 163, .func (.func 87) #[] #[.pointer (some ⟨B2, 0, none⟩)], .int .i64 164, .func (.func 68) #[] #[.pointer (some ⟨N, 0, none⟩)]] 106)) w' := by
  have hX : Blk (w2.alloc (.cells #[.int .i64 160, .func (.func 64) #[] #[.pointer (some ⟨N, 0, none⟩)], .int .i64 161, .func (.func 65) #[] #[.pointer (some ⟨N, 0, none⟩)], .int .i64 162, .func (.func 86) #[] #[.pointer (some ⟨B1, 0, none⟩)], .int .i64 163, .func (.func 87) #[] #[.pointer (some ⟨B2, 0, none⟩)], .int .i64 164, .func (.func 68) #[] #[.pointer (some ⟨N, 0, none⟩)]] 106)) w2.heap.size 106 _ := Blk.new w2 _ _
  have hJ := hS.2.2.2.2
  clear hS
  replace hB1 : Blk (w2.alloc (.cells #[.int .i64 160, .func (.func 64) #[] #[.pointer (some ⟨N, 0, none⟩)], .int .i64 161, .func (.func 65) #[] #[.pointer (some ⟨N, 0, none⟩)], .int .i64 162, .func (.func 86) #[] #[.pointer (some ⟨B1, 0, none⟩)], .int .i64 163, .func (.func 87) #[] #[.pointer (some ⟨B2, 0, none⟩)], .int .i64 164, .func (.func 68) #[] #[.pointer (some ⟨N, 0, none⟩)]] 106)) B1 3 _ := (hB1.past hb2).alloc _
  replace hB2 : Blk (w2.alloc (.cells #[.int .i64 160, .func (.func 64) #[] #[.pointer (some ⟨N, 0, none⟩)], .int .i64 161, .func (.func 65) #[] #[.pointer (some ⟨N, 0, none⟩)], .int .i64 162, .func (.func 86) #[] #[.pointer (some ⟨B1, 0, none⟩)], .int .i64 163, .func (.func 87) #[] #[.pointer (some ⟨B2, 0, none⟩)], .int .i64 164, .func (.func 68) #[] #[.pointer (some ⟨N, 0, none⟩)]] 106)) B2 66 _ := hB2.alloc _
  generalize (w2.alloc (.cells #[.int .i64 160, .func (.func 64) #[] #[.pointer (some ⟨N, 0, none⟩)], .int .i64 161, .func (.func 65) #[] #[.pointer (some ⟨N, 0, none⟩)], .int .i64 162, .func (.func 86) #[] #[.pointer (some ⟨B1, 0, none⟩)], .int .i64 163, .func (.func 87) #[] #[.pointer (some ⟨B2, 0, none⟩)], .int .i64 164, .func (.func 68) #[] #[.pointer (some ⟨N, 0, none⟩)]] 106)) = W at *
  generalize w2.heap.size = g at *
  exact spec_first5 g 160 161 162 163 164 _ _ _ _ _ _ _ _ _ _ W hX (asks_job1 (j := ⟨n, u, b, c, ⟨l0, l1, l2⟩, a, ⟨bk, bw⟩⟩) hJ) (asks_job2 (j := ⟨n, u, b, c, ⟨l0, l1, l2⟩, a, ⟨bk, bw⟩⟩) hJ) (asks_counted hB1) (asks_limited (v := ⟨l0, l1, l2⟩) hB2) (asks_job3 (j := ⟨n, u, b, c, ⟨l0, l1, l2⟩, a, ⟨bk, bw⟩⟩) hJ)
set_option maxHeartbeats 40000000 in
theorem spec_Job (j : JobSpec) (w : World) :
    Calls Try.prog 35 #[j.v] w fun e w' => e = .returned (.int .i64 (jobI j)) ∧ Below w.heap.size w w' := by
  have hR : Hid (jobI j = firstI [(160, namesB j), (161, bandB j.band), (162, cntB j.count), (163, limB j.limit), (164, mayBud j.budget)]) := Lib.hid rfl
  generalize jobI j = z at *
  obtain ⟨n, u, b, c, ⟨l0, l1, l2⟩, a, ⟨bk, bw⟩⟩ := j
  have hJ : Blk (w.alloc (.cells #[.string n, .string u, .int .u8 b, .int .i64 c, .int .i64 l0, .int .i64 l1, .int .i64 l2, .string a, .int .i64 bk, .int .i64 bw] 68)) w.heap.size 68 #[.string n, .string u, .int .u8 b, .int .i64 c, .int .i64 l0, .int .i64 l1, .int .i64 l2, .string a, .int .i64 bk, .int .i64 bw] := Blk.new w _ _
  go_enter Try.func35, Try.ntmps35
  go_wp2_with fail
  go_region_held3 (fun w' => w'.cell? ⟨w.heap.size, 3, none⟩ = some (.int .i64 c) ∧ w'.cell? ⟨w.heap.size, 4, none⟩ = some (.int .i64 l0) ∧ w'.cell? ⟨w.heap.size, 5, none⟩ = some (.int .i64 l1) ∧ w'.cell? ⟨w.heap.size, 6, none⟩ = some (.int .i64 l2) ∧ Blk w' w.heap.size 68 #[.string n, .string u, .int .u8 b, .int .i64 c, .int .i64 l0, .int .i64 l1, .int .i64 l2, .string a, .int .i64 bk, .int .i64 bw])
    (first
      | exact ⟨hJ.cell 3, hJ.cell 4, hJ.cell 5, hJ.cell 6, hJ⟩
      | (with_reducible assumption)
      | exact ⟨by with_reducible assumption, by with_reducible assumption, by with_reducible assumption, by with_reducible assumption, by with_reducible assumption⟩
      | exact keepJ (by with_reducible assumption) (below_own (below_self _) _)
      | exact keepJ ⟨by with_reducible assumption, by with_reducible assumption, by with_reducible assumption, by with_reducible assumption, by with_reducible assumption⟩ (below_own (below_self _) _)
      | exact keepJ (by with_reducible assumption) hb3
      | exact keepJ (by with_reducible assumption) hb2
      | exact keepJ (by with_reducible assumption) hb1)
    (first
      | (go_at_call 66; refine (spec_counted _ _).mono ?_; rintro r w1 ⟨⟨B1, rfl, hB1⟩, hb1⟩)
      | (go_at_call 67; refine (spec_limited ⟨_, _, _⟩ _).mono ?_; rintro r w2 ⟨⟨B2, rfl, hB2⟩, hb2⟩)
      | (go_at_call 63; refine (job_first _ _ _ _ _ n u a b c l0 l1 l2 bk bw hb2 hB1 hB2 (by with_reducible assumption)).mono ?_; rintro r w3 ⟨rfl, hb3⟩))
  all_goals
    have hB := below_to (below_own (below_to (below_to (show Below w.heap.size w (w.alloc (.cells #[.string n, .string u, .int .u8 b, .int .i64 c, .int .i64 l0, .int .i64 l1, .int .i64 l2, .string a, .int .i64 bk, .int .i64 bw] 68)).drew by go_grown) hb1) hb2) _) hb3
    clear hb1 hb2 hb3 hB1 hB2 hJ
    go_wp2
    go_ret
    exact ⟨by rw [hR.out]; rfl, hB⟩
end Go.Proofs.Ythlninijnbmjfaa
