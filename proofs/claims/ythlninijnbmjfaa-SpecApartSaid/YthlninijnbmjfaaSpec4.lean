/- The contract of spec.Alloc. Conditions: none. -/
import Derived.Test.YthlninijnbmjfaaSpec2
import Derived.Deep.RegionHeld3
namespace Go.Proofs.Ythlninijnbmjfaa
open Go.RowKit

def namesA (a : AllocSpec) : Bool := nameB a.name && nameB a.user
set_option maxHeartbeats 2000000 in
theorem spec_Alloc1 (B : Nat) (j : AllocSpec) (w : World) (h : Blk w B 79 j.cs) :
    Calls Try.prog 73 #[.pointer (some ⟨B, 0, none⟩)] w fun e w' => e = .returned (.bool (namesA j)) ∧ Below w.heap.size w w' := by
  have c1 := spec_Name j.name
  have c2 := spec_Name j.user
  unfold namesA
  generalize nameB j.name = b1 at *
  generalize nameB j.user = b2 at *
  obtain ⟨n, u, c, ⟨l0, l1, l2⟩⟩ := j
  dsimp only at c1 c2 ⊢
  have C1 := Lib.hid c1
  have C2 := Lib.hid c2
  clear c1 c2
  have hB : Below w.heap.size w w := below_self w
  obtain ⟨Jc, Jf, Jl⟩ := h.facts
  go_enter Try.func73, Try.ntmps73
  go_wp2_with fail
  refine (C1.out _).mono ?_
  rintro r w1 ⟨rfl, hb⟩; dsimp only
  clear Jc Jf Jl
  replace h := h.past hb
  replace hB := below_to hB hb
  clear hb
  obtain ⟨Jc, Jf, Jl⟩ := h.facts
  cases b1 with
  | false =>
    go_wp2
    go_ret
    exact ⟨by simp, hB⟩
  | true =>
    go_wp2_with fail
    refine (C2.out _).mono ?_
    rintro r w2 ⟨rfl, hb⟩; dsimp only
    replace hB := below_to hB hb
    go_wp2
    go_ret
    exact ⟨by simp, hB⟩
theorem asks_alloc1 {B : Nat} {j : AllocSpec} {w : World} (h : Blk w B 79 j.cs) : Asks w (.func (.func 73) #[] #[.pointer (some ⟨B, 0, none⟩)]) (namesA j) :=
  ⟨_, _, rfl, fun args W => enters_of Try.func73 (by kernel_rfl) rfl args W, fun W hb => spec_Alloc1 B j W (h.past hb)⟩
/-- What is wrong first with a set. -/
def allocI (j : AllocSpec) : Int := firstI [(160, namesA j), (162, cntB j.count), (163, limB j.limit)]
theorem keepA {N : Nat} {n u : ByteArray} {c l0 l1 l2 : Int} {W W' : World}
    (h : (W.cell? ⟨N, 2, none⟩ = some (.int .i64 c) ∧ W.cell? ⟨N, 3, none⟩ = some (.int .i64 l0) ∧ W.cell? ⟨N, 4, none⟩ = some (.int .i64 l1) ∧ W.cell? ⟨N, 5, none⟩ = some (.int .i64 l2) ∧ Blk W N 79 #[.string n, .string u, .int .i64 c, .int .i64 l0, .int .i64 l1, .int .i64 l2])) (hb : Below W.heap.size W W') :
    (W'.cell? ⟨N, 2, none⟩ = some (.int .i64 c) ∧ W'.cell? ⟨N, 3, none⟩ = some (.int .i64 l0) ∧ W'.cell? ⟨N, 4, none⟩ = some (.int .i64 l1) ∧ W'.cell? ⟨N, 5, none⟩ = some (.int .i64 l2) ∧ Blk W' N 79 #[.string n, .string u, .int .i64 c, .int .i64 l0, .int .i64 l1, .int .i64 l2]) := by
  have h' := h.2.2.2.2.past hb
  exact ⟨h'.cell 2, h'.cell 3, h'.cell 4, h'.cell 5, h'⟩
set_option maxHeartbeats 400000 in
theorem alloc_first (w1 w2 : World) (N B1 B2 : Nat) (n u : ByteArray) (c l0 l1 l2 : Int) (hb2 : Below w1.heap.size w1 w2) (hB1 : Blk w1 B1 3 #[.int .i64 c]) (hB2 : Blk w2 B2 66 #[.int .i64 l0, .int .i64 l1, .int .i64 l2])
    (hS : (w2.alloc (.cells #[.int .i64 160, .func (.func 73) #[] #[.pointer (some ⟨N, 0, none⟩)], .int .i64 162, .func (.func 86) #[] #[.pointer (some ⟨B1, 0, none⟩)], .int .i64 163, .func (.func 87) #[] #[.pointer (some ⟨B2, 0, none⟩)]] 106)).cell? ⟨N, 2, none⟩ = some (.int .i64 c) ∧ (w2.alloc (.cells #[.int .i64 160, .func (.func 73) #[] #[.pointer (some ⟨N, 0, none⟩)], .int .i64 162, .func (.func 86) #[] #[.pointer (some ⟨B1, 0, none⟩)], .int .i64 163, .func (.func 87) #[] #[.pointer (some ⟨B2, 0, none⟩)]] 106)).cell? ⟨N, 3, none⟩ = some (.int .i64 l0) ∧ (w2.alloc (.cells #[.int .i64 160, .func (.func 73) #[] #[.pointer (some ⟨N, 0, none⟩)], .int .i64 162, .func (.func 86) #[] #[.pointer (some ⟨B1, 0, none⟩)], .int .i64 163, .func (.func 87) #[] #[.pointer (some ⟨B2, 0, none⟩)]] 106)).cell? ⟨N, 4, none⟩ = some (.int .i64 l1) ∧ (w2.alloc (.cells #[.int .i64 160, .func (.func 73) #[] #[.pointer (some ⟨N, 0, none⟩)], .int .i64 162, .func (.func 86) #[] #[.pointer (some ⟨B1, 0, none⟩)], .int .i64 163, .func (.func 87) #[] #[.pointer (some ⟨B2, 0, none⟩)]] 106)).cell? ⟨N, 5, none⟩ = some (.int .i64 l2) ∧ Blk (w2.alloc (.cells #[.int .i64 160, .func (.func 73) #[] #[.pointer (some ⟨N, 0, none⟩)], .int .i64 162, .func (.func 86) #[] #[.pointer (some ⟨B1, 0, none⟩)], .int .i64 163, .func (.func 87) #[] #[.pointer (some ⟨B2, 0, none⟩)]] 106)) N 79 #[.string n, .string u, .int .i64 c, .int .i64 l0, .int .i64 l1, .int .i64 l2]) :
    Calls Try.prog 63 #[.slice (some ⟨w2.heap.size, 0, none⟩) 3 3] (w2.alloc (.cells #[.int .i64 160, .func (.func 73) #[] #[.pointer (some ⟨N, 0, none⟩)], .int .i64 162, .func (.func 86) #[] #[.pointer (some ⟨B1, 0, none⟩)], .int .i64 163, .func (.func 87) #[] #[.pointer (some ⟨B2, 0, none⟩)]] 106)) fun e w' => e = .returned (.int .i64 (firstI [(160, namesA ⟨n, u, c, ⟨l0, l1, l2⟩⟩), (162, cntB c), (163, limB ⟨l0, l1, l2⟩)])) ∧ Below (w2.alloc (.cells #[.int .i64 160, .func (.func 73) #[] #[.pointer (some ⟨N, 0, none⟩)], .int .i64 162, .func (.func 86) #[] #[.pointer (some ⟨B1, 0, none⟩)], .int .i64 163, .func (.func 87) #[] #[.pointer (some ⟨B2, 0, none⟩)]] 106)).heap.size (w2.alloc (.cells #[.int .i64 160, .func (.func 73) #[] #[.pointer (some ⟨N, 0, none⟩)], .int .i64 162, .func (.func 86) #[] #[.pointer (some ⟨B1, 0, none⟩)], .int .i64 163, .func (.func 87) #[] #[.pointer (some ⟨B2, 0, none⟩)]] 106)) w' := by
  have hX : Blk (w2.alloc (.cells #[.int .i64 160, .func (.func 73) #[] #[.pointer (some ⟨N, 0, none⟩)], .int .i64 162, .func (.func 86) #[] #[.pointer (some ⟨B1, 0, none⟩)], .int .i64 163, .func (.func 87) #[] #[.pointer (some ⟨B2, 0, none⟩)]] 106)) w2.heap.size 106 _ := Blk.new w2 _ _
  have hJ := hS.2.2.2.2
  clear hS
  replace hB1 : Blk (w2.alloc (.cells #[.int .i64 160, .func (.func 73) #[] #[.pointer (some ⟨N, 0, none⟩)], .int .i64 162, .func (.func 86) #[] #[.pointer (some ⟨B1, 0, none⟩)], .int .i64 163, .func (.func 87) #[] #[.pointer (some ⟨B2, 0, none⟩)]] 106)) B1 3 _ := (hB1.past hb2).alloc _
  replace hB2 : Blk (w2.alloc (.cells #[.int .i64 160, .func (.func 73) #[] #[.pointer (some ⟨N, 0, none⟩)], .int .i64 162, .func (.func 86) #[] #[.pointer (some ⟨B1, 0, none⟩)], .int .i64 163, .func (.func 87) #[] #[.pointer (some ⟨B2, 0, none⟩)]] 106)) B2 66 _ := hB2.alloc _
  generalize (w2.alloc (.cells #[.int .i64 160, .func (.func 73) #[] #[.pointer (some ⟨N, 0, none⟩)], .int .i64 162, .func (.func 86) #[] #[.pointer (some ⟨B1, 0, none⟩)], .int .i64 163, .func (.func 87) #[] #[.pointer (some ⟨B2, 0, none⟩)]] 106)) = W at *
  generalize w2.heap.size = g at *
  exact spec_first3 g 160 162 163 _ _ _ _ _ _ W hX (asks_alloc1 (j := ⟨n, u, c, ⟨l0, l1, l2⟩⟩) hJ) (asks_counted hB1) (asks_limited (v := ⟨l0, l1, l2⟩) hB2)
set_option maxHeartbeats 4000000 in
theorem spec_Alloc (j : AllocSpec) (w : World) :
    Calls Try.prog 42 #[j.v] w fun e w' => e = .returned (.int .i64 (allocI j)) ∧ Below w.heap.size w w' := by
  have hR : Hid (allocI j = firstI [(160, namesA j), (162, cntB j.count), (163, limB j.limit)]) := Lib.hid rfl
  generalize allocI j = z at *
  obtain ⟨n, u, c, ⟨l0, l1, l2⟩⟩ := j
  have hJ : Blk (w.alloc (.cells #[.string n, .string u, .int .i64 c, .int .i64 l0, .int .i64 l1, .int .i64 l2] 79)) w.heap.size 79 #[.string n, .string u, .int .i64 c, .int .i64 l0, .int .i64 l1, .int .i64 l2] := Blk.new w _ _
  go_enter Try.func42, Try.ntmps42
  go_wp2_with fail
  go_region_held3 (fun w' => w'.cell? ⟨w.heap.size, 2, none⟩ = some (.int .i64 c) ∧ w'.cell? ⟨w.heap.size, 3, none⟩ = some (.int .i64 l0) ∧ w'.cell? ⟨w.heap.size, 4, none⟩ = some (.int .i64 l1) ∧ w'.cell? ⟨w.heap.size, 5, none⟩ = some (.int .i64 l2) ∧ Blk w' w.heap.size 79 #[.string n, .string u, .int .i64 c, .int .i64 l0, .int .i64 l1, .int .i64 l2])
    (first
      | exact ⟨hJ.cell 2, hJ.cell 3, hJ.cell 4, hJ.cell 5, hJ⟩
      | (with_reducible assumption)
      | exact ⟨by with_reducible assumption, by with_reducible assumption, by with_reducible assumption, by with_reducible assumption, by with_reducible assumption⟩
      | exact keepA (by with_reducible assumption) (below_own (below_self _) _)
      | exact keepA ⟨by with_reducible assumption, by with_reducible assumption, by with_reducible assumption, by with_reducible assumption, by with_reducible assumption⟩ (below_own (below_self _) _)
      | exact keepA (by with_reducible assumption) hb3
      | exact keepA (by with_reducible assumption) hb2
      | exact keepA (by with_reducible assumption) hb1)
    (first
      | (go_at_call 66; refine (spec_counted _ _).mono ?_; rintro r w1 ⟨⟨B1, rfl, hB1⟩, hb1⟩; dsimp only)
      | (go_at_call 67; refine (spec_limited ⟨_, _, _⟩ _).mono ?_; rintro r w2 ⟨⟨B2, rfl, hB2⟩, hb2⟩; dsimp only)
      | (go_at_call 63; refine (alloc_first _ _ _ _ _ n u c l0 l1 l2 hb2 hB1 hB2 (by with_reducible assumption)).mono ?_; rintro r w3 ⟨rfl, hb3⟩; dsimp only))
  all_goals
    have hB := below_to (below_own (below_to (below_to (show Below w.heap.size w (w.alloc (.cells #[.string n, .string u, .int .i64 c, .int .i64 l0, .int .i64 l1, .int .i64 l2] 79)).drew by go_grown) hb1) hb2) _) hb3
    clear hb1 hb2 hb3 hB1 hB2 hJ
    go_wp2
    go_ret
    exact ⟨by rw [hR.out]; rfl, hB⟩
end Go.Proofs.Ythlninijnbmjfaa
