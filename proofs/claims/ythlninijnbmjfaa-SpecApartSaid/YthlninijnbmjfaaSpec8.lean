/- The known run of reevelaw16, and the laws SpecJobs, SpecAllocs, walked. Conditions: the numbers are of their kinds. -/
import Derived.Test.YthlninijnbmjfaaSpec7
namespace Go.Proofs.Ythlninijnbmjfaa
open Go.RowKit

def lenSum (l : List ByteArray) : Nat := (l.map fun s => min s.size 8192).sum
theorem lenSum_snoc (l : List ByteArray) (k : Nat) (h : k < l.length) : lenSum (l.take (k + 1)) = lenSum (l.take k) + min l[k].size 8192 := by
  unfold lenSum
  rw [List.take_succ_eq_append_getElem h, List.map_append, List.sum_append]
  simp
theorem lenSum_bd (l : List ByteArray) : lenSum l ≤ 8192 * l.length := by
  unfold lenSum
  induction l with
  | nil => simp
  | cons s l ih => simp only [List.map_cons, List.sum_cons, List.length_cons]; omega
set_option maxHeartbeats 1000000 in
theorem law_long (g n cp : Nat) (l : List ByteArray) (w : World) (hl : l.length = n) (hn : n ≤ 100) (hb : g < w.heap.size) (hs : ∀ s ∈ l, s.size ≤ 9223372036854775807) (hc : ∀ i (h : i < l.length), w.cell? ⟨g, i, none⟩ = some (.string l[i])) :
    Calls Try.prog 31 #[.slice (some ⟨g, 0, none⟩) n cp] w fun e w' => e = .returned (.bool (decide (4096 < lenSum l))) ∧ w = w' := by
  subst hl
  have HC := Lib.hid hc
  have HS := Lib.hid hs
  clear hc hs
  go_enter Try.func31, Try.ntmps31
  go_wp2_with fail
  go_loop [3, 4] (fun x i => ∃ k : Nat, k ≤ l.length ∧ i = .int .i64 k ∧ x = .int .i64 (lenSum (l.take k))) (fun _ i => l.length - (intOf i).toNat)
  case atStart => exact ⟨0, Nat.zero_le _, rfl, rfl⟩
  case round =>
    obtain ⟨k, hk, rfl, rfl⟩ := hrel
    by_cases hlt : k < l.length
    · have hcell := HC.out k hlt
      have hsz := HS.out l[k] (List.getElem_mem hlt)
      have hsn := Lib.hid (lenSum_snoc l k hlt)
      have hbd := lenSum_bd (l.take k)
      have hbl : (l.take k).length ≤ k := List.length_take_le _ _
      generalize l[k] = s at *
      generalize lenSum (l.take k) = q at *
      have hq : q ≤ 819200 := by omega
      clear hbd hbl
      go_wp2
      all_goals
        go_round
        case rel => exact ⟨k + 1, by omega, by go_num, by rw [hsn.out]; first | go_num | (congr 1; omega)⟩
        case measure => simp [intOf]; omega
    · obtain rfl : k = l.length := by omega
      have ht : Hid (lenSum (l.take l.length) = lenSum l) := Lib.hid (by rw [List.take_length])
      go_wp2
      go_ret
      exact ⟨by rw [show decide ((4096 : Int) < ↑(lenSum l)) = decide (4096 < lenSum l) from decide_eq_decide.mpr (by omega)]; rfl, rfl⟩
abbrev webB : ByteArray := ⟨#[119, 101, 98]⟩
set_option maxHeartbeats 1000000 in
theorem law_Web (w : World) : Calls Try.prog 60 #[] w fun e w' => e = .returned (.agg #[.string ⟨#[119, 101, 98]⟩, .string ⟨#[97, 110, 110]⟩, .int .u8 1, .int .i64 3, .int .i64 1, .int .i64 1, .int .i64 1, .string ⟨#[]⟩, .int .i64 1, .int .i64 100]) ∧ Below w.heap.size w w' := by
  go_enter Try.func60, Try.ntmps60
  go_wp2
  go_returns
  exact ⟨rfl, by go_grown⟩
set_option maxRecDepth 100000 in
set_option maxHeartbeats 4000000 in
theorem alive16 (w : World) : Calls Try.prog 32 #[] w fun e w' => e = .returned (.bool true) ∧ Below w.heap.size w w' := by
  have c1 : ∀ w, Calls Try.prog 33 #[.agg #[.string ⟨#[119, 101, 98]⟩, .string ⟨#[97, 110, 110]⟩, .int .u8 1, .int .i64 3, .int .i64 1, .int .i64 1, .int .i64 1, .string ⟨#[]⟩, .int .i64 1, .int .i64 100]] w fun e w' => e = .returned (.tuple #[.agg #[.int .i64 3, .int .i64 3, .int .i64 3], .int .i64 0]) ∧ Below w.heap.size w w' := by
    intro w
    have c := spec_Total ⟨⟨#[119, 101, 98]⟩, ⟨#[97, 110, 110]⟩, 1, 3, ⟨1, 1, 1⟩, ⟨#[]⟩, ⟨1, 100⟩⟩ (by decide) (by decide) w
    rw [show allR (jobI ⟨⟨#[119, 101, 98]⟩, ⟨#[97, 110, 110]⟩, 1, 3, ⟨1, 1, 1⟩, ⟨#[]⟩, ⟨1, 100⟩⟩) ⟨1, 1, 1⟩ 3 = (⟨3, 3, 3⟩, 0) by decide +kernel] at c
    exact c
  have c2 : ∀ w, Calls Try.prog 40 #[.agg #[.string ⟨#[115, 101, 116]⟩, .string ⟨#[97, 110, 110]⟩, .int .i64 2, .int .i64 0, .int .i64 4, .int .i64 0]] w fun e w' => e = .returned (.tuple #[.agg #[.int .i64 0, .int .i64 8, .int .i64 0], .int .i64 0]) ∧ Below w.heap.size w w' := by
    intro w
    have c := spec_Held ⟨⟨#[115, 101, 116]⟩, ⟨#[97, 110, 110]⟩, 2, ⟨0, 4, 0⟩⟩ (by decide) (by decide) w
    rw [show allR (allocI ⟨⟨#[115, 101, 116]⟩, ⟨#[97, 110, 110]⟩, 2, ⟨0, 4, 0⟩⟩) ⟨0, 4, 0⟩ 2 = (⟨0, 8, 0⟩, 0) by decide +kernel] at c
    exact c
  have c3 : ∀ w, Calls Try.prog 35 #[.agg #[.string ⟨#[119, 101, 98]⟩, .string ⟨#[65, 110, 110]⟩, .int .u8 1, .int .i64 3, .int .i64 1, .int .i64 1, .int .i64 1, .string ⟨#[]⟩, .int .i64 1, .int .i64 100]] w fun e w' => e = .returned (.int .i64 160) ∧ Below w.heap.size w w' := by
    intro w
    have c := spec_Job ⟨⟨#[119, 101, 98]⟩, ⟨#[65, 110, 110]⟩, 1, 3, ⟨1, 1, 1⟩, ⟨#[]⟩, ⟨1, 100⟩⟩ w
    rw [show jobI ⟨⟨#[119, 101, 98]⟩, ⟨#[65, 110, 110]⟩, 1, 3, ⟨1, 1, 1⟩, ⟨#[]⟩, ⟨1, 100⟩⟩ = 160 by decide +kernel] at c
    exact c
  have c4 := spec_Name ⟨#[97, 45, 49]⟩
  rw [show nameB ⟨#[97, 45, 49]⟩ = true by decide +kernel] at c4
  have c5 := spec_Name ⟨#[45, 97]⟩
  rw [show nameB ⟨#[45, 97]⟩ = false by decide +kernel] at c5
  have c6 := spec_May ⟨0, 1⟩
  rw [show mayBud ⟨0, 1⟩ = true by decide] at c6
  have C0 := Lib.hid law_Web
  have C1 := Lib.hid c1
  have C2 := Lib.hid c2
  have C3 := Lib.hid c3
  have C4 := Lib.hid c4
  have C5 := Lib.hid c5
  have C6 := Lib.hid c6
  clear c1 c2 c3 c4 c5 c6
  have q1 := eql_vec
  have q2 := eqV_self
  go_enter Try.func32, Try.ntmps32
  go_wp2_with fail
  refine (C0.out _).mono ?_
  rintro r w1 ⟨rfl, hb⟩; dsimp only
  have hB : Below w.heap.size w w1 := hb
  have hs1 := hb.size
  go_wp2_with fail
  refine (C1.out _).mono ?_
  rintro r w2 ⟨rfl, hb2⟩; dsimp only
  have h := (Blk.new w1 68 #[.string ⟨#[119, 101, 98]⟩, .string ⟨#[97, 110, 110]⟩, .int .u8 1, .int .i64 3, .int .i64 1, .int .i64 1, .int .i64 1, .string ⟨#[]⟩, .int .i64 1, .int .i64 100]).past hb2
  have hB : Below w.heap.size w w2 := below_to (below_own hb _) hb2
  clear hb hb2
  obtain ⟨Jc, Jf, Jl⟩ := h.facts
  go_wp2_with fail
  refine (C2.out _).mono ?_
  rintro r w3 ⟨rfl, hb3⟩; dsimp only
  have H := (((h.put 1 (.string ⟨#[65, 110, 110]⟩) rfl).alloc _).alloc _).past hb3
  have T := ((Blk.new (w2.setCell ⟨w1.heap.size, 1, none⟩ (.string ⟨#[65, 110, 110]⟩)) 66 #[.int .i64 3, .int .i64 3, .int .i64 3]).alloc _).past hb3
  simp only [World.size_setCell] at T
  replace hB : Below w.heap.size w w3 := below_to (below_own (below_own (hB.setCell (p := ⟨w1.heap.size, 1, none⟩) (by omega) _) _) _) hb3
  clear hb3 h Jc Jf Jl
  obtain ⟨Hc, Hf, Hl⟩ := H.facts
  obtain ⟨Tc, Tf, Tl⟩ := T.facts
  generalize w2.heap.size = n2 at *
  go_wp2_with fail
  refine (C3.out _).mono ?_
  rintro r w4 ⟨rfl, hb4⟩; dsimp only
  have S := (Blk.new w3 66 #[.int .i64 0, .int .i64 8, .int .i64 0]).past hb4
  replace hB : Below w.heap.size w w4 := below_to (below_own hB _) hb4
  clear hb4 H T Hc Hf Hl Tc Tf Tl
  obtain ⟨Sc, Sf, Sl⟩ := S.facts
  go_wp2_with fail
  refine (C4.out _).mono ?_
  rintro r w5 ⟨rfl, hb5⟩; dsimp only
  replace hB : Below w.heap.size w w5 := below_to hB hb5
  clear hb5 S Sc Sf Sl
  go_wp2_with fail
  refine (C5.out _).mono ?_
  rintro r w5' ⟨rfl, hb5⟩; dsimp only
  replace hB : Below w.heap.size w w5' := below_to hB hb5
  clear hb5
  go_wp2_with fail
  refine (C6.out _).mono ?_
  rintro r w6 ⟨rfl, hb6⟩; dsimp only
  replace hB : Below w.heap.size w w6 := below_to hB hb6
  go_wp2_with fail
  go_ret
  exact ⟨rfl, hB⟩
end Go.Proofs.Ythlninijnbmjfaa
