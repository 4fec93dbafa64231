/- The law of layer 17: how much a statement plays, walked. Conditions: the lists are within the reach. -/
import Derived.Test.YtcjgblopcfcakaaQt10
namespace Go.Proofs.Ytcjgblopcfcakaa
open Go.RowKit Go.MapKept

theorem tdiv32 (z : Nat) : ((z : Int)).tdiv 32 = ((z / 32 : Nat) : Int) := by rw [Int.tdiv_eq_ediv_of_nonneg (by omega)]; omega
set_option maxHeartbeats 1000000 in
theorem law_heavy (A B : Option Addr) (c d : Nat) (ls : List Share) (xs : List QStep) (w : World) (hn : ls.length ≤ 1000000000000000) (hm : xs.length ≤ 1000000000000000) (lok : ∀ s ∈ ls, s.ok) (xok : ∀ x ∈ xs, x.ok) (hA : SharesIn w A ls) (hB : QStepsIn w B xs) :
    Calls Try.prog 7 #[.slice A ls.length c, .slice B xs.length d] w fun e w' => ∃ r : Bool, e = .returned (.bool r) ∧ (r = false → ls.length + xs.length ≤ 1024) ∧ w = w' := by
  have q := tdiv32
  have HA := Lib.hid hA
  have HB := Lib.hid hB
  clear hA hB
  go_enter Try.func7, Try.ntmps7
  go_wp2_with fail
  go_loopw [5, 6] (fun n i wr => ∃ k m : Nat, i = .int .i64 k ∧ n = .int .i64 m ∧ k ≤ ls.length ∧ ls.length + xs.length ≤ m ∧ m ≤ 2000000000000000000 ∧ w = wr) (fun _ i _ => ls.length - (intOf i).toNat)
  case atStart => exact ⟨0, ls.length + xs.length, rfl, by go_num, Nat.zero_le _, Nat.le_refl _, by omega, rfl⟩
  case round =>
    obtain ⟨k, m, rfl, rfl, hk, hlow, hup, rfl⟩ := hrel
    by_cases hlt : k < ls.length
    · by_cases hbig : m ≤ 1024
      · obtain ⟨b, off, rfl, hb, hcell⟩ := HA.out (by intro e; rw [e] at hlt; simp at hlt)
        obtain ⟨k0, -⟩ := hcell k hlt
        have hs := (lok ls[k] (List.getElem_mem hlt)).1
        clear hcell
        generalize ls[k].user = u at *
        have q1 := q u.size
        go_wp2
        go_roundw
        case rel => exact ⟨k + 1, m + u.size / 32, by go_num, by go_num, hlt, by omega, by omega, by first | rfl | trivial⟩
        case measure => simp [intOf]; omega
      · have d1 : decide ((m : Int) ≤ 1024) = false := decide_eq_false (by omega)
        go_wp2_with fail
        go_loopw [5, 7] (fun n i wr => ∃ k m : Nat, i = .int .i64 k ∧ n = .int .i64 m ∧ k ≤ xs.length ∧ ls.length + xs.length ≤ m ∧ m ≤ 2000000000000000000 ∧ w = wr) (fun _ i _ => xs.length - (intOf i).toNat)
        case atStart => exact ⟨0, m, rfl, rfl, Nat.zero_le _, hlow, hup, rfl⟩
        case round =>
          obtain ⟨k, m, rfl, rfl, hk, hlow, hup, rfl⟩ := hrel
          by_cases hlt : k < xs.length
          · by_cases hbig : m ≤ 1024
            · obtain ⟨b, off, rfl, hb, hcell⟩ := HB.out (by intro e; rw [e] at hlt; simp at hlt)
              obtain ⟨-, k0, -⟩ := hcell k hlt
              have hs := (xok xs[k] (List.getElem_mem hlt)).2.1
              clear hcell
              generalize xs[k].user = u at *
              have q1 := q u.size
              go_wp2
              go_roundw
              case rel => exact ⟨k + 1, m + u.size / 32, by go_num, by go_num, hlt, by omega, by omega, by first | rfl | trivial⟩
              case measure => simp [intOf]; omega
            · have d1 : decide ((m : Int) ≤ 1024) = false := decide_eq_false (by omega)
              have d2 : decide (1024 < (m : Int)) = true := decide_eq_true (by omega)
              go_wp2_with fail
              go_ret
              exact ⟨true, rfl, (fun h => by cases h), rfl⟩
          · cases hd : decide (1024 < (m : Int)) with
            | true =>
              go_wp2_with fail
              go_ret
              exact ⟨true, rfl, (fun h => by cases h), rfl⟩
            | false =>
              have := of_decide_eq_false hd
              go_wp2_with fail
              refine bodyPost_ret (v := .bool false) (by simp [results, Try.results7, go_sem]) rfl ?_
              exact Or.inl ⟨rfl, by omega, rfl⟩
    · go_wp2_with fail
      go_loopw [5, 7] (fun n i wr => ∃ k m : Nat, i = .int .i64 k ∧ n = .int .i64 m ∧ k ≤ xs.length ∧ ls.length + xs.length ≤ m ∧ m ≤ 2000000000000000000 ∧ w = wr) (fun _ i _ => xs.length - (intOf i).toNat)
      case atStart => exact ⟨0, m, rfl, rfl, Nat.zero_le _, hlow, hup, rfl⟩
      case round =>
        obtain ⟨k, m, rfl, rfl, hk, hlow, hup, rfl⟩ := hrel
        by_cases hlt : k < xs.length
        · by_cases hbig : m ≤ 1024
          · obtain ⟨b, off, rfl, hb, hcell⟩ := HB.out (by intro e; rw [e] at hlt; simp at hlt)
            obtain ⟨-, k0, -⟩ := hcell k hlt
            have hs := (xok xs[k] (List.getElem_mem hlt)).2.1
            clear hcell
            generalize xs[k].user = u at *
            have q1 := q u.size
            go_wp2
            go_roundw
            case rel => exact ⟨k + 1, m + u.size / 32, by go_num, by go_num, hlt, by omega, by omega, by first | rfl | trivial⟩
            case measure => simp [intOf]; omega
          · have d1 : decide ((m : Int) ≤ 1024) = false := decide_eq_false (by omega)
            have d2 : decide (1024 < (m : Int)) = true := decide_eq_true (by omega)
            go_wp2_with fail
            go_ret
            exact ⟨true, rfl, (fun h => by cases h), rfl⟩
        · cases hd : decide (1024 < (m : Int)) with
          | true =>
            go_wp2_with fail
            go_ret
            exact ⟨true, rfl, (fun h => by cases h), rfl⟩
          | false =>
            have := of_decide_eq_false hd
            go_wp2_with fail
            refine bodyPost_ret (v := .bool false) (by simp [results, Try.results7, go_sem]) rfl ?_
            exact Or.inl ⟨rfl, by omega, rfl⟩
end Go.Proofs.Ytcjgblopcfcakaa
