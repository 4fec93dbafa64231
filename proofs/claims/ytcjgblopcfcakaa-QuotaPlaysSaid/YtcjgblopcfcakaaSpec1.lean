/- Names, as package spec and the document's answer for it check them. Conditions: the string is within the reach. -/
import Derived.Test.YtcjgblopcfcakaaK4
import Derived.Test.YtcjgblopcfcakaaK5
import Derived.Test.YtcjgblopcfcakaaShelf
import Derived.Laws.RangeString
import Derived.Laws.RangeAny
import Derived.Laws.EntriesVeiled
namespace Go.Proofs.Ytcjgblopcfcakaa
open Go.RowKit

def small (c : Nat) : Bool := decide (97 ≤ c) && decide (c ≤ 122)
def okC (c : Nat) : Bool := small c || (decide (48 ≤ (c : Int)) && decide ((c : Int) ≤ 57)) || (c : Int) == 46 || (c : Int) == 95 || (c : Int) == 45
/-- A name that may be. -/
def nameB (s : ByteArray) : Bool := decide (1 ≤ s.size) && decide (s.size ≤ 32) && small (s.get! 0).toNat && s.data.toList.all fun x => okC x.toNat
theorem okC_high {c : Nat} (h : 128 ≤ c) : okC c = false := by
  unfold okC small
  simp
  omega
theorem idx_name (s : ByteArray) : ∀ (f pos : Nat), s.size - pos ≤ f → (Lib.idxFuncFrom (fun x => !okC x) true s f pos < 0 ↔ ∀ j (h : j < s.size), pos ≤ j → okC s[j].toNat = true)
  | 0, pos, hf => by
    unfold Lib.idxFuncFrom
    exact ⟨fun _ j h hj => by omega, fun _ => by decide⟩
  | f + 1, pos, hf => by
    unfold Lib.idxFuncFrom
    by_cases hp : pos < s.size
    · rw [if_pos hp]
      rcases Nat.lt_or_ge s[pos].toNat 128 with ha | ha
      · rw [decode_ascii s pos hp ha]
        dsimp only
        cases ho : okC s[pos].toNat with
        | false =>
          rw [if_pos (by rw [Bool.not_false])]
          exact ⟨fun h => by omega, fun h => by have := h pos hp (Nat.le_refl _); rw [ho] at this; cases this⟩
        | true =>
          rw [if_neg (by simp), idx_name s f (pos + 1) (by omega)]
          exact ⟨fun h j hj hpj => by
            rcases Nat.lt_or_ge pos j with h1 | h1
            · exact h j hj h1
            · obtain rfl : pos = j := by omega
              exact ho, fun h j hj hpj => h j hj (by omega)⟩
      · obtain ⟨d1, d2⟩ := decode_high s pos hp ha
        rw [if_pos (by rw [okC_high d1]; rfl)]
        exact ⟨fun h => by omega, fun h => by have := h pos hp (Nat.le_refl _); rw [okC_high ha] at this; cases this⟩
    · rw [if_neg hp]
      exact ⟨fun _ j h hj => by omega, fun _ => by decide⟩
theorem idx_all (s : ByteArray) : decide (Lib.idxFunc (fun x => !okC x) true s < 0) = s.data.toList.all fun x => okC x.toNat := by
  rw [Bool.eq_iff_iff, decide_eq_true_eq, Lib.idxFunc, idx_name s s.size 0 (by omega), List.all_eq_true]
  constructor
  · intro h x hx
    obtain ⟨j, hj, rfl⟩ := List.getElem_of_mem hx
    exact h j (by simpa using hj) (Nat.zero_le _)
  · intro h j hj _
    exact h _ (List.getElem_mem (by simpa using hj))

set_option maxHeartbeats 400000 in
theorem spec_small (c : Nat) (w : World) :
    Calls Try.prog 46 #[.int .i32 c] w fun e w' => e = .returned (.bool (small c)) ∧ w = w' := by
  unfold small
  by_cases h : 97 ≤ c
  all_goals
    go_enter Try.func46, Try.ntmps46
    go_wp2
    go_ret
    exact ⟨by first | (simp [*]; done) | (simp [*]; intros; omega), rfl⟩
set_option maxHeartbeats 400000 in
theorem spec_other (B : Nat) (c : Nat) (w : World) (hb : Blk w B 77 #[.func (.func 46) #[] #[]]) :
    Calls Try.prog 47 #[.int .i32 c, .pointer (some ⟨B, 0, none⟩)] w fun e w' => e = .returned (.bool (!okC c)) ∧ w = w' := by
  obtain ⟨Bc, Bf, Bl⟩ := hb.facts
  have c1 := Lib.hid (spec_small c)
  unfold okC
  cases hs : small c with
  | true =>
    rw [hs] at c1
    go_enter Try.func47, Try.ntmps47
    go_wp2_with fail
    refine (c1.out _).mono ?_
    rintro r ww ⟨rfl, rfl⟩; dsimp only
    go_wp2
    go_ret
    exact ⟨by simp, rfl⟩
  | false =>
    rw [hs] at c1
    by_cases h0 : 48 ≤ c
    · by_cases h1 : c ≤ 57
      all_goals
        go_enter Try.func47, Try.ntmps47
        go_wp2_with fail
        refine (c1.out _).mono ?_
        rintro r ww ⟨rfl, rfl⟩; dsimp only
        go_wp2
        all_goals
          go_ret
          exact ⟨by simp [*, bne], rfl⟩
    · have h0' : decide ((48 : Int) ≤ c) = false := decide_eq_false (by omega)
      go_enter Try.func47, Try.ntmps47
      go_wp2_with fail
      refine (c1.out _).mono ?_
      rintro r ww ⟨rfl, rfl⟩; dsimp only
      go_wp2
      all_goals
        go_ret
        exact ⟨by rw [h0']; first | (simp [bne]; done) | (simp [*, bne]; done) | (simp_all [bne]; done), rfl⟩
theorem enters_small (args : Array Value) (w : World) : (callFunc 46 args).run Try.prog w = .ok (.enter 46 args) w := enters_of Try.func46 (by kernel_rfl) rfl args w
theorem enters_other (args : Array Value) (w : World) : (callFunc 47 args).run Try.prog w = .ok (.enter 47 args) w := enters_of Try.func47 (by kernel_rfl) rfl args w
theorem str_none {s : ByteArray} (h : s.size = 0) : s.toList.isEmpty = true := by
  rw [ByteArray.toList_eq, List.isEmpty_iff, ← List.length_eq_zero_iff]
  simpa using h
theorem str_some {s : ByteArray} (h : s.size ≠ 0) : s.toList.isEmpty = false := by
  rw [ByteArray.toList_eq, Bool.eq_false_iff]
  intro e
  rw [List.isEmpty_iff, ← List.length_eq_zero_iff] at e
  exact h (by simpa using e)
set_option maxHeartbeats 1000000 in
theorem spec_Name (s : ByteArray) (w : World) :
    Calls Try.prog 24 #[.string s] w fun e w' => e = .returned (.bool (nameB s)) ∧ Below w.heap.size w w' := by
  have e1 := enters_small
  unfold nameB
  by_cases h0 : s.size = 0
  · have hz := str_none h0
    go_enter Try.func24, Try.ntmps24
    go_wp2
    refine wp_region_ext (by kernel_rfl) (by kernel_rfl) ?_
    repeat (go_big_quiet_step (fail))
    refine wpQuiet_nil ?_
    rintro w1 ⟨x, rfl⟩
    go_wp2
    go_ret
    exact ⟨by simp [h0], below_to (below_own (below_self w) _) (extn_below _ x)⟩
  · have hz := str_some h0
    by_cases h32 : 32 < s.size
    · have hd : decide ((32 : Int) < s.size) = true := decide_eq_true (by omega)
      go_enter Try.func24, Try.ntmps24
      go_wp2
      refine wp_region_ext (by kernel_rfl) (by kernel_rfl) ?_
      repeat (go_big_quiet_step (fail))
      refine wpQuiet_nil ?_
      rintro w1 ⟨x, rfl⟩
      go_wp2
      go_ret
      exact ⟨by simp; omega, below_to (below_own (below_self w) _) (extn_below _ x)⟩
    · have hd : decide ((32 : Int) < s.size) = false := decide_eq_false (by omega)
      have hlt : 0 < s.size := by omega
      have hg : s.get! 0 = s[0] := by simp [ByteArray.get!, hlt]; rfl
      have c1 : ∀ w, Calls Try.prog 46 #[.int .i32 s[0].toNat] w fun e w' => e = .returned (.bool (small s[0].toNat)) ∧ Below w.heap.size w w' := fun w => (spec_small s[0].toNat w).mono fun _ _ ⟨he, hw⟩ => ⟨he, hw ▸ below_self _⟩
      have c2 := fun (B : Nat) (W : World) (h : Blk W B 77 #[.func (.func 46) #[] #[]]) => Try.strings_IndexFunc_grows 47 #[.pointer (some ⟨B, 0, none⟩)] enters_other (fun x => !okC x) s W (fun W' x hx hb => (spec_other B x W' (h.past hb)).mono fun _ _ ⟨he, hw⟩ => ⟨he, hw ▸ below_self _⟩)
      have hw32 : wrap32 (s[0].toNat : Int) = (s[0].toNat : Int) := by have := s[0].toNat_lt; unfold wrap32; omega
      have hi := idx_all s
      have C2 := Lib.hid c2
      clear c2
      cases hs : small s[0].toNat with
      | false =>
        rw [hs] at c1
        have C1 := Lib.hid c1
        clear c1
        go_enter Try.func24, Try.ntmps24
        go_wp2
        refine wp_region_ext (by kernel_rfl) (by kernel_rfl) ?_
        repeat (go_big_quiet_step ((go_at_call 46; with_reducible exact ext_of (C1.out _))))
        refine wpQuiet_nil ?_
        rintro w1 ⟨x, rfl⟩
        go_wp2
        go_ret
        exact ⟨by simp [hg, hs], below_to (below_own (below_self w) _) (extn_below _ x)⟩
      | true =>
        rw [hs] at c1
        have C1 := Lib.hid c1
        clear c1
        go_enter Try.func24, Try.ntmps24
        go_wp2
        have hT := Blk.new w 77 #[.func (.func 46) #[] #[]]
        refine wp_region_ext (by kernel_rfl) (by kernel_rfl) ?_
        repeat (go_big_quiet_step ((go_at_call 46; with_reducible exact ext_of (C1.out _))))
        refine wpQuiet_nil ?_
        rintro w1 ⟨x, rfl⟩
        go_wp2_with fail
        refine (C2.out _ _ (hT.past (extn_below _ x))).mono ?_
        rintro r w2 ⟨rfl, hb⟩; dsimp only
        go_wp2_with fail
        go_ret
        exact ⟨by simp [hg, hs, hi]; omega, below_to (below_to (below_own (below_self w) _) (extn_below _ x)) hb⟩
end Go.Proofs.Ytcjgblopcfcakaa
