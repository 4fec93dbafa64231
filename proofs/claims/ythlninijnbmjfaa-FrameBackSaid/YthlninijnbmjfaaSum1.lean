/- The contracts of package sum: what each function hands back, as plain Lean. Conditions: none. -/
import Derived.Test.YthlninijnbmjfaaSum0
import Derived.Test.YthlninijnbmjfaaK4
import Derived.Laws.BitsAllLaws
import Derived.Laws.Tables
import Derived.Laws.CopyOwn
namespace Go.Proofs.Ythlninijnbmjfaa
open Go.RowKit

/-- A number of 32 bits, as it stands in memory. -/
def u (c : B32) : Int := (c.toNat : Int)
theorem u_bd (c : B32) : 0 ≤ u c ∧ u c ≤ 4294967295 := by have := c.isLt; unfold u; omega
theorem u_poly : (2197175160 : Int) = u poly := rfl
theorem u_xor (a b : B32) : bits .xor .u32 (u a) (u b) = u (a ^^^ b) := by
  unfold u
  rw [u32_xor_nat _ _ a.isLt b.isLt, BitVec.toNat_xor]
theorem u_and (a b : B32) : bits .and .u32 (u a) (u b) = u (a &&& b) := by
  unfold u
  rw [u32_and_nat _ _ a.isLt b.isLt, BitVec.toNat_and]
theorem u_half (c : B32) : u c / (2 : Int) = u (c >>> 1) := by
  unfold u
  rw [BitVec.toNat_ushiftRight, Nat.shiftRight_eq_div_pow]
  omega
theorem u_eighth (c : B32) : u c / (256 : Int) = u (c >>> 8) := by
  unfold u
  rw [BitVec.toNat_ushiftRight, Nat.shiftRight_eq_div_pow]
  omega
theorem u_bit (c : B32) : bits .and .u32 (u c) 1 = if c.getLsbD 0 then 1 else 0 := by
  have e : (1 : Int) = u 1#32 := rfl
  rw [e, u_and]
  have h : (c &&& 1#32) = if c.getLsbD 0 then 1#32 else 0#32 := by
    apply BitVec.eq_of_getLsbD_eq
    intro i hi
    rw [BitVec.getLsbD_and, BitVec.getLsbD_one]
    by_cases h0 : i = 0
    · subst h0
      cases h : c.getLsbD 0 <;> simp
    · cases h : c.getLsbD 0 <;> simp [h0, BitVec.getLsbD_one]
  rw [h]
  cases c.getLsbD 0 <;> rfl
theorem bsteps_succ (n : Nat) (c : B32) : bsteps (n + 1) c = bstep (bsteps n c) := by rw [bsteps_add]; rfl
theorem u_step1 {c : B32} (h : c.getLsbD 0 = true) : bits .and .u32 (u c) 1 = 1 ∧ bits .xor .u32 (u c / 2) 2197175160 = u (bstep c) := by
  refine ⟨by rw [u_bit, h]; rfl, ?_⟩
  rw [u_half, u_poly, u_xor]
  unfold bstep
  rw [h, if_pos rfl]
theorem u_step0 {c : B32} (h : c.getLsbD 0 = false) : bits .and .u32 (u c) 1 = 0 ∧ u c / 2 = u (bstep c) := by
  refine ⟨by rw [u_bit, h]; rfl, ?_⟩
  rw [u_half, bstep_even h]

set_option maxHeartbeats 400000 in
theorem sum_shifted (c : B32) (w : World) :
    Calls Try.prog 97 #[.int .u32 (u c)] w fun e w' => e = .returned (.int .u32 (u (bsteps 8 c))) ∧ w = w' := by
  go_enter Try.func97, Try.ntmps97
  go_wp2
  go_loop [0, 4] (fun x i => ∃ k : Nat, k ≤ 8 ∧ i = .int .i64 k ∧ x = .int .u32 (u (bsteps k c))) (fun _ i => 8 - (intOf i).toNat)
  case atStart => exact ⟨0, Nat.zero_le _, rfl, rfl⟩
  case round =>
    obtain ⟨k, hk, rfl, rfl⟩ := hrel
    by_cases hlt : k < 8
    · have hs := Lib.hid (bsteps_succ k c)
      generalize bsteps k c = d at *
      cases hb : d.getLsbD 0 with
      | true =>
        obtain ⟨h1, h2⟩ := u_step1 hb
        clear hb
        go_wp2
        go_round
        case rel => exact ⟨k + 1, by omega, by go_num, by rw [hs.out]⟩
        case measure => simp [intOf]; omega
      | false =>
        obtain ⟨h1, h2⟩ := u_step0 hb
        clear hb
        go_wp2
        go_round
        case rel => exact ⟨k + 1, by omega, by go_num, by rw [hs.out]⟩
        case measure => simp [intOf]; omega
    · obtain rfl : k = 8 := by omega
      go_wp2
      go_ret
      exact ⟨rfl, rfl⟩
/-- The table as far as it is laid. -/
def tabC (k : Nat) : Array Value := (Array.range 256).map fun i => .int .u32 (if i < k then u (bsteps 8 (BitVec.ofNat 32 i)) else 0)
theorem tabC_size (k : Nat) : (tabC k).size = 256 := by simp [tabC]
theorem tabC_get (k i : Nat) (h : i < 256) : (tabC k)[i]? = some (.int .u32 (if i < k then u (bsteps 8 (BitVec.ofNat 32 i)) else 0)) := by
  simp [tabC, h]
theorem tabC_set (k : Nat) : (tabC k).setIfInBounds k (.int .u32 (u (bsteps 8 (BitVec.ofNat 32 k)))) = tabC (k + 1) := by
  apply Array.ext_getElem?
  intro i
  rw [Array.getElem?_setIfInBounds]
  by_cases hi : i < 256
  · rw [tabC_get _ _ hi, tabC_get _ _ hi, tabC_size]
    by_cases hk : k = i
    · subst hk; simp [hi]
    · simp only [if_neg hk]
      by_cases h : i < k
      · rw [if_pos h, if_pos (by omega)]
      · rw [if_neg h, if_neg (by omega)]
  · rw [Array.getElem?_eq_none (by rw [tabC_size]; omega), Array.getElem?_eq_none (by rw [tabC_size]; omega)]
    split
    · rw [if_neg (by rw [tabC_size]; omega)]
    · rfl
theorem tab_zero (w : World) : (zeroValue 128).run Try.prog w = .ok (.agg (tabC 0)) w := by kernel_rfl
theorem tab_one (k : Nat) : (tabC k).all (·.oneCell') = true := by
  rw [Array.all_eq_true]
  intro i hi
  have : (tabC k)[i] = .int .u32 (if i < k then u (bsteps 8 (BitVec.ofNat 32 i)) else 0) := by
    have h := tabC_get k i (by rwa [tabC_size] at hi)
    rw [Array.getElem?_eq_getElem hi] at h
    exact Option.some.inj h
  rw [this]
  rfl
theorem Blk.row {w : World} {g : Nat} {t : TypeId} {old cs : Array Value} (h : Blk w g t old) : Blk (w.setRow g cs) g t cs := by
  unfold Blk at h ⊢
  simp [World.setRow, Array.getElem?_modify, h]
theorem u_nat {k : Nat} (h : k < 4294967296) : ((k : Nat) : Int) = u (BitVec.ofNat 32 k) := by
  unfold u
  rw [BitVec.toNat_ofNat, Nat.mod_eq_of_lt (by omega)]
theorem store_cells {W : World} {g : Nat} {t : TypeId} {old cs : Array Value} (h : Blk W g t old) (hs : old.size = cs.size) (h1 : cs.all (·.oneCell') = true) : (storeCells ⟨g, 0, none⟩ cs.toList).run Try.prog W = .ok () (W.setRow g cs) := by
  have := run_storeCells_from (P := Try.prog) g t cs.toList 0 old W h (by simp; omega) (fun v hv => (Array.all_eq_true_iff_forall_mem.1 h1) v (by simpa using hv))
  simpa using this
set_option maxRecDepth 100000 in
set_option maxHeartbeats 8000000 in
theorem sum_table (w : World) :
    Calls Try.prog 91 #[] w fun e w' => e = .returned (.agg (tabC 256)) ∧ Below w.heap.size w w' := by
  have hz := tab_zero
  go_enter Try.func91, Try.ntmps91
  go_wp2
  have hT := Blk.new w 128 (tabC 0)
  have hB : Below w.heap.size w (w.alloc (.cells (tabC 0) 128)) := below_own (below_self w) _
  refine wp_world (fun W => Blk W w.heap.size 128 (tabC 0) ∧ Below w.heap.size w W) ⟨hT, hB⟩ ?_
  clear hT hB hz
  rintro W ⟨hT, hB⟩
  go_loopw [2] (fun i wr => ∃ k : Nat, k ≤ 256 ∧ i = .int .i64 k ∧ Blk wr w.heap.size 128 (tabC k) ∧ Below w.heap.size w wr) (fun i _ => 256 - (intOf i).toNat)
  case atStart => exact ⟨0, Nat.zero_le _, rfl, hT, hB⟩
  case round =>
    clear hT hB
    obtain ⟨k, hk, rfl, hT, hB⟩ := hrel
    by_cases hlt : k < 256
    · have hu := Lib.hid (u_nat (k := k) (by omega))
      have c1 := Lib.hid (sum_shifted (BitVec.ofNat 32 k))
      have hs := Lib.hid (tabC_set k)
      have hg : ∃ v, (tabC k)[k]? = some v := ⟨_, tabC_get k k hlt⟩
      obtain ⟨v, hg⟩ := hg
      have hu' := u_nat (k := k) (by omega)
      generalize bsteps 8 (BitVec.ofNat 32 k) = d at *
      generalize BitVec.ofNat 32 k = kb at *
      generalize tabC k = C at *
      have hu2 : IntKind.u32.wrap (k : Int) = u kb := by rw [IntKind.wrap_u32', ← hu']; omega
      clear hu'
      have hNr : w.heap.size < wr.heap.size := hT.lt
      have hg0 : wr.cell? ⟨w.heap.size, k, none⟩ = some v := (hT.cell k).trans hg
      have hf0 := hT.frozen k
      clear hg
      go_wp2_with fail
      refine (c1.out _).mono ?_
      rintro e w' ⟨rfl, rfl⟩; dsimp only
      go_wp2_with fail
      go_roundw
      case rel => exact ⟨k + 1, by omega, by go_num, hT.put k _ hs.out, hB.setCell (Nat.le_refl _) _⟩
      case measure => simp [intOf]; omega
    · obtain rfl : k = 256 := by omega
      go_wp2_with fail
      refine wp_load_row 128 _ rfl w.heap.size rfl 128 _ (0, 0) _ hT Try.underlying128 rfl (by kernel_rfl) ?_
      have hsz := tabC_size 256
      have hst := store_cells hT rfl (tab_one 256)
      have hT' := hT.row (cs := tabC 256)
      have hB' : Below w.heap.size w (wr.setRow w.heap.size (tabC 256)) := below_setRow hB (Nat.le_refl _) _
      go_wp2_with fail
      clear hst
      exact bodyPost_ret (v := .agg (tabC 256)) (results_cell_row rfl _ _ w.heap.size 128 _ (0, 0) _ rfl hT' Try.underlying128 rfl (by kernel_rfl)) rfl ⟨rfl, hB'⟩
end Go.Proofs.Ythlninijnbmjfaa
