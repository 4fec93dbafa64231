/- The contracts of sum.Join and of the document's answer for checksums. Conditions: a length that may be. -/
import Derived.Test.YtblcaidbocnblaaSum2
namespace Go.Proofs.Ytblcaidbocnblaa
open Go.RowKit

theorem Blk.off' {w : World} {g : Nat} {t : TypeId} {cs : Array Value} (h : Blk w g t cs) {b o : Nat} (hp : g ≠ b) (u : Value) : Blk (w.setCell ⟨b, o, none⟩ u) g t cs := h.far hp u
/-- A matrix as far as it is laid. -/
def matC (f : Nat → B32) (k : Nat) : Array Value := (Array.range 32).map fun i => .int .u32 (if i < k then u (f i) else 0)
theorem matC_size (f : Nat → B32) (k : Nat) : (matC f k).size = 32 := by simp [matC]
theorem matC_get (f : Nat → B32) (k i : Nat) (h : i < 32) : (matC f k)[i]? = some (.int .u32 (if i < k then u (f i) else 0)) := by
  simp [matC, h]
theorem matC_set (f : Nat → B32) (k : Nat) : (matC f k).setIfInBounds k (.int .u32 (u (f k))) = matC f (k + 1) := by
  apply Array.ext_getElem?
  intro i
  rw [Array.getElem?_setIfInBounds]
  by_cases hi : i < 32
  · rw [matC_get _ _ _ hi, matC_get _ _ _ hi, matC_size]
    by_cases hk : k = i
    · subst hk; simp [hi]
    · simp only [if_neg hk]
      by_cases h : i < k
      · rw [if_pos h, if_pos (by omega)]
      · rw [if_neg h, if_neg (by omega)]
  · rw [Array.getElem?_eq_none (by rw [matC_size]; omega), Array.getElem?_eq_none (by rw [matC_size]; omega)]
    split
    · rw [if_neg (by rw [matC_size]; omega)]
    · rfl
theorem mat_zero (f : Nat → B32) (w : World) : (zeroValue 72).run Try.prog w = .ok (.agg (matC f 0)) w := by kernel_rfl
theorem mat_one (f : Nat → B32) (k : Nat) : (matC f k).all (·.oneCell') = true := by
  rw [Array.all_eq_true]
  intro i hi
  have : (matC f k)[i] = .int .u32 (if i < k then u (f i) else 0) := by
    have h := matC_get f k i (by rwa [matC_size] at hi)
    rw [Array.getElem?_eq_getElem hi] at h
    exact Option.some.inj h
  rw [this]
  rfl
theorem matC_full (f : Nat → B32) : ∀ i, i < 32 → (matC f 32)[i]? = some (.int .u32 (u (f i))) := fun i hi => by rw [matC_get _ _ _ hi, if_pos hi]
theorem matC_congr {f g : Nat → B32} (h : ∀ i, i < 32 → f i = g i) : matC f 32 = matC g 32 := by
  apply Array.ext_getElem?
  intro i
  by_cases hi : i < 32
  · rw [matC_full _ _ hi, matC_full _ _ hi, h i hi]
  · rw [Array.getElem?_eq_none (by rw [matC_size]; omega), Array.getElem?_eq_none (by rw [matC_size]; omega)]
theorem u_shl (i : Nat) (h : i < 32) : IntKind.u32.wrap ((2 : Int) ^ i) = u (1#32 <<< i) := by
  unfold u
  rw [IntKind.wrap_u32', BitVec.toNat_shiftLeft, Nat.shiftLeft_eq]
  simp
theorem i64_odd (k : Nat) : bits .and .i64 (k : Int) 1 = ((k % 2 : Nat) : Int) := by
  have h1 : bits .and .i64 (k : Int) 1 = IntKind.i64.wrap (((BitVec.ofInt 64 (k : Int) &&& BitVec.ofInt 64 1).toNat : Nat) : Int) := rfl
  rw [h1]
  have h2 : (BitVec.ofInt 64 (k : Int) &&& BitVec.ofInt 64 1).toNat = k % 2 := by
    rw [BitVec.toNat_and]
    have e1 : (BitVec.ofInt 64 1).toNat = 2 ^ 1 - 1 := rfl
    rw [e1, Nat.and_two_pow_sub_one_eq_mod, BitVec.toNat_ofInt]
    omega
  rw [h2, IntWalk.i64_in]
  omega
theorem wpQuiet_load_row {P : Program} {ops : Array Oper} {C : World → Prop} {Q : Act → Prop} {o : Oper} {rest : List Oper} {a : Act} (hw : Region.wanted o (yielded ops a.tmps) = true) (ty : TypeId) (x : Operand) (ho : o.op = .load ty x)
    (g : Nat) (hx : a.eval x = .pointer (some ⟨g, 0, none⟩)) (cs : Array Value) (hrun : ∀ W, C W → (loadVar ty ⟨g, 0, none⟩).run P W = .ok (.agg cs) W) (h : wpQuiet P ops C Q rest (a.put o.dst (.agg cs))) : wpQuiet P ops C Q (o :: rest) a := by
  unfold wpQuiet
  rw [if_pos hw]
  refine ⟨.agg cs, fun w hC => ?_, h⟩
  unfold Oper.quietAt execOp
  simp only [ho, hx, Instr.loadAt, Instr.sureAddr, Sem.run_bind, Sem.run_pure, Result.andThen_ok, hrun w hC]
  exact ⟨rfl, rfl⟩
set_option maxRecDepth 100000 in
set_option maxHeartbeats 1000000 in
theorem sum_twice (f : Nat → B32) (Bm : Nat) (w : World) (hm : Blk w Bm 72 (matC f 32)) :
    Calls Try.prog 47 #[.pointer (some ⟨Bm, 0, none⟩)] w fun e w' => e = .returned (.tuple #[]) ∧ ∃ w1, Below w.heap.size w w1 ∧ w' = w1.setRow Bm (matC (fun i => mofB f (f i) 32) 32) := by
  have hz := mat_zero (fun i => mofB f (f i) 32)
  have hsz := matC_size f 32
  have hsz2 := matC_size (fun i => mofB f (f i) 32) 32
  have HM := Lib.hid hm
  have hml := hm.lt
  clear hm
  go_enter Try.func47, Try.ntmps47
  go_wp2_with fail
  have hM := HM.out.alloc (.cells (matC (fun i => mofB f (f i) 32) 0) 72)
  have hD := Blk.new w 72 (matC (fun i => mofB f (f i) 32) 0)
  have hB : Below w.heap.size w (w.alloc (.cells (matC (fun i => mofB f (f i) 32) 0) 72)) := below_own (below_self w) _
  refine wp_world (fun W => Blk W Bm 72 (matC f 32) ∧ Blk W w.heap.size 72 (matC (fun i => mofB f (f i) 32) 0) ∧ Below w.heap.size w W) ⟨hM, hD, hB⟩ ?_
  clear hM hD hB hz
  rintro W ⟨hM, hD, hB⟩
  go_loopw [3] (fun i wr => ∃ k : Nat, k ≤ 32 ∧ i = .int .i64 k ∧ Blk wr Bm 72 (matC f 32) ∧ Blk wr w.heap.size 72 (matC (fun i => mofB f (f i) 32) k) ∧ Below w.heap.size w wr) (fun i _ => 32 - (intOf i).toNat)
  case atStart => exact ⟨0, Nat.zero_le _, rfl, hM, hD, hB⟩
  case round =>
    clear hM hD hB
    obtain ⟨k, hk, rfl, hM, hD, hB⟩ := hrel
    by_cases hlt : k < 32
    · have hs := Lib.hid (matC_set (fun i => mofB f (f i) 32) k)
      have hg : ∃ v, (matC (fun i => mofB f (f i) 32) k)[k]? = some v := ⟨_, matC_get _ k k hlt⟩
      obtain ⟨v, hg⟩ := hg
      have c1 := Lib.hid (mat_of f (matC f 32) (matC_full f) (f k))
      have hgf := matC_full f k hlt
      have hld := Lib.hid (fun (W : World) (h : Blk W Bm 72 (matC f 32)) => run_loadVar_row (P := Try.prog) W Bm 72 72 _ (0, 0) _ h Try.underlying72 rfl (by kernel_rfl))
      generalize mofB f (f k) 32 = d at *
      have hNr : w.heap.size < wr.heap.size := hD.lt
      have hg0 : wr.cell? ⟨w.heap.size, k, none⟩ = some v := (hD.cell k).trans hg
      have hf0 := hD.frozen k
      have hg1 : wr.cell? ⟨Bm, k, none⟩ = some (.int .u32 (u (f k))) := (hM.cell k).trans hgf
      have hl1 := hM.lt
      have hle : ∀ x : Beyond wr, (loadVar 72 ⟨Bm, 0, none⟩).run Try.prog (extn wr x) = .ok (.agg (matC f 32)) (extn wr x) := fun x => hld.out _ (hM.past (extn_below _ x))
      clear hg hgf
      go_wp2_with fail
      refine wp_region_ext_tail 7 (by kernel_rfl) (by kernel_rfl) ?_
      simp only [List.take_succ_cons, List.take_zero, List.drop_succ_cons, List.drop_zero]
      go_big_quiet_step (fail)
      refine wpQuiet_load_row rfl 72 _ rfl Bm rfl (matC f 32) (by rintro W ⟨x, rfl⟩; exact hle x) ?_
      simp only [Act.put, List.setIfInBounds_toArray, List.set_cons_succ, List.set_cons_zero]
      repeat (go_big_quiet_step ((go_at_call 48; exact ext_of (c1.out _))))
      refine wpQuiet_nil ?_
      rintro w1 ⟨x, rfl⟩
      go_wp2
      go_roundw
      case rel => exact ⟨k + 1, by omega, by go_num, (hM.past (extn_below _ x)).off' (by omega) _, (hD.past (extn_below _ x)).put k _ hs.out, (below_to hB (extn_below _ x)).setCell (Nat.le_refl _) _⟩
      case measure => simp [intOf]; omega
    · obtain rfl : k = 32 := by omega
      have hst := store_cells hM (by rw [matC_size, matC_size] : (matC f 32).size = (matC (fun i => mofB f (f i) 32) 32).size) (mat_one _ 32)
      go_wp2_with (refine wpList_load_row rfl 72 _ rfl w.heap.size rfl 72 _ (0, 0) _ hD Try.underlying72 rfl (by kernel_rfl) ?_)
      clear hst
      go_returns
      exact ⟨rfl, wr, hB, rfl⟩
set_option maxHeartbeats 1000000 in
theorem ref_zeros (c : B32) (n : Nat) (hn : n ≤ 8192) (w : World) :
    Calls Try.prog 49 #[.int .u32 (u c), .int .i64 n] w fun e w' => e = .returned (.int .u32 (u (zerosB c n))) ∧ w = w' := by
  have hx := u_not c
  go_enter Try.func49, Try.ntmps49
  go_wp2_with fail
  go_loop [5, 6] (fun x i => ∃ k : Nat, k ≤ 8 * n ∧ i = .int .i64 k ∧ x = .int .u32 (u (bsteps k (~~~ c)))) (fun _ i => 8 * n - (intOf i).toNat)
  case atStart => exact ⟨0, Nat.zero_le _, rfl, rfl⟩
  case round =>
    obtain ⟨k, hk, rfl, rfl⟩ := hrel
    by_cases hlt : k < 8 * n
    · have hs := Lib.hid (bsteps_succ k (~~~ c))
      generalize bsteps k (~~~ c) = d at *
      cases hb : d.getLsbD 0 with
      | true =>
        obtain ⟨h1, h2⟩ := u_step1 hb
        clear hb
        go_wp2
        go_round
        case rel => exact ⟨k + 1, by omega, by go_num, by rw [hs.out]⟩
        case measure => simp [intOf]; omega
      | false =>
        obtain ⟨h1, h2⟩ := u_step0 hb
        clear hb
        go_wp2
        go_round
        case rel => exact ⟨k + 1, by omega, by go_num, by rw [hs.out]⟩
        case measure => simp [intOf]; omega
    · obtain rfl : k = 8 * n := by omega
      have hx2 := u_not (bsteps (8 * n) (~~~ c))
      go_wp2
      go_ret
      exact ⟨rfl, rfl⟩
set_option maxHeartbeats 1000000 in
theorem ref_Join02_neg (a b : B32) (n : Int) (hn : n < 0) (w : World) :
    Calls Try.prog 29 #[.int .u32 (u a), .int .u32 (u b), .int .i64 n] w fun e w' => e = .returned (.int .u32 0) ∧ w = w' := by
  go_enter Try.func29, Try.ntmps29
  go_wp2
  go_ret
  exact ⟨rfl, rfl⟩
set_option maxHeartbeats 1000000 in
theorem ref_Join02 (a b : B32) (n : Nat) (hn : n ≤ 8192) (w : World) :
    Calls Try.prog 29 #[.int .u32 (u a), .int .u32 (u b), .int .i64 n] w fun e w' => e = .returned (.int .u32 (u (joinB a b n))) ∧ Below w.heap.size w w' := by
  have c1 := ref_zeros a n hn
  have c2 : ∀ w, Calls Try.prog 49 #[.int .u32 0, .int .i64 n] w fun e w' => e = .returned (.int .u32 (u (zerosB 0#32 n))) ∧ w = w' := ref_zeros 0#32 n hn
  have hj := Lib.hid (zeros_join a b n)
  generalize zerosB a n = x at *
  generalize zerosB 0#32 n = y at *
  have C1 := Lib.hid c1
  have C2 := Lib.hid c2
  clear c1 c2
  have h1 := u_xor x b
  have h2 := u_xor (x ^^^ b) y
  go_enter Try.func29, Try.ntmps29
  go_wp2_with fail
  refine (C1.out _).mono ?_
  rintro e w1 ⟨rfl, rfl⟩; dsimp only
  go_wp2_with fail
  refine (C2.out _).mono ?_
  rintro e w1 ⟨rfl, rfl⟩; dsimp only
  go_wp2_with fail
  go_ret
  exact ⟨by rw [hj.out]; rfl, below_self w⟩
end Go.Proofs.Ytblcaidbocnblaa
