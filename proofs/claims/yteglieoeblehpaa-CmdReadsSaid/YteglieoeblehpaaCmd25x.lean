/- Commands: Decode, as the reference has it, walked. Conditions: the bytes are in memory. -/
import Derived.Test.YteglieoeblehpaaCmd25y
import Derived.Test.YteglieoeblehpaaCmd22
namespace Go.Proofs.Yteglieoeblehpaa
open Go.RowKit

def k14 (s : ByteArray) : Int := rdV 0 (qUint s 14) 0
def x14 (s : ByteArray) : RS := (rdS 0 (qUint s 14) s, rdF 0 (qUint s 14))
def refHead (s : ByteArray) : RS × Command := if clientB (k14 s) = true then (nG (nG (x14 s)), { zeroC with kind := k14 s, client := gG (x14 s), seq := gG (nG (x14 s)) }) else (x14 s, { zeroC with kind := k14 s })
def refAll (s : ByteArray) : RS × Command := rdK (fieldsOf (k14 s)) 13 (refHead s)
def refOk (s : ByteArray) : Bool := endB (refAll s).1 && mayC (refAll s).2
theorem k14_bd (s : ByteArray) : 0 ≤ k14 s ∧ k14 s ≤ 14 := by
  unfold k14 rdV
  split
  · rename_i h
    have h2 := h.2
    unfold qUint at h2 ⊢
    dsimp only at h2 ⊢
    split at h2
    · cases h2
    · split at h2
      · cases h2
      · omega
  · omega
theorem end_bad (x : RS) (h : x.2 ≠ 0) : endB x = false := by
  cases he : endB x
  · rfl
  · exact absurd ((endB_iff x).1 he).1 h
theorem same_read (s : ByteArray) (h : (vnum s).2 = 0 ∨ (vnum s).1 ≤ 14) : refAll s = rdAll (s, 0) := by
  have e : qUint s 14 = qUint s 255 := by
    unfold qUint
    rcases h with h | h
    · rw [if_pos h, if_pos h]
    · by_cases h0 : (vnum s).2 = 0
      · rw [if_pos h0, if_pos h0]
      · rw [if_neg h0, if_neg h0, if_neg (by omega), if_neg (by omega)]
  have e1 : k14 s = gS (s, 0) := by unfold k14 gS; rw [e]
  have e2 : x14 s = nS (s, 0) := by unfold x14 nS; rw [e]
  unfold refAll rdAll refHead rdHead
  rw [e1, e2]
theorem ref_dec (s : ByteArray) : refOk s = decOk s ∧ (refOk s = true → (refAll s).2 = (rdAll (s, 0)).2) := by
  by_cases h : (vnum s).2 = 0 ∨ (vnum s).1 ≤ 14
  · have hr := same_read s h
    unfold refOk decOk isC
    rw [hr]
    refine ⟨?_, fun _ => rfl⟩
    cases hm : mayC (rdAll (s, 0)).2
    · simp
    · have hk : kindB (rdAll (s, 0)).2.kind = true := by
        unfold mayC at hm
        simp only [Bool.and_eq_true] at hm
        exact hm.1.1.1
      rw [hk]
      simp
  · have h0 : (vnum s).2 ≠ 0 := fun e => h (.inl e)
    have h1 : 14 < (vnum s).1 := by omega
    have hq : qUint s 14 = (((vnum s).1 : Int), (vnum s).2, 9) := by unfold qUint; rw [if_neg h0, if_pos h1]
    have hb : refOk s = false := by
      have ek : k14 s = 0 := by unfold k14; rw [hq]; rfl
      have ex : (x14 s).2 = 9 := by unfold x14; rw [hq]; rfl
      have ea : (refAll s).1 = x14 s := by
        unfold refAll refHead
        rw [ek]
        rfl
      unfold refOk
      rw [ea, end_bad _ (by rw [ex]; decide)]
      rfl
    have hd : decOk s = false := by
      unfold decOk isC
      rw [rdAll_kind]
      by_cases h2 : 255 < (vnum s).1
      · have hq2 : qUint s 255 = (((vnum s).1 : Int), (vnum s).2, 9) := by unfold qUint; rw [if_neg h0, if_pos h2]
        have eg : gS (s, 0) = 0 := by unfold gS; rw [hq2]; rfl
        have en : (nS (s, 0)).2 = 9 := by unfold nS; rw [hq2]; rfl
        have ea : (rdAll (s, 0)).1 = nS (s, 0) := by
          unfold rdAll rdHead
          rw [eg]
          rfl
        rw [ea, end_bad _ (by rw [en]; decide)]
        simp
      · have hq2 : qUint s 255 = (((vnum s).1 : Int), (vnum s).2, 0) := by unfold qUint; rw [if_neg h0, if_neg h2]
        have eg : gS (s, 0) = (vnum s).1 := by unfold gS; rw [hq2]; rfl
        have hk : kindB (gS (s, 0)) = false := by
          rw [eg]
          unfold kindB
          rw [show decide (((vnum s).1 : Int) ≤ 14) = false by simp; omega, Bool.and_false]
        rw [hk]
        rfl
    rw [hb, hd]
    exact ⟨rfl, fun h => by cases h⟩
theorem rdS0_sz (s : ByteArray) {n : Nat} (h : s.size ≤ n) : (x14 s).1.size ≤ n := Nat.le_trans (rdS_size _ _ _) h
theorem fairG2 (k : Nat) (y : RS × Command) : (rdG k y).1.1.size ≤ y.1.1.size := by
  match k with
  | 0 => exact nT_sz _ (Nat.le_refl _)
  | 1 => exact nS_sz _ (Nat.le_refl _)
  | 2 => exact nT_sz _ (Nat.le_refl _)
  | 3 => exact nK_sz _ (Nat.le_refl _)
  | 4 => exact nI_sz _ (Nat.le_refl _)
  | 5 => exact nI_sz _ (Nat.le_refl _)
  | 6 => exact nI_sz _ (Nat.le_refl _)
  | 7 => exact nI_sz _ (Nat.le_refl _)
  | 8 => exact nS_sz _ (Nat.le_refl _)
  | 9 => exact nV_sz _ (Nat.le_refl _)
  | 10 => exact nJ_sz _ (Nat.le_refl _)
  | 11 => exact nV_sz _ (nI_sz _ (nT_sz _ (nT_sz _ (Nat.le_refl _))))
  | k + 12 => exact nI_sz _ (Nat.le_refl _)
theorem refHead_ok (s : ByteArray) : (refHead s).2.ok := by
  obtain ⟨o0, o1, o2, o⟩ := zeroC_ok
  have hk : U8 (k14 s) := by have := k14_bd s; unfold U8; omega
  unfold refHead
  split
  · exact ⟨hk, gG_ok _, gG_ok _, o⟩
  · exact ⟨hk, o1, o2, o⟩
theorem refAll_ok (s : ByteArray) : (refAll s).2.ok := rdK_ok _ _ (refHead_ok s) 13
set_option maxRecDepth 100000 in
set_option maxHeartbeats 3000000 in
theorem r_Decode (s : ByteArray) (hs : s.size ≤ 140737488351232) (w : World) : Calls Try.prog 41 #[.string s] w fun e w' => e = .returned (.tuple #[.agg (csC (decV s)), .int .i64 (decE s)]) ∧ Below w.heap.size w w' := by
  obtain ⟨y, hy0⟩ : ∃ y, y = refAll s := ⟨_, rfl⟩
  obtain ⟨e, hee⟩ : ∃ e, e = endF y.1.1 y.1.2 := ⟨_, rfl⟩
  have hyok : y.2.ok := by rw [hy0]; exact refAll_ok s
  obtain ⟨rd1, rd2⟩ := ref_dec s
  unfold refOk at rd1 rd2
  rw [← hy0] at rd1 rd2
  have heb : endB y.1 = decide (e = 0) := by unfold endB; rw [hee]
  rw [heb] at rd1 rd2
  have hdec1 : e = 0 → (decV s = if mayC y.2 = true then y.2 else zeroC) ∧ decE s = if mayC y.2 = true then 0 else 8 := fun h => by
    unfold decV decE
    rw [← rd1, decide_eq_true h, Bool.true_and]
    refine ⟨?_, rfl⟩
    split
    · rename_i hm
      exact (rd2 (by rw [decide_eq_true h, hm]; rfl)).symm
    · rfl
  have hdec2 : e ≠ 0 → decV s = zeroC ∧ decE s = 8 := fun h => by
    unfold decV decE
    rw [← rd1, decide_eq_false h]
    exact ⟨rfl, rfl⟩
  clear rd1 rd2 heb
  generalize decV s = dv at *
  generalize decE s = de at *
  have hkb := k14_bd s
  have hw8 : IntKind.u8.wrap (k14 s) = k14 s := IntWalk.u8_in _ (by omega)
  have hxz := rdS0_sz s hs
  have HM := Lib.hid (fun W => r_May y.2 hyok W)
  have hA := Blk.new w 64 (csC zeroC)
  have hb : Below w.heap.size w (w.alloc (.cells (csC zeroC) 64)) := by go_grown
  have hR0' := Blk.new1 w (.cells #[.int .u8 0, .int .u64 0, .int .u64 0, .string ⟨#[]⟩, .int .u8 0, .int .i64 0, .int .i64 0, .int .i64 0, .int .i64 0, .string ⟨#[]⟩, .string ⟨#[]⟩, .int .u8 0, .int .i64 0, .int .i64 0, .int .i64 0, .int .i64 0, .string ⟨#[]⟩, .int .i64 0, .int .i64 0, .string ⟨#[]⟩, .string ⟨#[]⟩, .int .i64 0, .int .i64 0, .int .i64 0, .int .i64 0, .string ⟨#[]⟩, .int .i64 0, .string ⟨#[]⟩, .int .i64 0, .int .i64 0, .int .i64 0, .int .u8 0, .int .i64 0] 64) 45 #[.string s, .int .i64 0]
  have hR0 : RR _ (w.heap.size + 1) (s, 0) := hR0'
  clear hR0'
  have hA0 : Blk ((w.alloc (.cells #[.int .u8 0, .int .u64 0, .int .u64 0, .string ⟨#[]⟩, .int .u8 0, .int .i64 0, .int .i64 0, .int .i64 0, .int .i64 0, .string ⟨#[]⟩, .string ⟨#[]⟩, .int .u8 0, .int .i64 0, .int .i64 0, .int .i64 0, .int .i64 0, .string ⟨#[]⟩, .int .i64 0, .int .i64 0, .string ⟨#[]⟩, .string ⟨#[]⟩, .int .i64 0, .int .i64 0, .int .i64 0, .int .i64 0, .string ⟨#[]⟩, .int .i64 0, .string ⟨#[]⟩, .int .i64 0, .int .i64 0, .int .i64 0, .int .u8 0, .int .i64 0] 64)).alloc (.cells #[.string s, .int .i64 0] 45)) w.heap.size 64 (csC zeroC) := hA.alloc _
  have hb0 : Below w.heap.size w ((w.alloc (.cells #[.int .u8 0, .int .u64 0, .int .u64 0, .string ⟨#[]⟩, .int .u8 0, .int .i64 0, .int .i64 0, .int .i64 0, .int .i64 0, .string ⟨#[]⟩, .string ⟨#[]⟩, .int .u8 0, .int .i64 0, .int .i64 0, .int .i64 0, .int .i64 0, .string ⟨#[]⟩, .int .i64 0, .int .i64 0, .string ⟨#[]⟩, .string ⟨#[]⟩, .int .i64 0, .int .i64 0, .int .i64 0, .int .i64 0, .string ⟨#[]⟩, .int .i64 0, .string ⟨#[]⟩, .int .i64 0, .int .i64 0, .int .i64 0, .int .u8 0, .int .i64 0] 64)).alloc (.cells #[.string s, .int .i64 0] 45)) := by go_grown
  have U14 := Lib.hid (rx_Uint (w.heap.size + 1) s 0 14 _ hs hR0)
  have hy1 : y = rdK (fieldsOf (k14 s)) 13 (refHead s) := hy0
  unfold refHead at hy1
  replace hy1 := Lib.hid hy1
  clear hy0 hyok hA hb hR0
  replace hee := Lib.hid hee
  replace hdec1 := Lib.hid hdec1
  replace hdec2 := Lib.hid hdec2
  go_enter Try.func41, Try.ntmps41
  go_wp2_with fail
  refine U14.out.mono ?_
  rintro r w1 ⟨rfl, hR1, hk1⟩; dsimp only
  have hR2 : RR w1 (w.heap.size + 1) (x14 s) := hR1
  have hA1 := hk1.blk hA0 (by omega)
  have hb1 := hb0.trans (hk1.1 _ (by omega) hb0.size)
  have hRl := Blk.lt hR2
  rw [show rdV 0 (qUint s 14) 0 = k14 s from rfl]
  clear U14 hA0 hb0 hk1 hR1
  have hN : Blk (w1.alloc (.cells #[.int .u8 0, .int .u64 0, .int .u64 0, .string ⟨#[]⟩, .int .u8 0, .int .i64 0, .int .i64 0, .int .i64 0, .int .i64 0, .string ⟨#[]⟩, .string ⟨#[]⟩, .int .u8 0, .int .i64 0, .int .i64 0, .int .i64 0, .int .i64 0, .string ⟨#[]⟩, .int .i64 0, .int .i64 0, .string ⟨#[]⟩, .string ⟨#[]⟩, .int .i64 0, .int .i64 0, .int .i64 0, .int .i64 0, .string ⟨#[]⟩, .int .i64 0, .string ⟨#[]⟩, .int .i64 0, .int .i64 0, .int .i64 0, .int .u8 0, .int .i64 0] 64)) w1.heap.size 64 (csC zeroC) := Blk.new w1 64 #[.int .u8 0, .int .u64 0, .int .u64 0, .string ⟨#[]⟩, .int .u8 0, .int .i64 0, .int .i64 0, .int .i64 0, .int .i64 0, .string ⟨#[]⟩, .string ⟨#[]⟩, .int .u8 0, .int .i64 0, .int .i64 0, .int .i64 0, .int .i64 0, .string ⟨#[]⟩, .int .i64 0, .int .i64 0, .string ⟨#[]⟩, .string ⟨#[]⟩, .int .i64 0, .int .i64 0, .int .i64 0, .int .i64 0, .string ⟨#[]⟩, .int .i64 0, .string ⟨#[]⟩, .int .i64 0, .int .i64 0, .int .i64 0, .int .u8 0, .int .i64 0]
  have hF : RR ((w1.alloc (.cells #[.int .u8 0, .int .u64 0, .int .u64 0, .string ⟨#[]⟩, .int .u8 0, .int .i64 0, .int .i64 0, .int .i64 0, .int .i64 0, .string ⟨#[]⟩, .string ⟨#[]⟩, .int .u8 0, .int .i64 0, .int .i64 0, .int .i64 0, .int .i64 0, .string ⟨#[]⟩, .int .i64 0, .int .i64 0, .string ⟨#[]⟩, .string ⟨#[]⟩, .int .i64 0, .int .i64 0, .int .i64 0, .int .i64 0, .string ⟨#[]⟩, .int .i64 0, .string ⟨#[]⟩, .int .i64 0, .int .i64 0, .int .i64 0, .int .u8 0, .int .i64 0] 64)).setRow w1.heap.size (csC { zeroC with kind := k14 s })) (w.heap.size + 1) (x14 s) ∧ Blk ((w1.alloc (.cells #[.int .u8 0, .int .u64 0, .int .u64 0, .string ⟨#[]⟩, .int .u8 0, .int .i64 0, .int .i64 0, .int .i64 0, .int .i64 0, .string ⟨#[]⟩, .string ⟨#[]⟩, .int .u8 0, .int .i64 0, .int .i64 0, .int .i64 0, .int .i64 0, .string ⟨#[]⟩, .int .i64 0, .int .i64 0, .string ⟨#[]⟩, .string ⟨#[]⟩, .int .i64 0, .int .i64 0, .int .i64 0, .int .i64 0, .string ⟨#[]⟩, .int .i64 0, .string ⟨#[]⟩, .int .i64 0, .int .i64 0, .int .i64 0, .int .u8 0, .int .i64 0] 64)).setRow w1.heap.size (csC { zeroC with kind := k14 s })) w.heap.size 64 (csC zeroC) ∧ Blk ((w1.alloc (.cells #[.int .u8 0, .int .u64 0, .int .u64 0, .string ⟨#[]⟩, .int .u8 0, .int .i64 0, .int .i64 0, .int .i64 0, .int .i64 0, .string ⟨#[]⟩, .string ⟨#[]⟩, .int .u8 0, .int .i64 0, .int .i64 0, .int .i64 0, .int .i64 0, .string ⟨#[]⟩, .int .i64 0, .int .i64 0, .string ⟨#[]⟩, .string ⟨#[]⟩, .int .i64 0, .int .i64 0, .int .i64 0, .int .i64 0, .string ⟨#[]⟩, .int .i64 0, .string ⟨#[]⟩, .int .i64 0, .int .i64 0, .int .i64 0, .int .u8 0, .int .i64 0] 64)).setRow w1.heap.size (csC { zeroC with kind := k14 s })) w1.heap.size 64 (csC { zeroC with kind := k14 s }) ∧ Below w.heap.size w ((w1.alloc (.cells #[.int .u8 0, .int .u64 0, .int .u64 0, .string ⟨#[]⟩, .int .u8 0, .int .i64 0, .int .i64 0, .int .i64 0, .int .i64 0, .string ⟨#[]⟩, .string ⟨#[]⟩, .int .u8 0, .int .i64 0, .int .i64 0, .int .i64 0, .int .i64 0, .string ⟨#[]⟩, .int .i64 0, .int .i64 0, .string ⟨#[]⟩, .string ⟨#[]⟩, .int .i64 0, .int .i64 0, .int .i64 0, .int .i64 0, .string ⟨#[]⟩, .int .i64 0, .string ⟨#[]⟩, .int .i64 0, .int .i64 0, .int .i64 0, .int .u8 0, .int .i64 0] 64)).setRow w1.heap.size (csC { zeroC with kind := k14 s })) := ⟨Blk.offRow (Blk.alloc hR2 _) (by omega), (hA1.alloc _).offRow (by have := hA1.lt; omega), hN.rowK, below_setRow (below_own hb1 _) hb1.size _⟩
  have hDl : w.heap.size + 1 < w1.heap.size := hRl
  generalize k14 s = k at *
  generalize x14 s = x at *
  go_wp2_with (first | (with_reducible refine stw_cmd (.tmp 5) (.tmp 12) w1.heap.size { zeroC with kind := k } (csC zeroC) hN (csC_size zeroC) (fun W => RR W (w.heap.size + 1) x ∧ Blk W w.heap.size 64 (csC zeroC) ∧ Blk W w1.heap.size 64 (csC { zeroC with kind := k }) ∧ Below w.heap.size w W) hF ?_ ?_ ?_ ?_) | fail)
  rotate_right
  · skip
    refine Lib.hid ?_
    clear hF hN hA1 hb1 hR2 hRl
    intro W h0 hA hD hb
    generalize w1.heap.size = D at *
    have hAR : w.heap.size ≠ w.heap.size + 1 := by omega
    have hDR : D ≠ w.heap.size + 1 := by omega
    obtain ⟨R, hRe⟩ : ∃ R, R = w.heap.size + 1 := ⟨_, rfl⟩
    have hRle : w.heap.size ≤ R := by omega
    rw [← hRe] at h0 hAR hDR hDl ⊢
    clear hRe
    have q0 : W.cell? ⟨D, 0, none⟩ = some (.int .u8 k) := blk_cell hD rfl
    go_wp2_with fail
    refine (r_Client k _).mono ?_
    rintro r w2 ⟨rfl, rfl⟩; dsimp only
    replace hy1 := hy1.out
    cases hcb : clientB k
    · rw [hcb] at hy1
      simp only [Bool.false_eq_true, if_false] at hy1
      obtain ⟨c1, hc1⟩ : ∃ c1 : Command, c1 = { zeroC with kind := k } := ⟨_, rfl⟩
      obtain ⟨x1, hx1⟩ : ∃ x1, x1 = x := ⟨_, rfl⟩
      rw [← hc1] at hD hy1
      rw [← hx1] at h0 hy1 hxz
      have hkc : 0 ≤ c1.kind ∧ c1.kind ≤ 14 := by rw [hc1]; exact hkb
      have hy : y = rdK (fieldsOf c1.kind) 13 (x1, c1) := by rw [hy1, hc1]
      have hlD := load_cmd hD rfl
      clear q0 hc1 hx1 hy1
      replace hy := Lib.hid hy
      go_wp2_with (first | (with_reducible refine wpList_load_rowW 64 (.tmp 5) D ?_ (csC c1) hlD ?_ ?_) | fail)
      rotate_right
      · skip
        refine (r_read R x1 c1 hkc W (by omega) h0).mono ?_
        rintro r w4 ⟨rfl, h4, hk4⟩; dsimp only
        rw [← hy.out] at h4 ⊢
        have hA4 := hk4.blk hA hAR
        have hD4 := hk4.blk hD hDR
        have hb4 := hb.trans (hk4.1 _ (by omega) hb.size)
        clear h0 hA hD hb hk4 hlD
        have hF4 : RR (w4.setRow D (csC y.2)) R y.1 ∧ Blk (w4.setRow D (csC y.2)) w.heap.size 64 (csC zeroC) ∧ Blk (w4.setRow D (csC y.2)) D 64 (csC y.2) ∧ Below w.heap.size w (w4.setRow D (csC y.2)) := ⟨Blk.offRow h4 (by omega), hA4.offRow (by omega), hD4.rowK, below_setRow hb4 (by omega) _⟩
        go_wp2_with (first | (with_reducible refine stw_cmd (.tmp 5) (.tmp 24) D y.2 (csC c1) hD4 (csC_size c1) (fun W => RR W R y.1 ∧ Blk W w.heap.size 64 (csC zeroC) ∧ Blk W D 64 (csC y.2) ∧ Below w.heap.size w W) hF4 ?_ ?_ ?_ ?_) | fail)
        rotate_right
        · skip
          refine Lib.hid ?_
          clear hF4 h4 hA4 hD4 hb4
          first | (intro W2 h5 hA5 hD5 hb5) | (rintro W2 ⟨h5, hA5, hD5, hb5⟩)
          go_wp2_with fail
          refine (rx_End R y.1.1 y.1.2 W2 h5).mono ?_
          rintro r w5 ⟨rfl, h6, hk6⟩; dsimp only
          rw [← hee.out]
          replace hA5 := hk6.blk hA5 hAR
          replace hD5 := hk6.blk hD5 hDR
          replace hb5 := hb5.trans (hk6.1 _ (by omega) hb5.size)
          clear h5 h6 hk6
          have hlD5 := load_cmd hD5 rfl
          by_cases he0 : e = 0
          · have hen : (e != 0) = false := by simpa using he0
            have hdec := hdec1.out he0
            cases hm : mayC y.2
            · rw [hm] at hdec HM
              go_wp2_with (first | (with_reducible refine wpList_load_rowW 64 (.tmp 5) D ?_ (csC y.2) hlD5 ?_ ?_) | fail)
              rotate_right
              · skip
                refine (HM.out _).mono ?_
                rintro r w6 ⟨rfl, hk7⟩; dsimp only
                replace hA5 := hA5.past hk7
                replace hb5 := hb5.trans (hk7.mono hb5.size)
                go_wp2_with (first | (with_reducible refine st_cmd (.tmp 2) (.tmp 33) w.heap.size zeroC ?_ ?_ (csC zeroC) hA5 (csC_size zeroC) ?_ ?_) | fail)
                rotate_right
                · skip
                  refine bodyPost_ret (results_row_tmp Try.results41 _ _ w.heap.size (csC zeroC) rfl (load_cmd hA5.rowK rfl)) rfl ?_
                  exact ⟨by rw [hdec.1, hdec.2]; rfl, below_setRow hb5 (Nat.le_refl _) _⟩
                all_goals first | rfl | (simp [Region.wanted, yielded, Act.put]; done)
              all_goals first | rfl | (simp [Region.wanted, yielded, Act.put]; done)
            · rw [hm] at hdec HM
              go_wp2_with (first | (with_reducible refine wpList_load_rowW 64 (.tmp 5) D ?_ (csC y.2) hlD5 ?_ ?_) | fail)
              rotate_right
              · skip
                refine (HM.out _).mono ?_
                rintro r w6 ⟨rfl, hk7⟩; dsimp only
                replace hA5 := hA5.past hk7
                have hlD6 := load_cmd (hD5.past hk7) rfl
                replace hb5 := hb5.trans (hk7.mono hb5.size)
                go_wp2_with (first | (with_reducible refine wpList_load_rowW 64 (.tmp 5) D ?_ (csC y.2) hlD6 ?_ ?_) | (with_reducible refine st_cmd (.tmp 2) (.tmp 34) w.heap.size y.2 ?_ ?_ (csC zeroC) hA5 (csC_size zeroC) ?_ ?_) | fail)
                rotate_right
                · skip
                  refine bodyPost_ret (results_row_tmp Try.results41 _ _ w.heap.size (csC y.2) rfl (load_cmd hA5.rowK rfl)) rfl ?_
                  exact ⟨by rw [hdec.1, hdec.2]; rfl, below_setRow hb5 (Nat.le_refl _) _⟩
                all_goals first | rfl | (simp [Region.wanted, yielded, Act.put]; done)
              all_goals first | rfl | (simp [Region.wanted, yielded, Act.put]; done)
          · have hen : (e != 0) = true := by simpa using he0
            have hdec := hdec2.out he0
            go_wp2_with (first | (with_reducible refine st_cmd (.tmp 2) (.tmp 33) w.heap.size zeroC ?_ ?_ (csC zeroC) hA5 (csC_size zeroC) ?_ ?_) | fail)
            rotate_right
            · skip
              refine bodyPost_ret (results_row_tmp Try.results41 _ _ w.heap.size (csC zeroC) rfl (load_cmd hA5.rowK rfl)) rfl ?_
              exact ⟨by rw [hdec.1, hdec.2]; rfl, below_setRow hb5 (Nat.le_refl _) _⟩
            all_goals first | rfl | (simp [Region.wanted, yielded, Act.put]; done)
        all_goals first | rfl | (simp [Region.wanted, yielded, Act.put]; done)
      all_goals first | rfl | (simp [Region.wanted, yielded, Act.put]; done)
    · rw [hcb] at hy1
      simp only [if_true] at hy1
      replace hy1 := Lib.hid hy1
      clear q0
      go_wp2_with fail
      refine (rG R x W hxz h0).mono ?_
      rintro r w3 ⟨rfl, h1, hk1⟩; dsimp only
      replace hA := hk1.blk hA hAR
      replace hD := hk1.blk hD hDR
      replace hb := hb.trans (hk1.1 _ (by omega) hb.size)
      clear h0 hk1
      have d1 : w3.cell? ⟨D, 1, none⟩ = some (.int .u64 0) := blk_cell hD rfl
      have fD : ∀ i, w3.frozen? ⟨D, i, none⟩ = false := hD.frozen
      have lD := hD.lt
      go_wp2_with fail
      refine calls_world (F := fun W => RR W R (nG x) ∧ Blk W w.heap.size 64 (csC zeroC) ∧ Blk W D 64 (csC { zeroC with kind := k, client := gG x }) ∧ Below w.heap.size w W) ⟨Blk.far h1 (p := ⟨D, 1, none⟩) (fun h => hDR h.symm) (.int .u64 (gG x)), hA.far (p := ⟨D, 1, none⟩) (by show w.heap.size ≠ D; omega) (.int .u64 (gG x)), hD.set_ 1 (.int .u64 (gG x)), hb.setCell (p := ⟨D, 1, none⟩) (by show w.heap.size ≤ D; omega) (.int .u64 (gG x))⟩ ?_
      clear h1 hA hD hb d1 fD lD
      rintro W4 ⟨h0, hA, hD, hb⟩
      refine (rG R (nG x) W4 (nG_sz _ hxz) h0).mono ?_
      rintro r w5 ⟨rfl, h1, hk1⟩; dsimp only
      replace hA := hk1.blk hA hAR
      replace hD := hk1.blk hD hDR
      replace hb := hb.trans (hk1.1 _ (by omega) hb.size)
      clear h0 hk1
      have d2 : w5.cell? ⟨D, 2, none⟩ = some (.int .u64 0) := blk_cell hD rfl
      have fD : ∀ i, w5.frozen? ⟨D, i, none⟩ = false := hD.frozen
      have lD := hD.lt
      obtain ⟨FF, hFF⟩ : ∃ FF : World → Prop, FF = (fun W => RR W R (nG (nG x)) ∧ Blk W w.heap.size 64 (csC zeroC) ∧ Blk W D 64 (csC { zeroC with kind := k, client := gG x, seq := gG (nG x) }) ∧ Below w.heap.size w W) := ⟨_, rfl⟩
      replace hFF := Lib.hid hFF
      go_wp2_with (with_reducible refine ops_at 23 rfl FF ?_ ?_)
      · rw [hFF.out]
        exact Lib.hid ⟨Blk.far h1 (p := ⟨D, 2, none⟩) (fun h => hDR h.symm) (.int .u64 (gG (nG x))), hA.far (p := ⟨D, 2, none⟩) (by show w.heap.size ≠ D; omega) (.int .u64 (gG (nG x))), hD.set_ 2 (.int .u64 (gG (nG x))), hb.setCell (p := ⟨D, 2, none⟩) (by show w.heap.size ≤ D; omega) (.int .u64 (gG (nG x)))⟩
      · refine Lib.hid ?_
        clear h1 hA hD hb d2 fD lD
        intro W hW
        rw [hFF.out] at hW
        obtain ⟨h0, hA, hD, hb⟩ := hW
        obtain ⟨c1, hc1⟩ : ∃ c1 : Command, c1 = { zeroC with kind := k, client := gG x, seq := gG (nG x) } := ⟨_, rfl⟩
        obtain ⟨x1, hx1⟩ : ∃ x1, x1 = nG (nG x) := ⟨_, rfl⟩
        replace hy1 := hy1.out
        rw [← hc1] at hD hy1
        rw [← hx1] at h0 hy1
        replace hxz : x1.1.size ≤ 140737488351232 := by rw [hx1]; exact nG_sz _ (nG_sz _ hxz)
        have hkc : 0 ≤ c1.kind ∧ c1.kind ≤ 14 := by rw [hc1]; exact hkb
        have hy : y = rdK (fieldsOf c1.kind) 13 (x1, c1) := by rw [hy1, hc1]
        have hlD := load_cmd hD rfl
        clear hc1 hx1 hy1
        replace hy := Lib.hid hy
        go_wp2_with (first | (with_reducible refine wpList_load_rowW 64 (.tmp 5) D ?_ (csC c1) hlD ?_ ?_) | fail)
        rotate_right
        · skip
          refine (r_read R x1 c1 hkc W (by omega) h0).mono ?_
          rintro r w4 ⟨rfl, h4, hk4⟩; dsimp only
          rw [← hy.out] at h4 ⊢
          have hA4 := hk4.blk hA hAR
          have hD4 := hk4.blk hD hDR
          have hb4 := hb.trans (hk4.1 _ (by omega) hb.size)
          clear h0 hA hD hb hk4 hlD
          have hF4 : RR (w4.setRow D (csC y.2)) R y.1 ∧ Blk (w4.setRow D (csC y.2)) w.heap.size 64 (csC zeroC) ∧ Blk (w4.setRow D (csC y.2)) D 64 (csC y.2) ∧ Below w.heap.size w (w4.setRow D (csC y.2)) := ⟨Blk.offRow h4 (by omega), hA4.offRow (by omega), hD4.rowK, below_setRow hb4 (by omega) _⟩
          go_wp2_with (first | (with_reducible refine stw_cmd (.tmp 5) (.tmp 24) D y.2 (csC c1) hD4 (csC_size c1) (fun W => RR W R y.1 ∧ Blk W w.heap.size 64 (csC zeroC) ∧ Blk W D 64 (csC y.2) ∧ Below w.heap.size w W) hF4 ?_ ?_ ?_ ?_) | fail)
          rotate_right
          · skip
            refine Lib.hid ?_
            clear hF4 h4 hA4 hD4 hb4
            first | (intro W2 h5 hA5 hD5 hb5) | (rintro W2 ⟨h5, hA5, hD5, hb5⟩)
            go_wp2_with fail
            refine (rx_End R y.1.1 y.1.2 W2 h5).mono ?_
            rintro r w5 ⟨rfl, h6, hk6⟩; dsimp only
            rw [← hee.out]
            replace hA5 := hk6.blk hA5 hAR
            replace hD5 := hk6.blk hD5 hDR
            replace hb5 := hb5.trans (hk6.1 _ (by omega) hb5.size)
            clear h5 h6 hk6
            have hlD5 := load_cmd hD5 rfl
            by_cases he0 : e = 0
            · have hen : (e != 0) = false := by simpa using he0
              have hdec := hdec1.out he0
              cases hm : mayC y.2
              · rw [hm] at hdec HM
                go_wp2_with (first | (with_reducible refine wpList_load_rowW 64 (.tmp 5) D ?_ (csC y.2) hlD5 ?_ ?_) | fail)
                rotate_right
                · skip
                  refine (HM.out _).mono ?_
                  rintro r w6 ⟨rfl, hk7⟩; dsimp only
                  replace hA5 := hA5.past hk7
                  replace hb5 := hb5.trans (hk7.mono hb5.size)
                  go_wp2_with (first | (with_reducible refine st_cmd (.tmp 2) (.tmp 33) w.heap.size zeroC ?_ ?_ (csC zeroC) hA5 (csC_size zeroC) ?_ ?_) | fail)
                  rotate_right
                  · skip
                    refine bodyPost_ret (results_row_tmp Try.results41 _ _ w.heap.size (csC zeroC) rfl (load_cmd hA5.rowK rfl)) rfl ?_
                    exact ⟨by rw [hdec.1, hdec.2]; rfl, below_setRow hb5 (Nat.le_refl _) _⟩
                  all_goals first | rfl | (simp [Region.wanted, yielded, Act.put]; done)
                all_goals first | rfl | (simp [Region.wanted, yielded, Act.put]; done)
              · rw [hm] at hdec HM
                go_wp2_with (first | (with_reducible refine wpList_load_rowW 64 (.tmp 5) D ?_ (csC y.2) hlD5 ?_ ?_) | fail)
                rotate_right
                · skip
                  refine (HM.out _).mono ?_
                  rintro r w6 ⟨rfl, hk7⟩; dsimp only
                  replace hA5 := hA5.past hk7
                  have hlD6 := load_cmd (hD5.past hk7) rfl
                  replace hb5 := hb5.trans (hk7.mono hb5.size)
                  go_wp2_with (first | (with_reducible refine wpList_load_rowW 64 (.tmp 5) D ?_ (csC y.2) hlD6 ?_ ?_) | (with_reducible refine st_cmd (.tmp 2) (.tmp 34) w.heap.size y.2 ?_ ?_ (csC zeroC) hA5 (csC_size zeroC) ?_ ?_) | fail)
                  rotate_right
                  · skip
                    refine bodyPost_ret (results_row_tmp Try.results41 _ _ w.heap.size (csC y.2) rfl (load_cmd hA5.rowK rfl)) rfl ?_
                    exact ⟨by rw [hdec.1, hdec.2]; rfl, below_setRow hb5 (Nat.le_refl _) _⟩
                  all_goals first | rfl | (simp [Region.wanted, yielded, Act.put]; done)
                all_goals first | rfl | (simp [Region.wanted, yielded, Act.put]; done)
            · have hen : (e != 0) = true := by simpa using he0
              have hdec := hdec2.out he0
              go_wp2_with (first | (with_reducible refine st_cmd (.tmp 2) (.tmp 33) w.heap.size zeroC ?_ ?_ (csC zeroC) hA5 (csC_size zeroC) ?_ ?_) | fail)
              rotate_right
              · skip
                refine bodyPost_ret (results_row_tmp Try.results41 _ _ w.heap.size (csC zeroC) rfl (load_cmd hA5.rowK rfl)) rfl ?_
                exact ⟨by rw [hdec.1, hdec.2]; rfl, below_setRow hb5 (Nat.le_refl _) _⟩
              all_goals first | rfl | (simp [Region.wanted, yielded, Act.put]; done)
          all_goals first | rfl | (simp [Region.wanted, yielded, Act.put]; done)
        all_goals first | rfl | (simp [Region.wanted, yielded, Act.put]; done)
  all_goals first | rfl | (simp [Region.wanted, yielded, Act.put]; done)
end Go.Proofs.Yteglieoeblehpaa
