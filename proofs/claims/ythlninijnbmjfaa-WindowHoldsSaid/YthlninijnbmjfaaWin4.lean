/- Windows: how many ticks are within a time, walked. Conditions: the list is in memory. -/
import Derived.Test.YthlninijnbmjfaaWin3
namespace Go.Proofs.Ythlninijnbmjfaa
open Go.RowKit Go.Shelf
attribute [local go_sem] Oper.semAt_some

theorem cntW_le (xs : List Int) (wn now : Int) : cntW xs wn now ≤ xs.length := by
  unfold cntW
  split
  · exact wit_len _ _ _
  · exact Nat.zero_le _
theorem len_snoc {pre : List Int} {x : Int} : ((pre ++ [x]).length : Int) = (pre.length : Int) + 1 := by simp
set_option maxRecDepth 100000 in
set_option maxHeartbeats 1000000 in
theorem w_Count (A : Option Addr) (n c : Nat) (wn now : Int) (xs : List Int) (hl : xs.length = n) (hn : n ≤ 1000000) (w : World) (hA : IntsIn w A xs) :
    Calls Try.prog 53 #[.slice A n c, .int .i64 wn, .int .i64 now] w fun r w' => r = .returned (.int .i64 (cntW xs wn now)) ∧ Below w.heap.size w w' := by
  cases hwin : winB wn now
  · have hR : cntW xs wn now = 0 := by unfold cntW; rw [hwin]; rfl
    rw [hR]
    clear hR
    have C1 := Lib.hid (fun w => w_timed now w)
    unfold winB at hwin
    by_cases h0 : wn < 1
    · go_enter Try.func53, Try.ntmps53
      go_wp2_with fail
      refine bodyPost_ret (v := .int .i64 0) (by simp [results, Try.results53, go_sem]) rfl ?_
      exact ⟨rfl, by go_grown⟩
    · by_cases h1 : 4294967296 < wn
      · go_enter Try.func53, Try.ntmps53
        go_wp2_with fail
        refine bodyPost_ret (v := .int .i64 0) (by simp [results, Try.results53, go_sem]) rfl ?_
        exact ⟨rfl, by go_grown⟩
      · have h2 : timedB now = false := by
          rw [show decide (1 ≤ wn) = true by simp; omega, show decide (wn ≤ 4294967296) = true by simp; omega] at hwin
          simpa using hwin
        rw [h2] at C1
        clear h2 hwin
        go_enter Try.func53, Try.ntmps53
        go_wp2_with fail
        refine (C1.out _).mono ?_
        rintro r w1 ⟨rfl, rfl⟩; dsimp only
        go_wp2_with fail
        refine bodyPost_ret (v := .int .i64 0) (by simp [results, Try.results53, go_sem]) rfl ?_
        exact ⟨rfl, by go_grown⟩
  · have hR : Hid (cntW xs wn now = (wit wn now xs).length) := Lib.hid (by unfold cntW; rw [if_pos hwin])
    have C1 := Lib.hid (fun w => w_timed now w)
    have hwn := winB_yes.1 hwin
    have ht : timedB now = true := by unfold timedB; simp; omega
    rw [ht] at C1
    obtain ⟨h0, h1, -, -⟩ := hwn
    have HA := Lib.hid hA
    clear hA ht
    replace hwin := Lib.hid hwin
    refine (callsIn_wide (n := 3)).1 ?_
    refine callsIn_of_wp_marks Try.func53 rfl trivial ?_ rfl
    simp only [Try.ntmps53, List.size_toArray, List.length_cons, List.length_nil, Nat.reduceAdd, Nat.reduceSub, Array.replicate_succ, Array.replicate_zero, List.push_toArray, List.append_toArray, List.nil_append, List.cons_append]
    refine wpIn_wide.2 ?_
    have hq0 : ¬ wn < 1 := by omega
    have hq1 : ¬ 4294967296 < wn := by omega
    go_wp2_with fail
    refine (C1.out _).mono ?_
    rintro r w1 ⟨rfl, rfl⟩; dsimp only
    go_wp2_with fail
    refine (w_within _ _ _ _ _ _).mono ?_
    rintro r w1 ⟨rfl, rfl⟩; dsimp only
    have bN := Boxed.new w 3 (.int .i64 0)
    have hbN : Below w.heap.size w (w.alloc (.cells #[.int .i64 0] 3)) := by go_grown
    have hsN : (w.alloc (.cells #[.int .i64 0] 3)).heap.size = w.heap.size + 1 := by simp
    generalize hWN : w.alloc (.cells #[.int .i64 0] 3) = WN at *
    clear hWN
    obtain ⟨W9, hW9, c1, c2, c3, hs9, hb9⟩ := three_boxes WN 50 2 2 (.slice A n c) (.int .i64 wn) (.int .i64 now)
    rw [← hW9]
    clear hW9
    have hbw : Below w.heap.size w W9 := hbN.trans (hb9.mono (by omega))
    replace bN : Boxed W9 _ _ _ := (hb9.block _ bN.lt).trans bN
    clear hb9 hbN
    generalize WN.heap.size = g at *
    replace hsN : w.heap.size < g := by omega
    replace hs9 : g + 2 < W9.heap.size := by omega
    go_wp2_with fail
    refine wp_range (gf := 82) (lb := #[.pointer (some ⟨g, 0, none⟩), .pointer (some ⟨g + 1 + 1, 0, none⟩), .pointer (some ⟨g + 1, 0, none⟩)]) rfl (enters_of Try.func82 (by kernel_rfl) rfl) (fun x : Int => #[.int .i64 x]) (fun _ => rfl) g (by omega)
      (fun k => k < W9.heap.size ∧ k ≠ w.heap.size) (fun k hk => hk.1)
      (fun ys => ys = wit wn now xs) (fun _ => True) (fun pre _ => pre.length < n)
      (fun pre W => Boxed W w.heap.size 3 (.int .i64 (pre.length : Nat)) ∧ Below w.heap.size W9 W)
      (fun _ _ _ => False)
      (fun x a' _ => a' = { tmps := #[.slice A n c, .int .i64 wn, .int .i64 now, undef, undef, undef, .pointer (some ⟨w.heap.size, 0, none⟩), .int .i64 wn, .bool false, .bool false, .int .i64 wn, .bool false, .bool false, .bool false, .int .i64 now, .bool true, .bool false, .bool false, .slice A n c, .int .i64 wn, .int .i64 now, .func (.func 82) #[] #[.pointer (some ⟨g, 0, none⟩), .pointer (some ⟨g + 1 + 1, 0, none⟩), .pointer (some ⟨g + 1, 0, none⟩)], .int .i64 x, undef, undef, undef], defers := [] })
      ?hseq ?hI ?hIx ?pI ?pIx ?pAx ?h0 ?hassign ?hbody ?hdone ?hstop
    case hseq =>
      intro l J Jx W1 hb hJ hJx hY h0
      refine w_iter l g (g + 1 + 1) (g + 1) A n c wn now xs hl hn hwin.out _ J Jx W1 (fun pre x W hj hx => hY pre x W hj hx) ⟨by omega, by omega⟩ ⟨by omega, by omega⟩ ⟨by omega, by omega⟩ ?_ ?_ ?_ ?_ h0
      · exact IntsR.of HA.out (hbw.trans (hb.mono (by omega))) (fun k hk => ⟨by omega, by omega⟩)
      · exact (hb.block _ c1.lt).trans c1
      · exact (hb.block _ c3.lt).trans c3
      · exact (hb.block _ c2.lt).trans c2
    case hI =>
      rintro pre W W' ⟨h1, h4⟩ hm
      have hz := h4.size
      exact ⟨h1.movedTo hm (by omega), hm.belowTo h4 (by omega)⟩
    case hIx => exact fun _ _ _ _ h _ => h
    case pI => exact Puts.own (OwnFrom.and (Own.from (boxed_own _ _ (fun pre => .int .i64 (List.length pre : Nat))) _) (ownFrom_below (by omega) (by omega)))
    case pIx => exact fun _ _ _ _ _ _ h _ _ _ => h
    case pAx => exact fun _ _ _ _ _ _ _ h _ _ _ => h
    case h0 => exact ⟨bN, Below.refl _ _⟩
    case hassign =>
      rintro l pre x W K hi hok hK
      simp (config := { iota := true }) only [List.zip_toArray, List.zip_cons_cons, List.zip_nil_right, List.foldl_toArray, List.foldl_cons, List.foldl_nil, List.setIfInBounds_toArray, List.set_cons_succ, List.set_cons_zero]
      gi_wp2
      exact hK _ _ (KeepsFrom.refl _ _) (SameOn.refl _ _) hi rfl
    case hbody =>
      rintro l pre x a' W ⟨h1, h4⟩ rfl hx
      have Fc := h1.cell
      have Ff := h1.frozen
      have hwr : wrap64 ((pre.length : Int) + 1) = ((pre.length + 1 : Nat) : Int) := by unfold wrap64; omega
      have hk : ∀ v, Boxed (W.setCell ⟨w.heap.size, 0, none⟩ v) w.heap.size 3 v ∧ Below w.heap.size W9 (W.setCell ⟨w.heap.size, 0, none⟩ v) ∧ (∀ k, k ≠ w.heap.size → (W.setCell ⟨w.heap.size, 0, none⟩ v).heap[k]? = W.heap[k]?) ∧ (W.setCell ⟨w.heap.size, 0, none⟩ v).heap.size = W.heap.size := fun v => ⟨h1.set v, h4.setCell (by simp) _, fun k hne => Below.heap_setCell _ ⟨_, _, _⟩ _ k (fun e => hne e), by simp⟩
      have e := Lib.hid (@len_snoc pre x)
      have hlp : Hid ((pre ++ [x]).length = pre.length + 1) := Lib.hid (by simp)
      replace hk := Lib.hid hk
      gi_wp2
      obtain ⟨k1, k2, k3, k4⟩ := hk.out (.int .i64 ((pre.length + 1 : Nat) : Int))
      exact ⟨keepsFrom_all (Nat.le_of_eq k4.symm) (fun k hk' _ => k3 k (by omega)), fun k hk' => k3 k hk'.2, by rw [hlp.out]; exact k1, k2⟩
    case hdone =>
      rintro D xs' W hD hS ⟨h1, h4⟩ hK
      subst hS
      have Fc := h1.cell
      have Ff := h1.frozen
      go_wp2_with fail
      have k1 := h1.set (.int .i64 ((wit wn now xs).length : Nat))
      have k2 : Below w.heap.size W9 (W.setCell ⟨w.heap.size, 0, none⟩ (.int .i64 ((wit wn now xs).length : Nat))) := h4.setCell (by simp) _
      have k3 : (W.setCell ⟨w.heap.size, 0, none⟩ (.int .i64 ((wit wn now xs).length : Nat))).heap[D]? = W.heap[D]? := Below.heap_setCell _ ⟨_, _, _⟩ _ D (fun e => by simp at e; omega)
      generalize W.setCell ⟨w.heap.size, 0, none⟩ (.int .i64 ((wit wn now xs).length : Nat)) = W' at *
      refine ⟨by simp, .inl ⟨_, _, rfl, run_takeDeferred (k3.trans hK), ?_⟩⟩
      refine ⟨.int .i64 ((wit wn now xs).length : Nat), ?_, by rw [hR.out], below_putObj _ (hbw.trans k2) (by omega)⟩
      have k4 : Boxed (W'.putObj D (.deferred none)) w.heap.size 3 _ := (World.putObj_heap_other (by omega)).trans k1
      have k5 := k4.cell
      simp only [results, show Try.f53.results = #[.cell 6 3] from rfl]
      go_simp
    case hstop => exact fun _ _ _ _ _ _ h _ => h.elim
end Go.Proofs.Ythlninijnbmjfaa
