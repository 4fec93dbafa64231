/- frame.Scan, walked. Conditions: the text is in memory. -/
import Derived.Test.YthlninijnbmjfaaFr5
namespace Go.Proofs.Ythlninijnbmjfaa
open Go.RowKit Go.Shelf
attribute [local go_sem] Oper.semAt_some

theorem _root_.Go.Boxed.moved {W W' : World} {B b : Nat} {t : TypeId} {v : Value} (h : Boxed W b t v) (hm : Moved B W W') (hne : b ≠ B) : Boxed W' b t v := (hm.block _ h.lt hne).trans h
theorem _root_.Go.World.ownsRow.moved {W W' : World} {B base : Nat} {e : TypeId} {size : Nat} {v : Value} {k : Nat} {xs : List Value} (h : W.ownsRow base e size v k xs) (hm : Moved B W W') (hb : B < base) : W'.ownsRow base e size v k xs :=
  ⟨h.1, h.2.imp id fun ⟨g, cap, cur, hv, hB, hg, r⟩ => ⟨g, cap, cur, hv, hB, (hm.block g (Array.getElem?_eq_some_iff.1 hg).1 (by omega)).trans hg, r⟩⟩
theorem Moved.below {B n : Nat} {w W W' : World} (hm : Moved B W W') (h : Below n w W) (hn : n ≤ B) (hw : n ≤ w.heap.size := by omega) : Below n w W' :=
  ⟨hm.os.trans h.os, hm.tape.trans h.tape, hm.output.trans h.output, Nat.le_trans h.size hm.size, fun k hk => (hm.block k (Nat.lt_of_lt_of_le (Nat.lt_of_lt_of_le hk hw) h.size) (by omega)).trans (h.block k hk)⟩
theorem three {W : World} {b : Nat} {tL tI tE : TypeId} {v x y : Value} (v' x' y' : Value) (h2 : Boxed W b tL v) (h5 : Boxed W (b + 1) tI x) (h6 : Boxed W (b + 1 + 1) tE y) :
    Boxed (((W.setCell ⟨b, 0, none⟩ v').setCell ⟨b + 1, 0, none⟩ x').setCell ⟨b + 1 + 1, 0, none⟩ y') b tL v' ∧ Boxed (((W.setCell ⟨b, 0, none⟩ v').setCell ⟨b + 1, 0, none⟩ x').setCell ⟨b + 1 + 1, 0, none⟩ y') (b + 1) tI x' ∧
    Boxed (((W.setCell ⟨b, 0, none⟩ v').setCell ⟨b + 1, 0, none⟩ x').setCell ⟨b + 1 + 1, 0, none⟩ y') (b + 1 + 1) tE y' ∧ (∀ k, b + 1 + 1 < k → (((W.setCell ⟨b, 0, none⟩ v').setCell ⟨b + 1, 0, none⟩ x').setCell ⟨b + 1 + 1, 0, none⟩ y').heap[k]? = W.heap[k]?) ∧ (∀ base e size u k xs, W.ownsRow base e size u k xs → b + 1 + 1 < base → World.ownsRow (((W.setCell ⟨b, 0, none⟩ v').setCell ⟨b + 1, 0, none⟩ x').setCell ⟨b + 1 + 1, 0, none⟩ y') base e size u k xs) ∧ (∀ W0, Below b W0 W → Below b W0 (((W.setCell ⟨b, 0, none⟩ v').setCell ⟨b + 1, 0, none⟩ x').setCell ⟨b + 1 + 1, 0, none⟩ y')) :=
  ⟨Blk.far (Blk.far (h2.set v') (by simp) _) (by simp; omega) _, Blk.far (Boxed.set x' (Blk.far h5 (by simp) _)) (by simp) _, Boxed.set y' (Blk.far (Blk.far h6 (by simp; omega) _) (by simp) _),
    fun k hk => ((Below.heap_setCell _ _ _ _ (by simp; omega)).trans (Below.heap_setCell _ _ _ _ (by simp; omega))).trans (Below.heap_setCell _ _ _ _ (by simp; omega)),
    fun _ _ _ _ _ _ h hb => ((h.moved (Moved.set_ (B := b) 0 _) (by omega)).moved (Moved.set_ (B := b + 1) 0 _) (by omega)).moved (Moved.set_ (B := b + 1 + 1) 0 _) (by omega), fun _ h => ((h.setCell (by simp) _).setCell (by simp) _).setCell (by simp; omega) _⟩
theorem two {W : World} {b : Nat} {tL tI tE : TypeId} {v x y : Value} (v' x' : Value) (h2 : Boxed W b tL v) (h5 : Boxed W (b + 1) tI x) (h6 : Boxed W (b + 1 + 1) tE y) :
    Boxed ((W.setCell ⟨b, 0, none⟩ v').setCell ⟨b + 1, 0, none⟩ x') b tL v' ∧ Boxed ((W.setCell ⟨b, 0, none⟩ v').setCell ⟨b + 1, 0, none⟩ x') (b + 1) tI x' ∧
    Boxed ((W.setCell ⟨b, 0, none⟩ v').setCell ⟨b + 1, 0, none⟩ x') (b + 1 + 1) tE y ∧ (∀ k, b + 1 < k → ((W.setCell ⟨b, 0, none⟩ v').setCell ⟨b + 1, 0, none⟩ x').heap[k]? = W.heap[k]?) ∧ (∀ base e size u k xs, W.ownsRow base e size u k xs → b + 1 + 1 < base → World.ownsRow ((W.setCell ⟨b, 0, none⟩ v').setCell ⟨b + 1, 0, none⟩ x') base e size u k xs) ∧ (∀ W0, Below b W0 W → Below b W0 ((W.setCell ⟨b, 0, none⟩ v').setCell ⟨b + 1, 0, none⟩ x')) :=
  ⟨Blk.far (h2.set v') (by simp) _, Boxed.set x' (Blk.far h5 (by simp) _), Blk.far (Blk.far h6 (by simp; omega) _) (by simp) _,
    fun k hk => (Below.heap_setCell _ _ _ _ (by simp; omega)).trans (Below.heap_setCell _ _ _ _ (by simp; omega)),
    fun _ _ _ _ _ _ h hb => (h.moved (Moved.set_ (B := b) 0 _) (by omega)).moved (Moved.set_ (B := b + 1) 0 _) (by omega), fun _ h => (h.setCell (by simp) _).setCell (by simp) _⟩
theorem Blk.not_row {W : World} {B : Nat} {t e : TypeId} {cs : Array Value} (h : Blk W B t cs) (hte : t ≠ e) {base size k : Nat} {v : Value} {xs : List Value} (hr : W.ownsRow base e size v k xs) : some B ≠ v.ownBlock := by
  rcases hr.2 with ⟨rfl, _⟩ | ⟨g, cap, cur, rfl, _, hgb, _⟩
  · simp [Value.ownBlock]
  · intro e'
    obtain rfl : B = g := by simpa [Value.ownBlock] using e'
    have := (show W.heap[B]? = _ from h).symm.trans hgb
    simp at this
    exact hte this.2
theorem own_cells {W : World} {base : Nat} {e : TypeId} {size k : Nat} {v : Value} {xs : List Value} (hr : W.ownsRow base e size v k xs) {i : Nat} {o : Obj} (hi : W.heap[i]? = some o) (hc : o.isCells = false) : some i ≠ v.ownBlock := by
  rcases hr.2 with ⟨rfl, _⟩ | ⟨g, cap, cur, rfl, _, hgb, _⟩
  · simp [Value.ownBlock]
  · intro e'
    obtain rfl : i = g := by simpa [Value.ownBlock] using e'
    rw [hi] at hgb
    cases hgb
    cases hc
theorem own_put {W : World} {base : Nat} {e : TypeId} {size k : Nat} {v : Value} {xs : List Value} (hr : W.ownsRow base e size v k xs) {i : Nat} {o o' : Obj} (hi : W.heap[i]? = some o) (hc : o.isCells = false) : (W.putObj i o').ownsRow base e size v k xs :=
  ⟨hr.1, hr.2.imp id fun ⟨g, cap, cur, hv, hB, hg, r⟩ => ⟨g, cap, cur, hv, hB, (World.putObj_heap_other (by rintro rfl; rw [hi] at hg; cases hg; cases hc)).trans hg, r⟩⟩
theorem own_shape {W : World} {base : Nat} {e : TypeId} {size k : Nat} {v : Value} {xs : List Value} (hr : W.ownsRow base e size v k xs) : ∃ p n c, v = .slice p n c := by
  rcases hr.2 with ⟨rfl, _⟩ | ⟨g, cap, cur, rfl, _⟩
  · exact ⟨_, _, _, rfl⟩
  · exact ⟨_, _, _, rfl⟩
theorem keepsFrom_heap {B : Nat} {W W' : World} (hs : W.heap.size ≤ W'.heap.size) (h : ∀ k, B ≤ k → k < W.heap.size → W'.heap[k]? = W.heap[k]?) : KeepsFrom B W W' :=
  ⟨hs, fun i o hB hi _ => (h i hB (Array.getElem?_eq_some_iff.1 hi).1).trans hi⟩
theorem fr_all (s : ByteArray) (w : World) : Calls Try.prog 51 #[.string s] w fun e w' => e = .returned (.func (.func 76) #[] #[.pointer (some ⟨w.heap.size, 0, none⟩)]) ∧ w' = w.alloc (.cells #[.string s] 9) := by
  go_enter Try.func51, Try.ntmps51
  go_wp2
  go_ret
  exact ⟨rfl, rfl⟩
set_option maxRecDepth 100000 in
set_option maxHeartbeats 8000000 in
theorem fr_Scan (s : ByteArray) (hs : s.size ≤ 1000000) (w : World) : Calls Try.prog 18 #[.string s] w (ScanPost w s.data.toList) := by
  obtain ⟨i0, hi, hz0, hz1, hz2⟩ := info_parts info_str
  refine (callsIn_wide (n := 3)).1 ?_
  refine callsIn_of_wp_marks Try.func18 rfl trivial ?_ rfl
  simp only [Try.ntmps18, List.size_toArray, List.length_cons, List.length_nil, Nat.reduceAdd, Nat.reduceSub, Array.replicate_succ, Array.replicate_zero, List.push_toArray, List.append_toArray, List.nil_append, List.cons_append]
  refine wpIn_wide.2 ?_
  go_wp2_with fail
  refine (fr_all _ _).mono ?_
  rintro r w1 ⟨rfl, rfl⟩; dsimp only
  have bL := Boxed.new w 32 (.slice none 0 0)
  have bG := Boxed.new (w.alloc (.cells #[.slice none 0 0] 32)) 3 (.int .i64 0)
  have bE := Boxed.new ((w.alloc (.cells #[.slice none 0 0] 32)).alloc (.cells #[.int .i64 0] 3)) 23 (.int .i64 0)
  have bS := Boxed.new (((w.alloc (.cells #[.slice none 0 0] 32)).alloc (.cells #[.int .i64 0] 3)).alloc (.cells #[.int .i64 0] 23)) 9 (.string s)
  simp only [World.size_alloc] at bG bE bS
  have bE' := bE.alloc (.cells #[.string s] 9)
  have bG' := (bG.alloc (.cells #[.int .i64 0] 23)).alloc (.cells #[.string s] 9)
  have bL' := ((bL.alloc (.cells #[.int .i64 0] 3)).alloc (.cells #[.int .i64 0] 23)).alloc (.cells #[.string s] 9)
  have hB0 : Below w.heap.size w ((((w.alloc (.cells #[.slice none 0 0] 32)).alloc (.cells #[.int .i64 0] 3)).alloc (.cells #[.int .i64 0] 23)).alloc (.cells #[.string s] 9)) := by go_grown
  clear bE bG bL
  have hWs : ((((w.alloc (.cells #[.slice none 0 0] 32)).alloc (.cells #[.int .i64 0] 3)).alloc (.cells #[.int .i64 0] 23)).alloc (.cells #[.string s] 9)).heap.size = w.heap.size + 4 := by simp
  have hW3 : (((w.alloc (.cells #[.slice none 0 0] 32)).alloc (.cells #[.int .i64 0] 3)).alloc (.cells #[.int .i64 0] 23)).heap.size = w.heap.size + 3 := by simp
  go_wp2_with fail
  rw [hW3]
  generalize ((((w.alloc (.cells #[.slice none 0 0] 32)).alloc (.cells #[.int .i64 0] 3)).alloc (.cells #[.int .i64 0] 23)).alloc (.cells #[.string s] 9)) = W0 at *
  clear hW3
  have hend : ∀ (W : World) (D : Nat) (x25 x26 : Value), W0.heap.size ≤ D → W.heap[D]? = some (.deferred (some [])) → ∀ v, Boxed W w.heap.size 32 v → W.ownsRow (w.heap.size + 4) 9 1 v (scan s.data.toList).1.length (strs (scan s.data.toList).1) →
      Boxed W (w.heap.size + 1) 3 (.int .i64 (scan s.data.toList).2.1) → Boxed W (w.heap.size + 1 + 1) 23 (.int .i64 (scan s.data.toList).2.2) → Below w.heap.size W0 W →
      bodyPostM Fence.wide 3 Try.prog Try.f18 (ScanPost w s.data.toList) Exit.ret { tmps := #[.string s, undef, .pointer (some ⟨w.heap.size, 0, none⟩), .pointer (some ⟨w.heap.size + 1, 0, none⟩), .pointer (some ⟨w.heap.size + 1 + 1, 0, none⟩), undef, .string s, .func (.func 76) #[] #[.pointer (some ⟨w.heap.size + 3, 0, none⟩)], undef, undef, undef, undef, undef, undef, undef, undef, undef, undef, undef, undef, undef, undef, undef, undef, undef, x25, x26], defers := [{ target := Target.collected D, args := #[] }] } W := by
    intro W D x25 x26 hD hK v k2 k3 k5 k6 k7
    refine ⟨by simp, .inl ⟨_, _, rfl, run_takeDeferred hK, ?_⟩⟩
    have hk : ∀ k, k < W0.heap.size → (W.putObj D (.deferred none)).heap[k]? = W.heap[k]? := fun k hk => World.putObj_heap_other (by omega)
    replace k2 : Boxed (W.putObj D (.deferred none)) _ _ _ := (hk _ (by omega)).trans k2
    replace k5 : Boxed (W.putObj D (.deferred none)) _ _ _ := (hk _ (by omega)).trans k5
    replace k6 : Boxed (W.putObj D (.deferred none)) _ _ _ := (hk _ (by omega)).trans k6
    replace k3 : (W.putObj D (.deferred none)).ownsRow _ _ _ _ _ _ := own_put k3 hK rfl
    replace k7 : Below w.heap.size w (W.putObj D (.deferred none)) := ⟨k7.os.trans hB0.os, k7.tape.trans hB0.tape, k7.output.trans hB0.output, by have := k7.size; simp; omega, fun k hk' => (hk k (by omega)).trans ((k7.block k hk').trans (hB0.block k hk'))⟩
    generalize W.putObj D (.deferred none) = W' at *
    have Bc := k2.cell
    have Cc := k5.cell
    have Dc := k6.cell
    refine ⟨.tuple #[v, .int .i64 (scan s.data.toList).2.1, .int .i64 (scan s.data.toList).2.2], ?_, v, rfl, ⟨k3.1, k3.2.imp id (fun ⟨g, cap, cur, h1, h2, h3⟩ => ⟨g, cap, cur, h1, by omega, h3⟩)⟩, k7⟩
    obtain ⟨p0, n0, c0, rfl⟩ := own_shape k3
    simp only [results, show Try.f18.results = #[.cell 2 32, .cell 3 3, .cell 4 23] from rfl]
    go_simp
  refine wp_range (gf := 76) (lb := #[.pointer (some ⟨w.heap.size + 3, 0, none⟩)]) rfl (enters_of Try.func76 (by kernel_rfl) rfl) (oneV s.data.toList) (fun _ => rfl) (w.heap.size + 3) (by omega) (· = w.heap.size + 3) (fun k hk => by omega)
    (AllRead s.data.toList) (fun _ => True) (OkAt s.data.toList)
    (fun pre W => Hid (∀ k ∈ pre, readE (s.data.toList.drop k) = 0) ∧ (∃ v, Boxed W w.heap.size 32 v ∧ W.ownsRow (w.heap.size + 4) 9 1 v (texts s.data.toList pre).length (strs (texts s.data.toList pre)) ∧ True) ∧ Boxed W (w.heap.size + 1) 3 (.int .i64 (pos s.data.toList pre)) ∧ Boxed W (w.heap.size + 1 + 1) 23 (.int .i64 0) ∧ Below w.heap.size W0 W)
    (fun c _ W => c = .ret ∧ (∃ v, Boxed W w.heap.size 32 v ∧ W.ownsRow (w.heap.size + 4) 9 1 v (scan s.data.toList).1.length (strs (scan s.data.toList).1) ∧ True) ∧ Boxed W (w.heap.size + 1) 3 (.int .i64 (scan s.data.toList).2.1) ∧ Boxed W (w.heap.size + 1 + 1) 23 (.int .i64 (scan s.data.toList).2.2) ∧ Below w.heap.size W0 W)
    (fun x a' W => ∃ X, w.heap.size + 3 < X ∧ Blk W X 93 #[.string (bs (readT (s.data.toList.drop x))), .int .i64 (readN (s.data.toList.drop x)), .int .i64 (readE (s.data.toList.drop x))] ∧ a' = { tmps := #[.string s, undef, .pointer (some ⟨w.heap.size, 0, none⟩), .pointer (some ⟨w.heap.size + 1, 0, none⟩), .pointer (some ⟨w.heap.size + 1 + 1, 0, none⟩), .pointer (some ⟨X, 0, none⟩), .string s, .func (.func 76) #[] #[.pointer (some ⟨w.heap.size + 3, 0, none⟩)], .agg #[.string (bs (readT (s.data.toList.drop x))), .int .i64 (readN (s.data.toList.drop x)), .int .i64 (readE (s.data.toList.drop x))], undef, undef, undef, undef, undef, undef, undef, undef, undef, undef, undef, undef, undef, undef, undef, undef, undef, undef], defers := [] })
    ?hseq ?hI ?hIx ?pI ?pIx ?pAx ?h0 ?hassign ?hbody ?hdone ?hstop
  case hseq =>
    intro l J Jx W1 hb hJ hJx hY h0
    exact fr_all1 l (w.heap.size + 3) s hs J Jx hJ hJx hY W1 ((hb.block _ (by omega)).trans bS) h0
  case hI =>
    rintro pre W W' ⟨h1, ⟨v, h2, h3, h4⟩, h5, h6, h7⟩ hm
    have hz := h7.size
    exact ⟨h1, ⟨v, h2.moved hm (by omega), h3.moved hm (by omega), h4⟩, h5.moved hm (by omega), h6.moved hm (by omega), hm.below h7 (by omega)⟩
  case hIx =>
    rintro c pre W W' ⟨h1, ⟨v, h2, h3, h4⟩, h5, h6, h7⟩ hm
    have hz := h7.size
    exact ⟨h1, ⟨v, h2.moved hm (by omega), h3.moved hm (by omega), h4⟩, h5.moved hm (by omega), h6.moved hm (by omega), hm.below h7 (by omega)⟩
  case pI => exact Puts.own (OwnFrom.and (ownFrom_pure _ _) (OwnFrom.and (Own.from (holdsRow_own _ _ _ _ 1 (fun pre => (texts s.data.toList pre).length) (fun pre => strs (texts s.data.toList pre)) (fun _ _ => True)) _) (OwnFrom.and (Own.from (boxed_own _ _ _) _) (OwnFrom.and (Own.from (boxed_own _ _ (fun _ => .int .i64 0)) _) (ownFrom_below (by omega) (by omega))))))
  case pIx => exact fun c => Puts.own (OwnFrom.and (ownFrom_pure _ _) (OwnFrom.and (Own.from (holdsRow_own _ _ _ _ 1 (fun _ => (scan s.data.toList).1.length) (fun _ => strs (scan s.data.toList).1) (fun _ _ => True)) _) (OwnFrom.and (Own.from (boxed_own _ _ (fun _ => .int .i64 (scan s.data.toList).2.1)) _) (OwnFrom.and (Own.from (boxed_own _ _ (fun _ => .int .i64 (scan s.data.toList).2.2)) _) (ownFrom_below (by omega) (by omega))))))
  case pAx =>
    rintro x a' _ W r o o' ⟨X, h1, h2, h3⟩ hr ho hc
    refine ⟨X, h1, ?_, h3⟩
    refine (World.putObj_heap_other (fun e => ?_)).trans h2
    subst e
    rw [show W.heap[X]? = _ from h2] at ho
    cases ho
    cases hc
  case h0 => exact ⟨Lib.hid (by simp), ⟨_, bL', World.ownsRow_nil _ _ _ _, trivial⟩, bG', bE', Below.refl _ _⟩
  case hassign =>
    rintro l pre x W K hi hok hK
    obtain ⟨h1, ⟨v, h2, h3, h4⟩, h5, h6, h7⟩ := hi
    unfold oneV
    clear hok
    generalize readT (s.data.toList.drop x) = t at *
    generalize readN (s.data.toList.drop x) = n at *
    generalize readE (s.data.toList.drop x) = e at *
    simp (config := { iota := true }) only [List.zip_toArray, List.zip_cons_cons, List.zip_nil_right, List.foldl_toArray, List.foldl_cons, List.foldl_nil, List.setIfInBounds_toArray, List.set_cons_succ, List.set_cons_zero]
    gi_wp2
    have hz := h7.size
    exact hK _ _ (KeepsFrom.of_grownBy (row := none) (World.grownBy_alloc _ _ _) (fun j h => by cases h)) (fun k hk => Below.heap_alloc _ _ _ (by omega)) ⟨h1, ⟨v, h2.alloc _, h3.alloc _, h4⟩, h5.alloc _, h6.alloc _, h7.alloc (by omega) _⟩ ⟨_, by omega, Blk.new _ _ _, rfl⟩
  case hbody =>
    rintro l pre x a' W ⟨h1, ⟨v, h2, h3, -⟩, h5, h6, h7⟩ ⟨X, hX, hx, rfl⟩ ⟨rfl, hlt, hsc⟩
    obtain ⟨p0, n0, c0, rfl⟩ := own_shape h3
    have hz := h7.size
    obtain ⟨hxc, hxf, hxl⟩ := hx.facts
    by_cases hr : readE (s.data.toList.drop (pos s.data.toList pre)) = 0
    · have hN := hsc.next hr
      have hb := readN_bd hr
      have hnx := pos_snoc s.data.toList pre (pos s.data.toList pre)
      have hty := texts_snoc s.data.toList pre (pos s.data.toList pre)
      rw [List.length_drop] at hb
      rw [hr] at hx
      rw [← hnx, ← hty] at hN
      have hzs := size_list s
      have hk1 := hsc.1
      have hk2 := hsc.2.1
      have hH : Hid (∀ k ∈ pre ++ [pos s.data.toList pre], readE (s.data.toList.drop k) = 0) := Lib.hid (by
        intro k hk
        rcases List.mem_append.1 hk with hk | hk
        · exact h1.out k hk
        · rw [List.mem_singleton.1 hk]; exact hr)
      rw [hr] at hxc
      rw [hr]
      clear h1 hsc hr hlt
      have HN := Lib.hid hN
      have HX := Lib.hid hnx
      have HY := Lib.hid hty
      clear hN hnx hty
      generalize readT (s.data.toList.drop (pos s.data.toList pre)) = t at *
      generalize readN (s.data.toList.drop (pos s.data.toList pre)) = n at *
      have Bc := h2.cell
      have Bf := h2.frozen
      have Cc := h5.cell
      have Cf := h5.frozen
      gi_wp2
      have hw64 : IntKind.i64.wrap ((pos s.data.toList pre : Nat) + (n : Nat) : Int) = ((pos s.data.toList pre + n : Nat) : Int) := by rw [IntKind.wrap_i64]; omega
      refine wp_region_round_left (S := fun l w' => (Left 9 l → w'.cell? ⟨w.heap.size, 0, none⟩ = some (.slice p0 n0 c0)) ∧ (Left 10 l → w'.cell? ⟨w.heap.size + 1, 0, none⟩ = some (.int .i64 (pos s.data.toList pre))) ∧ w'.cell? ⟨X, 0, none⟩ = some (.string (bs t)) ∧ w'.cell? ⟨X, 1, none⟩ = some (.int .i64 n)) (by kernel_rfl) (by kernel_rfl) ⟨fun _ => Bc, fun _ => Cc, hxc 0, hxc 1⟩ (fun hHeld => ?_)
      refine wpAnyL_take (i := 0) (b := 9) (v := ?_) rfl (by kernel_rfl) (by kernel_rfl) (by kernel_rfl) (fun _ _ _ h => h) (by decide) (by kernel_rfl) ?hS (Or.inl ⟨by rfl, ?hy⟩) hHeld (by unfold Left; kernel_rfl) ?_
      case hS => intro l w; (try dsimp only); simp (config := { decide := true }) only [left_set, ne_eq, not_false_eq_true]
      case hy =>
        rintro w ⟨l, hSw, hLw⟩
        (try dsimp only at hSw)
        (try simp only [hLw, true_implies] at hSw)
        go_simp
        (try with_reducible rfl)
      clear hHeld
      intro hHeld
      try simp only [Act.put, List.getElem_toArray, List.getElem_cons_succ, List.getElem_cons_zero, List.setIfInBounds_toArray, List.set_cons_zero, List.set_cons_succ]
      refine wpAnyL_take (i := 1) (b := 2) (v := ?_) rfl (by kernel_rfl) (by kernel_rfl) (by kernel_rfl) (fun _ _ _ h => h) (by decide) (by kernel_rfl) ?hS (Or.inl ⟨by rfl, ?hy⟩) hHeld (by unfold Left; kernel_rfl) ?_
      case hS => intro l w; (try dsimp only); simp (config := { decide := true }) only [left_set, ne_eq, not_false_eq_true]
      case hy =>
        rintro w ⟨l, hSw, hLw⟩
        (try dsimp only at hSw)
        (try simp only [hLw, true_implies] at hSw)
        go_simp
        (try with_reducible rfl)
      clear hHeld
      intro hHeld
      try simp only [Act.put, List.getElem_toArray, List.getElem_cons_succ, List.getElem_cons_zero, List.setIfInBounds_toArray, List.set_cons_zero, List.set_cons_succ]
      refine wpAnyL_take (i := 2) (b := 3) (v := ?_) rfl (by kernel_rfl) (by kernel_rfl) (by kernel_rfl) (fun _ _ _ h => h) (by decide) (by kernel_rfl) ?hS (Or.inl ⟨by rfl, ?hy⟩) hHeld (by unfold Left; kernel_rfl) ?_
      case hS => intro l w; (try dsimp only); simp (config := { decide := true }) only [left_set, ne_eq, not_false_eq_true]
      case hy =>
        rintro w ⟨l, hSw, hLw⟩
        (try dsimp only at hSw)
        (try simp only [hLw, true_implies] at hSw)
        go_simp
        (try with_reducible rfl)
      clear hHeld
      intro hHeld
      try simp only [Act.put, List.getElem_toArray, List.getElem_cons_succ, List.getElem_cons_zero, List.setIfInBounds_toArray, List.set_cons_zero, List.set_cons_succ]
      refine wpAnyL_take (i := 5) (b := 10) (v := ?_) rfl (by kernel_rfl) (by kernel_rfl) (by kernel_rfl) (fun _ _ _ h => h) (by decide) (by kernel_rfl) ?hS (Or.inl ⟨by rfl, ?hy⟩) hHeld (by unfold Left; kernel_rfl) ?_
      case hS => intro l w; (try dsimp only); simp (config := { decide := true }) only [left_set, ne_eq, not_false_eq_true]
      case hy =>
        rintro w ⟨l, hSw, hLw⟩
        (try dsimp only at hSw)
        (try simp only [hLw, true_implies] at hSw)
        go_simp
        (try with_reducible rfl)
      clear hHeld
      intro hHeld
      try simp only [Act.put, List.getElem_toArray, List.getElem_cons_succ, List.getElem_cons_zero, List.setIfInBounds_toArray, List.set_cons_zero, List.set_cons_succ]
      refine wpAnyL_take (i := 6) (b := 7) (v := ?_) rfl (by kernel_rfl) (by kernel_rfl) (by kernel_rfl) (fun _ _ _ h => h) (by decide) (by kernel_rfl) ?hS (Or.inl ⟨by rfl, ?hy⟩) hHeld (by unfold Left; kernel_rfl) ?_
      case hS => intro l w; (try dsimp only); simp (config := { decide := true }) only [left_set, ne_eq, not_false_eq_true]
      case hy =>
        rintro w ⟨l, hSw, hLw⟩
        (try dsimp only at hSw)
        (try simp only [hLw, true_implies] at hSw)
        go_simp
        (try with_reducible rfl)
      clear hHeld
      intro hHeld
      try simp only [Act.put, List.getElem_toArray, List.getElem_cons_succ, List.getElem_cons_zero, List.setIfInBounds_toArray, List.set_cons_zero, List.set_cons_succ]
      refine wpAnyL_take (i := 7) (b := 8) (v := ?_) rfl (by kernel_rfl) (by kernel_rfl) (by kernel_rfl) (fun _ _ _ h => h) (by decide) (by kernel_rfl) ?hS (Or.inl ⟨by rfl, ?hy⟩) hHeld (by unfold Left; kernel_rfl) ?_
      case hS => intro l w; (try dsimp only); simp (config := { decide := true }) only [left_set, ne_eq, not_false_eq_true]
      case hy =>
        rintro w ⟨l, hSw, hLw⟩
        (try dsimp only at hSw)
        (try simp only [hLw, true_implies] at hSw)
        go_simp
        (try with_reducible rfl)
      clear hHeld
      intro hHeld
      try simp only [Act.put, List.getElem_toArray, List.getElem_cons_succ, List.getElem_cons_zero, List.setIfInBounds_toArray, List.set_cons_zero, List.set_cons_succ]
      refine wpAnyL_take (i := 8) (b := 10) (v := ?_) rfl (by kernel_rfl) (by kernel_rfl) (by kernel_rfl) (fun _ _ _ h => h) (by decide) (by kernel_rfl) ?hS (Or.inl ⟨by rfl, ?hy⟩) hHeld (by unfold Left; kernel_rfl) ?_
      case hS => intro l w; (try dsimp only); simp (config := { decide := true }) only [left_set, ne_eq, not_false_eq_true]
      case hy =>
        rintro w ⟨l, hSw, hLw⟩
        (try dsimp only at hSw)
        (try simp only [hLw, true_implies] at hSw)
        go_simp
        (try with_reducible rfl)
      clear hHeld
      intro hHeld
      try simp only [Act.put, List.getElem_toArray, List.getElem_cons_succ, List.getElem_cons_zero, List.setIfInBounds_toArray, List.set_cons_zero, List.set_cons_succ]
      refine wpAnyL_one 3 (by kernel_rfl) rfl (fun K hK => ?_)
      clear hHeld
      go_simp
      refine hK.out _ _ (⟨fun _ => (World.cell?_alloc_some _ _ _ (by rw [Bc]; rfl)).trans Bc, fun _ => (World.cell?_alloc_some _ _ _ (by rw [Cc]; rfl)).trans Cc, (World.cell?_alloc_some _ _ _ (by rw [hxc 0]; rfl)).trans (hxc 0), (World.cell?_alloc_some _ _ _ (by rw [hxc 1]; rfl)).trans (hxc 1)⟩) (fun hHeld => ?_)
      clear hK K
      try simp only [Act.put, List.getElem_toArray, List.getElem_cons_succ, List.getElem_cons_zero, List.setIfInBounds_toArray, List.set_cons_zero, List.set_cons_succ]
      refine wpAnyL_one 4 (by kernel_rfl) rfl (fun K hK => ?_)
      clear hHeld
      refine step_append_own rfl _ _ 32 rfl (w.heap.size + 4) 9 i0 (.string ⟨#[]⟩) 1 16 Try.underlying32 hi hz0 hz1 hz2 rfl (by decide) _ _ _ rfl (h3.alloc _) ⟨W.heap.size, 0, none⟩ 1 1 [Value.string (bs t)] rfl rfl ?c1 ?c2 ?c3 ?c4 ?c5 ?_
      case c1 =>
        intro j u hj
        match j, hj with
        | 0, hj => simp at hj; subst hj; simp [Addr.add]
      case c2 => intro u hu; simp at hu; subst hu; rfl
      case c3 => unfold maxLen; omega
      case c4 => omega
      case c5 => simp; omega
      intro v' w2 hown' hgrow0 _
      have hgrow : (W.alloc (Obj.cells #[Value.string (bs t)] 9)).drew.grownBy w2 (Value.slice p0 n0 c0).ownBlock := hgrow0
      clear hgrow0
      obtain ⟨p1, n1, c1, rfl⟩ := own_shape hown'
      have hlt := fun r hr => (h3.lt r hr).1
      have a2 : Boxed w2 w.heap.size 32 _ := Boxed.kept (W := (W.alloc (Obj.cells #[Value.string (bs t)] 9)).drew) (h2.alloc _) hgrow (fun e => by have := hlt _ e.symm; omega)
      have a5 : Boxed w2 (w.heap.size + 1) 3 _ := Boxed.kept (W := (W.alloc (Obj.cells #[Value.string (bs t)] 9)).drew) (h5.alloc _) hgrow (fun e => by have := hlt _ e.symm; omega)
      have a6 : Boxed w2 (w.heap.size + 1 + 1) 23 _ := Boxed.kept (W := (W.alloc (Obj.cells #[Value.string (bs t)] 9)).drew) (h6.alloc _) hgrow (fun e => by have := hlt _ e.symm; omega)
      have ax : Blk w2 X 93 _ := Blk.grown (w := (W.alloc (Obj.cells #[Value.string (bs t)] 9)).drew) (hx.alloc _) hgrow (hx.not_row (by decide) h3)
      have a7 : Below w.heap.size W0 w2 := ((h7.alloc (by omega) _).drew).grown hgrow (by simp; omega) (fun r hr => by have := hlt r hr; omega)
      have f2 := a2.frozen
      have f5 := a5.frozen
      have m2 := a2.cell
      have m5 := a5.cell
      have m6 := ax.cell 0
      have m7 := ax.cell 1
      clear Bc Bf Cc Cf hxc hxf
      refine hK.out _ _ (⟨fun _ => m2, fun _ => m5, m6, m7⟩) (fun hHeld => ?_)
      clear hK K
      try simp only [Act.put, List.getElem_toArray, List.getElem_cons_succ, List.getElem_cons_zero, List.setIfInBounds_toArray, List.set_cons_zero, List.set_cons_succ]
      refine wpAnyL_one 9 (by kernel_rfl) rfl (fun K hK => ?_)
      clear hHeld
      go_simp
      refine hK.out _ _ (⟨Left.gone (by kernel_rfl), fun _ => (by go_simp), by go_simp, by go_simp⟩) (fun hHeld => ?_)
      clear hK K
      try simp only [Act.put, List.getElem_toArray, List.getElem_cons_succ, List.getElem_cons_zero, List.setIfInBounds_toArray, List.set_cons_zero, List.set_cons_succ]
      refine wpAnyL_one 10 (by kernel_rfl) rfl (fun K hK => ?_)
      clear hHeld
      go_simp
      refine hK.out _ _ (⟨Left.gone (by kernel_rfl), Left.gone (by kernel_rfl), by go_simp, by go_simp⟩) (fun hHeld => ?_)
      clear hK K
      try simp only [Act.put, List.getElem_toArray, List.getElem_cons_succ, List.getElem_cons_zero, List.setIfInBounds_toArray, List.set_cons_zero, List.set_cons_succ]
      refine wpAnyL_done (by kernel_rfl) ?_ _
      simp only [Exit.then]
      gi_wp2
      obtain ⟨k2, k5, k6, kh, kr, kb⟩ := two (.slice p1 n1 c1) (.int .i64 ((pos s.data.toList pre + n : Nat) : Int)) a2 a5 a6
      refine ⟨?_, ?_, hH, ⟨_, k2, ?_, trivial⟩, ?_, k6, kb _ a7⟩
      · refine ⟨?_, fun i o hB hi hc => ?_⟩
        · have := hgrow.size
          simp at this ⊢; omega
        · refine (kh i (by omega)).trans ?_
          rw [hgrow.block i (by simp; have := (Array.getElem?_eq_some_iff.1 hi).1; omega) (own_cells h3 hi hc)]
          exact (Below.heap_alloc _ _ _ (Array.getElem?_eq_some_iff.1 hi).1).trans hi
      · intro k hk
        refine (kh k (by omega)).trans ?_
        rw [hgrow.block k (by simp; omega) (fun e => by have := hlt _ e.symm; omega)]
        exact Below.heap_alloc _ _ _ (by omega)
      · rw [HY.out, strs_snoc, List.length_append, List.length_singleton]
        exact kr _ _ _ _ _ _ hown' (by omega)
      · rw [HX.out]; exact k5
    · have hst := Lib.hid (hsc.stop hlt hr)
      have hz1 : (readE (s.data.toList.drop (pos s.data.toList pre)) == 0) = false := by simpa using hr
      have hz2 : (readE (s.data.toList.drop (pos s.data.toList pre)) != 0) = true := by simpa using hr
      clear h1 hsc hr hx
      generalize readT (s.data.toList.drop (pos s.data.toList pre)) = t at *
      generalize readN (s.data.toList.drop (pos s.data.toList pre)) = n at *
      generalize readE (s.data.toList.drop (pos s.data.toList pre)) = er at *
      have Bc := h2.cell
      have Bf := h2.frozen
      have Cc := h5.cell
      have Cf := h5.frozen
      have Dc := h6.cell
      have Df := h6.frozen
      gi_wp2
      refine wp_region_round0 (S := fun w' => w'.cell? ⟨w.heap.size, 0, none⟩ = some (.slice p0 n0 c0) ∧ w'.cell? ⟨w.heap.size + 1, 0, none⟩ = some (.int .i64 (pos s.data.toList pre)) ∧ w'.cell? ⟨X, 2, none⟩ = some (.int .i64 er)) (by kernel_rfl) (by kernel_rfl) ⟨Bc, Cc, hxc 2⟩ (fun hHeld => ?_)
      refine wpAnyH_take (i := 0) (v := ?_) rfl (by kernel_rfl) (by kernel_rfl) (by kernel_rfl) (fun _ _ _ h => h) (Or.inl ⟨by rfl, ?hy⟩) hHeld ?_
      case hy =>
        intro w hSw
        (try dsimp only at hSw)
        go_simp
        (try with_reducible rfl)
      try simp only [Act.put, List.getElem_toArray, List.getElem_cons_succ, List.getElem_cons_zero, List.setIfInBounds_toArray, List.set_cons_zero, List.set_cons_succ]
      refine wpAnyH_take (i := 1) (v := ?_) rfl (by kernel_rfl) (by kernel_rfl) (by kernel_rfl) (fun _ _ _ h => h) (Or.inl ⟨by rfl, ?hy⟩) hHeld ?_
      case hy =>
        intro w hSw
        (try dsimp only at hSw)
        go_simp
        (try with_reducible rfl)
      try simp only [Act.put, List.getElem_toArray, List.getElem_cons_succ, List.getElem_cons_zero, List.setIfInBounds_toArray, List.set_cons_zero, List.set_cons_succ]
      refine wpAnyH_take (i := 2) (v := ?_) rfl (by kernel_rfl) (by kernel_rfl) (by kernel_rfl) (fun _ _ _ h => h) (Or.inl ⟨by rfl, ?hy⟩) hHeld ?_
      case hy =>
        intro w hSw
        (try dsimp only at hSw)
        go_simp
        (try with_reducible rfl)
      try simp only [Act.put, List.getElem_toArray, List.getElem_cons_succ, List.getElem_cons_zero, List.setIfInBounds_toArray, List.set_cons_zero, List.set_cons_succ]
      refine wpAnyH_take (i := 3) (v := ?_) rfl (by kernel_rfl) (by kernel_rfl) (by kernel_rfl) (fun _ _ _ h => h) (Or.inl ⟨by rfl, ?hy⟩) hHeld ?_
      case hy =>
        intro w hSw
        (try dsimp only at hSw)
        go_simp
        (try with_reducible rfl)
      try simp only [Act.put, List.getElem_toArray, List.getElem_cons_succ, List.getElem_cons_zero, List.setIfInBounds_toArray, List.set_cons_zero, List.set_cons_succ]
      refine wpAnyH_ready (rs := [4]) (by kernel_rfl) (by simp) ?_
      refine AllReadyH.cons rfl (fun K hK => ?_) AllReadyH.nil
      have hOld := hHeld
      clear hHeld
      go_simp
      refine hK.out _ _ (⟨by go_simp, by go_simp, by go_simp⟩) (fun hHeld => ?_)
      clear hK K hOld
      try simp only [Act.put, List.getElem_toArray, List.getElem_cons_succ, List.getElem_cons_zero, List.setIfInBounds_toArray, List.set_cons_zero, List.set_cons_succ]
      refine wpAnyH_ready (rs := [5]) (by kernel_rfl) (by simp) ?_
      refine AllReadyH.cons rfl (fun K hK => ?_) AllReadyH.nil
      have hOld := hHeld
      clear hHeld
      go_simp
      refine hK.out _ _ (⟨by go_simp, by go_simp, by go_simp⟩) (fun hHeld => ?_)
      clear hK K hOld
      try simp only [Act.put, List.getElem_toArray, List.getElem_cons_succ, List.getElem_cons_zero, List.setIfInBounds_toArray, List.set_cons_zero, List.set_cons_succ]
      refine wpAnyH_ready (rs := [6]) (by kernel_rfl) (by simp) ?_
      refine AllReadyH.cons rfl (fun K hK => ?_) AllReadyH.nil
      have hOld := hHeld
      clear hHeld
      go_simp
      refine hK.out _ _ (⟨by go_simp, by go_simp, by go_simp⟩) (fun hHeld => ?_)
      clear hK K hOld
      try simp only [Act.put, List.getElem_toArray, List.getElem_cons_succ, List.getElem_cons_zero, List.setIfInBounds_toArray, List.set_cons_zero, List.set_cons_succ]
      refine wpAnyH_done (by kernel_rfl) ?_ _
      simp only [Exit.then]
      gi_wp2
      obtain ⟨k2, k5, k6, kh, kr, kb⟩ := three (.slice p0 n0 c0) (.int .i64 (pos s.data.toList pre)) (.int .i64 er) h2 h5 h6
      refine ⟨keepsFrom_heap (by simp) (fun k hk _ => kh k (by omega)), rfl, ⟨_, k2, ?_, trivial⟩, ?_, ?_, (kb _ h7).drew⟩
      · rw [hst.out]
        exact kr _ _ _ _ _ _ h3 (by omega)
      · rw [hst.out]; exact k5
      · rw [hst.out]; exact k6
  case hdone =>
    rintro D xs W hD hS ⟨h1, ⟨v, h2, h3, -⟩, h5, h6, h7⟩ hK
    obtain ⟨p0, n0, c0, rfl⟩ := own_shape h3
    rcases hS with ⟨hlt, hsc⟩ | ⟨x, hx, hne⟩
    · have hst := Lib.hid (hsc.done hlt)
      clear h1 hsc hlt
      have Bc := h2.cell
      have Bf := h2.frozen
      have Cc := h5.cell
      have Cf := h5.frozen
      have Dc := h6.cell
      have Df := h6.frozen
      go_wp2_with fail
      refine wp_region_held0 (S := fun w' => w'.cell? ⟨w.heap.size, 0, none⟩ = some (.slice p0 n0 c0) ∧ w'.cell? ⟨w.heap.size + 1, 0, none⟩ = some (.int .i64 (pos s.data.toList xs))) (by kernel_rfl) ⟨Bc, Cc⟩ (fun hHeld => ?_)
      refine wpAnyH_take (i := 0) (v := ?_) rfl (by kernel_rfl) (by kernel_rfl) (by kernel_rfl) (fun _ _ _ h => h) (Or.inl ⟨by rfl, ?hy⟩) hHeld ?_
      case hy =>
        intro w hSw
        (try dsimp only at hSw)
        go_simp
        (try with_reducible rfl)
      try simp only [Act.put, List.getElem_toArray, List.getElem_cons_succ, List.getElem_cons_zero, List.setIfInBounds_toArray, List.set_cons_zero, List.set_cons_succ]
      refine wpAnyH_take (i := 1) (v := ?_) rfl (by kernel_rfl) (by kernel_rfl) (by kernel_rfl) (fun _ _ _ h => h) (Or.inl ⟨by rfl, ?hy⟩) hHeld ?_
      case hy =>
        intro w hSw
        (try dsimp only at hSw)
        go_simp
        (try with_reducible rfl)
      try simp only [Act.put, List.getElem_toArray, List.getElem_cons_succ, List.getElem_cons_zero, List.setIfInBounds_toArray, List.set_cons_zero, List.set_cons_succ]
      refine wpAnyH_ready (rs := [2]) (by kernel_rfl) (by simp) ?_
      refine AllReadyH.cons rfl (fun K hK => ?_) AllReadyH.nil
      have hOld := hHeld
      clear hHeld
      go_simp
      refine hK.out _ _ (⟨by go_simp, by go_simp⟩) (fun hHeld => ?_)
      clear hK K hOld
      try simp only [Act.put, List.getElem_toArray, List.getElem_cons_succ, List.getElem_cons_zero, List.setIfInBounds_toArray, List.set_cons_zero, List.set_cons_succ]
      refine wpAnyH_ready (rs := [3]) (by kernel_rfl) (by simp) ?_
      refine AllReadyH.cons rfl (fun K hK => ?_) AllReadyH.nil
      have hOld := hHeld
      clear hHeld
      go_simp
      refine hK.out _ _ (⟨by go_simp, by go_simp⟩) (fun hHeld => ?_)
      clear hK K hOld
      try simp only [Act.put, List.getElem_toArray, List.getElem_cons_succ, List.getElem_cons_zero, List.setIfInBounds_toArray, List.set_cons_zero, List.set_cons_succ]
      refine wpAnyH_ready (rs := [4]) (by kernel_rfl) (by simp) ?_
      refine AllReadyH.cons rfl (fun K hK => ?_) AllReadyH.nil
      have hOld := hHeld
      clear hHeld
      go_simp
      refine hK.out _ _ (⟨by go_simp, by go_simp⟩) (fun hHeld => ?_)
      clear hK K hOld
      try simp only [Act.put, List.getElem_toArray, List.getElem_cons_succ, List.getElem_cons_zero, List.setIfInBounds_toArray, List.set_cons_zero, List.set_cons_succ]
      refine wpAnyH_done (by kernel_rfl) ?_ _
      simp only [Exit.then]
      go_wp2_with fail
      obtain ⟨k2, k5, k6, kh, kr, kb⟩ := three (.slice p0 n0 c0) (.int .i64 (pos s.data.toList xs)) (.int .i64 0) h2 h5 h6
      refine hend _ D _ _ (by omega) ((kh D (by omega)).trans hK) _ k2 ?_ ?_ ?_ ((kb _ h7).drew)
      · rw [hst.out]
        exact kr _ _ _ _ _ _ h3 (by omega)
      · rw [hst.out]; exact k5
      · rw [hst.out]; exact k6
    · exact absurd (h1.out x hx) hne
  case hstop =>
    rintro D c pre W hD - ⟨rfl, ⟨v, h2, h3, -⟩, h5, h6, h7⟩ hK
    go_wp2_with fail
    exact hend _ D _ _ (by omega) hK _ h2 h3 h5 h6 h7
end Go.Proofs.Ythlninijnbmjfaa
