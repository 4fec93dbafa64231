/- Windows: the ticks within a time, put into a list, walked. Conditions: the list is in memory. -/
import Derived.Test.YthlninijnbmjfaaWin5
import Derived.Test.YthlninijnbmjfaaK15
namespace Go.Proofs.Ythlninijnbmjfaa
open Go.RowKit Go.Shelf
attribute [local go_sem] Oper.semAt_some

theorem info_i64 : (Try.prog.info? 2).map (fun i => (i.zero, i.size, i.bytes)) = some (some (.int .i64 0), 1, 8) := by kernel_rfl
def nums (xs : List Int) : List Value := xs.map (Value.int .i64)
theorem nums_snoc (xs : List Int) (x : Int) : nums (xs ++ [x]) = nums xs ++ [.int .i64 x] := by simp [nums]
theorem nums_len (xs : List Int) : (nums xs).length = xs.length := by simp [nums]
theorem own_row {w : World} {base e size n : Nat} {v : Value} {xs : List Value} (h : w.ownsRow base e size v n xs) : ∀ r, Value.ownBlock v = some r → base ≤ r := by
  obtain ⟨_, ⟨rfl, rfl⟩ | ⟨g, cap, cur, rfl, hg, _⟩⟩ := h
  · intro r hr; cases hr
  · intro r hr; simp [Value.ownBlock] at hr; omega
theorem own_shape {w : World} {base e size n : Nat} {v : Value} {xs : List Value} (h : w.ownsRow base e size v n xs) : ∃ p m c, v = .slice p m c := by
  obtain ⟨_, ⟨rfl, rfl⟩ | ⟨g, cap, cur, rfl, _⟩⟩ := h
  · exact ⟨_, _, _, rfl⟩
  · exact ⟨_, _, _, rfl⟩
theorem own_ints {w : World} {base n : Nat} {v : Value} {xs : List Int} (h : w.ownsRow base 2 1 v n (nums xs)) (hn : xs.length = n) : ∃ A c, v = .slice A n c ∧ IntsIn w A xs := by
  obtain ⟨hl, ⟨rfl, rfl⟩ | ⟨g, cap, cur, rfl, hg, hh, hnn, hm, hs, ht⟩⟩ := h
  · exact ⟨none, 0, rfl, fun h => absurd (List.length_eq_zero_iff.1 hn) h⟩
  · refine ⟨_, _, rfl, fun _ => ⟨g, 0, rfl, ?_, fun i hi => ?_⟩⟩
    · rcases Nat.lt_or_ge g w.heap.size with h | h
      · exact h
      · rw [Array.getElem?_eq_none h] at hh; cases hh
    · have hb : Blk w g 2 cur := hh
      rw [Nat.zero_add, hb.cell]
      have e : (nums xs)[i]? = some (.int .i64 xs[i]) := by simp [nums, hi]
      rw [← ht, List.getElem?_take_of_lt (by omega)] at e
      simpa using e
theorem own_past {w w' : World} {base e size n : Nat} {v : Value} {xs : List Value} (h : w.ownsRow base e size v n xs) (hb : Below w.heap.size w w') : w'.ownsRow base e size v n xs :=
  h.kept (row := none) ⟨hb.os, hb.tape, hb.output, hb.size, fun k hk _ => hb.block k hk⟩ (by cases v.ownBlock <;> simp)
theorem _root_.Go.World.ownsRow.movedTo {W W' : World} {B base : Nat} {e : TypeId} {size : Nat} {v : Value} {k : Nat} {xs : List Value} (h : W.ownsRow base e size v k xs) (hm : Moved B W W') (hb : B < base) : W'.ownsRow base e size v k xs :=
  ⟨h.1, h.2.imp id fun ⟨g, cap, cur, hv, hB, hg, r⟩ => ⟨g, cap, cur, hv, hB, (hm.block g (Array.getElem?_eq_some_iff.1 hg).1 (by omega)).trans hg, r⟩⟩
theorem own_set {W : World} {b base : Nat} {e : TypeId} {size : Nat} {v u : Value} {k : Nat} {xs : List Value} (h : W.ownsRow base e size v k xs) (hb : b < base) : (W.setCell ⟨b, 0, none⟩ u).ownsRow base e size v k xs := h.movedTo (Moved.set_ (B := b) 0 u) hb
theorem own_putO {W : World} {base : Nat} {e : TypeId} {size k : Nat} {v : Value} {xs : List Value} (hr : W.ownsRow base e size v k xs) {i : Nat} {o o' : Obj} (hi : W.heap[i]? = some o) (hc : o.isCells = false) : (W.putObj i o').ownsRow base e size v k xs :=
  ⟨hr.1, hr.2.imp id fun ⟨g, cap, cur, hv, hB, hg, r⟩ => ⟨g, cap, cur, hv, hB, (World.putObj_heap_other (fun e => by subst e; rw [hi] at hg; cases hg; cases hc)).trans hg, r⟩⟩
theorem own_cellsO {W : World} {base : Nat} {e : TypeId} {size k : Nat} {v : Value} {xs : List Value} (hr : W.ownsRow base e size v k xs) {i : Nat} {o : Obj} (hi : W.heap[i]? = some o) (hc : o.isCells = false) : some i ≠ v.ownBlock := by
  rcases hr.2 with ⟨rfl, _⟩ | ⟨g, cap, cur, rfl, _, hg, _⟩
  · intro e; cases e
  · intro e
    simp [Value.ownBlock] at e
    subst e
    rw [hi] at hg
    cases hg
    cases hc
theorem below_toW {n : Nat} {w W W' : World} (h : Below n w W) (hm : Below W.heap.size W W') (hn : n ≤ w.heap.size) : Below n w W' := h.trans (hm.mono (Nat.le_trans hn h.size))
set_option maxRecDepth 100000 in
set_option maxHeartbeats 1000000 in
theorem w_AppendSeq (b1 b2 b3 : Nat) (A : Option Addr) (n c : Nat) (wn now : Int) (xs : List Int) (hl : xs.length = n) (hn : n ≤ 1000000) (hwin : winB wn now = true) (w : World) (hA : IntsIn w A xs)
    (x1 : Boxed w b1 50 (.slice A n c)) (x2 : Boxed w b2 2 (.int .i64 now)) (x3 : Boxed w b3 2 (.int .i64 wn)) :
    Calls Try.prog 81 #[.slice none 0 0, .func (.func 82) #[] #[.pointer (some ⟨b1, 0, none⟩), .pointer (some ⟨b2, 0, none⟩), .pointer (some ⟨b3, 0, none⟩)]] w fun r w' => ∃ v, r = .returned v ∧ w'.ownsRow (w.heap.size + 1) 2 1 v (wit wn now xs).length (nums (wit wn now xs)) ∧ Below w.heap.size w w' := by
  have HA := Lib.hid hA
  have hx1 := x1.lt
  have hx2 := x2.lt
  have hx3 := x3.lt
  clear hA
  obtain ⟨i0, hi, hz0, hz1, hz2⟩ := info_parts info_i64
  refine (callsIn_wide (n := 3)).1 ?_
  refine callsIn_of_wp_marks Try.func81 rfl trivial ?_ rfl
  simp only [Try.ntmps81, List.size_toArray, List.length_cons, List.length_nil, Nat.reduceAdd, Nat.reduceSub, Array.replicate_succ, Array.replicate_zero, List.push_toArray, List.append_toArray, List.nil_append, List.cons_append]
  refine wpIn_wide.2 ?_
  go_wp2_with fail
  have bL := Boxed.new w 50 (.slice none 0 0)
  have hbL : Below w.heap.size w (w.alloc (.cells #[.slice none 0 0] 50)) := by go_grown
  have hsL : (w.alloc (.cells #[.slice none 0 0] 50)).heap.size = w.heap.size + 1 := by simp
  generalize w.alloc (.cells #[.slice none 0 0] 50) = W9 at *
  refine wp_rangeS (gf := 82) (lb := #[.pointer (some ⟨b1, 0, none⟩), .pointer (some ⟨b2, 0, none⟩), .pointer (some ⟨b3, 0, none⟩)]) rfl (enters_of Try.func82 (by kernel_rfl) rfl) (fun x : Int => #[.int .i64 x]) (fun _ => rfl)
    (fun k => k < w.heap.size) (fun k hk => by omega)
    (fun ys _ => ys = wit wn now xs) (fun _ => True) (fun pre _ => pre.length < n)
    (fun pre W => (∃ v, Boxed W w.heap.size 50 v ∧ W.ownsRow (w.heap.size + 1) 2 1 v pre.length (nums pre) ∧ True) ∧ Below w.heap.size W9 W)
    (fun _ _ _ => False)
    (fun x a' _ => a' = { tmps := #[.slice none 0 0, .func (.func 82) #[] #[.pointer (some ⟨b1, 0, none⟩), .pointer (some ⟨b2, 0, none⟩), .pointer (some ⟨b3, 0, none⟩)], .pointer (some ⟨w.heap.size, 0, none⟩), undef, .slice none 0 0, .int .i64 x, .func (.func 82) #[] #[.pointer (some ⟨b1, 0, none⟩), .pointer (some ⟨b2, 0, none⟩), .pointer (some ⟨b3, 0, none⟩)], .int .i64 x, undef, undef, undef, undef, undef], defers := [] })
    ?hseq ?hI ?hIx ?pS ?pI ?pIx ?pAx ?h0 ?hassign ?hbody ?hdone ?hstop
  case pS => exact fun _ _ _ _ _ h _ _ _ => h
  case hseq =>
    intro l J Jx W1 hb hJ hJx hY h0
    have hbb := hbL.trans (hb.mono (by omega))
    refine w_iter l b1 b2 b3 A n c wn now xs hl hn hwin _ J Jx W1 (fun pre x W hj hx => hY pre x W hj hx) hx1 hx2 hx3 ?_ ?_ ?_ ?_ h0
    · exact IntsR.of HA.out hbb (fun k hk => hk)
    · exact (hbb.block _ hx1).trans x1
    · exact (hbb.block _ hx2).trans x2
    · exact (hbb.block _ hx3).trans x3
  case hI =>
    rintro pre W W' ⟨⟨v, h1, h2, h3⟩, h4⟩ hm
    exact ⟨⟨v, (hm.block _ h1.lt).trans h1, own_past h2 hm, h3⟩, below_toW h4 hm (by omega)⟩
  case hIx => exact fun _ _ _ _ h _ => h
  case pI => exact Puts.own (OwnFrom.and (Own.from (holdsRow_own _ _ _ _ 1 (fun pre => pre.length) (fun pre => nums pre) (fun _ _ => True)) _) (ownFrom_below (by omega) (by omega)))
  case pIx => exact fun _ _ _ _ _ _ h _ _ _ => h
  case pAx => exact fun _ _ _ _ _ _ _ h _ _ _ => h
  case h0 => exact ⟨⟨_, bL, World.ownsRow_nil _ _ _ _, trivial⟩, Below.refl _ _⟩
  case hassign =>
    rintro l pre x W K hi hok hK
    simp (config := { iota := true }) only [List.zip_toArray, List.zip_cons_cons, List.zip_nil_right, List.foldl_toArray, List.foldl_cons, List.foldl_nil, List.setIfInBounds_toArray, List.set_cons_succ, List.set_cons_zero]
    gi_wp2
    exact hK _ _ (KeepsFrom.refl _ _) (SameOn.refl _ _) hi rfl
  case hbody =>
    rintro l pre x a' W ⟨⟨v, h1, h2, -⟩, h4⟩ rfl hx
    obtain ⟨p0, n0, c0, rfl⟩ := own_shape h2
    have hz := h4.size
    have Bc := h1.cell
    have Bf := h1.frozen
    have hns := Lib.hid (nums_snoc pre x)
    have hln : Hid ((pre ++ [x]).length = pre.length + 1) := Lib.hid (by simp)
    have hle : n ≤ 1000000 := hn
    gi_wp2_with (gi_at_builtin; refine wpListIn_append_own _ rfl _ _ 50 rfl (w.heap.size + 1) 2 i0 (.int .i64 0) 1 8 Try.underlying50 hi hz0 hz1 hz2 rfl (by decide) _ _ _ rfl (h2.alloc _) ⟨W.heap.size, 0, none⟩ 1 1 [.int .i64 x] rfl rfl ?c1 ?c2 ?c3 ?c4 ?c5 ?_)
    case c1 =>
      intro j u hj
      match j, hj with
      | 0, hj => simp at hj; subst hj; simp [Addr.add]
    case c2 => intro u hu; simp at hu; subst hu; rfl
    case c3 => unfold maxLen; omega
    case c4 => omega
    case c5 => simp; omega
    intro v' w2 hown' hg _
    have hlt := fun r hr => (h2.lt r hr).1
    have a2 : Boxed w2 w.heap.size 50 _ := Boxed.kept (W := W.alloc (Obj.cells #[Value.int .i64 x] 2)) (h1.alloc _) hg (fun e => by have := hlt _ e.symm; omega)
    have a7 : Below w.heap.size W9 w2 := (h4.alloc (by omega) _).grown hg (by simp; omega) (fun r hr => by have := hlt r hr; omega)
    have f2 := a2.frozen
    have m2 := a2.cell
    obtain ⟨p1, n1, c1, rfl⟩ := own_shape hown'
    have ho2 := own_set (u := .slice p1 n1 c1) hown' (show w.heap.size < w.heap.size + 1 by omega)
    have hk : Boxed (w2.setCell ⟨w.heap.size, 0, none⟩ (.slice p1 n1 c1)) w.heap.size 50 (.slice p1 n1 c1) ∧ Below w.heap.size W9 (w2.setCell ⟨w.heap.size, 0, none⟩ (.slice p1 n1 c1)) ∧ (∀ k, k ≠ w.heap.size → (w2.setCell ⟨w.heap.size, 0, none⟩ (.slice p1 n1 c1)).heap[k]? = w2.heap[k]?) ∧ (w2.setCell ⟨w.heap.size, 0, none⟩ (.slice p1 n1 c1)).heap.size = w2.heap.size := ⟨a2.set _, a7.setCell (by simp) _, fun k hne => Below.heap_setCell _ ⟨_, _, _⟩ _ k (fun e => hne e), by simp⟩
    clear Bc Bf
    gi_wp2
    obtain ⟨k1, k2, k3, k4⟩ := hk
    have hgs := hg.size
    simp only [World.size_alloc] at hgs
    refine ⟨?_, ?_, ⟨_, k1, by rw [hns.out, hln.out]; exact ho2, trivial⟩, k2⟩
    · refine ⟨by omega, fun i o hB hi hc => ?_⟩
      refine (k3 i (by omega)).trans ?_
      rw [hg.block i (by simp; have := (Array.getElem?_eq_some_iff.1 hi).1; omega) (own_cellsO h2 hi hc)]
      exact (Below.heap_alloc _ _ _ (Array.getElem?_eq_some_iff.1 hi).1).trans hi
    · intro k hk
      refine (k3 k (by omega)).trans ?_
      rw [hg.block k (by simp; omega) (fun e => by have := hlt _ e.symm; omega)]
      exact Below.heap_alloc _ _ _ (by omega)
  case hdone =>
    rintro D xs' W hD hS ⟨⟨v, h1, h2, -⟩, h4⟩ hK
    subst hS
    obtain ⟨p0, n0, c0, rfl⟩ := own_shape h2
    have Bc := h1.cell
    have Bf := h1.frozen
    go_wp2_with fail
    refine ⟨by simp, .inl ⟨_, _, rfl, run_takeDeferred hK, ?_⟩⟩
    refine ⟨.slice p0 n0 c0, ?_, _, rfl, own_putO h2 hK rfl, below_putObj _ (hbL.trans h4) (by omega)⟩
    simp only [results, show Try.f81.results = #[.tmp 4] from rfl]
    go_simp
  case hstop => exact fun _ _ _ _ _ _ h _ => h.elim
set_option maxHeartbeats 400000 in
theorem w_Collect (b1 b2 b3 : Nat) (A : Option Addr) (n c : Nat) (wn now : Int) (xs : List Int) (hl : xs.length = n) (hn : n ≤ 1000000) (hwin : winB wn now = true) (w : World) (hA : IntsIn w A xs)
    (x1 : Boxed w b1 50 (.slice A n c)) (x2 : Boxed w b2 2 (.int .i64 now)) (x3 : Boxed w b3 2 (.int .i64 wn)) :
    Calls Try.prog 56 #[.func (.func 82) #[] #[.pointer (some ⟨b1, 0, none⟩), .pointer (some ⟨b2, 0, none⟩), .pointer (some ⟨b3, 0, none⟩)]] w fun r w' => ∃ v, r = .returned v ∧ w'.ownsRow (w.heap.size + 1) 2 1 v (wit wn now xs).length (nums (wit wn now xs)) ∧ Below w.heap.size w w' := by
  have C := Lib.hid (w_AppendSeq b1 b2 b3 A n c wn now xs hl hn hwin w hA x1 x2 x3)
  clear hA x1 x2 x3
  go_enter Try.func56, Try.ntmps56
  go_wp2_with fail
  refine C.out.mono ?_
  rintro r w1 ⟨v, rfl, h1, h2⟩; dsimp only
  go_wp2_with fail
  go_ret
  exact ⟨_, rfl, h1, h2⟩
end Go.Proofs.Ythlninijnbmjfaa
