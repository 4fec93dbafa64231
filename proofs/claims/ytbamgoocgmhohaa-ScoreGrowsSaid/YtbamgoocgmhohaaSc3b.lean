/- Scores: the best place, walked. Conditions: the vecs are in memory. -/
import Derived.Test.YtbamgoocgmhohaaSc3
namespace Go.Proofs.Ytbamgoocgmhohaa
open Go.RowKit Go.Shelf
theorem st_func (P : Program) (w : World) (a : Addr) (m : Mode) (fn : Fn) (first captured : Array Value) : (store a (.func fn first captured) m).run P w = stored P w a (.func fn first captured) m := run_store P w a _ m rfl
attribute [local go_sem] Oper.semAt_some st_func

/-- Are there as many places as uses, and may all be scored? -/
def allS (hs us : List Vec) (m : Vec) : Bool := decide (hs.length = us.length) && (List.range hs.length).all (mayAt hs us m)
theorem allS_yes {hs us : List Vec} {m : Vec} : allS hs us m = true ↔ hs.length = us.length ∧ ∀ i, i < hs.length → mayAt hs us m i = true := by
  simp [allS]
def bestV (hs us : List Vec) (m : Vec) : Int × Nat := bestF hs us m (scored hs us m hs.length)
def bestR (hs us : List Vec) (m : Vec) : Value := if allS hs us m = true then .tuple #[.int .i64 (bestV hs us m).2, .bool (decide (0 ≤ (bestV hs us m).1)), .int .i64 0] else .tuple #[.int .i64 0, .bool false, .int .i64 2]
theorem keepsFrom_all {B : Nat} {W W' : World} (hs : W.heap.size ≤ W'.heap.size) (h : ∀ k, B ≤ k → k < W.heap.size → W'.heap[k]? = W.heap[k]?) : KeepsFrom B W W' :=
  ⟨hs, fun i o hB hi _ => (h i hB (Array.getElem?_eq_some_iff.1 hi).1).trans hi⟩
theorem _root_.Go.Boxed.movedTo {W W' : World} {B b : Nat} {t : TypeId} {v : Value} (h : Boxed W b t v) (hm : Moved B W W') (hne : b ≠ B) : Boxed W' b t v := (hm.block _ h.lt hne).trans h
theorem Moved.belowTo {B n : Nat} {w W W' : World} (hm : Moved B W W') (h : Below n w W) (hn : n ≤ B) (hw : n ≤ w.heap.size := by omega) : Below n w W' :=
  ⟨hm.os.trans h.os, hm.tape.trans h.tape, hm.output.trans h.output, Nat.le_trans h.size hm.size, fun k hk => (hm.block k (Nat.lt_of_lt_of_le (Nat.lt_of_lt_of_le hk hw) h.size) (by omega)).trans (h.block k hk)⟩
theorem below_putObj {n D : Nat} {w W : World} (o : Obj) (h : Below n w W) (hD : n ≤ D) : Below n w (W.putObj D o) :=
  ⟨h.os, h.tape, h.output, by simpa using h.size, fun k hk => (World.putObj_heap_other (by omega)).trans (h.block k hk)⟩
theorem five (w : World) (tM tE tA tT tF : TypeId) (m : Array Value) (e a t f : Value) : ∃ W, W = (((((w.alloc (.cells m tM)).alloc (.cells #[e] tE)).alloc (.cells #[a] tA)).alloc (.cells #[t] tT)).alloc (.cells #[f] tF)) ∧ Blk W w.heap.size tM m ∧ Boxed W (w.heap.size + 1) tE e ∧ Boxed W (w.heap.size + 1 + 1) tA a ∧ Boxed W (w.heap.size + 1 + 1 + 1) tT t ∧ Boxed W (w.heap.size + 1 + 1 + 1 + 1) tF f ∧ W.heap.size = w.heap.size + 1 + 1 + 1 + 1 + 1 ∧ Below w.heap.size w W := by
  have b0 := Blk.new w tM m
  have b1 := Boxed.new (w.alloc (.cells m tM)) tE e
  have b2 := Boxed.new ((w.alloc (.cells m tM)).alloc (.cells #[e] tE)) tA a
  have b3 := Boxed.new (((w.alloc (.cells m tM)).alloc (.cells #[e] tE)).alloc (.cells #[a] tA)) tT t
  have b4 := Boxed.new ((((w.alloc (.cells m tM)).alloc (.cells #[e] tE)).alloc (.cells #[a] tA)).alloc (.cells #[t] tT)) tF f
  simp only [World.size_alloc] at b1 b2 b3 b4
  exact ⟨_, rfl, (((b0.alloc _).alloc _).alloc _).alloc _, ((b1.alloc _).alloc _).alloc _, (b2.alloc _).alloc _, b3.alloc _, b4, by simp, by go_grown⟩
theorem four (w : World) (tA tB tM tF : TypeId) (m : Array Value) (a b f : Value) : ∃ W, W = ((((w.alloc (.cells #[a] tA)).alloc (.cells #[b] tB)).alloc (.cells m tM)).alloc (.cells #[f] tF)) ∧ Boxed W w.heap.size tA a ∧ Boxed W (w.heap.size + 1) tB b ∧ Blk W (w.heap.size + 1 + 1) tM m ∧ Boxed W (w.heap.size + 1 + 1 + 1) tF f ∧ W.heap.size = w.heap.size + 1 + 1 + 1 + 1 ∧ Below w.heap.size w W := by
  have b0 := Boxed.new w tA a
  have b1 := Boxed.new (w.alloc (.cells #[a] tA)) tB b
  have b2 := Blk.new ((w.alloc (.cells #[a] tA)).alloc (.cells #[b] tB)) tM m
  have b3 := Boxed.new (((w.alloc (.cells #[a] tA)).alloc (.cells #[b] tB)).alloc (.cells m tM)) tF f
  simp only [World.size_alloc] at b1 b2 b3
  exact ⟨_, rfl, ((b0.alloc _).alloc _).alloc _, (b1.alloc _).alloc _, b2.alloc _, b3, by simp, by go_grown⟩
theorem sc_scores (A B : Option Addr) (n ca n2 cb E : Nat) (m : Vec) (w : World) : Calls Try.prog 67 #[.slice A n ca, .slice B n2 cb, m.v, .func (.func 68) #[] #[.pointer (some ⟨E, 0, none⟩)]] w fun r w' => r = .returned (.func (.func 75) #[] #[.pointer (some ⟨w.heap.size, 0, none⟩), .pointer (some ⟨w.heap.size + 1, 0, none⟩), .pointer (some ⟨w.heap.size + 1 + 1, 0, none⟩), .pointer (some ⟨w.heap.size + 1 + 1 + 1, 0, none⟩)]) ∧
    w' = (((w.alloc (.cells #[.slice A n ca] 28)).alloc (.cells #[.slice B n2 cb] 28)).alloc (.cells #[.int .i64 m.cpu, .int .i64 m.mem, .int .i64 m.disk] 25)).alloc (.cells #[.func (.func 68) #[] #[.pointer (some ⟨E, 0, none⟩)]] 100) := by
  go_enter Try.func67, Try.ntmps67
  go_wp2
  go_ret
  exact ⟨rfl, rfl⟩
set_option maxRecDepth 100000 in
set_option maxHeartbeats 1000000 in
theorem sc_Best (A B : Option Addr) (n n2 ca cb : Nat) (hs us : List Vec) (m : Vec) (hl : hs.length = n) (ul : us.length = n2) (hn : n ≤ 1000000) (hn2 : n2 ≤ 1000000) (hok : ∀ x ∈ hs, x.ok) (uok : ∀ x ∈ us, x.ok) (mok : m.ok) (w : World) (hA : VecsIn w A hs) (hB : VecsIn w B us) :
    Calls Try.prog 44 #[.slice A n ca, .slice B n2 cb, m.v] w fun r w' => r = .returned (bestR hs us m) ∧ Below w.heap.size w w' := by
  by_cases hnn : n = n2
  · subst hnn
    refine (callsIn_wide (n := 3)).1 ?_
    refine callsIn_of_wp_marks Try.func44 rfl trivial ?_ rfl
    simp only [Try.ntmps44, List.size_toArray, List.length_cons, List.length_nil, Nat.reduceAdd, Nat.reduceSub, Array.replicate_succ, Array.replicate_zero, List.push_toArray, List.append_toArray, List.nil_append, List.cons_append]
    refine wpIn_wide.2 ?_
    obtain ⟨m0, m1, m2⟩ := m
    have HA := Lib.hid hA
    have HB := Lib.hid hB
    clear hA hB
    go_wp2_with fail
    refine (sc_scores _ _ _ _ _ _ _ ⟨m0, m1, m2⟩ _).mono ?_
    rintro r w1 ⟨rfl, rfl⟩; dsimp only
    obtain ⟨W5, hW5, bM, bE, bA, bT, bF, hs5, hb5⟩ := five w 25 30 3 2 96 #[.int .i64 m0, .int .i64 m1, .int .i64 m2] (.int .i64 0) (.int .i64 0) (.int .i64 (-1)) (.func (.func 66) #[] #[.pointer (some ⟨w.heap.size + 1 + 1 + 1, 0, none⟩), .pointer (some ⟨w.heap.size + 1 + 1, 0, none⟩)])
    rw [← hW5]
    clear hW5
    obtain ⟨W9, hW9, c1, c2, c3, c4, hs9, hb9⟩ := four W5 28 28 25 100 #[.int .i64 m0, .int .i64 m1, .int .i64 m2] (.slice A n ca) (.slice B n cb) (.func (.func 68) #[] #[.pointer (some ⟨w.heap.size + 1, 0, none⟩)])
    rw [← hW9]
    clear hW9
    replace hb5 : Below w.heap.size w W9 := hb5.trans (hb9.mono (by omega))
    replace bM := Blk.past bM hb9
    replace bE : Boxed W9 _ _ _ := (hb9.block _ bE.lt).trans bE
    replace bA : Boxed W9 _ _ _ := (hb9.block _ bA.lt).trans bA
    replace bT : Boxed W9 _ _ _ := (hb9.block _ bT.lt).trans bT
    replace bF : Boxed W9 _ _ _ := (hb9.block _ bF.lt).trans bF
    clear hb9
    generalize W5.heap.size = g at *
    replace hs5 : w.heap.size + 4 < g := by omega
    replace hs9 : g + 3 < W9.heap.size := by omega
    go_wp2_with fail
    refine wp_rangeW (gf := 75) (lb := #[.pointer (some ⟨g, 0, none⟩), .pointer (some ⟨g + 1, 0, none⟩), .pointer (some ⟨g + 1 + 1, 0, none⟩), .pointer (some ⟨g + 1 + 1 + 1, 0, none⟩)]) rfl (enters_of Try.func75 (by kernel_rfl) rfl) (fun x : Nat => #[.int .i64 x, .int .i64 (scAt hs us ⟨m0, m1, m2⟩ x)]) (fun _ => rfl) (w.heap.size + 1) (by omega)
      (fun k => k < W9.heap.size ∧ k ≠ w.heap.size + 1 + 1 ∧ k ≠ w.heap.size + 1 + 1 + 1) (fun k hk => hk.1)
      (FinS (w.heap.size + 1) n hs us ⟨m0, m1, m2⟩) (fun _ => True) (fun _ x => x < n)
      (fun pre W => Boxed W (w.heap.size + 1 + 1) 3 (.int .i64 (bestF hs us ⟨m0, m1, m2⟩ pre).2) ∧ Boxed W (w.heap.size + 1 + 1 + 1) 2 (.int .i64 (bestF hs us ⟨m0, m1, m2⟩ pre).1) ∧ Boxed W (w.heap.size + 1 + 1 + 1 + 1) 96 (.func (.func 66) #[] #[.pointer (some ⟨w.heap.size + 1 + 1 + 1, 0, none⟩), .pointer (some ⟨w.heap.size + 1 + 1, 0, none⟩)]) ∧ Below w.heap.size W9 W)
      (fun _ _ _ => False)
      (fun x a' _ => a' = { tmps := #[.slice A n ca, .slice B n cb, (Vec.mk m0 m1 m2).v, undef, undef, .pointer (some ⟨w.heap.size, 0, none⟩), .int .i64 0, .bool false, .int .i64 0, .pointer (some ⟨w.heap.size + 1, 0, none⟩), .pointer (some ⟨w.heap.size + 1 + 1, 0, none⟩), .pointer (some ⟨w.heap.size + 1 + 1 + 1, 0, none⟩), .pointer (some ⟨w.heap.size + 1 + 1 + 1 + 1, 0, none⟩), .int .i64 x, .int .i64 (scAt hs us ⟨m0, m1, m2⟩ x), .slice A n ca, .int .i64 n, .slice B n cb, .int .i64 n, .bool false, .func (.func 66) #[] #[.pointer (some ⟨w.heap.size + 1 + 1 + 1, 0, none⟩), .pointer (some ⟨w.heap.size + 1 + 1, 0, none⟩)], .slice A n ca, .slice B n cb, .agg #[.int .i64 m0, .int .i64 m1, .int .i64 m2], .func (.func 68) #[] #[.pointer (some ⟨w.heap.size + 1, 0, none⟩)], .func (.func 75) #[] #[.pointer (some ⟨g, 0, none⟩), .pointer (some ⟨g + 1, 0, none⟩), .pointer (some ⟨g + 1 + 1, 0, none⟩), .pointer (some ⟨g + 1 + 1 + 1, 0, none⟩)], .int .i64 x, .int .i64 (scAt hs us ⟨m0, m1, m2⟩ x), undef, undef, undef, undef, undef, undef, undef, undef, undef, undef], defers := [] })
      ?hseq ?hI ?hIx ?pS ?pI ?pIx ?pAx ?h0 ?hassign ?hbody ?hdone ?hstop
    case hseq =>
      intro l J Jx W1 hb hJ hJx hY h0
      refine sc_iter l (w.heap.size + 1) g (g + 1) (g + 1 + 1) (g + 1 + 1 + 1) A B n ca cb hs us ⟨m0, m1, m2⟩ hl ul hn hok uok mok _ J Jx hJ W1 (fun k hk => Nat.lt_of_lt_of_le hk.1 hb.size) (fun pre x W hj hx => hY pre x W hj hx) ⟨by omega, by omega, by omega⟩ ⟨by omega, by omega, by omega⟩ ⟨by omega, by omega, by omega⟩ ⟨by omega, by omega, by omega⟩ ⟨by omega, by omega, by omega⟩ (by omega) (by omega) (by omega) (by omega) ?_ ?_ ?_ ?_ ?_ ?_ ?_ h0
      · exact VecsR.of HA.out (hb5.trans (hb.mono (by omega))) (fun k hk => ⟨by omega, by omega, by omega⟩)
      · exact VecsR.of HB.out (hb5.trans (hb.mono (by omega))) (fun k hk => ⟨by omega, by omega, by omega⟩)
      · exact (hb.block _ c1.lt).trans c1
      · exact (hb.block _ c2.lt).trans c2
      · exact Blk.past c3 hb
      · exact (hb.block _ c4.lt).trans c4
      · exact (hb.block _ bE.lt).trans bE
    case hI =>
      rintro pre W W' ⟨h1, h2, h3, h4⟩ hm
      have hz := h4.size
      exact ⟨h1.movedTo hm (by omega), h2.movedTo hm (by omega), h3.movedTo hm (by omega), hm.belowTo h4 (by omega)⟩
    case hIx => exact fun _ _ _ _ h _ => h
    case pS =>
      rintro xs W r o o' hS hr ho hc
      have hp : ∀ {t : TypeId} {v : Value}, Boxed W (w.heap.size + 1) t v → Boxed (W.putObj r o') (w.heap.size + 1) t v := fun h => (World.putObj_heap_other (by omega)).trans h
      exact hS.imp (fun h => ⟨h.1, h.2.1, hp h.2.2⟩) (fun h => ⟨h.1, hp h.2⟩)
    case pI => exact Puts.own (OwnFrom.and (Own.from (boxed_own _ _ (fun pre => .int .i64 (bestF hs us ⟨m0, m1, m2⟩ pre).2)) _) (OwnFrom.and (Own.from (boxed_own _ _ (fun pre => .int .i64 (bestF hs us ⟨m0, m1, m2⟩ pre).1)) _) (OwnFrom.and (Own.from (boxed_own _ _ (fun _ => _)) _) (ownFrom_below (by omega) (by omega)))))
    case pIx => exact fun _ _ _ _ _ _ h _ _ _ => h
    case pAx => exact fun _ _ _ _ _ _ _ h _ _ _ => h
    case h0 => exact ⟨bA, bT, bF, Below.refl _ _⟩
    case hassign =>
      rintro l pre x W K hi hok hK
      generalize scAt hs us ⟨m0, m1, m2⟩ x = sc at *
      simp (config := { iota := true }) only [List.zip_toArray, List.zip_cons_cons, List.zip_nil_right, List.foldl_toArray, List.foldl_cons, List.foldl_nil, List.setIfInBounds_toArray, List.set_cons_succ, List.set_cons_zero]
      gi_wp2
      exact hK _ _ (KeepsFrom.refl _ _) (SameOn.refl _ _) hi rfl
    case hbody =>
      rintro l pre x a' W ⟨h1, h2, h3, h4⟩ rfl hx
      have hnx := Lib.hid (bestF_snoc hs us ⟨m0, m1, m2⟩ pre x)
      unfold betterP at hnx
      generalize scAt hs us ⟨m0, m1, m2⟩ x = sc at *
      have Fc := h3.cell
      have Ff := h3.frozen
      gi_wp2
      refine ⟨trivial, CallsIn.inRound l (callsIn_wide.2 ((sc_better _ _ _ _ _ _ W h2 h1 (by omega)).mono ?_))⟩
      rintro r w2 ⟨⟨u, rfl⟩, rfl⟩; dsimp only
      clear Fc Ff
      by_cases hgt : (bestF hs us ⟨m0, m1, m2⟩ pre).1 < sc
      · rw [if_pos hgt]
        have e : Hid (bestF hs us ⟨m0, m1, m2⟩ (pre ++ [x]) = (sc, x)) := Lib.hid (by rw [hnx.out, if_pos hgt])
        have k1 : Boxed ((W.setCell ⟨w.heap.size + 1 + 1, 0, none⟩ (.int .i64 x)).setCell ⟨w.heap.size + 1 + 1 + 1, 0, none⟩ (.int .i64 sc)) (w.heap.size + 1 + 1) 3 (.int .i64 x) := Blk.far (Boxed.set _ h1) (by simp) _
        have k2 : Boxed ((W.setCell ⟨w.heap.size + 1 + 1, 0, none⟩ (.int .i64 x)).setCell ⟨w.heap.size + 1 + 1 + 1, 0, none⟩ (.int .i64 sc)) (w.heap.size + 1 + 1 + 1) 2 (.int .i64 sc) := Boxed.set _ (Blk.far h2 (by simp) _)
        have k3 := ((h3.movedTo (Moved.set_ (B := w.heap.size + 1 + 1) 0 (.int .i64 x)) (by omega)).movedTo (Moved.set_ (B := w.heap.size + 1 + 1 + 1) 0 (.int .i64 sc)) (by omega))
        have k4 : Below w.heap.size W9 ((W.setCell ⟨w.heap.size + 1 + 1, 0, none⟩ (.int .i64 x)).setCell ⟨w.heap.size + 1 + 1 + 1, 0, none⟩ (.int .i64 sc)) := (h4.setCell (by simp; omega) _).setCell (by simp; omega) _
        have kh : ∀ k, k ≠ w.heap.size + 1 + 1 → k ≠ w.heap.size + 1 + 1 + 1 → ((W.setCell ⟨w.heap.size + 1 + 1, 0, none⟩ (.int .i64 x)).setCell ⟨w.heap.size + 1 + 1 + 1, 0, none⟩ (.int .i64 sc)).heap[k]? = W.heap[k]? := fun k n1 n2 => (Below.heap_setCell _ ⟨_, _, _⟩ _ k (fun e => n2 e)).trans (Below.heap_setCell _ ⟨_, _, _⟩ _ k (fun e => n1 e))
        have ks : ((W.setCell ⟨w.heap.size + 1 + 1, 0, none⟩ (.int .i64 x)).setCell ⟨w.heap.size + 1 + 1 + 1, 0, none⟩ (.int .i64 sc)).heap.size = W.heap.size := by simp
        generalize ((W.setCell ⟨w.heap.size + 1 + 1, 0, none⟩ (.int .i64 x)).setCell ⟨w.heap.size + 1 + 1 + 1, 0, none⟩ (.int .i64 sc)) = W' at *
        gi_wp2
        exact ⟨keepsFrom_all (by omega) (fun k hk _ => kh k (by omega) (by omega)), fun k hk => kh k hk.2.1 hk.2.2, by rw [e.out]; exact k1, by rw [e.out]; exact k2, k3, k4⟩
      · rw [if_neg hgt]
        have e : Hid (bestF hs us ⟨m0, m1, m2⟩ (pre ++ [x]) = bestF hs us ⟨m0, m1, m2⟩ pre) := Lib.hid (by rw [hnx.out, if_neg hgt])
        gi_wp2
        exact ⟨KeepsFrom.refl _ _, SameOn.refl _ _, by rw [e.out]; exact h1, by rw [e.out]; exact h2, h3, h4⟩
    case hdone =>
      rintro D xs W hD hS ⟨h1, h2, h3, h4⟩ hK
      rcases hS with ⟨hall, rfl, hE⟩ | ⟨hno, hE⟩
      · have hal : allS hs us ⟨m0, m1, m2⟩ = true := allS_yes.2 ⟨by omega, by rw [hl]; exact hall⟩
        have hV : Hid (bestV hs us ⟨m0, m1, m2⟩ = bestF hs us ⟨m0, m1, m2⟩ (scored hs us ⟨m0, m1, m2⟩ n)) := Lib.hid (by unfold bestV; rw [hl])
        have HR : Hid (bestR hs us ⟨m0, m1, m2⟩ = .tuple #[.int .i64 (bestF hs us ⟨m0, m1, m2⟩ (scored hs us ⟨m0, m1, m2⟩ n)).2, .bool (decide (0 ≤ (bestF hs us ⟨m0, m1, m2⟩ (scored hs us ⟨m0, m1, m2⟩ n)).1)), .int .i64 0]) := Lib.hid (by unfold bestR; rw [if_pos hal, hV.out])
        clear hV
        have Ec := hE.cell
        have Ac := h1.cell
        have Tc := h2.cell
        clear hall hal
        generalize bestF hs us ⟨m0, m1, m2⟩ (scored hs us ⟨m0, m1, m2⟩ n) = p at *
        go_wp2_with fail
        refine wp_region_held0 (S := fun w' => w'.cell? ⟨w.heap.size + 1 + 1, 0, none⟩ = some (.int .i64 p.2) ∧ w'.cell? ⟨w.heap.size + 1 + 1 + 1, 0, none⟩ = some (.int .i64 p.1)) (by kernel_rfl) ⟨Ac, Tc⟩ (fun hHeld => ?_)
        refine wpAnyH_take (i := 0) (v := ?_) rfl (by kernel_rfl) (by kernel_rfl) (by kernel_rfl) (fun _ _ _ h => h) (Or.inl ⟨by rfl, ?hy⟩) hHeld ?_
        case hy =>
          intro w hSw
          (try dsimp only at hSw)
          go_simp
          (try with_reducible rfl)
        try simp only [Act.put, List.getElem_toArray, List.getElem_cons_succ, List.getElem_cons_zero, List.setIfInBounds_toArray, List.set_cons_zero, List.set_cons_succ]
        refine wpAnyH_take (i := 1) (v := ?_) rfl (by kernel_rfl) (by kernel_rfl) (by kernel_rfl) (fun _ _ _ h => h) (Or.inl ⟨by rfl, ?hy⟩) hHeld ?_
        case hy =>
          intro w hSw
          (try dsimp only at hSw)
          go_simp
          (try with_reducible rfl)
        try simp only [Act.put, List.getElem_toArray, List.getElem_cons_succ, List.getElem_cons_zero, List.setIfInBounds_toArray, List.set_cons_zero, List.set_cons_succ]
        refine wpAnyH_take (i := 2) (v := ?_) rfl (by kernel_rfl) (by kernel_rfl) (by kernel_rfl) (fun _ _ _ h => h) (Or.inl ⟨by rfl, ?hy⟩) hHeld ?_
        case hy =>
          intro w hSw
          (try dsimp only at hSw)
          go_simp
          (try with_reducible rfl)
        try simp only [Act.put, List.getElem_toArray, List.getElem_cons_succ, List.getElem_cons_zero, List.setIfInBounds_toArray, List.set_cons_zero, List.set_cons_succ]
        refine wpAnyH_take (i := 3) (v := ?_) rfl (by kernel_rfl) (by kernel_rfl) (by kernel_rfl) (fun _ _ _ h => h) (Or.inl ⟨by rfl, ?hy⟩) hHeld ?_
        case hy =>
          intro w hSw
          (try dsimp only at hSw)
          go_simp
          (try with_reducible rfl)
        try simp only [Act.put, List.getElem_toArray, List.getElem_cons_succ, List.getElem_cons_zero, List.setIfInBounds_toArray, List.set_cons_zero, List.set_cons_succ]
        refine wpAnyH_take (i := 4) (v := ?_) rfl (by kernel_rfl) (by kernel_rfl) (by kernel_rfl) (fun _ _ _ h => h) (Or.inl ⟨by rfl, ?hy⟩) hHeld ?_
        case hy =>
          intro w hSw
          (try dsimp only at hSw)
          go_simp
          (try with_reducible rfl)
        try simp only [Act.put, List.getElem_toArray, List.getElem_cons_succ, List.getElem_cons_zero, List.setIfInBounds_toArray, List.set_cons_zero, List.set_cons_succ]
        refine wpAnyH_take (i := 5) (v := ?_) rfl (by kernel_rfl) (by kernel_rfl) (by kernel_rfl) (fun _ _ _ h => h) (Or.inl ⟨by rfl, ?hy⟩) hHeld ?_
        case hy =>
          intro w hSw
          (try dsimp only at hSw)
          go_simp
          (try with_reducible rfl)
        try simp only [Act.put, List.getElem_toArray, List.getElem_cons_succ, List.getElem_cons_zero, List.setIfInBounds_toArray, List.set_cons_zero, List.set_cons_succ]
        refine wpAnyH_done (by kernel_rfl) ?_ _
        simp only [Exit.then]
        go_wp2_with fail
        refine ⟨by simp, .inl ⟨_, _, rfl, run_takeDeferred (show W.drew.heap[D]? = _ from hK), ?_⟩⟩
        refine ⟨.tuple #[.int .i64 p.2, .bool (decide (0 ≤ p.1)), .int .i64 0], ?_, by rw [HR.out], below_putObj _ (hb5.trans h4).drew (by omega)⟩
        simp only [results, show Try.f44.results = #[.tmp 6, .tmp 7, .tmp 8] from rfl]
        go_simp
      · have hal : allS hs us ⟨m0, m1, m2⟩ = false := by
          rw [Bool.eq_false_iff]
          intro h
          obtain ⟨i, hi, hf⟩ := hno
          rw [(allS_yes.1 h).2 i (by omega)] at hf
          cases hf
        have HR : Hid (bestR hs us ⟨m0, m1, m2⟩ = .tuple #[.int .i64 0, .bool false, .int .i64 2]) := Lib.hid (by unfold bestR; rw [hal]; rfl)
        have Ec := hE.cell
        clear hal hno
        go_wp2_with fail
        refine wp_region_held0 (S := fun w' => w'.cell? ⟨w.heap.size + 1, 0, none⟩ = some (.int .i64 2)) (by kernel_rfl) Ec (fun hHeld => ?_)
        refine wpAnyH_take (i := 0) (v := ?_) rfl (by kernel_rfl) (by kernel_rfl) (by kernel_rfl) (fun _ _ _ h => h) (Or.inl ⟨by rfl, ?hy⟩) hHeld ?_
        case hy =>
          intro w hSw
          (try dsimp only at hSw)
          go_simp
          (try with_reducible rfl)
        try simp only [Act.put, List.getElem_toArray, List.getElem_cons_succ, List.getElem_cons_zero, List.setIfInBounds_toArray, List.set_cons_zero, List.set_cons_succ]
        refine wpAnyH_take (i := 1) (v := ?_) rfl (by kernel_rfl) (by kernel_rfl) (by kernel_rfl) (fun _ _ _ h => h) (Or.inl ⟨by rfl, ?hy⟩) hHeld ?_
        case hy =>
          intro w hSw
          (try dsimp only at hSw)
          go_simp
          (try with_reducible rfl)
        try simp only [Act.put, List.getElem_toArray, List.getElem_cons_succ, List.getElem_cons_zero, List.setIfInBounds_toArray, List.set_cons_zero, List.set_cons_succ]
        refine wpAnyH_take (i := 2) (v := ?_) rfl (by kernel_rfl) (by kernel_rfl) (by kernel_rfl) (fun _ _ _ h => h) (Or.inl ⟨by rfl, ?hy⟩) hHeld ?_
        case hy =>
          intro w hSw
          (try dsimp only at hSw)
          go_simp
          (try with_reducible rfl)
        try simp only [Act.put, List.getElem_toArray, List.getElem_cons_succ, List.getElem_cons_zero, List.setIfInBounds_toArray, List.set_cons_zero, List.set_cons_succ]
        refine wpAnyH_take (i := 3) (v := ?_) rfl (by kernel_rfl) (by kernel_rfl) (by kernel_rfl) (fun _ _ _ h => h) (Or.inl ⟨by rfl, ?hy⟩) hHeld ?_
        case hy =>
          intro w hSw
          (try dsimp only at hSw)
          go_simp
          (try with_reducible rfl)
        try simp only [Act.put, List.getElem_toArray, List.getElem_cons_succ, List.getElem_cons_zero, List.setIfInBounds_toArray, List.set_cons_zero, List.set_cons_succ]
        refine wpAnyH_done (by kernel_rfl) ?_ _
        simp only [Exit.then]
        go_wp2_with fail
        refine ⟨by simp, .inl ⟨_, _, rfl, run_takeDeferred (show W.drew.heap[D]? = _ from hK), ?_⟩⟩
        refine ⟨.tuple #[.int .i64 0, .bool false, .int .i64 2], ?_, by rw [HR.out], below_putObj _ (hb5.trans h4).drew (by omega)⟩
        simp only [results, show Try.f44.results = #[.tmp 6, .tmp 7, .tmp 8] from rfl]
        go_simp
    case hstop => exact fun _ _ _ _ _ _ h _ => h.elim
  · have hal : allS hs us m = false := by
      rw [Bool.eq_false_iff]
      intro h
      exact hnn (by have := (allS_yes.1 h).1; omega)
    unfold bestR
    rw [hal]
    have hz : ((n : Int) == (n2 : Int)) = false := by simp; omega
    have hz' : ((n : Int) != (n2 : Int)) = true := by simp; omega
    obtain ⟨m0, m1, m2⟩ := m
    go_enter Try.func44, Try.ntmps44
    go_wp2_with fail
    refine bodyPost_ret (v := .tuple #[.int .i64 0, .bool false, .int .i64 2]) (by simp [results, Try.results44, go_sem]) rfl ?_
    exact ⟨rfl, by go_grown⟩
end Go.Proofs.Ytbamgoocgmhohaa
