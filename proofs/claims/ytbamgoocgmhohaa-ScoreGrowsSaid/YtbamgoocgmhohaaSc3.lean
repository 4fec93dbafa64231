/- Scores: the best place. Conditions: what is scored is in memory. -/
import Derived.Test.YtbamgoocgmhohaaSc2b
import Derived.Test.YtbamgoocgmhohaaK12
namespace Go.Proofs.Ytbamgoocgmhohaa
open Go.RowKit Go.Shelf
attribute [local go_sem] Oper.semAt_some

/-- Vecs in memory, in a block of those of which R speaks. -/
def VecsR (R : Nat → Prop) (w : World) (A : Option Addr) (xs : List Vec) : Prop :=
  xs ≠ [] → ∃ b off, A = some ⟨b, off, none⟩ ∧ R b ∧ ∀ i (h : i < xs.length),
    w.cell? ⟨b, off + i * 3, none⟩ = some (.int .i64 xs[i].cpu) ∧ w.cell? ⟨b, off + i * 3 + 1, none⟩ = some (.int .i64 xs[i].mem) ∧ w.cell? ⟨b, off + i * 3 + 2, none⟩ = some (.int .i64 xs[i].disk)
theorem SameOn.cell {R : Nat → Prop} {W W' : World} (h : SameOn R W W') {p : Addr} (hp : R p.block) : W'.cell? p = W.cell? p := World.cell?_of_block (w := W) (h p.block hp)
theorem VecsR.same {R : Nat → Prop} {W W' : World} {A : Option Addr} {xs : List Vec} (h : VecsR R W A xs) (hs : SameOn R W W') : VecsR R W' A xs := fun hne => by
  obtain ⟨b, off, hA, hb, hc⟩ := h hne
  exact ⟨b, off, hA, hb, fun i hi => ⟨(hs.cell hb).trans (hc i hi).1, (hs.cell hb).trans (hc i hi).2.1, (hs.cell hb).trans (hc i hi).2.2⟩⟩
theorem VecsR.of {R : Nat → Prop} {w W : World} {A : Option Addr} {xs : List Vec} (h : VecsIn w A xs) (hb : Below w.heap.size w W) (hR : ∀ k, k < w.heap.size → R k) : VecsR R W A xs := fun hne => by
  obtain ⟨b, off, hA, hb', hc⟩ := h hne
  exact ⟨b, off, hA, hR b hb', fun i hi => ⟨(hb.cell hb').trans (hc i hi).1, (hb.cell hb').trans (hc i hi).2.1, (hb.cell hb').trans (hc i hi).2.2⟩⟩
theorem _root_.Go.Boxed.same {R : Nat → Prop} {W W' : World} {b : Nat} {t : TypeId} {v : Value} (h : Boxed W b t v) (hs : SameOn R W W') (hb : R b) : Boxed W' b t v := (hs b hb).trans h
theorem Blk.same {R : Nat → Prop} {W W' : World} {b : Nat} {t : TypeId} {v : Array Value} (h : Blk W b t v) (hs : SameOn R W W') (hb : R b) : Blk W' b t v := (hs b hb).trans h

theorem SameOn.lt {R : Nat → Prop} {W W' : World} (h : SameOn R W W') (hR : ∀ k, R k → k < W.heap.size) : ∀ k, R k → k < W'.heap.size := fun k hk => by
  have := h k hk
  rw [Array.getElem?_eq_getElem (hR k hk)] at this
  exact (Array.getElem?_eq_some_iff.1 this).1
set_option maxHeartbeats 400000 in
theorem sc_err (E : Nat) (x : Int) (v : Value) (w : World) (hE : Boxed w E 30 v) : Calls Try.prog 68 #[.int .i64 x, .pointer (some ⟨E, 0, none⟩)] w fun r w' => (∃ u, r = .returned u) ∧ w' = w.setCell ⟨E, 0, none⟩ (.int .i64 x) := by
  have Bc := hE.cell
  have Bf := hE.frozen
  go_enter Try.func68, Try.ntmps68
  go_wp2_with fail
  go_end0
  exact ⟨⟨_, rfl⟩, rfl⟩
set_option maxHeartbeats 400000 in
theorem sc_better (i n a t : Int) (TB AB : Nat) (w : World) (hT : Boxed w TB 2 (.int .i64 t)) (hA : Boxed w AB 3 (.int .i64 a)) (hne : TB ≠ AB) : Calls Try.prog 66 #[.int .i64 i, .int .i64 n, .pointer (some ⟨TB, 0, none⟩), .pointer (some ⟨AB, 0, none⟩)] w fun r w' => (∃ u, r = .returned u) ∧ w' = if t < n then (w.setCell ⟨AB, 0, none⟩ (.int .i64 i)).setCell ⟨TB, 0, none⟩ (.int .i64 n) else w := by
  have Bc := hT.cell
  have Bf := hT.frozen
  have Ac := hA.cell
  have Af := hA.frozen
  by_cases h : t < n
  · rw [if_pos h]
    go_enter Try.func66, Try.ntmps66
    go_wp2_with fail
    go_end0
    exact ⟨⟨_, rfl⟩, rfl⟩
  · rw [if_neg h]
    go_enter Try.func66, Try.ntmps66
    go_wp2_with fail
    go_end0
    exact ⟨⟨_, rfl⟩, rfl⟩
/-- What the iterator leaves behind: all may be scored, and those places came where it stands; or not, and the error is told. -/
def FinS (E n : Nat) (hs us : List Vec) (m : Vec) (xs : List Nat) (W : World) : Prop :=
  ((∀ i, i < n → mayAt hs us m i = true) ∧ xs = scored hs us m n ∧ Boxed W E 30 (.int .i64 0)) ∨ ((∃ i, i < n ∧ mayAt hs us m i = false) ∧ Boxed W E 30 (.int .i64 2))
set_option maxRecDepth 100000 in
set_option maxHeartbeats 1000000 in
theorem sc_iter (l E b1 b2 b3 b4 : Nat) (A B : Option Addr) (n ca cb : Nat) (hs us : List Vec) (m : Vec) (hl : hs.length = n) (ul : us.length = n) (hn : n ≤ 1000000) (hok : ∀ x ∈ hs, x.ok) (uok : ∀ x ∈ us, x.ok) (mok : m.ok)
    (R : Nat → Prop) (J Jx : List Nat → World → Prop) (hJ : Bears E J) (W : World) (hR : ∀ k, R k → k < W.heap.size)
    (hY : ∀ pre x W, J pre W → x < n → YieldAt Fence.wide 1 Try.prog l #[.int .i64 x, .int .i64 (scAt hs us m x)] W fun e W' =>
      (e = .returned (.bool true) ∧ J (pre ++ [x]) W' ∧ SameOn R W W') ∨ (e = .returned (.bool false) ∧ Jx (pre ++ [x]) W'))
    (r1 : R b1) (r2 : R b2) (r3 : R b3) (r4 : R b4) (rE : R E) (n1 : b1 ≠ E) (n2 : b2 ≠ E) (n3 : b3 ≠ E) (n4 : b4 ≠ E)
    (hA : VecsR R W A hs) (hB : VecsR R W B us) (x1 : Boxed W b1 28 (.slice A n ca)) (x2 : Boxed W b2 28 (.slice B n cb)) (x3 : Blk W b3 25 #[.int .i64 m.cpu, .int .i64 m.mem, .int .i64 m.disk])
    (x4 : Boxed W b4 100 (.func (.func 68) #[] #[.pointer (some ⟨E, 0, none⟩)])) (xE : Boxed W E 30 (.int .i64 0)) (h0 : J [] W) :
    CallsIn Fence.wide 2 Try.prog 75 #[.func (.yield l) #[] #[], .pointer (some ⟨b1, 0, none⟩), .pointer (some ⟨b2, 0, none⟩), .pointer (some ⟨b3, 0, none⟩), .pointer (some ⟨b4, 0, none⟩)] W fun e W' => (∃ v, e = .returned v) ∧
      ((∃ xs, FinS E n hs us m xs W' ∧ J xs W') ∨ (∃ pre, True ∧ Jx pre W')) := by
  refine callsIn_of_wp Try.func75 rfl trivial ?_ rfl
  simp only [Try.ntmps75, List.size_toArray, List.length_cons, List.length_nil, Nat.reduceAdd, Nat.reduceSub, Array.replicate_succ, Array.replicate_zero, List.push_toArray, List.append_toArray, List.nil_append, List.cons_append]
  have X1c := x1.cell
  have X1f := x1.frozen
  gi_wp2
  clear X1c X1f
  gi_loopw [6, 7, 8, 9, 12] (fun _ _ _ _ i wr => ∃ k : Nat, k ≤ n ∧ i = .int .i64 k ∧ Hid (∀ j, j < k → mayAt hs us m j = true) ∧ J (scored hs us m k) wr ∧ SameOn R W wr) (fun _ _ _ _ i _ => n - (intOf i).toNat)
  case atStart => exact ⟨0, Nat.zero_le _, rfl, Lib.hid (by omega), h0, SameOn.refl _ _⟩
  case round =>
    clear h0
    obtain ⟨k, hk, rfl, hbef, hj, hso⟩ := hrel
    have y1 := x1.same hso r1
    have y2 := x2.same hso r2
    have y3 := x3.same hso r3
    have y4 := x4.same hso r4
    have yE := xE.same hso rE
    have vA := hA.same hso
    have vB := hB.same hso
    clear x1 x2 x3 x4 xE hA hB
    have hR' : ∀ k, R k → k < wr.heap.size := hso.lt hR
    by_cases hlt : k < n
    · obtain ⟨b, off, rfl, hb, hcell⟩ := vA (by intro e; rw [e] at hl; simp at hl; omega)
      obtain ⟨j0, j1, j2⟩ := hcell k (by omega)
      obtain ⟨b', off', rfl, hb', hcell'⟩ := vB (by intro e; rw [e] at ul; simp at ul; omega)
      obtain ⟨v0, v1, v2⟩ := hcell' k (by omega)
      clear hcell hcell' vA vB
      have hsc := Lib.hid (scored_succ hs us m k)
      have c := fun w => sc_Score hs[k] us[k] m (hok _ (List.getElem_mem (by omega))) (uok _ (List.getElem_mem (by omega))) mok w
      have hma : mayAt hs us m k = mayS hs[k] us[k] m := by unfold mayAt; rw [getD_of _ _ _ (by omega), getD_of _ _ _ (by omega)]
      have hsa : scAt hs us m k = scoreN hs[k] us[k] m := by unfold scAt; rw [getD_of _ _ _ (by omega), getD_of _ _ _ (by omega)]
      have hst : stAt hs us m k = standsV hs[k] us[k] m := by unfold stAt; rw [getD_of _ _ _ (by omega), getD_of _ _ _ (by omega)]
      rw [← hma, ← hsa, ← hst] at c
      clear hma hsa hst
      have hy := Lib.hid (fun W hj => hY (scored hs us m k) k W hj hlt)
      obtain ⟨m0, m1, m2⟩ := m
      generalize hs[k] = x at *
      generalize us[k] = y at *
      obtain ⟨z0, z1, z2⟩ := x
      obtain ⟨u0, u1, u2⟩ := y
      dsimp only [Vec.v] at c j0 j1 j2 v0 v1 v2 y3
      have C := Lib.hid c
      clear c
      have Y1c := y1.cell
      have Y1f := y1.frozen
      have Y2c := y2.cell
      have Y2f := y2.frozen
      by_cases hma : mayAt hs us ⟨m0, m1, m2⟩ k = true
      · rw [if_pos hma] at C
        have hbef' : Hid (∀ j, j < k + 1 → mayAt hs us ⟨m0, m1, m2⟩ j = true) := Lib.hid (fun j hj => by
          rcases (show j < k ∨ j = k by omega) with h | rfl
          · exact hbef.out j h
          · exact hma)
        clear hma hbef
        generalize scAt hs us ⟨m0, m1, m2⟩ k = sc at *
        generalize stAt hs us ⟨m0, m1, m2⟩ k = st at *
        gi_wp2
        refine wpIn_wide.2 (wp_region_held0 (S := fun w' => ((w'.cell? ⟨b1, 0, none⟩ = some (.slice (some ⟨b, off, none⟩) n ca) ∧ w'.cell? ⟨b2, 0, none⟩ = some (.slice (some ⟨b', off', none⟩) n cb)) ∧ True) ∧ (w'.cell? ⟨b, off + k * 3, none⟩ = some (.int .i64 z0) ∧ w'.cell? ⟨b, off + k * 3 + 1, none⟩ = some (.int .i64 z1) ∧ w'.cell? ⟨b, off + k * 3 + 2, none⟩ = some (.int .i64 z2)) ∧ (w'.cell? ⟨b', off' + k * 3, none⟩ = some (.int .i64 u0) ∧ w'.cell? ⟨b', off' + k * 3 + 1, none⟩ = some (.int .i64 u1) ∧ w'.cell? ⟨b', off' + k * 3 + 2, none⟩ = some (.int .i64 u2)) ∧ (w'.cell? ⟨b3, 0, none⟩ = some (.int .i64 m0) ∧ w'.cell? ⟨b3, 1, none⟩ = some (.int .i64 m1) ∧ w'.cell? ⟨b3, 2, none⟩ = some (.int .i64 m2))) (by kernel_rfl) ⟨⟨⟨Y1c, Y2c⟩, trivial⟩, ⟨j0, j1, j2⟩, ⟨v0, v1, v2⟩, y3.cell 0, y3.cell 1, y3.cell 2⟩ (fun hHeld => ?_))
        refine wpAnyH_take (i := 0) (v := ?_) rfl (by kernel_rfl) (by kernel_rfl) (by kernel_rfl) (fun _ _ _ h => h) (Or.inl ⟨by rfl, ?hy⟩) hHeld ?_
        case hy =>
          intro w hSw
          (try dsimp only at hSw)
          go_simp
          (try with_reducible rfl)
        try simp only [Act.put, List.getElem_toArray, List.getElem_cons_succ, List.getElem_cons_zero, List.setIfInBounds_toArray, List.set_cons_zero, List.set_cons_succ]
        refine wpAnyH_take (i := 1) (v := ?_) rfl (by kernel_rfl) (by kernel_rfl) (by kernel_rfl) (fun _ _ _ h => h) (Or.inl ⟨by rfl, ?hy⟩) hHeld ?_
        case hy =>
          intro w hSw
          (try dsimp only at hSw)
          go_simp
          (try with_reducible rfl)
        try simp only [Act.put, List.getElem_toArray, List.getElem_cons_succ, List.getElem_cons_zero, List.setIfInBounds_toArray, List.set_cons_zero, List.set_cons_succ]
        refine wpAnyH_take (i := 2) (v := ?_) rfl (by kernel_rfl) (by kernel_rfl) (by kernel_rfl) (fun _ _ _ h => h) (Or.inl ⟨by rfl, ?hy⟩) hHeld ?_
        case hy =>
          intro w hSw
          (try dsimp only at hSw)
          go_simp
          (try with_reducible rfl)
        try simp only [Act.put, List.getElem_toArray, List.getElem_cons_succ, List.getElem_cons_zero, List.setIfInBounds_toArray, List.set_cons_zero, List.set_cons_succ]
        refine wpAnyH_take (i := 3) (v := ?_) rfl (by kernel_rfl) (by kernel_rfl) (by kernel_rfl) (fun _ _ _ h => h) (Or.inl ⟨by rfl, ?hy⟩) hHeld ?_
        case hy =>
          intro w hSw
          (try dsimp only at hSw)
          go_simp
          (try with_reducible rfl)
        try simp only [Act.put, List.getElem_toArray, List.getElem_cons_succ, List.getElem_cons_zero, List.setIfInBounds_toArray, List.set_cons_zero, List.set_cons_succ]
        refine wpAnyH_take (i := 4) (v := ?_) rfl (by kernel_rfl) (by kernel_rfl) (by kernel_rfl) (fun _ _ _ h => h) (Or.inl ⟨by rfl, ?hy⟩) hHeld ?_
        case hy =>
          intro w hSw
          (try dsimp only at hSw)
          go_simp
          (try with_reducible rfl)
        try simp only [Act.put, List.getElem_toArray, List.getElem_cons_succ, List.getElem_cons_zero, List.setIfInBounds_toArray, List.set_cons_zero, List.set_cons_succ]
        refine wpAnyH_take (i := 5) (v := ?_) rfl (by kernel_rfl) (by kernel_rfl) (by kernel_rfl) (fun _ _ _ h => h) (Or.inl ⟨by rfl, ?hy⟩) hHeld ?_
        case hy =>
          intro w hSw
          (try dsimp only at hSw)
          go_simp
          (try with_reducible rfl)
        try simp only [Act.put, List.getElem_toArray, List.getElem_cons_succ, List.getElem_cons_zero, List.setIfInBounds_toArray, List.set_cons_zero, List.set_cons_succ]
        refine wpAnyH_take (i := 6) (v := ?_) rfl (by kernel_rfl) (by kernel_rfl) (by kernel_rfl) (fun _ _ _ h => h) (Or.inl ⟨by rfl, ?hy⟩) hHeld ?_
        case hy =>
          intro w hSw
          (try dsimp only at hSw)
          go_simp
          (try with_reducible rfl)
        try simp only [Act.put, List.getElem_toArray, List.getElem_cons_succ, List.getElem_cons_zero, List.setIfInBounds_toArray, List.set_cons_zero, List.set_cons_succ]
        refine wpAnyH_take (i := 7) (v := ?_) rfl (by kernel_rfl) (by kernel_rfl) (by kernel_rfl) (fun _ _ _ h => h) (Or.inl ⟨by rfl, ?hy⟩) hHeld ?_
        case hy =>
          intro w hSw
          (try dsimp only at hSw)
          go_simp
          (try with_reducible rfl)
        try simp only [Act.put, List.getElem_toArray, List.getElem_cons_succ, List.getElem_cons_zero, List.setIfInBounds_toArray, List.set_cons_zero, List.set_cons_succ]
        refine wpAnyH_take (i := 8) (v := ?_) rfl (by kernel_rfl) (by kernel_rfl) (by kernel_rfl) (fun _ _ _ h => h) (Or.inl ⟨by rfl, ?hy⟩) hHeld ?_
        case hy =>
          intro w hSw
          (try dsimp only at hSw)
          go_simp
          (try with_reducible rfl)
        try simp only [Act.put, List.getElem_toArray, List.getElem_cons_succ, List.getElem_cons_zero, List.setIfInBounds_toArray, List.set_cons_zero, List.set_cons_succ]
        refine wpAnyH_ready (rs := [9]) (by kernel_rfl) (by simp) ?_
        refine AllReadyH.cons rfl (fun K hK => ?_) AllReadyH.nil
        have hOld := hHeld
        clear hHeld
        go_simp
        refine (C.out _).mono ?_
        rintro r ww ⟨rfl, hbw⟩
        dsimp only
        refine hK.out _ _ (⟨⟨⟨cell_past hbw hOld.1.1.1, cell_past hbw hOld.1.1.2⟩, trivial⟩, nine_past hbw hOld.2⟩) (fun hHeld => ?_)
        clear hK K hOld
        try simp only [Act.put, List.getElem_toArray, List.getElem_cons_succ, List.getElem_cons_zero, List.setIfInBounds_toArray, List.set_cons_zero, List.set_cons_succ]
        refine wpAnyH_take (i := 10) (v := ?_) rfl (by kernel_rfl) (by kernel_rfl) (by kernel_rfl) (fun _ _ _ h => h) (Or.inl ⟨by rfl, ?hy⟩) hHeld ?_
        case hy =>
          intro w hSw
          (try dsimp only at hSw)
          go_simp
          (try with_reducible rfl)
        try simp only [Act.put, List.getElem_toArray, List.getElem_cons_succ, List.getElem_cons_zero, List.setIfInBounds_toArray, List.set_cons_zero, List.set_cons_succ]
        refine wpAnyH_take (i := 11) (v := ?_) rfl (by kernel_rfl) (by kernel_rfl) (by kernel_rfl) (fun _ _ _ h => h) (Or.inl ⟨by rfl, ?hy⟩) hHeld ?_
        case hy =>
          intro w hSw
          (try dsimp only at hSw)
          go_simp
          (try with_reducible rfl)
        try simp only [Act.put, List.getElem_toArray, List.getElem_cons_succ, List.getElem_cons_zero, List.setIfInBounds_toArray, List.set_cons_zero, List.set_cons_succ]
        refine wpAnyH_take (i := 12) (v := ?_) rfl (by kernel_rfl) (by kernel_rfl) (by kernel_rfl) (fun _ _ _ h => h) (Or.inl ⟨by rfl, ?hy⟩) hHeld ?_
        case hy =>
          intro w hSw
          (try dsimp only at hSw)
          go_simp
          (try with_reducible rfl)
        try simp only [Act.put, List.getElem_toArray, List.getElem_cons_succ, List.getElem_cons_zero, List.setIfInBounds_toArray, List.set_cons_zero, List.set_cons_succ]
        refine wpAnyH_take (i := 13) (v := ?_) rfl (by kernel_rfl) (by kernel_rfl) (by kernel_rfl) (fun _ _ _ h => h) (Or.inl ⟨by rfl, ?hy⟩) hHeld ?_
        case hy =>
          intro w hSw
          (try dsimp only at hSw)
          go_simp
          (try with_reducible rfl)
        try simp only [Act.put, List.getElem_toArray, List.getElem_cons_succ, List.getElem_cons_zero, List.setIfInBounds_toArray, List.set_cons_zero, List.set_cons_succ]
        refine wpAnyH_take (i := 14) (v := ?_) rfl (by kernel_rfl) (by kernel_rfl) (by kernel_rfl) (fun _ _ _ h => h) (Or.inl ⟨by rfl, ?hy⟩) hHeld ?_
        case hy =>
          intro w hSw
          (try dsimp only at hSw)
          go_simp
          (try with_reducible rfl)
        try simp only [Act.put, List.getElem_toArray, List.getElem_cons_succ, List.getElem_cons_zero, List.setIfInBounds_toArray, List.set_cons_zero, List.set_cons_succ]
        refine wpAnyH_take (i := 15) (v := ?_) rfl (by kernel_rfl) (by kernel_rfl) (by kernel_rfl) (fun _ _ _ h => h) (Or.inl ⟨by rfl, ?hy⟩) hHeld ?_
        case hy =>
          intro w hSw
          (try dsimp only at hSw)
          go_simp
          (try with_reducible rfl)
        try simp only [Act.put, List.getElem_toArray, List.getElem_cons_succ, List.getElem_cons_zero, List.setIfInBounds_toArray, List.set_cons_zero, List.set_cons_succ]
        refine wpAnyH_take (i := 16) (v := ?_) rfl (by kernel_rfl) (by kernel_rfl) (by kernel_rfl) (fun _ _ _ h => h) (Or.inl ⟨by rfl, ?hy⟩) hHeld ?_
        case hy =>
          intro w hSw
          (try dsimp only at hSw)
          go_simp
          (try with_reducible rfl)
        try simp only [Act.put, List.getElem_toArray, List.getElem_cons_succ, List.getElem_cons_zero, List.setIfInBounds_toArray, List.set_cons_zero, List.set_cons_succ]
        refine wpAnyH_done (by kernel_rfl) ?_ _
        simp only [Exit.then]
        clear hHeld
        have hbW : Below wr.heap.size wr ww := below_to (Below.refl wr.heap.size wr).drew hbw
        have hj1 := hJ _ _ _ hj (Moved.of hbW)
        have hso1 := hso.trans (SameOn.below hR' hbW)
        clear hbw hbW hj hso hR' Y1c Y1f Y2c Y2f j0 j1 j2 v0 v1 v2 y1 y2 y3 y4 yE C
        cases st
        · have hnx : Hid (scored hs us ⟨m0, m1, m2⟩ (k + 1) = scored hs us ⟨m0, m1, m2⟩ k) := Lib.hid (by rw [hsc.out]; rfl)
          gi_wp2
          refine ⟨fun _ h => (by cases h), ?_⟩
          gi_wp2
          trace_state
          exact ⟨⟨k + 1, by omega, by first | rfl | go_num, hbef', by rw [hnx.out]; exact hj1, hso1⟩, by simp [intOf]; omega⟩
        · have hnx : Hid (scored hs us ⟨m0, m1, m2⟩ (k + 1) = scored hs us ⟨m0, m1, m2⟩ k ++ [k]) := Lib.hid (by rw [hsc.out]; rfl)
          obtain ⟨fn, tmps, assign, body, hyy, hRr⟩ := hy.out ww hj1
          clear hy
          gi_wp2
          refine hRr.mono ?_
          rintro r w2 (⟨rfl, hj2, hk2⟩ | ⟨rfl, hjx⟩)
          · dsimp only
            have hso2 := hso1.trans hk2
            gi_wp2
            exact ⟨⟨k + 1, by omega, by first | rfl | go_num, hbef', by rw [hnx.out]; exact hj2, hso2⟩, by simp [intOf]; omega⟩
          · dsimp only
            gi_wp2
            refine bodyPost_ret (results_none rfl _ _ _) rfl ?_
            exact ⟨⟨_, rfl⟩, .inr ⟨_, trivial, hjx⟩⟩
      · have hma' : mayAt hs us ⟨m0, m1, m2⟩ k = false := by simpa using hma
        rw [if_neg hma] at C
        clear hy hsc hbef hma
        gi_wp2
        refine wpIn_wide.2 (wp_region_held0 (S := fun w' => ((w'.cell? ⟨b1, 0, none⟩ = some (.slice (some ⟨b, off, none⟩) n ca) ∧ w'.cell? ⟨b2, 0, none⟩ = some (.slice (some ⟨b', off', none⟩) n cb)) ∧ True) ∧ (w'.cell? ⟨b, off + k * 3, none⟩ = some (.int .i64 z0) ∧ w'.cell? ⟨b, off + k * 3 + 1, none⟩ = some (.int .i64 z1) ∧ w'.cell? ⟨b, off + k * 3 + 2, none⟩ = some (.int .i64 z2)) ∧ (w'.cell? ⟨b', off' + k * 3, none⟩ = some (.int .i64 u0) ∧ w'.cell? ⟨b', off' + k * 3 + 1, none⟩ = some (.int .i64 u1) ∧ w'.cell? ⟨b', off' + k * 3 + 2, none⟩ = some (.int .i64 u2)) ∧ (w'.cell? ⟨b3, 0, none⟩ = some (.int .i64 m0) ∧ w'.cell? ⟨b3, 1, none⟩ = some (.int .i64 m1) ∧ w'.cell? ⟨b3, 2, none⟩ = some (.int .i64 m2))) (by kernel_rfl) ⟨⟨⟨Y1c, Y2c⟩, trivial⟩, ⟨j0, j1, j2⟩, ⟨v0, v1, v2⟩, y3.cell 0, y3.cell 1, y3.cell 2⟩ (fun hHeld => ?_))
        refine wpAnyH_take (i := 0) (v := ?_) rfl (by kernel_rfl) (by kernel_rfl) (by kernel_rfl) (fun _ _ _ h => h) (Or.inl ⟨by rfl, ?hy⟩) hHeld ?_
        case hy =>
          intro w hSw
          (try dsimp only at hSw)
          go_simp
          (try with_reducible rfl)
        try simp only [Act.put, List.getElem_toArray, List.getElem_cons_succ, List.getElem_cons_zero, List.setIfInBounds_toArray, List.set_cons_zero, List.set_cons_succ]
        refine wpAnyH_take (i := 1) (v := ?_) rfl (by kernel_rfl) (by kernel_rfl) (by kernel_rfl) (fun _ _ _ h => h) (Or.inl ⟨by rfl, ?hy⟩) hHeld ?_
        case hy =>
          intro w hSw
          (try dsimp only at hSw)
          go_simp
          (try with_reducible rfl)
        try simp only [Act.put, List.getElem_toArray, List.getElem_cons_succ, List.getElem_cons_zero, List.setIfInBounds_toArray, List.set_cons_zero, List.set_cons_succ]
        refine wpAnyH_take (i := 2) (v := ?_) rfl (by kernel_rfl) (by kernel_rfl) (by kernel_rfl) (fun _ _ _ h => h) (Or.inl ⟨by rfl, ?hy⟩) hHeld ?_
        case hy =>
          intro w hSw
          (try dsimp only at hSw)
          go_simp
          (try with_reducible rfl)
        try simp only [Act.put, List.getElem_toArray, List.getElem_cons_succ, List.getElem_cons_zero, List.setIfInBounds_toArray, List.set_cons_zero, List.set_cons_succ]
        refine wpAnyH_take (i := 3) (v := ?_) rfl (by kernel_rfl) (by kernel_rfl) (by kernel_rfl) (fun _ _ _ h => h) (Or.inl ⟨by rfl, ?hy⟩) hHeld ?_
        case hy =>
          intro w hSw
          (try dsimp only at hSw)
          go_simp
          (try with_reducible rfl)
        try simp only [Act.put, List.getElem_toArray, List.getElem_cons_succ, List.getElem_cons_zero, List.setIfInBounds_toArray, List.set_cons_zero, List.set_cons_succ]
        refine wpAnyH_take (i := 4) (v := ?_) rfl (by kernel_rfl) (by kernel_rfl) (by kernel_rfl) (fun _ _ _ h => h) (Or.inl ⟨by rfl, ?hy⟩) hHeld ?_
        case hy =>
          intro w hSw
          (try dsimp only at hSw)
          go_simp
          (try with_reducible rfl)
        try simp only [Act.put, List.getElem_toArray, List.getElem_cons_succ, List.getElem_cons_zero, List.setIfInBounds_toArray, List.set_cons_zero, List.set_cons_succ]
        refine wpAnyH_take (i := 5) (v := ?_) rfl (by kernel_rfl) (by kernel_rfl) (by kernel_rfl) (fun _ _ _ h => h) (Or.inl ⟨by rfl, ?hy⟩) hHeld ?_
        case hy =>
          intro w hSw
          (try dsimp only at hSw)
          go_simp
          (try with_reducible rfl)
        try simp only [Act.put, List.getElem_toArray, List.getElem_cons_succ, List.getElem_cons_zero, List.setIfInBounds_toArray, List.set_cons_zero, List.set_cons_succ]
        refine wpAnyH_take (i := 6) (v := ?_) rfl (by kernel_rfl) (by kernel_rfl) (by kernel_rfl) (fun _ _ _ h => h) (Or.inl ⟨by rfl, ?hy⟩) hHeld ?_
        case hy =>
          intro w hSw
          (try dsimp only at hSw)
          go_simp
          (try with_reducible rfl)
        try simp only [Act.put, List.getElem_toArray, List.getElem_cons_succ, List.getElem_cons_zero, List.setIfInBounds_toArray, List.set_cons_zero, List.set_cons_succ]
        refine wpAnyH_take (i := 7) (v := ?_) rfl (by kernel_rfl) (by kernel_rfl) (by kernel_rfl) (fun _ _ _ h => h) (Or.inl ⟨by rfl, ?hy⟩) hHeld ?_
        case hy =>
          intro w hSw
          (try dsimp only at hSw)
          go_simp
          (try with_reducible rfl)
        try simp only [Act.put, List.getElem_toArray, List.getElem_cons_succ, List.getElem_cons_zero, List.setIfInBounds_toArray, List.set_cons_zero, List.set_cons_succ]
        refine wpAnyH_take (i := 8) (v := ?_) rfl (by kernel_rfl) (by kernel_rfl) (by kernel_rfl) (fun _ _ _ h => h) (Or.inl ⟨by rfl, ?hy⟩) hHeld ?_
        case hy =>
          intro w hSw
          (try dsimp only at hSw)
          go_simp
          (try with_reducible rfl)
        try simp only [Act.put, List.getElem_toArray, List.getElem_cons_succ, List.getElem_cons_zero, List.setIfInBounds_toArray, List.set_cons_zero, List.set_cons_succ]
        refine wpAnyH_ready (rs := [9]) (by kernel_rfl) (by simp) ?_
        refine AllReadyH.cons rfl (fun K hK => ?_) AllReadyH.nil
        have hOld := hHeld
        clear hHeld
        go_simp
        refine (C.out _).mono ?_
        rintro r ww ⟨rfl, hbw⟩
        dsimp only
        refine hK.out _ _ (⟨⟨⟨cell_past hbw hOld.1.1.1, cell_past hbw hOld.1.1.2⟩, trivial⟩, nine_past hbw hOld.2⟩) (fun hHeld => ?_)
        clear hK K hOld
        try simp only [Act.put, List.getElem_toArray, List.getElem_cons_succ, List.getElem_cons_zero, List.setIfInBounds_toArray, List.set_cons_zero, List.set_cons_succ]
        refine wpAnyH_take (i := 10) (v := ?_) rfl (by kernel_rfl) (by kernel_rfl) (by kernel_rfl) (fun _ _ _ h => h) (Or.inl ⟨by rfl, ?hy⟩) hHeld ?_
        case hy =>
          intro w hSw
          (try dsimp only at hSw)
          go_simp
          (try with_reducible rfl)
        try simp only [Act.put, List.getElem_toArray, List.getElem_cons_succ, List.getElem_cons_zero, List.setIfInBounds_toArray, List.set_cons_zero, List.set_cons_succ]
        refine wpAnyH_take (i := 11) (v := ?_) rfl (by kernel_rfl) (by kernel_rfl) (by kernel_rfl) (fun _ _ _ h => h) (Or.inl ⟨by rfl, ?hy⟩) hHeld ?_
        case hy =>
          intro w hSw
          (try dsimp only at hSw)
          go_simp
          (try with_reducible rfl)
        try simp only [Act.put, List.getElem_toArray, List.getElem_cons_succ, List.getElem_cons_zero, List.setIfInBounds_toArray, List.set_cons_zero, List.set_cons_succ]
        refine wpAnyH_take (i := 12) (v := ?_) rfl (by kernel_rfl) (by kernel_rfl) (by kernel_rfl) (fun _ _ _ h => h) (Or.inl ⟨by rfl, ?hy⟩) hHeld ?_
        case hy =>
          intro w hSw
          (try dsimp only at hSw)
          go_simp
          (try with_reducible rfl)
        try simp only [Act.put, List.getElem_toArray, List.getElem_cons_succ, List.getElem_cons_zero, List.setIfInBounds_toArray, List.set_cons_zero, List.set_cons_succ]
        refine wpAnyH_take (i := 13) (v := ?_) rfl (by kernel_rfl) (by kernel_rfl) (by kernel_rfl) (fun _ _ _ h => h) (Or.inl ⟨by rfl, ?hy⟩) hHeld ?_
        case hy =>
          intro w hSw
          (try dsimp only at hSw)
          go_simp
          (try with_reducible rfl)
        try simp only [Act.put, List.getElem_toArray, List.getElem_cons_succ, List.getElem_cons_zero, List.setIfInBounds_toArray, List.set_cons_zero, List.set_cons_succ]
        refine wpAnyH_take (i := 14) (v := ?_) rfl (by kernel_rfl) (by kernel_rfl) (by kernel_rfl) (fun _ _ _ h => h) (Or.inl ⟨by rfl, ?hy⟩) hHeld ?_
        case hy =>
          intro w hSw
          (try dsimp only at hSw)
          go_simp
          (try with_reducible rfl)
        try simp only [Act.put, List.getElem_toArray, List.getElem_cons_succ, List.getElem_cons_zero, List.setIfInBounds_toArray, List.set_cons_zero, List.set_cons_succ]
        refine wpAnyH_take (i := 15) (v := ?_) rfl (by kernel_rfl) (by kernel_rfl) (by kernel_rfl) (fun _ _ _ h => h) (Or.inl ⟨by rfl, ?hy⟩) hHeld ?_
        case hy =>
          intro w hSw
          (try dsimp only at hSw)
          go_simp
          (try with_reducible rfl)
        try simp only [Act.put, List.getElem_toArray, List.getElem_cons_succ, List.getElem_cons_zero, List.setIfInBounds_toArray, List.set_cons_zero, List.set_cons_succ]
        refine wpAnyH_take (i := 16) (v := ?_) rfl (by kernel_rfl) (by kernel_rfl) (by kernel_rfl) (fun _ _ _ h => h) (Or.inl ⟨by rfl, ?hy⟩) hHeld ?_
        case hy =>
          intro w hSw
          (try dsimp only at hSw)
          go_simp
          (try with_reducible rfl)
        try simp only [Act.put, List.getElem_toArray, List.getElem_cons_succ, List.getElem_cons_zero, List.setIfInBounds_toArray, List.set_cons_zero, List.set_cons_succ]
        refine wpAnyH_done (by kernel_rfl) ?_ _
        simp only [Exit.then]
        clear hHeld
        have hbW : Below wr.heap.size wr ww := below_to (Below.refl wr.heap.size wr).drew hbw
        have hj1 := hJ _ _ _ hj (Moved.of hbW)
        have hso1 := hso.trans (SameOn.below hR' hbW)
        have y4' := y4.same (SameOn.below hR' hbW) r4
        have yE' := yE.same (SameOn.below hR' hbW) rE
        clear hbw hbW hj hso hR' Y1c Y1f Y2c Y2f j0 j1 j2 v0 v1 v2 y1 y2 y3 y4 yE C
        have Y4c := y4'.cell
        have Y4f := y4'.frozen
        have D := sc_err E 2 _ ww yE'
        gi_wp2
        refine ⟨trivial, (callsIn_wide.2 D).mono ?_⟩
        rintro r w2 ⟨⟨u, rfl⟩, rfl⟩; dsimp only
        clear Y4c Y4f
        gi_wp2
        refine bodyPost_ret (results_none rfl _ _ _) rfl ?_
        exact ⟨⟨_, rfl⟩, .inl ⟨_, .inr ⟨⟨k, hlt, hma'⟩, yE'.set _⟩, hJ _ _ _ hj1 (Moved.set_ 0 _)⟩⟩
    · obtain rfl : k = n := by omega
      gi_wp2
      go_end0
      exact ⟨⟨_, rfl⟩, .inl ⟨_, .inl ⟨hbef.out, rfl, yE⟩, hj⟩⟩
end Go.Proofs.Ytbamgoocgmhohaa
