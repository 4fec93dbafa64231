/- Copies of lists of shares. Conditions: what comes in is within the reach. -/
import Derived.Test.YtcjgblopcfcakaaQt22
import Derived.Test.YtcjgblopcfcakaaQt12h
import Derived.Laws.AppendOwnNone
namespace Go.Proofs.Ytcjgblopcfcakaa
open Go.RowKit Go.MapKept

theorem run_append_none0 {P : Program} {w : World} (base : Nat) (t ty e : TypeId) (i : TypeInfo) (size : Nat) (ht : P.underlying t = some (.slice e)) (hi : P.info? e = some i)
    (v : Value) (n c : Nat) (xs : List Value) (hown : w.ownsRow base e size v n xs) :
    (Builtin.append_ #[t, t] ty #[v, .slice none 0 c]).run P w = .ok v w := by
  rcases hown.2 with ⟨rfl, rfl⟩ | ⟨g, cap, cur, rfl, _, _, hnc, _⟩
  · simp [Builtin.append_, run_underlying ht, sizeOf, typeInfo, hi, Builtin.lenOf, Builtin.firstCells]
  · simp [Builtin.append_, run_underlying ht, sizeOf, typeInfo, hi, Builtin.lenOf, Builtin.firstCells, hnc, storeCells]
theorem shares_flat {w : World} {b off : Nat} {xs : List Share} (h : SharesIn w (some ⟨b, off, none⟩) xs) : ∀ (j : Nat) (u : Value), (flatS xs)[j]? = some u → w.cell? ⟨b, off + j, none⟩ = some u := by
  intro j u hj
  have hjl : j < xs.length * 8 := by
    rcases Nat.lt_or_ge j (xs.length * 8) with q | q
    · exact q
    · rw [List.getElem?_eq_none (by rw [flatS_len]; omega)] at hj; cases hj
  obtain ⟨b', off', e, hb, hc⟩ := h (by intro e; rw [e] at hjl; simp at hjl)
  simp only [Option.some.injEq, Addr.mk.injEq, and_true] at e
  obtain ⟨rfl, rfl⟩ := e
  have hi : j / 8 < xs.length := by omega
  obtain ⟨k0, k1, k2, k3, k4, k5, k6, k7⟩ := hc (j / 8) hi
  have e1 := flatS_get xs (j / 8) (j % 8) hi (by omega)
  rw [show j / 8 * 8 + j % 8 = j by omega, hj] at e1
  have hr : j % 8 = 0 ∨ j % 8 = 1 ∨ j % 8 = 2 ∨ j % 8 = 3 ∨ j % 8 = 4 ∨ j % 8 = 5 ∨ j % 8 = 6 ∨ j % 8 = 7 := by omega
  rcases hr with hr | hr | hr | hr | hr | hr | hr | hr <;> rw [hr] at e1
  · rw [show off + j = off + j / 8 * 8 by omega, k0]; exact e1.symm
  · rw [show off + j = off + j / 8 * 8 + 1 by omega, k1]; exact e1.symm
  · rw [show off + j = off + j / 8 * 8 + 2 by omega, k2]; exact e1.symm
  · rw [show off + j = off + j / 8 * 8 + 3 by omega, k3]; exact e1.symm
  · rw [show off + j = off + j / 8 * 8 + 4 by omega, k4]; exact e1.symm
  · rw [show off + j = off + j / 8 * 8 + 5 by omega, k5]; exact e1.symm
  · rw [show off + j = off + j / 8 * 8 + 6 by omega, k6]; exact e1.symm
  · rw [show off + j = off + j / 8 * 8 + 7 by omega, k7]; exact e1.symm
theorem wpList_append_shares {w : World} {ops : Array Oper} {rest : List Oper} {o : Oper} {a : Act} {Q : Exit → Act → World → Prop} (hgd : o.guard = none) (s x : Operand)
    (ho : o.op = .call { callee := .builtin .append, args := #[s, x], argTypes := #[36, 36] })
    (base : Nat) (v : Value) (hs : a.eval s = v) (hown : w.ownsRow base 39 8 v 0 []) (A : Option Addr) (c : Nat) (xs : List Share) (hx : a.eval x = .slice A xs.length c) (hA : SharesIn w A xs) (hn : xs.length ≤ 1024) (hbase : base ≤ w.heap.size)
    (h : ∀ v' w', w'.ownsRow base 39 8 v' xs.length (flatS xs) → w.grownBy w' v.ownBlock → wpList Try.prog ops Q rest (a.put o.dst v') w') : wpList Try.prog ops Q (o :: rest) a w := by
  obtain ⟨i0, hi0, hz0, hz1, hz2⟩ := info_parts shareInfo
  cases A with
  | none =>
    have hx0 : xs = [] := Classical.byContradiction fun hne => by
      obtain ⟨b, off, e, _⟩ := hA hne
      cases e
    subst hx0
    refine wpList_plain hgd fun K hK => ?_
    have hrun := run_append_none0 (P := Try.prog) (w := w) base 36 o.type 39 i0 8 Try.underlying36 hi0 v 0 c [] hown
    unfold Oper.wp
    have hx' : a.eval x = .slice none 0 c := hx
    simp [execOp, ho, resolve, invoke, builtin, hs, hx', hrun, Result.andThen]
    exact hK _ _ (h v w hown ⟨rfl, rfl, rfl, Nat.le_refl _, fun _ _ _ => rfl⟩)
  | some p =>
    refine wpList_append_own w hgd s x 36 ho base 39 i0 (.agg #[.string ⟨#[]⟩, .int .u8 0, .int .i64 0, .int .i64 0, .int .i64 0, .int .i64 0, .int .i64 0, .int .i64 0]) 8 72 Try.underlying36 hi0 hz0 hz1 hz2 rfl (by decide) v 0 [] hs hown p xs.length c (flatS xs) hx (flatS_len xs) ?_ ?_ ?_ ?_ hbase ?_
    · intro j u hj
      by_cases hne : xs = []
      · rw [hne] at hj; simp [flatS] at hj
      · have hA' := hA
        obtain ⟨b, off, e, _⟩ := hA hne
        cases e
        rw [addr_add]
        exact shares_flat hA' j u hj
    · intro u hu
      obtain ⟨y, _, hy⟩ := List.mem_flatMap.1 hu
      exact shRow_cell hy
    · unfold maxLen; omega
    · omega
    · intro v' w' h1 h2 _
      refine h v' w' ?_ h2
      rw [Nat.zero_add, List.nil_append] at h1
      exact h1
set_option maxRecDepth 100000 in
set_option maxHeartbeats 8000000 in
theorem QuotaPlays_walk (A : Option Addr) (n c : Nat) (xs : List Share) (hl : xs.length = n) (hn : n * 72 ≤ 140737488351232) (hok : ∀ x ∈ xs, x.ok) {w : World} (hA : SharesIn w A xs) (B : Option Addr) (n2 c2 : Nat) (ys : List QStep) (hl2 : ys.length = n2) (hn2 : n2 * 56 ≤ 140737488351232) (hok2 : ∀ y ∈ ys, y.ok) (hB : QStepsIn w B ys) :
    Calls Try.prog 6 #[.slice A n c, .slice B n2 c2] w fun e w' => e = .returned (.bool true) ∧ Below w.heap.size w w' := by
  subst hl
  subst hl2
  have al := Lib.hid law17_alive
  have HE := Lib.hid (law_heavy A B c c2 xs ys w (by omega) (by omega) hok hok2 hA hB)
  have HA := Lib.hid hA
  have HB := Lib.hid hB
  replace hok := Lib.hid hok
  replace hok2 := Lib.hid hok2
  clear hA hB
  go_enter Try.func6, Try.ntmps6
  go_wp2_with fail
  refine (HE.out).mono ?_
  rintro r ww ⟨hv, rfl, hsm, rfl⟩; dsimp only
  cases hv with
  | true =>
    go_wp2_with fail
    refine (al.out _).mono ?_
    rintro r w1 ⟨rfl, hb1⟩; dsimp only
    replace hb1 := Lib.hid hb1
    go_wp2_with fail
    go_ret
    exact ⟨rfl, hb1.out⟩
  | false =>
    have hm := hsm rfl
    clear hsm HE hn hn2
    have hown0 := World.ownsRow_lit (base := w.heap.size) (e := 39) (size := 8) w #[] 0 (Nat.le_refl _) (by unfold maxLen; omega) rfl
    have hal0 : Below w.heap.size w (w.alloc (.cells #[] 39)) := below_own (below_self w) _
    go_wp2_with (at_builtin; refine wpList_append_shares rfl _ _ rfl w.heap.size _ rfl hown0 A c xs rfl (HA.out.past hal0) (by omega) (by simp) ?_)
    intro v1 w1 hown1 hgr1
    have HB1 := Lib.hid (hal0.grown hgr1 (by simp) (fun k hk => by simp [Value.ownBlock] at hk; omega))
    obtain ⟨A1, cap1, rfl, hs1, -⟩ := own_shares hown1
    replace hs1 := Lib.hid hs1
    clear hown0 hown1 hgr1 hal0
    go_wp2_with fail
    refine (q_Load A1 cap1 xs w1 (by omega) hok.out hs1.out).mono ?_
    rintro r w2 ⟨hres, hb2⟩
    have HB1' := Lib.hid (below_to HB1.out hb2)
    rcases hres with ⟨hgB, rfl, hL⟩ | ⟨hgB, rfl⟩
    · dsimp only
      have hLt := hL.tight
      have hs1w := HB1.out.size
      have hs2w := hb2.size
      obtain ⟨n1, hn1⟩ : ∃ n1, n1 = w1.heap.size := ⟨_, rfl⟩
      rw [← hn1] at hLt hs1w hs2w
      clear hL hs1 HB1 hb2
      have hRn := Blk.new w2 48 #[.slice none 0 0]
      have hA2 : Below w2.heap.size w2 (w2.alloc (.cells #[.slice none 0 0] 48)) := below_own (below_self w2) _
      have c5 := r_May A c xs _ (by omega) (HA.out.past (below_to HB1'.out hA2))
      rw [hgB] at c5
      rw [← hn1]
      clear hn1
      generalize n1 + 1 = P at *
      go_wp2_with fail
      refine c5.mono ?_
      rintro r w3 ⟨rfl, hb3⟩; dsimp only
      have HB3 := Lib.hid (below_to (below_to HB1'.out hA2) hb3)
      replace hRn := hRn.past hb3
      have hL3 := Lib.hid (hLt.past (below_to hA2 hb3))
      have hRlt := hRn.lt
      have hRle := HB1'.out.size
      clear HB1' hA2 c5 hb3 hLt
      generalize w2.heap.size = R at *
      obtain ⟨Rc, Rf, Rl⟩ := hRn.facts
      have hown0 := World.ownsRow_lit (base := w3.heap.size) (e := 39) (size := 8) w3 #[] 0 (Nat.le_refl _) (by unfold maxLen; omega) rfl
      have hal0 : Below w3.heap.size w3 (w3.alloc (.cells #[] 39)) := below_own (below_self w3) _
      go_wp2_with (at_builtin; refine wpList_append_shares rfl _ _ rfl w3.heap.size _ rfl hown0 A c xs rfl (HA.out.past (below_to HB3.out hal0)) (by omega) (by simp) ?_)
      intro v4 w4 hown4 hgr4
      have HB4 := Lib.hid (hal0.grown hgr4 (by simp) (fun k hk => by simp [Value.ownBlock] at hk; omega))
      obtain ⟨A4, cap4, rfl, hs4, -⟩ := own_shares hown4
      replace hRn := hRn.past HB4.out
      clear hs4 hown0 hgr4 hal0 Rc Rf Rl
      obtain ⟨Rc, Rf, Rl⟩ := hRn.facts
      go_wp2_with fail
      have hne4 : ∀ x, Value.ownBlock (.slice A4 xs.length cap4) = some x → x ≠ R := fun x hx e => by have := (hown4.lt x hx).1; omega
      have hG4 := grown_set w4 R 0 (.slice A4 xs.length cap4)
      have hL4 := (hL3.out.past HB4.out).kept (OnlyS.grown (S := fun c => c = R) hG4 rfl) (fun b hb e => by have := hb.2; omega)
      have hBo : Both w (w4.setCell ⟨R, 0, none⟩ (.slice A4 xs.length cap4)) (fun _ => False) P R xs xs := by
        have hsz := HB4.out.size
        have hw3 := HB3.out.size
        have hgs := hG4.size
        refine ⟨fun b => n1 ≤ b ∧ b < R, fun c => c = R ∨ (w3.heap.size ≤ c ∧ c < w4.heap.size), hL4, ⟨_, hRn.put 0 _ rfl, ownsRow_low (ownsRow_set hown4 hne4), Or.inl rfl, fun x hx => ⟨Or.inr (hown4.lt x hx), hne4 x hx⟩⟩, fun b hb hc => ?_, fun b hb => ⟨by omega, by omega, fun h => h⟩, fun b hb => ⟨?_, ?_, fun h => h⟩, fun b hb => hb.elim, (below_to HB3.out HB4.out).grown hG4 (by omega) (fun k hk => by simp at hk; omega)⟩
        · rcases hc with rfl | hc
          · omega
          · omega
        · rcases hb with rfl | hb <;> omega
        · rcases hb with rfl | hb <;> omega
      clear hL4 hG4 hne4 hown4 hRn Rc Rf Rl hL3
      generalize w4.setCell ⟨R, 0, none⟩ (.slice A4 xs.length cap4) = w5 at *
      have hG : Good xs := good_of hgB
      clear HB4 HB3 hRlt hRle hs1w hs2w hgB
      refine (both_Rows hBo).mono ?_
      rintro r w6 ⟨⟨A6, cap6, rfl, hs6, hp6⟩, hb6⟩; dsimp only
      replace hBo := hBo.past hb6
      have cs := law_same A6 A cap6 c xs w6 (by omega) hs6 (HA.out.past hBo.below)
      clear hs6 hp6 hb6
      go_wp2_with fail
      refine cs.mono ?_
      rintro r w7 ⟨rfl, hb7⟩; dsimp only
      replace hBo := hBo.past hb7
      clear cs hb7
      have HBo := Lib.hid hBo
      have HG := Lib.hid hG
      clear hBo hG
      go_wp2_with fail
      go_loopw [8] (fun i wr => ∃ (k : Nat) (L : List Share), i = .int .i64 k ∧ k ≤ ys.length ∧ Both w wr (fun _ => False) P R L L ∧ Hid (Good L)) (fun i _ => ys.length - (intOf i).toNat)
      case atStart => exact ⟨0, xs, rfl, Nat.zero_le _, HBo.out, HG⟩
      case round =>
        clear HBo HG
        obtain ⟨k, L, rfl, hk, hBo, hG⟩ := hrel
        by_cases hlt : k < ys.length
        · obtain ⟨g, off, rfl, hg, hcell⟩ := HB.out (by intro e; rw [e] at hlt; simp at hlt)
          have hkeep := Lib.hid (fun W (hW : Below w.heap.size w W) => (⟨(hW.cell (p := ⟨g, off + k * 6, none⟩) hg).trans (hcell k hlt).1, (hW.cell (p := ⟨g, off + k * 6 + 1, none⟩) hg).trans (hcell k hlt).2.1, (hW.cell (p := ⟨g, off + k * 6 + 2, none⟩) hg).trans (hcell k hlt).2.2.1, (hW.cell (p := ⟨g, off + k * 6 + 3, none⟩) hg).trans (hcell k hlt).2.2.2.1, (hW.cell (p := ⟨g, off + k * 6 + 4, none⟩) hg).trans (hcell k hlt).2.2.2.2.1, (hW.cell (p := ⟨g, off + k * 6 + 5, none⟩) hg).trans (hcell k hlt).2.2.2.2.2⟩ : _ ∧ _ ∧ _ ∧ _ ∧ _ ∧ _))
          have con := law_does (hBo.past (Below.refl _ _).drew) hG.out ys[k] (hok2.out _ (List.getElem_mem hlt))
          clear hcell hg
          generalize ys[k] = y at *
          obtain ⟨yd, yu, yb, ⟨y0, y1, y2⟩⟩ := y
          dsimp only at hkeep
          obtain ⟨j0, j1, j2, j3, j4, j5⟩ := hkeep.out _ hBo.below
          clear hBo hG
          go_wp2_with fail
          refine wp_region_held_drew (S := (fun w' => w'.cell? ⟨g, off + k * 6, none⟩ = some (.int .u8 yd) ∧ w'.cell? ⟨g, off + k * 6 + 1, none⟩ = some (.string yu) ∧ w'.cell? ⟨g, off + k * 6 + 2, none⟩ = some (.int .u8 yb) ∧ w'.cell? ⟨g, off + k * 6 + 3, none⟩ = some (.int .i64 y0) ∧ w'.cell? ⟨g, off + k * 6 + 4, none⟩ = some (.int .i64 y1) ∧ w'.cell? ⟨g, off + k * 6 + 5, none⟩ = some (.int .i64 y2))) (by kernel_rfl) ⟨j0, j1, j2, j3, j4, j5⟩ (fun hHeld => ?_)
          refine wpAnyH_take (i := 0) (v := ?_) rfl (by kernel_rfl) (by kernel_rfl) (by kernel_rfl) (fun _ _ _ h => h) (Or.inl ⟨by rfl, ?hy⟩) hHeld ?_
          case hy =>
            intro w hSw
            (try dsimp only at hSw)
            go_simp
            (try with_reducible rfl)
          try simp only [Act.put, List.getElem_toArray, List.getElem_cons_zero, List.setIfInBounds_toArray, List.set_cons_zero, List.set_cons_succ]
          refine wpAnyH_take (i := 1) (v := ?_) rfl (by kernel_rfl) (by kernel_rfl) (by kernel_rfl) (fun _ _ _ h => h) (Or.inl ⟨by rfl, ?hy⟩) hHeld ?_
          case hy =>
            intro w hSw
            (try dsimp only at hSw)
            go_simp
            (try with_reducible rfl)
          try simp only [Act.put, List.getElem_toArray, List.getElem_cons_succ, List.getElem_cons_zero, List.setIfInBounds_toArray, List.set_cons_zero, List.set_cons_succ]
          refine wpAnyH_take (i := 2) (v := ?_) rfl (by kernel_rfl) (by kernel_rfl) (by kernel_rfl) (fun _ _ _ h => h) (Or.inl ⟨by rfl, ?hy⟩) hHeld ?_
          case hy =>
            intro w hSw
            (try dsimp only at hSw)
            go_simp
            (try with_reducible rfl)
          try simp only [Act.put, List.getElem_toArray, List.getElem_cons_succ, List.getElem_cons_zero, List.setIfInBounds_toArray, List.set_cons_zero, List.set_cons_succ]
          refine wpAnyH_take (i := 3) (v := ?_) rfl (by kernel_rfl) (by kernel_rfl) (by kernel_rfl) (fun _ _ _ h => h) (Or.inl ⟨by rfl, ?hy⟩) hHeld ?_
          case hy =>
            intro w hSw
            (try dsimp only at hSw)
            go_simp
            (try with_reducible rfl)
          try simp only [Act.put, List.getElem_toArray, List.getElem_cons_succ, List.getElem_cons_zero, List.setIfInBounds_toArray, List.set_cons_zero, List.set_cons_succ]
          refine wpAnyH_take (i := 4) (v := ?_) rfl (by kernel_rfl) (by kernel_rfl) (by kernel_rfl) (fun _ _ _ h => h) (Or.inl ⟨by rfl, ?hy⟩) hHeld ?_
          case hy =>
            intro w hSw
            (try dsimp only at hSw)
            go_simp
            (try with_reducible rfl)
          try simp only [Act.put, List.getElem_toArray, List.getElem_cons_succ, List.getElem_cons_zero, List.setIfInBounds_toArray, List.set_cons_zero, List.set_cons_succ]
          refine wpAnyH_take (i := 5) (v := ?_) rfl (by kernel_rfl) (by kernel_rfl) (by kernel_rfl) (fun _ _ _ h => h) (Or.inl ⟨by rfl, ?hy⟩) hHeld ?_
          case hy =>
            intro w hSw
            (try dsimp only at hSw)
            go_simp
            (try with_reducible rfl)
          try simp only [Act.put, List.getElem_toArray, List.getElem_cons_succ, List.getElem_cons_zero, List.setIfInBounds_toArray, List.set_cons_zero, List.set_cons_succ]
          refine wpAnyH_ready (rs := [6]) (by kernel_rfl) (by simp) ?_
          refine AllReadyH.cons rfl (fun K hK => ?_) AllReadyH.nil
          have hOld := hHeld
          clear hHeld
          go_simp
          refine (con).mono ?_
          rintro r w1 ⟨rfl, L', hG', hB'⟩
          dsimp only
          have hj1 := hkeep.out _ hB'.below
          obtain ⟨j0, j1, j2, j3, j4, j5⟩ := hj1
          refine hK.out _ _ (⟨j0, j1, j2, j3, j4, j5⟩) (fun hHeld => ?_)
          clear hK K hOld
          try simp only [Act.put, List.getElem_toArray, List.getElem_cons_succ, List.getElem_cons_zero, List.setIfInBounds_toArray, List.set_cons_zero, List.set_cons_succ]
          refine wpAnyH_take (i := 7) (v := ?_) rfl (by kernel_rfl) (by kernel_rfl) (by kernel_rfl) (fun _ _ _ h => h) (Or.inl ⟨by rfl, ?hy⟩) hHeld ?_
          case hy =>
            intro w hSw
            (try dsimp only at hSw)
            go_simp
            (try with_reducible rfl)
          try simp only [Act.put, List.getElem_toArray, List.getElem_cons_succ, List.getElem_cons_zero, List.setIfInBounds_toArray, List.set_cons_zero, List.set_cons_succ]
          refine wpAnyH_take (i := 8) (v := ?_) rfl (by kernel_rfl) (by kernel_rfl) (by kernel_rfl) (fun _ _ _ h => h) (Or.inl ⟨by rfl, ?hy⟩) hHeld ?_
          case hy =>
            intro w hSw
            (try dsimp only at hSw)
            go_simp
            (try with_reducible rfl)
          try simp only [Act.put, List.getElem_toArray, List.getElem_cons_succ, List.getElem_cons_zero, List.setIfInBounds_toArray, List.set_cons_zero, List.set_cons_succ]
          refine wpAnyH_take (i := 9) (v := ?_) rfl (by kernel_rfl) (by kernel_rfl) (by kernel_rfl) (fun _ _ _ h => h) (Or.inl ⟨by rfl, ?hy⟩) hHeld ?_
          case hy =>
            intro w hSw
            (try dsimp only at hSw)
            go_simp
            (try with_reducible rfl)
          try simp only [Act.put, List.getElem_toArray, List.getElem_cons_succ, List.getElem_cons_zero, List.setIfInBounds_toArray, List.set_cons_zero, List.set_cons_succ]
          obtain ⟨A3, cap3, hR3, hs3⟩ := hB'.list
          have hR30 := hR3.cell 0
          have hR3f := hR3.frozen 0
          refine wpAnyH_strong (S' := fun w' => (w'.cell? ⟨g, off + k * 6, none⟩ = some (.int .u8 yd) ∧ w'.cell? ⟨g, off + k * 6 + 1, none⟩ = some (.string yu) ∧ w'.cell? ⟨g, off + k * 6 + 2, none⟩ = some (.int .u8 yb) ∧ w'.cell? ⟨g, off + k * 6 + 3, none⟩ = some (.int .i64 y0) ∧ w'.cell? ⟨g, off + k * 6 + 4, none⟩ = some (.int .i64 y1) ∧ w'.cell? ⟨g, off + k * 6 + 5, none⟩ = some (.int .i64 y2)) ∧ w'.cell? ⟨R, 0, none⟩ = some (.slice A3 L'.length cap3)) (fun _ h => h.1) _ _ _ _ ?_
          have hNew := And.intro (And.intro j0 (And.intro j1 (And.intro j2 (And.intro j3 (And.intro j4 j5))))) hR30
          clear hHeld
          have hHeld := hNew
          clear hNew
          refine wpAnyH_take (i := 11) (v := ?_) rfl (by kernel_rfl) (by kernel_rfl) (by kernel_rfl) (fun _ _ _ h => h) (Or.inl ⟨by rfl, ?hy⟩) hHeld ?_
          case hy =>
            intro w hSw
            (try dsimp only at hSw)
            go_simp
            (try with_reducible rfl)
          try simp only [Act.put, List.getElem_toArray, List.getElem_cons_succ, List.getElem_cons_zero, List.setIfInBounds_toArray, List.set_cons_zero, List.set_cons_succ]
          refine wpAnyH_take (i := 12) (v := ?_) rfl (by kernel_rfl) (by kernel_rfl) (by kernel_rfl) (fun _ _ _ h => h) (Or.inl ⟨by rfl, ?hy⟩) hHeld ?_
          case hy =>
            intro w hSw
            (try dsimp only at hSw)
            go_simp
            (try with_reducible rfl)
          try simp only [Act.put, List.getElem_toArray, List.getElem_cons_succ, List.getElem_cons_zero, List.setIfInBounds_toArray, List.set_cons_zero, List.set_cons_succ]
          refine wpAnyH_take (i := 13) (v := ?_) rfl (by kernel_rfl) (by kernel_rfl) (by kernel_rfl) (fun _ _ _ h => h) (Or.inl ⟨by rfl, ?hy⟩) hHeld ?_
          case hy =>
            intro w hSw
            (try dsimp only at hSw)
            go_simp
            (try with_reducible rfl)
          try simp only [Act.put, List.getElem_toArray, List.getElem_cons_succ, List.getElem_cons_zero, List.setIfInBounds_toArray, List.set_cons_zero, List.set_cons_succ]
          refine wpAnyH_take (i := 14) (v := ?_) rfl (by kernel_rfl) (by kernel_rfl) (by kernel_rfl) (fun _ _ _ h => h) (Or.inl ⟨by rfl, ?hy⟩) hHeld ?_
          case hy =>
            intro w hSw
            (try dsimp only at hSw)
            go_simp
            (try with_reducible rfl)
          try simp only [Act.put, List.getElem_toArray, List.getElem_cons_succ, List.getElem_cons_zero, List.setIfInBounds_toArray, List.set_cons_zero, List.set_cons_succ]
          refine wpAnyH_ready (rs := [10]) (by kernel_rfl) (by simp) ?_
          refine AllReadyH.cons rfl (fun K hK => ?_) AllReadyH.nil
          have hOld := hHeld
          clear hHeld
          go_simp
          refine (both_Rows hB').mono ?_
          rintro r w2 ⟨⟨A2, cap2, rfl, hs2, hp2⟩, hb2⟩
          dsimp only
          have hB2 := hB'.past hb2
          replace hR3 := hR3.past hb2
          replace hs3 := hs3.past hb2
          obtain ⟨j0, j1, j2, j3, j4, j5⟩ := hkeep.out _ hB2.below
          refine hK.out _ _ (⟨⟨j0, j1, j2, j3, j4, j5⟩, hR3.cell 0⟩) (fun hHeld => ?_)
          clear hK K hOld
          try simp only [Act.put, List.getElem_toArray, List.getElem_cons_succ, List.getElem_cons_zero, List.setIfInBounds_toArray, List.set_cons_zero, List.set_cons_succ]
          refine wpAnyH_ready (rs := [15]) (by kernel_rfl) (by simp) ?_
          refine AllReadyH.cons rfl (fun K hK => ?_) AllReadyH.nil
          have hOld := hHeld
          clear hHeld
          go_simp
          refine (law_same A2 A3 cap2 cap3 L' w2 (by have := hG'.2; omega) hs2 hs3).mono ?_
          rintro r w3 ⟨rfl, hb3⟩
          dsimp only
          have hB3 := hB2.past hb3
          replace hR3 := hR3.past hb3
          obtain ⟨j0, j1, j2, j3, j4, j5⟩ := hkeep.out _ hB3.below
          refine hK.out _ _ (⟨⟨j0, j1, j2, j3, j4, j5⟩, hR3.cell 0⟩) (fun hHeld => ?_)
          clear hK K hOld
          try simp only [Act.put, List.getElem_toArray, List.getElem_cons_succ, List.getElem_cons_zero, List.setIfInBounds_toArray, List.set_cons_zero, List.set_cons_succ]
          refine wpAnyH_take (i := 16) (v := ?_) rfl (by kernel_rfl) (by kernel_rfl) (by kernel_rfl) (fun _ _ _ h => h) (Or.inl ⟨by rfl, ?hy⟩) hHeld ?_
          case hy =>
            intro w hSw
            (try dsimp only at hSw)
            go_simp
            (try with_reducible rfl)
          try simp only [Act.put, List.getElem_toArray, List.getElem_cons_succ, List.getElem_cons_zero, List.setIfInBounds_toArray, List.set_cons_zero, List.set_cons_succ]
          refine wpAnyH_take (i := 17) (v := ?_) rfl (by kernel_rfl) (by kernel_rfl) (by kernel_rfl) (fun _ _ _ h => h) (Or.inl ⟨by rfl, ?hy⟩) hHeld ?_
          case hy =>
            intro w hSw
            (try dsimp only at hSw)
            go_simp
            (try with_reducible rfl)
          try simp only [Act.put, List.getElem_toArray, List.getElem_cons_succ, List.getElem_cons_zero, List.setIfInBounds_toArray, List.set_cons_zero, List.set_cons_succ]
          refine wpAnyH_done (by kernel_rfl) ?_ _
          simp only [Exit.inBlock, Exit.then]
          replace hB3 := Lib.hid hB3
          replace hG' := Lib.hid hG'
          clear hHeld hB2 hB' hR3 hs3 hs2 hp2 hb2 hb3 hR30 hR3f j0 j1 j2 j3 j4 j5 hkeep con
          go_wp2_with fail
          go_roundw
          case rel => exact ⟨k + 1, L', by go_num, hlt, hB3.out, hG'⟩
          case measure => simp [intOf]; omega
        · have hk' : k = ys.length := by omega
          subst hk'
          have hoL := Lib.hid hBo.oks
          go_wp2_with fail
          refine (both_Rows hBo).mono ?_
          rintro r w1 ⟨⟨A1, cap1, rfl, hs1, hp1⟩, hb1⟩; dsimp only
          replace hBo := hBo.past hb1
          clear hb1 hp1
          go_wp2_with fail
          refine (q_Load A1 cap1 L w1 (by have := hG.out.2; omega) hoL.out hs1).mono ?_
          rintro r w2 ⟨hres, hb2⟩
          rcases hres with ⟨-, rfl, hLd⟩ | ⟨hgf, -⟩
          · dsimp only
            replace hBo := hBo.past hb2
            clear hs1 hb2
            generalize w1.heap.size + 1 = P9 at *
            obtain ⟨A3, cap3, hR3, hs3⟩ := hBo.list
            have hLr := q_Rows _ _ _ _ (hLd.past (Below.refl _ _).drew)
            replace hR3 := hR3.drew
            replace hs3 := hs3.past (Below.refl _ _).drew
            have hB3 := hBo.past (Below.refl _ _).drew
            clear hBo
            have hR30 := hR3.cell 0
            go_wp2_with fail
            refine wp_region_held_drew (S := fun w' => w'.cell? ⟨R, 0, none⟩ = some (.slice A3 L.length cap3)) (by kernel_rfl) hR30 (fun hHeld => ?_)
            refine wpAnyH_take (i := 0) (v := ?_) rfl (by kernel_rfl) (by kernel_rfl) (by kernel_rfl) (fun _ _ _ h => h) (Or.inl ⟨by rfl, ?hy⟩) hHeld ?_
            case hy =>
              intro w hSw
              (try dsimp only at hSw)
              go_simp
              (try with_reducible rfl)
            try simp only [Act.put, List.getElem_toArray, List.getElem_cons_zero, List.setIfInBounds_toArray, List.set_cons_zero, List.set_cons_succ]
            refine wpAnyH_take (i := 1) (v := ?_) rfl (by kernel_rfl) (by kernel_rfl) (by kernel_rfl) (fun _ _ _ h => h) (Or.inl ⟨by rfl, ?hy⟩) hHeld ?_
            case hy =>
              intro w hSw
              (try dsimp only at hSw)
              go_simp
              (try with_reducible rfl)
            try simp only [Act.put, List.getElem_toArray, List.getElem_cons_succ, List.getElem_cons_zero, List.setIfInBounds_toArray, List.set_cons_zero, List.set_cons_succ]
            refine wpAnyH_take (i := 2) (v := ?_) rfl (by kernel_rfl) (by kernel_rfl) (by kernel_rfl) (fun _ _ _ h => h) (Or.inl ⟨by rfl, ?hy⟩) hHeld ?_
            case hy =>
              intro w hSw
              (try dsimp only at hSw)
              go_simp
              (try with_reducible rfl)
            try simp only [Act.put, List.getElem_toArray, List.getElem_cons_succ, List.getElem_cons_zero, List.setIfInBounds_toArray, List.set_cons_zero, List.set_cons_succ]
            refine wpAnyH_take (i := 3) (v := ?_) rfl (by kernel_rfl) (by kernel_rfl) (by kernel_rfl) (fun _ _ _ h => h) (Or.inl ⟨by rfl, ?hy⟩) hHeld ?_
            case hy =>
              intro w hSw
              (try dsimp only at hSw)
              go_simp
              (try with_reducible rfl)
            try simp only [Act.put, List.getElem_toArray, List.getElem_cons_succ, List.getElem_cons_zero, List.setIfInBounds_toArray, List.set_cons_zero, List.set_cons_succ]
            refine wpAnyH_take (i := 5) (v := ?_) rfl (by kernel_rfl) (by kernel_rfl) (by kernel_rfl) (fun _ _ _ h => h) (Or.inl ⟨by rfl, ?hy⟩) hHeld ?_
            case hy =>
              intro w hSw
              (try dsimp only at hSw)
              go_simp
              (try with_reducible rfl)
            try simp only [Act.put, List.getElem_toArray, List.getElem_cons_succ, List.getElem_cons_zero, List.setIfInBounds_toArray, List.set_cons_zero, List.set_cons_succ]
            refine wpAnyH_take (i := 6) (v := ?_) rfl (by kernel_rfl) (by kernel_rfl) (by kernel_rfl) (fun _ _ _ h => h) (Or.inl ⟨by rfl, ?hy⟩) hHeld ?_
            case hy =>
              intro w hSw
              (try dsimp only at hSw)
              go_simp
              (try with_reducible rfl)
            try simp only [Act.put, List.getElem_toArray, List.getElem_cons_succ, List.getElem_cons_zero, List.setIfInBounds_toArray, List.set_cons_zero, List.set_cons_succ]
            refine wpAnyH_take (i := 7) (v := ?_) rfl (by kernel_rfl) (by kernel_rfl) (by kernel_rfl) (fun _ _ _ h => h) (Or.inl ⟨by rfl, ?hy⟩) hHeld ?_
            case hy =>
              intro w hSw
              (try dsimp only at hSw)
              go_simp
              (try with_reducible rfl)
            try simp only [Act.put, List.getElem_toArray, List.getElem_cons_succ, List.getElem_cons_zero, List.setIfInBounds_toArray, List.set_cons_zero, List.set_cons_succ]
            refine wpAnyH_take (i := 8) (v := ?_) rfl (by kernel_rfl) (by kernel_rfl) (by kernel_rfl) (fun _ _ _ h => h) (Or.inl ⟨by rfl, ?hy⟩) hHeld ?_
            case hy =>
              intro w hSw
              (try dsimp only at hSw)
              go_simp
              (try with_reducible rfl)
            try simp only [Act.put, List.getElem_toArray, List.getElem_cons_succ, List.getElem_cons_zero, List.setIfInBounds_toArray, List.set_cons_zero, List.set_cons_succ]
            refine wpAnyH_ready (rs := [4]) (by kernel_rfl) (by simp) ?_
            refine AllReadyH.cons rfl (fun K hK => ?_) AllReadyH.nil
            have hOld := hHeld
            clear hHeld
            go_simp
            refine (hLr).mono ?_
            rintro r w3 ⟨⟨A2, cap2, rfl, hs2, hp2⟩, hb3⟩
            dsimp only
            replace hB3 := hB3.past hb3
            replace hR3 := hR3.past hb3
            replace hs3 := hs3.past hb3
            refine hK.out _ _ (hR3.cell 0) (fun hHeld => ?_)
            clear hK K hOld
            try simp only [Act.put, List.getElem_toArray, List.getElem_cons_succ, List.getElem_cons_zero, List.setIfInBounds_toArray, List.set_cons_zero, List.set_cons_succ]
            refine wpAnyH_ready (rs := [9]) (by kernel_rfl) (by simp) ?_
            refine AllReadyH.cons rfl (fun K hK => ?_) AllReadyH.nil
            have hOld := hHeld
            clear hHeld
            go_simp
            refine (law_same A2 A3 cap2 cap3 L w3 (by have := hG.out.2; omega) hs2 hs3).mono ?_
            rintro r w4 ⟨rfl, hb4⟩
            dsimp only
            replace hB3 := hB3.past hb4
            replace hR3 := hR3.past hb4
            refine hK.out _ _ (hR3.cell 0) (fun hHeld => ?_)
            clear hK K hOld
            try simp only [Act.put, List.getElem_toArray, List.getElem_cons_succ, List.getElem_cons_zero, List.setIfInBounds_toArray, List.set_cons_zero, List.set_cons_succ]
            refine wpAnyH_take (i := 10) (v := ?_) rfl (by kernel_rfl) (by kernel_rfl) (by kernel_rfl) (fun _ _ _ h => h) (Or.inl ⟨by rfl, ?hy⟩) hHeld ?_
            case hy =>
              intro w hSw
              (try dsimp only at hSw)
              go_simp
              (try with_reducible rfl)
            try simp only [Act.put, List.getElem_toArray, List.getElem_cons_succ, List.getElem_cons_zero, List.setIfInBounds_toArray, List.set_cons_zero, List.set_cons_succ]
            refine wpAnyH_take (i := 11) (v := ?_) rfl (by kernel_rfl) (by kernel_rfl) (by kernel_rfl) (fun _ _ _ h => h) (Or.inl ⟨by rfl, ?hy⟩) hHeld ?_
            case hy =>
              intro w hSw
              (try dsimp only at hSw)
              go_simp
              (try with_reducible rfl)
            try simp only [Act.put, List.getElem_toArray, List.getElem_cons_succ, List.getElem_cons_zero, List.setIfInBounds_toArray, List.set_cons_zero, List.set_cons_succ]
            refine wpAnyH_ready (rs := [12]) (by kernel_rfl) (by simp) ?_
            refine AllReadyH.cons rfl (fun K hK => ?_) AllReadyH.nil
            have hOld := hHeld
            clear hHeld
            go_simp
            refine (al.out _).mono ?_
            rintro r w5 ⟨rfl, hb5⟩
            dsimp only
            replace hB3 := hB3.past hb5
            replace hR3 := hR3.past hb5
            refine hK.out _ _ (hR3.cell 0) (fun hHeld => ?_)
            clear hK K hOld
            try simp only [Act.put, List.getElem_toArray, List.getElem_cons_succ, List.getElem_cons_zero, List.setIfInBounds_toArray, List.set_cons_zero, List.set_cons_succ]
            refine wpAnyH_take (i := 13) (v := ?_) rfl (by kernel_rfl) (by kernel_rfl) (by kernel_rfl) (fun _ _ _ h => h) (Or.inl ⟨by rfl, ?hy⟩) hHeld ?_
            case hy =>
              intro w hSw
              (try dsimp only at hSw)
              go_simp
              (try with_reducible rfl)
            try simp only [Act.put, List.getElem_toArray, List.getElem_cons_succ, List.getElem_cons_zero, List.setIfInBounds_toArray, List.set_cons_zero, List.set_cons_succ]
            refine wpAnyH_take (i := 14) (v := ?_) rfl (by kernel_rfl) (by kernel_rfl) (by kernel_rfl) (fun _ _ _ h => h) (Or.inl ⟨by rfl, ?hy⟩) hHeld ?_
            case hy =>
              intro w hSw
              (try dsimp only at hSw)
              go_simp
              (try with_reducible rfl)
            try simp only [Act.put, List.getElem_toArray, List.getElem_cons_succ, List.getElem_cons_zero, List.setIfInBounds_toArray, List.set_cons_zero, List.set_cons_succ]
            refine wpAnyH_done (by kernel_rfl) ?_ _
            simp only [Exit.inBlock, Exit.then]
            have hfin := Lib.hid hB3.below
            clear hHeld hB3 hR3 hs3 hs2 hp2 hb3 hb4 hb5 hR30 hLd hLr
            go_wp2_with fail
            go_ret
            exact ⟨rfl, hfin.out⟩
          · rw [goodB_true hG.out] at hgf
            cases hgf
    · dsimp only
      have hRn := Blk.new w2 48 #[.slice none 0 0]
      have hA2 : Below w2.heap.size w2 (w2.alloc (.cells #[.slice none 0 0] 48)) := below_own (below_self w2) _
      have c5 := r_May A c xs _ (by omega) (HA.out.past (below_to HB1'.out hA2))
      rw [hgB] at c5
      clear hs1 HB1 hb2
      go_wp2_with fail
      refine c5.mono ?_
      rintro r w3 ⟨rfl, hb3⟩; dsimp only
      have HB3 := Lib.hid (below_to (below_to HB1'.out hA2) hb3)
      replace hRn := hRn.past hb3
      have hRlt := hRn.lt
      have hRle := HB1'.out.size
      clear HB1' hA2 c5 hb3
      generalize w2.heap.size = R at *
      go_wp2_with fail
      refine (q_New w3).mono ?_
      rintro r w4 ⟨rfl, hL, hb4⟩; dsimp only
      have hBo : Both w w4 (fun _ => False) (w3.heap.size + 1) R [] [] := by
        have hsz := hb4.size
        have hw3 := HB3.out.size
        exact ⟨fun b => w3.heap.size ≤ b ∧ b < w4.heap.size, fun c => c = R, hL.tight, ⟨_, hRn.past hb4, ⟨rfl, .inl ⟨rfl, rfl⟩⟩, rfl, fun x hx => by cases hx⟩, fun b hb hc => by omega, fun b hb => ⟨by omega, by omega, fun h => h⟩, fun b hb => ⟨by omega, by omega, fun h => h⟩, fun b hb => hb.elim, below_to HB3.out hb4⟩
      generalize w3.heap.size + 1 = P at *
      have hG : Good [] := ⟨by simp, by simp⟩
      clear hL hb4 hRn HB3 hRlt hRle hgB
      have HBo := Lib.hid hBo
      have HG := Lib.hid hG
      clear hBo hG
      go_wp2_with fail
      go_loopw [8] (fun i wr => ∃ (k : Nat) (L : List Share), i = .int .i64 k ∧ k ≤ ys.length ∧ Both w wr (fun _ => False) P R L L ∧ Hid (Good L)) (fun i _ => ys.length - (intOf i).toNat)
      case atStart => exact ⟨0, [], rfl, Nat.zero_le _, HBo.out, HG⟩
      case round =>
        clear HBo HG
        obtain ⟨k, L, rfl, hk, hBo, hG⟩ := hrel
        by_cases hlt : k < ys.length
        · obtain ⟨g, off, rfl, hg, hcell⟩ := HB.out (by intro e; rw [e] at hlt; simp at hlt)
          have hkeep := Lib.hid (fun W (hW : Below w.heap.size w W) => (⟨(hW.cell (p := ⟨g, off + k * 6, none⟩) hg).trans (hcell k hlt).1, (hW.cell (p := ⟨g, off + k * 6 + 1, none⟩) hg).trans (hcell k hlt).2.1, (hW.cell (p := ⟨g, off + k * 6 + 2, none⟩) hg).trans (hcell k hlt).2.2.1, (hW.cell (p := ⟨g, off + k * 6 + 3, none⟩) hg).trans (hcell k hlt).2.2.2.1, (hW.cell (p := ⟨g, off + k * 6 + 4, none⟩) hg).trans (hcell k hlt).2.2.2.2.1, (hW.cell (p := ⟨g, off + k * 6 + 5, none⟩) hg).trans (hcell k hlt).2.2.2.2.2⟩ : _ ∧ _ ∧ _ ∧ _ ∧ _ ∧ _))
          have con := law_does (hBo.past (Below.refl _ _).drew) hG.out ys[k] (hok2.out _ (List.getElem_mem hlt))
          clear hcell hg
          generalize ys[k] = y at *
          obtain ⟨yd, yu, yb, ⟨y0, y1, y2⟩⟩ := y
          dsimp only at hkeep
          obtain ⟨j0, j1, j2, j3, j4, j5⟩ := hkeep.out _ hBo.below
          clear hBo hG
          go_wp2_with fail
          refine wp_region_held_drew (S := (fun w' => w'.cell? ⟨g, off + k * 6, none⟩ = some (.int .u8 yd) ∧ w'.cell? ⟨g, off + k * 6 + 1, none⟩ = some (.string yu) ∧ w'.cell? ⟨g, off + k * 6 + 2, none⟩ = some (.int .u8 yb) ∧ w'.cell? ⟨g, off + k * 6 + 3, none⟩ = some (.int .i64 y0) ∧ w'.cell? ⟨g, off + k * 6 + 4, none⟩ = some (.int .i64 y1) ∧ w'.cell? ⟨g, off + k * 6 + 5, none⟩ = some (.int .i64 y2))) (by kernel_rfl) ⟨j0, j1, j2, j3, j4, j5⟩ (fun hHeld => ?_)
          refine wpAnyH_take (i := 0) (v := ?_) rfl (by kernel_rfl) (by kernel_rfl) (by kernel_rfl) (fun _ _ _ h => h) (Or.inl ⟨by rfl, ?hy⟩) hHeld ?_
          case hy =>
            intro w hSw
            (try dsimp only at hSw)
            go_simp
            (try with_reducible rfl)
          try simp only [Act.put, List.getElem_toArray, List.getElem_cons_zero, List.setIfInBounds_toArray, List.set_cons_zero, List.set_cons_succ]
          refine wpAnyH_take (i := 1) (v := ?_) rfl (by kernel_rfl) (by kernel_rfl) (by kernel_rfl) (fun _ _ _ h => h) (Or.inl ⟨by rfl, ?hy⟩) hHeld ?_
          case hy =>
            intro w hSw
            (try dsimp only at hSw)
            go_simp
            (try with_reducible rfl)
          try simp only [Act.put, List.getElem_toArray, List.getElem_cons_succ, List.getElem_cons_zero, List.setIfInBounds_toArray, List.set_cons_zero, List.set_cons_succ]
          refine wpAnyH_take (i := 2) (v := ?_) rfl (by kernel_rfl) (by kernel_rfl) (by kernel_rfl) (fun _ _ _ h => h) (Or.inl ⟨by rfl, ?hy⟩) hHeld ?_
          case hy =>
            intro w hSw
            (try dsimp only at hSw)
            go_simp
            (try with_reducible rfl)
          try simp only [Act.put, List.getElem_toArray, List.getElem_cons_succ, List.getElem_cons_zero, List.setIfInBounds_toArray, List.set_cons_zero, List.set_cons_succ]
          refine wpAnyH_take (i := 3) (v := ?_) rfl (by kernel_rfl) (by kernel_rfl) (by kernel_rfl) (fun _ _ _ h => h) (Or.inl ⟨by rfl, ?hy⟩) hHeld ?_
          case hy =>
            intro w hSw
            (try dsimp only at hSw)
            go_simp
            (try with_reducible rfl)
          try simp only [Act.put, List.getElem_toArray, List.getElem_cons_succ, List.getElem_cons_zero, List.setIfInBounds_toArray, List.set_cons_zero, List.set_cons_succ]
          refine wpAnyH_take (i := 4) (v := ?_) rfl (by kernel_rfl) (by kernel_rfl) (by kernel_rfl) (fun _ _ _ h => h) (Or.inl ⟨by rfl, ?hy⟩) hHeld ?_
          case hy =>
            intro w hSw
            (try dsimp only at hSw)
            go_simp
            (try with_reducible rfl)
          try simp only [Act.put, List.getElem_toArray, List.getElem_cons_succ, List.getElem_cons_zero, List.setIfInBounds_toArray, List.set_cons_zero, List.set_cons_succ]
          refine wpAnyH_take (i := 5) (v := ?_) rfl (by kernel_rfl) (by kernel_rfl) (by kernel_rfl) (fun _ _ _ h => h) (Or.inl ⟨by rfl, ?hy⟩) hHeld ?_
          case hy =>
            intro w hSw
            (try dsimp only at hSw)
            go_simp
            (try with_reducible rfl)
          try simp only [Act.put, List.getElem_toArray, List.getElem_cons_succ, List.getElem_cons_zero, List.setIfInBounds_toArray, List.set_cons_zero, List.set_cons_succ]
          refine wpAnyH_ready (rs := [6]) (by kernel_rfl) (by simp) ?_
          refine AllReadyH.cons rfl (fun K hK => ?_) AllReadyH.nil
          have hOld := hHeld
          clear hHeld
          go_simp
          refine (con).mono ?_
          rintro r w1 ⟨rfl, L', hG', hB'⟩
          dsimp only
          have hj1 := hkeep.out _ hB'.below
          obtain ⟨j0, j1, j2, j3, j4, j5⟩ := hj1
          refine hK.out _ _ (⟨j0, j1, j2, j3, j4, j5⟩) (fun hHeld => ?_)
          clear hK K hOld
          try simp only [Act.put, List.getElem_toArray, List.getElem_cons_succ, List.getElem_cons_zero, List.setIfInBounds_toArray, List.set_cons_zero, List.set_cons_succ]
          refine wpAnyH_take (i := 7) (v := ?_) rfl (by kernel_rfl) (by kernel_rfl) (by kernel_rfl) (fun _ _ _ h => h) (Or.inl ⟨by rfl, ?hy⟩) hHeld ?_
          case hy =>
            intro w hSw
            (try dsimp only at hSw)
            go_simp
            (try with_reducible rfl)
          try simp only [Act.put, List.getElem_toArray, List.getElem_cons_succ, List.getElem_cons_zero, List.setIfInBounds_toArray, List.set_cons_zero, List.set_cons_succ]
          refine wpAnyH_take (i := 8) (v := ?_) rfl (by kernel_rfl) (by kernel_rfl) (by kernel_rfl) (fun _ _ _ h => h) (Or.inl ⟨by rfl, ?hy⟩) hHeld ?_
          case hy =>
            intro w hSw
            (try dsimp only at hSw)
            go_simp
            (try with_reducible rfl)
          try simp only [Act.put, List.getElem_toArray, List.getElem_cons_succ, List.getElem_cons_zero, List.setIfInBounds_toArray, List.set_cons_zero, List.set_cons_succ]
          refine wpAnyH_take (i := 9) (v := ?_) rfl (by kernel_rfl) (by kernel_rfl) (by kernel_rfl) (fun _ _ _ h => h) (Or.inl ⟨by rfl, ?hy⟩) hHeld ?_
          case hy =>
            intro w hSw
            (try dsimp only at hSw)
            go_simp
            (try with_reducible rfl)
          try simp only [Act.put, List.getElem_toArray, List.getElem_cons_succ, List.getElem_cons_zero, List.setIfInBounds_toArray, List.set_cons_zero, List.set_cons_succ]
          obtain ⟨A3, cap3, hR3, hs3⟩ := hB'.list
          have hR30 := hR3.cell 0
          have hR3f := hR3.frozen 0
          refine wpAnyH_strong (S' := fun w' => (w'.cell? ⟨g, off + k * 6, none⟩ = some (.int .u8 yd) ∧ w'.cell? ⟨g, off + k * 6 + 1, none⟩ = some (.string yu) ∧ w'.cell? ⟨g, off + k * 6 + 2, none⟩ = some (.int .u8 yb) ∧ w'.cell? ⟨g, off + k * 6 + 3, none⟩ = some (.int .i64 y0) ∧ w'.cell? ⟨g, off + k * 6 + 4, none⟩ = some (.int .i64 y1) ∧ w'.cell? ⟨g, off + k * 6 + 5, none⟩ = some (.int .i64 y2)) ∧ w'.cell? ⟨R, 0, none⟩ = some (.slice A3 L'.length cap3)) (fun _ h => h.1) _ _ _ _ ?_
          have hNew := And.intro (And.intro j0 (And.intro j1 (And.intro j2 (And.intro j3 (And.intro j4 j5))))) hR30
          clear hHeld
          have hHeld := hNew
          clear hNew
          refine wpAnyH_take (i := 11) (v := ?_) rfl (by kernel_rfl) (by kernel_rfl) (by kernel_rfl) (fun _ _ _ h => h) (Or.inl ⟨by rfl, ?hy⟩) hHeld ?_
          case hy =>
            intro w hSw
            (try dsimp only at hSw)
            go_simp
            (try with_reducible rfl)
          try simp only [Act.put, List.getElem_toArray, List.getElem_cons_succ, List.getElem_cons_zero, List.setIfInBounds_toArray, List.set_cons_zero, List.set_cons_succ]
          refine wpAnyH_take (i := 12) (v := ?_) rfl (by kernel_rfl) (by kernel_rfl) (by kernel_rfl) (fun _ _ _ h => h) (Or.inl ⟨by rfl, ?hy⟩) hHeld ?_
          case hy =>
            intro w hSw
            (try dsimp only at hSw)
            go_simp
            (try with_reducible rfl)
          try simp only [Act.put, List.getElem_toArray, List.getElem_cons_succ, List.getElem_cons_zero, List.setIfInBounds_toArray, List.set_cons_zero, List.set_cons_succ]
          refine wpAnyH_take (i := 13) (v := ?_) rfl (by kernel_rfl) (by kernel_rfl) (by kernel_rfl) (fun _ _ _ h => h) (Or.inl ⟨by rfl, ?hy⟩) hHeld ?_
          case hy =>
            intro w hSw
            (try dsimp only at hSw)
            go_simp
            (try with_reducible rfl)
          try simp only [Act.put, List.getElem_toArray, List.getElem_cons_succ, List.getElem_cons_zero, List.setIfInBounds_toArray, List.set_cons_zero, List.set_cons_succ]
          refine wpAnyH_take (i := 14) (v := ?_) rfl (by kernel_rfl) (by kernel_rfl) (by kernel_rfl) (fun _ _ _ h => h) (Or.inl ⟨by rfl, ?hy⟩) hHeld ?_
          case hy =>
            intro w hSw
            (try dsimp only at hSw)
            go_simp
            (try with_reducible rfl)
          try simp only [Act.put, List.getElem_toArray, List.getElem_cons_succ, List.getElem_cons_zero, List.setIfInBounds_toArray, List.set_cons_zero, List.set_cons_succ]
          refine wpAnyH_ready (rs := [10]) (by kernel_rfl) (by simp) ?_
          refine AllReadyH.cons rfl (fun K hK => ?_) AllReadyH.nil
          have hOld := hHeld
          clear hHeld
          go_simp
          refine (both_Rows hB').mono ?_
          rintro r w2 ⟨⟨A2, cap2, rfl, hs2, hp2⟩, hb2⟩
          dsimp only
          have hB2 := hB'.past hb2
          replace hR3 := hR3.past hb2
          replace hs3 := hs3.past hb2
          obtain ⟨j0, j1, j2, j3, j4, j5⟩ := hkeep.out _ hB2.below
          refine hK.out _ _ (⟨⟨j0, j1, j2, j3, j4, j5⟩, hR3.cell 0⟩) (fun hHeld => ?_)
          clear hK K hOld
          try simp only [Act.put, List.getElem_toArray, List.getElem_cons_succ, List.getElem_cons_zero, List.setIfInBounds_toArray, List.set_cons_zero, List.set_cons_succ]
          refine wpAnyH_ready (rs := [15]) (by kernel_rfl) (by simp) ?_
          refine AllReadyH.cons rfl (fun K hK => ?_) AllReadyH.nil
          have hOld := hHeld
          clear hHeld
          go_simp
          refine (law_same A2 A3 cap2 cap3 L' w2 (by have := hG'.2; omega) hs2 hs3).mono ?_
          rintro r w3 ⟨rfl, hb3⟩
          dsimp only
          have hB3 := hB2.past hb3
          replace hR3 := hR3.past hb3
          obtain ⟨j0, j1, j2, j3, j4, j5⟩ := hkeep.out _ hB3.below
          refine hK.out _ _ (⟨⟨j0, j1, j2, j3, j4, j5⟩, hR3.cell 0⟩) (fun hHeld => ?_)
          clear hK K hOld
          try simp only [Act.put, List.getElem_toArray, List.getElem_cons_succ, List.getElem_cons_zero, List.setIfInBounds_toArray, List.set_cons_zero, List.set_cons_succ]
          refine wpAnyH_take (i := 16) (v := ?_) rfl (by kernel_rfl) (by kernel_rfl) (by kernel_rfl) (fun _ _ _ h => h) (Or.inl ⟨by rfl, ?hy⟩) hHeld ?_
          case hy =>
            intro w hSw
            (try dsimp only at hSw)
            go_simp
            (try with_reducible rfl)
          try simp only [Act.put, List.getElem_toArray, List.getElem_cons_succ, List.getElem_cons_zero, List.setIfInBounds_toArray, List.set_cons_zero, List.set_cons_succ]
          refine wpAnyH_take (i := 17) (v := ?_) rfl (by kernel_rfl) (by kernel_rfl) (by kernel_rfl) (fun _ _ _ h => h) (Or.inl ⟨by rfl, ?hy⟩) hHeld ?_
          case hy =>
            intro w hSw
            (try dsimp only at hSw)
            go_simp
            (try with_reducible rfl)
          try simp only [Act.put, List.getElem_toArray, List.getElem_cons_succ, List.getElem_cons_zero, List.setIfInBounds_toArray, List.set_cons_zero, List.set_cons_succ]
          refine wpAnyH_done (by kernel_rfl) ?_ _
          simp only [Exit.inBlock, Exit.then]
          replace hB3 := Lib.hid hB3
          replace hG' := Lib.hid hG'
          clear hHeld hB2 hB' hR3 hs3 hs2 hp2 hb2 hb3 hR30 hR3f j0 j1 j2 j3 j4 j5 hkeep con
          go_wp2_with fail
          go_roundw
          case rel => exact ⟨k + 1, L', by go_num, hlt, hB3.out, hG'⟩
          case measure => simp [intOf]; omega
        · have hk' : k = ys.length := by omega
          subst hk'
          have hoL := Lib.hid hBo.oks
          go_wp2_with fail
          refine (both_Rows hBo).mono ?_
          rintro r w1 ⟨⟨A1, cap1, rfl, hs1, hp1⟩, hb1⟩; dsimp only
          replace hBo := hBo.past hb1
          clear hb1 hp1
          go_wp2_with fail
          refine (q_Load A1 cap1 L w1 (by have := hG.out.2; omega) hoL.out hs1).mono ?_
          rintro r w2 ⟨hres, hb2⟩
          rcases hres with ⟨-, rfl, hLd⟩ | ⟨hgf, -⟩
          · dsimp only
            replace hBo := hBo.past hb2
            clear hs1 hb2
            generalize w1.heap.size + 1 = P9 at *
            obtain ⟨A3, cap3, hR3, hs3⟩ := hBo.list
            have hLr := q_Rows _ _ _ _ (hLd.past (Below.refl _ _).drew)
            replace hR3 := hR3.drew
            replace hs3 := hs3.past (Below.refl _ _).drew
            have hB3 := hBo.past (Below.refl _ _).drew
            clear hBo
            have hR30 := hR3.cell 0
            go_wp2_with fail
            refine wp_region_held_drew (S := fun w' => w'.cell? ⟨R, 0, none⟩ = some (.slice A3 L.length cap3)) (by kernel_rfl) hR30 (fun hHeld => ?_)
            refine wpAnyH_take (i := 0) (v := ?_) rfl (by kernel_rfl) (by kernel_rfl) (by kernel_rfl) (fun _ _ _ h => h) (Or.inl ⟨by rfl, ?hy⟩) hHeld ?_
            case hy =>
              intro w hSw
              (try dsimp only at hSw)
              go_simp
              (try with_reducible rfl)
            try simp only [Act.put, List.getElem_toArray, List.getElem_cons_zero, List.setIfInBounds_toArray, List.set_cons_zero, List.set_cons_succ]
            refine wpAnyH_take (i := 1) (v := ?_) rfl (by kernel_rfl) (by kernel_rfl) (by kernel_rfl) (fun _ _ _ h => h) (Or.inl ⟨by rfl, ?hy⟩) hHeld ?_
            case hy =>
              intro w hSw
              (try dsimp only at hSw)
              go_simp
              (try with_reducible rfl)
            try simp only [Act.put, List.getElem_toArray, List.getElem_cons_succ, List.getElem_cons_zero, List.setIfInBounds_toArray, List.set_cons_zero, List.set_cons_succ]
            refine wpAnyH_take (i := 2) (v := ?_) rfl (by kernel_rfl) (by kernel_rfl) (by kernel_rfl) (fun _ _ _ h => h) (Or.inl ⟨by rfl, ?hy⟩) hHeld ?_
            case hy =>
              intro w hSw
              (try dsimp only at hSw)
              go_simp
              (try with_reducible rfl)
            try simp only [Act.put, List.getElem_toArray, List.getElem_cons_succ, List.getElem_cons_zero, List.setIfInBounds_toArray, List.set_cons_zero, List.set_cons_succ]
            refine wpAnyH_take (i := 3) (v := ?_) rfl (by kernel_rfl) (by kernel_rfl) (by kernel_rfl) (fun _ _ _ h => h) (Or.inl ⟨by rfl, ?hy⟩) hHeld ?_
            case hy =>
              intro w hSw
              (try dsimp only at hSw)
              go_simp
              (try with_reducible rfl)
            try simp only [Act.put, List.getElem_toArray, List.getElem_cons_succ, List.getElem_cons_zero, List.setIfInBounds_toArray, List.set_cons_zero, List.set_cons_succ]
            refine wpAnyH_take (i := 5) (v := ?_) rfl (by kernel_rfl) (by kernel_rfl) (by kernel_rfl) (fun _ _ _ h => h) (Or.inl ⟨by rfl, ?hy⟩) hHeld ?_
            case hy =>
              intro w hSw
              (try dsimp only at hSw)
              go_simp
              (try with_reducible rfl)
            try simp only [Act.put, List.getElem_toArray, List.getElem_cons_succ, List.getElem_cons_zero, List.setIfInBounds_toArray, List.set_cons_zero, List.set_cons_succ]
            refine wpAnyH_take (i := 6) (v := ?_) rfl (by kernel_rfl) (by kernel_rfl) (by kernel_rfl) (fun _ _ _ h => h) (Or.inl ⟨by rfl, ?hy⟩) hHeld ?_
            case hy =>
              intro w hSw
              (try dsimp only at hSw)
              go_simp
              (try with_reducible rfl)
            try simp only [Act.put, List.getElem_toArray, List.getElem_cons_succ, List.getElem_cons_zero, List.setIfInBounds_toArray, List.set_cons_zero, List.set_cons_succ]
            refine wpAnyH_take (i := 7) (v := ?_) rfl (by kernel_rfl) (by kernel_rfl) (by kernel_rfl) (fun _ _ _ h => h) (Or.inl ⟨by rfl, ?hy⟩) hHeld ?_
            case hy =>
              intro w hSw
              (try dsimp only at hSw)
              go_simp
              (try with_reducible rfl)
            try simp only [Act.put, List.getElem_toArray, List.getElem_cons_succ, List.getElem_cons_zero, List.setIfInBounds_toArray, List.set_cons_zero, List.set_cons_succ]
            refine wpAnyH_take (i := 8) (v := ?_) rfl (by kernel_rfl) (by kernel_rfl) (by kernel_rfl) (fun _ _ _ h => h) (Or.inl ⟨by rfl, ?hy⟩) hHeld ?_
            case hy =>
              intro w hSw
              (try dsimp only at hSw)
              go_simp
              (try with_reducible rfl)
            try simp only [Act.put, List.getElem_toArray, List.getElem_cons_succ, List.getElem_cons_zero, List.setIfInBounds_toArray, List.set_cons_zero, List.set_cons_succ]
            refine wpAnyH_ready (rs := [4]) (by kernel_rfl) (by simp) ?_
            refine AllReadyH.cons rfl (fun K hK => ?_) AllReadyH.nil
            have hOld := hHeld
            clear hHeld
            go_simp
            refine (hLr).mono ?_
            rintro r w3 ⟨⟨A2, cap2, rfl, hs2, hp2⟩, hb3⟩
            dsimp only
            replace hB3 := hB3.past hb3
            replace hR3 := hR3.past hb3
            replace hs3 := hs3.past hb3
            refine hK.out _ _ (hR3.cell 0) (fun hHeld => ?_)
            clear hK K hOld
            try simp only [Act.put, List.getElem_toArray, List.getElem_cons_succ, List.getElem_cons_zero, List.setIfInBounds_toArray, List.set_cons_zero, List.set_cons_succ]
            refine wpAnyH_ready (rs := [9]) (by kernel_rfl) (by simp) ?_
            refine AllReadyH.cons rfl (fun K hK => ?_) AllReadyH.nil
            have hOld := hHeld
            clear hHeld
            go_simp
            refine (law_same A2 A3 cap2 cap3 L w3 (by have := hG.out.2; omega) hs2 hs3).mono ?_
            rintro r w4 ⟨rfl, hb4⟩
            dsimp only
            replace hB3 := hB3.past hb4
            replace hR3 := hR3.past hb4
            refine hK.out _ _ (hR3.cell 0) (fun hHeld => ?_)
            clear hK K hOld
            try simp only [Act.put, List.getElem_toArray, List.getElem_cons_succ, List.getElem_cons_zero, List.setIfInBounds_toArray, List.set_cons_zero, List.set_cons_succ]
            refine wpAnyH_take (i := 10) (v := ?_) rfl (by kernel_rfl) (by kernel_rfl) (by kernel_rfl) (fun _ _ _ h => h) (Or.inl ⟨by rfl, ?hy⟩) hHeld ?_
            case hy =>
              intro w hSw
              (try dsimp only at hSw)
              go_simp
              (try with_reducible rfl)
            try simp only [Act.put, List.getElem_toArray, List.getElem_cons_succ, List.getElem_cons_zero, List.setIfInBounds_toArray, List.set_cons_zero, List.set_cons_succ]
            refine wpAnyH_take (i := 11) (v := ?_) rfl (by kernel_rfl) (by kernel_rfl) (by kernel_rfl) (fun _ _ _ h => h) (Or.inl ⟨by rfl, ?hy⟩) hHeld ?_
            case hy =>
              intro w hSw
              (try dsimp only at hSw)
              go_simp
              (try with_reducible rfl)
            try simp only [Act.put, List.getElem_toArray, List.getElem_cons_succ, List.getElem_cons_zero, List.setIfInBounds_toArray, List.set_cons_zero, List.set_cons_succ]
            refine wpAnyH_ready (rs := [12]) (by kernel_rfl) (by simp) ?_
            refine AllReadyH.cons rfl (fun K hK => ?_) AllReadyH.nil
            have hOld := hHeld
            clear hHeld
            go_simp
            refine (al.out _).mono ?_
            rintro r w5 ⟨rfl, hb5⟩
            dsimp only
            replace hB3 := hB3.past hb5
            replace hR3 := hR3.past hb5
            refine hK.out _ _ (hR3.cell 0) (fun hHeld => ?_)
            clear hK K hOld
            try simp only [Act.put, List.getElem_toArray, List.getElem_cons_succ, List.getElem_cons_zero, List.setIfInBounds_toArray, List.set_cons_zero, List.set_cons_succ]
            refine wpAnyH_take (i := 13) (v := ?_) rfl (by kernel_rfl) (by kernel_rfl) (by kernel_rfl) (fun _ _ _ h => h) (Or.inl ⟨by rfl, ?hy⟩) hHeld ?_
            case hy =>
              intro w hSw
              (try dsimp only at hSw)
              go_simp
              (try with_reducible rfl)
            try simp only [Act.put, List.getElem_toArray, List.getElem_cons_succ, List.getElem_cons_zero, List.setIfInBounds_toArray, List.set_cons_zero, List.set_cons_succ]
            refine wpAnyH_take (i := 14) (v := ?_) rfl (by kernel_rfl) (by kernel_rfl) (by kernel_rfl) (fun _ _ _ h => h) (Or.inl ⟨by rfl, ?hy⟩) hHeld ?_
            case hy =>
              intro w hSw
              (try dsimp only at hSw)
              go_simp
              (try with_reducible rfl)
            try simp only [Act.put, List.getElem_toArray, List.getElem_cons_succ, List.getElem_cons_zero, List.setIfInBounds_toArray, List.set_cons_zero, List.set_cons_succ]
            refine wpAnyH_done (by kernel_rfl) ?_ _
            simp only [Exit.inBlock, Exit.then]
            have hfin := Lib.hid hB3.below
            clear hHeld hB3 hR3 hs3 hs2 hp2 hb3 hb4 hb5 hR30 hLd hLr
            go_wp2_with fail
            go_ret
            exact ⟨rfl, hfin.out⟩
          · rw [goodB_true hG.out] at hgf
            cases hgf
end Go.Proofs.Ytcjgblopcfcakaa
