/- Ledgers, walked: Rows. Conditions: none. -/
import Derived.Test.YtcjgblopcfcakaaQt8
import Derived.OwnWalk
import Derived.Lib.Strings
namespace Go.Proofs.Ytcjgblopcfcakaa
open Go.RowKit Go.MapKept
open Go.ChangeMaps (setBlock heap_setBlock_same heap_setBlock_other)

theorem q_nil_Rows (w : World) : Calls Try.prog 16 #[.pointer none] w fun e w' => e = .returned (.slice none 0 0) ∧ w = w' := by
  have C := Lib.hid (fun w => q_none_nil w)
  go_enter Try.func16, Try.ntmps16
  go_wp2_with fail
  refine (C.out _).mono ?_
  rintro r ww ⟨rfl, rfl⟩; dsimp only
  go_wp2_with fail
  go_ret
  exact ⟨rfl, rfl⟩
/-- Behind the step: the map, the shares, what was there. -/
theorem iter_turned {w w1 : World} {r : Nat} {m : Option Nat} {s s' c c' : Nat} {seen seen' : Array Nat} {o : Option Nat} (h : w1 = w ∨ w1 = w.drew) (hr : w.heap[r]? = some (.mapIter m s seen c)) :
    w.grownBy (setBlock w1 r (.mapIter o s' seen' c')) (some r) ∧ (setBlock w1 r (.mapIter o s' seen' c')).heap[r]? = some (.mapIter o s' seen' c') := by
  have hlt : r < w.heap.size := by
    rcases Nat.lt_or_ge r w.heap.size with q | q
    · exact q
    · rw [Array.getElem?_eq_none q] at hr; cases hr
  have base : w.grownBy (setBlock w r (.mapIter o s' seen' c')) (some r) ∧ (setBlock w r (.mapIter o s' seen' c')).heap[r]? = some (.mapIter o s' seen' c') := by
    refine ⟨⟨rfl, rfl, rfl, by simp [setBlock], fun k hk hn => ?_⟩, ?_⟩
    · have : r ≠ k := fun e => hn (by rw [e])
      simp [setBlock, Array.getElem?_setIfInBounds, this]
    · simp [setBlock, Array.getElem?_setIfInBounds, hlt]
  rcases h with rfl | rfl
  · exact base
  · exact ⟨⟨rfl, rfl, rfl, base.1.size, base.1.block⟩, base.2⟩
/-- The loop's step over a map, whatever its keys and elements. -/
theorem wpList_nextM {P : Program} (w : World) {ops : Array Oper} {rest : List Oper} {o : Oper} {a : Act} {Q : Exit → Act → World → Prop} (hg : o.guard = none) (it : Operand) (hop : o.op = Op.next it false)
    (r bm since c0 : Nat) (seen : Array Nat) (es : Array MapEntry) (clock : Nat) (hit : a.eval it = ptrV r) (hr : w.heap[r]? = some (.mapIter (some bm) since seen c0)) (hb : w.heap[bm]? = some (.map es clock)) (hold : ∀ x ∈ es.toList, x.born < since) (hsc : since ≤ c0)
    (hDone : Hid ((leftOf es seen).size = 0 → wpList P ops Q rest (a.put o.dst (.tuple #[.bool false])) w))
    (hMore : Hid (∀ e ∈ (leftOf es seen).toList, ∀ W : World, w.grownBy W (some r) → W.heap[r]? = some (.mapIter (some bm) since (seen.push e.born) clock) → wpList P ops Q rest (a.put o.dst (.tuple #[.bool true, e.key, e.val])) W)) :
    wpList P ops Q (o :: rest) a w := by
  refine wpList_plain hg fun K' hK' => ?_
  unfold Oper.wp
  rcases run_next_at (P := P) w o.type r bm since c0 seen es clock hr hb hold hsc with ⟨h0, hrun⟩ | ⟨e, he, w1, hw1, hrun⟩
  · simp [execOp, hop, hit, ptrV, hrun, Result.andThen]
    exact hK' _ _ (hDone.out h0)
  · simp [execOp, hop, hit, ptrV, hrun, Result.andThen]
    exact hK' _ _ (hMore.out e he _ (iter_turned hw1 hr).1 (iter_turned hw1 hr).2)
set_option maxHeartbeats 2000000 in
theorem q_Rows (w : World) (P : Nat) (S : Nat → Prop) (L : List Share) (h : Led w P S L) :
    Calls Try.prog 16 #[ptrV P] w fun e w' => (∃ A c, e = .returned (.slice A L.length c) ∧ SharesIn w' A L ∧ ∀ p, A = some p → w.heap.size ≤ p.block) ∧ Below w.heap.size w w' := by
  obtain ⟨M, es, clock, bx, hM, hp, hr, hS⟩ := h
  have N := Lib.hid (fun W h => q_none_led P M W h)
  obtain ⟨i0, hi, hz0, hz1, hz2⟩ := info_parts shareInfo
  have hfew := hM.few
  have hlt : ∀ b ∈ P :: M :: bx.map Prod.snd, b < w.heap.size := by
    intro b hb
    rcases List.mem_cons.1 hb with rfl | hb
    · exact hM.top.lt
    · rcases List.mem_cons.1 hb with rfl | hb
      · exact hM.ltM
      · obtain ⟨x, hx, rfl⟩ := List.mem_map.1 hb
        exact (hM.boxes x hx).lt
  have hHlt := Lib.hid hlt
  have hrun := Lib.hid (run_range_map (P := Try.prog) w 53 57 61 M es clock Try.underlying53 hM.map)
  have hsort := Lib.hid sort_rows
  obtain ⟨Pc, Pf, Pl⟩ := hM.top.facts
  clear hlt
  go_enter Try.func16, Try.ntmps16
  go_wp2_with fail
  refine (N.out _ hM.top).mono ?_
  rintro r ww ⟨rfl, rfl⟩; dsimp only
  have hrr := hrun.out
  go_wp2_with fail
  have hM0 := hM.past (below_own (below_self w) (.mapIter (some M) clock #[] clock))
  have hIt := heap_alloc_new w (.mapIter (some M) clock #[] clock)
  have hB0 := below_own (below_self w) (.mapIter (some M) clock #[] clock)
  clear hrr hrun hM Pc Pf Pl N
  go_loopw [2] (fun v' wr => ∃ (v : Value) (seen : Array Nat) (c0 : Nat) (picked : List Share), v = v' ∧ LedM wr P M es clock bx ∧ wr.heap[w.heap.size]? = some (.mapIter (some M) clock seen c0) ∧ clock ≤ c0 ∧ Hid (picked.Perm (taken es bx seen)) ∧ wr.ownsRow (w.heap.size + 1) 39 8 v picked.length (flatS picked) ∧ Below w.heap.size w wr) (fun _ wr => wr.rangeLeft M w.heap.size)
  case atStart => exact ⟨_, #[], clock, [], rfl, hM0, hIt, Nat.le_refl _, Lib.hid (by unfold taken; simp), ⟨rfl, .inl ⟨rfl, rfl⟩⟩, hB0⟩
  case round =>
    clear hM0 hIt hB0
    obtain ⟨v, seen, c0, picked, rfl, hM, hIt, hsc, hpk, hown, hB⟩ := hrel
    have hold := hM.stamped.1
    have hmeas : wr.rangeLeft M w.heap.size = (leftOf es seen).size := by simp only [World.rangeLeft, hM.map, hIt]
    go_wp2_with (at_next; refine wpList_nextM _ rfl _ rfl w.heap.size M clock c0 seen es clock rfl hIt hM.map hold hsc ?_ ?_)
    · refine Lib.hid (fun h0 => ?_)
      have hall : Hid (picked.Perm L) := Lib.hid ((hpk.out.trans (by rw [hM.taken_all (by simp [h0])])).trans hp)
      clear hIt hM hpk h0 hold hmeas hi hz0 hz1 hz2
      have hn : picked.length ≤ 64 := by have := hall.out.length_eq; have := hp.length_eq; rw [List.length_map] at this; omega
      have hln : L.length = picked.length := hall.out.length_eq.symm
      rcases hown.2 with ⟨rfl, h0⟩ | ⟨g, cap, cur, rfl, hg, hb, hcap, _, hcs, hct⟩
      · have hno := Lib.hid (fun w => show Calls Try.prog 34 #[.slice none 0 0, .func (.func 35) #[] #[]] w _ from Go.Proofs.AnyF.slices_SortFunc_none Go.Proofs.Try.sortShare none 0 (.func (.func 35) #[] #[]) w)
        have hL : L = [] := List.eq_nil_of_length_eq_zero (hln.trans h0)
        clear hown
        go_wp2_with fail
        refine (hno.out _).mono ?_
        rintro r w2 ⟨rfl, rfl⟩; dsimp only
        go_wp2_with fail
        refine bodyPost_ret (v := .slice none 0 0) (by simp [results, Try.results16, go_sem]) rfl ?_
        exact ⟨⟨none, 0, by rw [hL]; rfl, by rw [hL]; exact fun h => absurd rfl h, fun p hp => by cases hp⟩, hB⟩
      · have hsr := Lib.hid (sort_rows g cap cur picked L wr hb hcap hcs hct hall.out hr hn)
        clear hown hcs hct hcap
        go_wp2_with fail
        refine (hsr.out).mono ?_
        rintro r w2 ⟨rfl, hsh, hgr⟩; dsimp only
        have hB2 := Lib.hid (hB.grown hgr hB.size (by intro k hk; cases hk; omega))
        replace hsh := Lib.hid hsh
        have hg' : Hid (w.heap.size ≤ g) := Lib.hid (by omega)
        clear hgr hB hb hg
        go_wp2_with fail
        refine bodyPost_ret (v := .slice (some ⟨g, 0, none⟩) picked.length cap) (by simp [results, Try.results16, go_sem]) rfl ?_
        exact ⟨⟨_, _, by rw [hln], hsh.out, fun p hp => by cases hp; exact hg'.out⟩, hB2.out⟩
    · refine Lib.hid (fun e he W hgW hIt2 => ?_)
      replace he : e ∈ (leftOf es seen).toList := by simpa using he
      obtain ⟨hem, hes⟩ := left_mem he
      have hlt2 := Lib.hid (left_push he)
      obtain ⟨⟨s, B⟩, hx, hz, hev⟩ := hM.entry hem
      have hpk2 := Lib.hid ((hM.taken_more hz hes).symm)
      have hxl := List.mem_map_of_mem (f := Prod.snd) hx
      have hM2 : LedM W P M es clock bx := hM.kept (fun b hb hlt => hgW.block b hlt (by have := hHlt.out b hb; simp; omega))
      have hown2 := hown.kept hgW (by
        rcases hown.2 with ⟨rfl, _⟩ | ⟨g, cap, cur, rfl, hg, _⟩
        · exact Or.inl rfl
        · exact Or.inr (by simp [Value.ownBlock]; omega))
      have hB2 : Below w.heap.size w W := hB.grown hgW hB.size (by intro k hk; cases hk; exact Nat.le_refl _)
      have hent := run_entry_at (P := Try.prog) W w.heap.size M clock seen es clock e hIt2 hM2.map hem hM.stamped.2.1
      have hWlt : w.heap.size < W.heap.size := (Array.getElem?_eq_some_iff.1 hIt2).1
      have hpl : picked.length ≤ 64 := by
        have h1 := hpk.out.length_eq
        have h2 : (taken es bx seen).length ≤ bx.length := by
          unfold taken
          rw [List.length_map]
          refine Nat.le_trans (List.length_filter_le _ _) ?_
          rw [List.length_zip]
          exact Nat.min_le_right _ _
        omega
      rw [hev] at hent ⊢
      clear hIt hM hown hB hgW he
      have hBx := hM2.boxes _ hx
      obtain ⟨Bc, Bf, Bl⟩ := hBx.facts
      go_wp2_with (at_builtin; refine wpList_append_own _ rfl _ _ 36 rfl (w.heap.size + 1) 39 i0 (.agg #[.string ⟨#[]⟩, .int .u8 0, .int .i64 0, .int .i64 0, .int .i64 0, .int .i64 0, .int .i64 0, .int .i64 0]) 8 72 Try.underlying36 hi hz0 hz1 hz2 rfl (by decide) _ _ _ rfl (hown2.alloc _) ⟨W.heap.size, 0, none⟩ 1 1 (shRow s) rfl rfl ?c1 ?c2 ?c3 ?c4 ?c5 ?_)
      case c1 =>
        intro j u hj
        simpa [shRow] using hj
      case c2 => exact fun u hu => shRow_cell hu
      case c3 => unfold maxLen; omega
      case c4 => omega
      case c5 => omega
      intro v' w2 hown' hgrow _
      have hoB := fun k hk => (hown2.lt k hk).1
      have hB3 : Below w.heap.size w w2 := (hB2.alloc hB2.size _).grown hgrow (by have := hB2.size; simp; omega) (fun k hk => by have := hoB k hk; omega)
      have hM3 := Lib.hid ((hM2.past (below_own (below_self W) _)).kept (fun b hb hlt => hgrow.block b hlt (fun e => by have := hHlt.out b hb; have := hoB b e.symm; omega)))
      have hIt3 : w2.heap[w.heap.size]? = some (.mapIter (some M) clock (seen.push e.born) clock) := (hgrow.block w.heap.size (by simp; omega) (fun e => by have := hoB _ e.symm; omega)).trans ((Below.heap_alloc W _ w.heap.size hWlt).trans hIt2)
      have hpk3 := Lib.hid ((List.perm_append_singleton s picked).trans ((hpk.out.cons s).trans hpk2.out))
      clear hM2 hIt2 hB2 hown2 hgrow hent hBx Bc Bf Bl hpk hpk2 hoB
      go_wp2
      go_roundw
      case rel => exact ⟨_, seen.push e.born, clock, picked ++ [s], rfl, hM3.out, hIt3, Nat.le_refl _, hpk3, by rw [flatS_snoc, List.length_append, List.length_singleton]; exact hown', hB3⟩
      case measure =>
        have e2 : w2.rangeLeft M w.heap.size = (leftOf es (seen.push e.born)).size := by simp only [World.rangeLeft, hM3.out.map, hIt3]
        rw [e2, hmeas]
        exact hlt2.out
end Go.Proofs.Ytcjgblopcfcakaa
