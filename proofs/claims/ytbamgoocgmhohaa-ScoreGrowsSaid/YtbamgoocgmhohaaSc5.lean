/- Lists of vecs that are copied, or built one by one. Conditions: they are as long as memory at most. -/
import Derived.Test.YtbamgoocgmhohaaSc4
namespace Go.Proofs.Ytbamgoocgmhohaa
open Go.RowKit Go.Shelf

def rowOf (a : Vec) : List Value := [.int .i64 a.cpu, .int .i64 a.mem, .int .i64 a.disk]
theorem vecInfo : (Try.prog.info? 25).map (fun i => (i.zero, i.size, i.bytes)) = some (some (.agg #[.int .i64 0, .int .i64 0, .int .i64 0]), 3, 24) := by kernel_rfl
def flatV (xs : List Vec) : List Value := xs.flatMap rowOf
theorem flatV_snoc (xs : List Vec) (x : Vec) : flatV (xs ++ [x]) = flatV xs ++ rowOf x := by simp [flatV]
theorem flatV_len : ∀ xs : List Vec, (flatV xs).length = xs.length * 3
  | [] => rfl
  | x :: xs => by
    have := flatV_len xs
    unfold flatV at *
    rw [List.flatMap_cons, List.length_append, this]
    simp [rowOf]
    omega
theorem flatV_get : ∀ (xs : List Vec) (k : Nat) (h : k < xs.length), (flatV xs)[k * 3]? = some (.int .i64 xs[k].cpu) ∧ (flatV xs)[k * 3 + 1]? = some (.int .i64 xs[k].mem) ∧ (flatV xs)[k * 3 + 2]? = some (.int .i64 xs[k].disk)
  | [], k, h => by simp at h
  | x :: xs, 0, h => by simp [flatV, rowOf]
  | x :: xs, k + 1, h => by
    obtain ⟨h0, h1, h2⟩ := flatV_get xs k (by simpa using h)
    have e : flatV (x :: xs) = rowOf x ++ flatV xs := by simp [flatV]
    rw [e, List.getElem?_append_right (by simp [rowOf]; omega), List.getElem?_append_right (by simp [rowOf]; omega), List.getElem?_append_right (by simp [rowOf]; omega)]
    simp only [rowOf, List.length_cons, List.length_nil, List.getElem_cons_succ]
    rw [show (k + 1) * 3 - (0 + 1 + 1 + 1) = k * 3 by omega, show (k + 1) * 3 + 1 - (0 + 1 + 1 + 1) = k * 3 + 1 by omega, show (k + 1) * 3 + 2 - (0 + 1 + 1 + 1) = k * 3 + 2 by omega]
    exact ⟨h0, h1, h2⟩
theorem flatV_cell {xs : List Vec} {u : Value} (h : u ∈ flatV xs) : u.oneCell' = true := by
  obtain ⟨x, _, hx⟩ := List.mem_flatMap.1 h
  simp [rowOf] at hx
  rcases hx with rfl | rfl | rfl <;> rfl
/-- An own row of vecs is a list of vecs. -/
theorem own_vecsL {w : World} {base n : Nat} {v : Value} {xs : List Vec} (h : w.ownsRow base 25 3 v n (flatV xs)) (hn : xs.length = n) : ∃ A c, v = .slice A n c ∧ VecsIn w A xs := by
  obtain ⟨hl, ⟨rfl, rfl⟩ | ⟨g, cap, cur, rfl, hg, hh, hnn, hm, hs, ht⟩⟩ := h
  · exact ⟨none, 0, rfl, fun h => absurd (List.length_eq_zero_iff.1 hn) h⟩
  · refine ⟨_, _, rfl, fun _ => ⟨g, 0, rfl, ?_, fun i hi => ?_⟩⟩
    · rcases Nat.lt_or_ge g w.heap.size with h | h
      · exact h
      · rw [Array.getElem?_eq_none h] at hh; cases hh
    · have hb : Blk w g 25 cur := hh
      obtain ⟨r0, r1, r2⟩ := flatV_get xs i hi
      have e : ∀ j u, j < n * 3 → (flatV xs)[j]? = some u → cur[j]? = some u := fun j u hj hu => by
        rw [← ht, List.getElem?_take_of_lt hj] at hu
        simpa using hu
      simp only [Nat.zero_add]
      exact ⟨by rw [hb.cell]; exact e _ _ (by omega) r0, by rw [hb.cell]; exact e _ _ (by omega) r1, by rw [hb.cell]; exact e _ _ (by omega) r2⟩
theorem own_row {w : World} {base e size n : Nat} {v : Value} {xs : List Value} (h : w.ownsRow base e size v n xs) : ∀ r, Value.ownBlock v = some r → base ≤ r := by
  obtain ⟨_, ⟨rfl, rfl⟩ | ⟨g, cap, cur, rfl, hg, _⟩⟩ := h
  · intro r hr; cases hr
  · intro r hr; simp [Value.ownBlock] at hr; omega
theorem vecs_past {w w' : World} {A : Option Addr} {xs : List Vec} (h : VecsIn w A xs) (hb : Below w.heap.size w w') : VecsIn w' A xs := fun hne => by
  obtain ⟨b, off, hA, hlt, hc⟩ := h hne
  refine ⟨b, off, hA, Nat.lt_of_lt_of_le hlt hb.size, fun i hi => ?_⟩
  obtain ⟨h0, h1, h2⟩ := hc i hi
  exact ⟨(hb.cell hlt).trans h0, (hb.cell hlt).trans h1, (hb.cell hlt).trans h2⟩
theorem below_none {w w' : World} (h : w.grownBy w' none) : Below w.heap.size w w' := ⟨h.os, h.tape, h.output, h.size, fun k hk => h.block k hk (by simp)⟩
/-- A list of vecs, copied. -/
theorem run_copy (ty : TypeId) (A : Option Addr) (n c : Nat) (xs : List Vec) (hl : xs.length = n) (hn : n ≤ 1000000) (w : World) (hA : VecsIn w A xs) (h0 : A = none → n = 0) :
    ∃ A' c' w', (Builtin.append_ #[28, 28] ty #[.slice none 0 0, .slice A n c]).run Try.prog w = .ok (.slice A' n c') w' ∧ VecsIn w' A' xs ∧ Below w.heap.size w w' := by
  obtain ⟨i0, hi, hz0, hz1, hz2⟩ := info_parts vecInfo
  cases A with
  | none =>
    obtain rfl := h0 rfl
    refine ⟨none, 0, w, ?_, hA, Below.refl _ _⟩
    simp [Builtin.append_, run_underlying Try.underlying28, sizeOf, typeInfo, hi, run_firstCells_none, newRow, hz1, Builtin.lenOf]
  | some ad =>
    obtain ⟨v', w', hr, h2, h3, _⟩ := run_append_own (P := Try.prog) w w.heap.size 28 ty 25 i0 (.agg #[.int .i64 0, .int .i64 0, .int .i64 0]) 3 24 Try.underlying28 hi hz0 hz1 hz2 rfl (by decide) (.slice none 0 0) 0 [] (World.ownsRow_nil _ _ _ _) ad n c (flatV xs) (by rw [flatV_len, hl])
      (fun j u hj => by
        have hj' := (List.getElem?_eq_some_iff.1 hj).1
        rw [flatV_len] at hj'
        obtain ⟨b, off, e, _, hc⟩ := hA (by intro e; rw [e] at hj'; simp at hj')
        cases e
        obtain ⟨c0, c1, c2⟩ := hc (j / 3) (by omega)
        obtain ⟨f0, f1, f2⟩ := flatV_get xs (j / 3) (by omega)
        rw [addr_add]
        rcases (show j = j / 3 * 3 ∨ j = j / 3 * 3 + 1 ∨ j = j / 3 * 3 + 2 by omega) with e | e | e
        · rw [e] at hj ⊢
          rw [c0]
          rw [f0] at hj
          exact hj
        · rw [e] at hj ⊢
          rw [show off + (j / 3 * 3 + 1) = off + j / 3 * 3 + 1 by omega, c1]
          rw [f1] at hj
          exact hj
        · rw [e] at hj ⊢
          rw [show off + (j / 3 * 3 + 2) = off + j / 3 * 3 + 2 by omega, c2]
          rw [f2] at hj
          exact hj) (fun u hu => flatV_cell hu) (by unfold maxLen; omega) (by omega) (Nat.le_refl _)
    rw [Nat.zero_add, List.nil_append] at h2
    obtain ⟨A', c', rfl, hA'⟩ := own_vecsL h2 hl
    exact ⟨A', c', w', hr, hA', below_none h3⟩
/-- The same, as a step of a region that draws. -/
theorem step_copy {ops : Array Oper} {o : Oper} {a : Act} {w : World} {K : Act → World → Prop} {Q : Exit → Act → World → Prop} {E : Prop} (hg : o.guard = none) (x : Operand)
    (ho : o.op = .call { callee := .builtin .append, args := #[.const (.slice none 0 0), x], argTypes := #[28, 28] })
    (A : Option Addr) (n c : Nat) (xs : List Vec) (hx : a.eval x = .slice A n c) (hl : xs.length = n) (hn : n ≤ 1000000) (hA : VecsIn w A xs) (h0 : A = none → n = 0)
    (h : ∀ A' c' w', VecsIn w' A' xs → Below w.heap.size w w' → K (a.put o.dst (.slice A' n c')) w') : if Region.wanted o (yielded ops a.tmps) = true then Oper.wp Try.prog o a w K Q else E := by
  rw [if_pos (by simp [Region.wanted, hg])]
  obtain ⟨A', c', w', hr, hA', hb⟩ := run_copy o.type A n c xs hl hn w hA h0
  unfold Oper.wp execOp
  simp only [ho, resolve, invoke, builtin, Sem.run_bind, Sem.run_pure, Result.andThen_ok, List.map_toArray, List.map_cons, List.map_nil, Act.eval, hr]
  simp only [Act.eval] at hx
  simp only [hx, hr]
  exact h A' c' w' hA' hb
end Go.Proofs.Ytbamgoocgmhohaa
