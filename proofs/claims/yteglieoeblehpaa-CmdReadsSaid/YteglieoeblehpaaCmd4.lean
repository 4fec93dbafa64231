/- Commands: which fields the kinds have, walked. Conditions: none. -/
import Derived.Test.YteglieoeblehpaaK13
import Derived.Test.YteglieoeblehpaaK10
import Derived.Carry
import Derived.Maps.Own
namespace Go.Proofs.Yteglieoeblehpaa
open Go.RowKit

theorem run_put8 {w : World} {es : Array MapEntry} {c : Nat} {k v : Int} (hno : Instr.findNow (.int .u8) (.int .u8 k) es.toList 0 = some none) :
    (Instr.mapUpdate 105 (.map (some w.heap.size)) (.int .u8 k) (.int .i64 v)).run Try.prog (w.alloc (.map es c)) = .ok () (w.alloc (.map (es.push ⟨.int .u8 k, .int .i64 v, c⟩) (c + 1))) := by
  have hb : (w.alloc (.map es c)).heap[w.heap.size]? = some (.map es c) := heap_alloc_new w _
  have hk : (Instr.checkKey false 10000 5 (.int .u8 k)).run Try.prog (w.alloc (.map es c)) = .ok () (w.alloc (.map es c)) := MapKept.run_checkKey (d := .int .u8) Try.underlying5 (by simp [MapKept.IsKey]) false 9999
  have hf : (Instr.findKey 5 (.int .u8 k) es.toList).run Try.prog (w.alloc (.map es c)) = .ok none (w.alloc (.map es c)) := by
    unfold Instr.findKey
    simp only [Sem.run_bind, run_underlying Try.underlying5, Result.andThen_ok, hno, Sem.run_pure]
  have ha : ∀ o, ({ (w.alloc (.map es c)) with heap := (w.alloc (.map es c)).heap.setIfInBounds w.heap.size o } : World) = w.alloc o := fun o => by
    have e : ∀ a : Array Obj, ∀ x y : Obj, (a.push x).setIfInBounds a.size y = a.push y := fun a x y => by
      apply Array.ext
      · simp
      · intro i h1 h2
        simp only [Array.size_setIfInBounds, Array.size_push] at h1
        rw [Array.getElem_setIfInBounds (by simpa using h1), Array.getElem_push, Array.getElem_push]
        by_cases hi : a.size = i
        · subst hi; simp
        · simp [hi, show i < a.size by omega]
    unfold World.alloc
    simp only [e]
  simp only [Instr.mapUpdate, Sem.run_bind, run_underlying Try.underlying105, Result.andThen_ok, MapKept.run_getObj_map hb, hk, hf, MapKept.run_setObj_map _ hb, ha]
def hasM : Array MapEntry := #[⟨.int .u8 0, .int .i64 0, 0⟩, ⟨.int .u8 1, .int .i64 515, 1⟩, ⟨.int .u8 2, .int .i64 544, 2⟩, ⟨.int .u8 3, .int .i64 1024, 3⟩, ⟨.int .u8 4, .int .i64 4, 4⟩, ⟨.int .u8 5, .int .i64 2048, 5⟩, ⟨.int .u8 6, .int .i64 4, 6⟩, ⟨.int .u8 7, .int .i64 104, 7⟩, ⟨.int .u8 8, .int .i64 52, 8⟩, ⟨.int .u8 9, .int .i64 392, 9⟩, ⟨.int .u8 10, .int .i64 648, 10⟩, ⟨.int .u8 11, .int .i64 32, 11⟩, ⟨.int .u8 12, .int .i64 32, 12⟩, ⟨.int .u8 13, .int .i64 136, 13⟩, ⟨.int .u8 14, .int .i64 4096, 14⟩]
set_option maxRecDepth 100000 in
set_option maxHeartbeats 4000000 in
theorem cmd_has (w : World) : Calls Try.prog 63 #[] w fun e w' => e = .returned (.map (some w.heap.size)) ∧ w' = w.alloc (.map hasM 15) := by
  have hmm := @run_makeMap Try.prog
  go_enter Try.func63, Try.ntmps63
  go_wp2_with fail
  iterate 15
    rw [run_put8 (by rfl)]
    go_wp2_with fail
  go_ret
  exact ⟨rfl, rfl⟩
/-- The fields of a kind. -/
def fieldsOf (k : Int) : Int :=
  if k = 1 then 515 else if k = 2 then 544 else if k = 3 then 1024 else if k = 4 then 4 else if k = 5 then 2048 else if k = 6 then 4 else if k = 7 then 104 else if k = 8 then 52 else if k = 9 then 392 else if k = 10 then 648 else if k = 11 then 32 else if k = 12 then 32 else if k = 13 then 136 else if k = 14 then 4096 else 0
def kindB (k : Int) : Bool := decide (0 ≤ k) && decide (k ≤ 14)
theorem find_has (k : Int) (hk : 0 ≤ k) : ∃ i, Instr.findNow (.int .u8) (.int .u8 k) hasM.toList 0 = some (if kindB k = true then some (i, .int .i64 (fieldsOf k)) else none) := by
  by_cases h : k ≤ 14
  · have hb : kindB k = true := by unfold kindB; simp [hk, h]
    rw [hb]
    rcases (show k = 0 ∨ k = 1 ∨ k = 2 ∨ k = 3 ∨ k = 4 ∨ k = 5 ∨ k = 6 ∨ k = 7 ∨ k = 8 ∨ k = 9 ∨ k = 10 ∨ k = 11 ∨ k = 12 ∨ k = 13 ∨ k = 14 by omega) with rfl | rfl | rfl | rfl | rfl | rfl | rfl | rfl | rfl | rfl | rfl | rfl | rfl | rfl | rfl
    all_goals exact ⟨_, rfl⟩
  · have hb : kindB k = false := by unfold kindB; simp [h]
    rw [hb]
    refine ⟨0, ?_⟩
    have e : ∀ n : Int, n ≤ 14 → (k == n) = false := fun n hn => by simp; omega
    simp [hasM, Instr.findNow, Instr.sameNow, e]
theorem run_look8 {W : World} {m : Nat} {c : Nat} {k : Int} (hk : 0 ≤ k) (hb : W.heap[m]? = some (.map hasM c)) (ok : Bool) :
    (Instr.lookup 105 (.map (some m)) (.int .u8 k) ok).run Try.prog W = .ok (if ok then .tuple #[.int .i64 (fieldsOf k), .bool (kindB k)] else .int .i64 (fieldsOf k)) W := by
  obtain ⟨i, hf0⟩ := find_has k hk
  have hkk : ∀ e, (Instr.checkKey e 10000 5 (.int .u8 k)).run Try.prog W = .ok () W := fun e => MapKept.run_checkKey (d := .int .u8) Try.underlying5 (by simp [MapKept.IsKey]) e 9999
  have hf : (Instr.findKey 5 (.int .u8 k) hasM.toList).run Try.prog W = .ok (if kindB k = true then some (i, .int .i64 (fieldsOf k)) else none) W := by
    unfold Instr.findKey
    simp only [Sem.run_bind, run_underlying Try.underlying5, Result.andThen_ok, hf0, Sem.run_pure]
  have hz : (zeroValue 3).run Try.prog W = .ok (.int .i64 0) W := by kernel_rfl
  simp only [Instr.lookup, Sem.run_bind, run_underlying Try.underlying105, Result.andThen_ok, MapKept.run_getObj_map hb, Sem.run_pure, hkk, hf]
  cases hq : kindB k
  · have hz0 : fieldsOf k = 0 := by
      unfold kindB at hq
      simp at hq
      have := hq hk
      unfold fieldsOf
      repeat rw [if_neg (by omega)]
    rw [hz0]
    simp only [Bool.false_eq_true, if_false, Sem.run_bind, hz, Result.andThen_ok, Sem.run_pure]
  · simp only [if_true]
    cases ok <;> simp
end Go.Proofs.Yteglieoeblehpaa
