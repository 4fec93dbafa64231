/- Commands: the reference's command of what a kind has alone: words. Conditions: none. -/
import Derived.Test.YteglieoeblehpaaCmd20
namespace Go.Proofs.Yteglieoeblehpaa
open Go.RowKit

theorem stw_cmd {ops : Array Oper} {rest : List Oper} {dst : Option Nat} {t' : TypeId} {pos : String} {af : Array Edge} {gd : Option (Nat × Bool)} {a : Act} {w : World} {Q : Exit → Act → World → Prop} (x y : Operand)
    (g : Nat) (c : Command) (old : Array Value) (hg : Blk w g 64 old) (hold : old.size = 33) (F : World → Prop) (hF : F (w.setRow g (csC c))) (hx : a.eval x = .pointer (some ⟨g, 0, none⟩)) (hy : a.eval y = .agg (csC c))
    (hw : Region.wanted { dst := dst, op := .store 64 x y, type := t', pos := pos, after := af, guard := gd } (yielded ops a.tmps) = true)
    (h : Hid (∀ W, F W → wpList Try.prog ops Q rest (a.put dst undef) W)) : wpList Try.prog ops Q ({ dst := dst, op := .store 64 x y, type := t', pos := pos, after := af, guard := gd } :: rest) a w :=
  wpList_store_rowW 64 x y g (csC c) hx hy 64 old hg info_cmd hold (csC_one c) hw (h.out _ hF)
theorem st_cmd {ops : Array Oper} {rest : List Oper} {dst : Option Nat} {t' : TypeId} {pos : String} {af : Array Edge} {gd : Option (Nat × Bool)} {a : Act} {w : World} {Q : Exit → Act → World → Prop} (x y : Operand)
    (g : Nat) (c : Command) (hx : a.eval x = .pointer (some ⟨g, 0, none⟩)) (hy : a.eval y = .agg (csC c)) (old : Array Value) (hg : Blk w g 64 old) (hold : old.size = 33)
    (hw : Region.wanted { dst := dst, op := .store 64 x y, type := t', pos := pos, after := af, guard := gd } (yielded ops a.tmps) = true)
    (h : wpList Try.prog ops Q rest (a.put dst undef) (w.setRow g (csC c))) : wpList Try.prog ops Q ({ dst := dst, op := .store 64 x y, type := t', pos := pos, after := af, guard := gd } :: rest) a w :=
  wpList_store_rowW 64 x y g (csC c) hx hy 64 old hg info_cmd hold (csC_one c) hw h
theorem calls_world {P : Program} {f : FuncId} {args : Array Value} {R : Ending → World → Prop} {W : World} (F : World → Prop) (hF : F W) (h : ∀ W, F W → Calls P f args W R) : Calls P f args W R := h _ hF
theorem r_Client (k : Int) (w : World) : Calls Try.prog 39 #[.int .u8 k] w fun e w' => e = .returned (.bool (clientB k)) ∧ w = w' := by
  unfold clientB
  by_cases h0 : 1 ≤ k <;> by_cases h1 : k ≤ 6
  all_goals
    go_enter Try.func39, Try.ntmps39
    go_wp2
    go_ret
    exact ⟨by simp [*], rfl⟩
end Go.Proofs.Yteglieoeblehpaa
