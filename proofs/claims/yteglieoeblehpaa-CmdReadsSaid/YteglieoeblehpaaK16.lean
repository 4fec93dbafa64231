/- Words of this session: structs that are loaded, stored and returned whole, cells unseen; whether two structs are the same. Conditions: none. -/
import Derived.Test.YteglieoeblehpaaK2
import Derived.Laws.StructEq
import Derived.Laws.Rows
import Derived.Laws.Tables
import Derived.Laws.ResultCell
import Derived.Laws.CopyOwn
import Derived.Deep.WholeRow
namespace Go.Proofs.Yteglieoeblehpaa
open Go.RowKit

theorem results_row_tmp {P : Program} {fn : Func} {p u : Tmp} {ty : TypeId} (h : fn.results = #[.cell p ty, .tmp u]) (tmps : Array Value) (w : World) (g : Nat) (cs : Array Value) (hp : tmps.getD p undef = .pointer (some ⟨g, 0, none⟩)) (hl : (loadVar ty ⟨g, 0, none⟩).run P w = .ok (.agg cs) w) : (results fn tmps).run P w = .ok (.tuple #[.agg cs, tmps.getD u undef]) w := by
  rw [results_cell_tmp h, hp]
  simp [asAddr, hl]
theorem exec_load_row {P : Program} {ρ : Operand → Value} {o : Oper} {W : World} (ty : TypeId) (x : Operand) (ho : o.op = .load ty x) (g : Nat) (hx : ρ x = .pointer (some ⟨g, 0, none⟩)) (cs : Array Value) (hrun : (loadVar ty ⟨g, 0, none⟩).run P W = .ok (.agg cs) W) : (execOp ρ o).run P W = .ok (.value (.agg cs)) W := by
  unfold execOp
  simp only [ho, hx, Instr.loadAt, Instr.sureAddr, Sem.run_bind, Sem.run_pure, Result.andThen_ok, hrun]
theorem wpList_load_rowW {P : Program} {ops : Array Oper} {rest : List Oper} {dst : Option Nat} {t' : TypeId} {pos : String} {af : Array Edge} {gd : Option (Nat × Bool)} {a : Act} {w : World} {Q : Exit → Act → World → Prop} (ty : TypeId) (x : Operand)
    (g : Nat) (hx : a.eval x = .pointer (some ⟨g, 0, none⟩)) (cs : Array Value) (hl : (loadVar ty ⟨g, 0, none⟩).run P w = .ok (.agg cs) w) (hw : Region.wanted { dst := dst, op := .load ty x, type := t', pos := pos, after := af, guard := gd } (yielded ops a.tmps) = true)
    (h : wpList P ops Q rest (a.put dst (.agg cs)) w) : wpList P ops Q ({ dst := dst, op := .load ty x, type := t', pos := pos, after := af, guard := gd } :: rest) a w := by
  unfold wpList
  rw [if_pos hw]
  refine Or.inl ?_
  unfold Oper.wp
  rw [exec_load_row ty x rfl g hx cs hl]
  exact h
theorem wpList_store_rowW {P : Program} {ops : Array Oper} {rest : List Oper} {dst : Option Nat} {t' : TypeId} {pos : String} {af : Array Edge} {gd : Option (Nat × Bool)} {a : Act} {w : World} {Q : Exit → Act → World → Prop} (ty : TypeId) (x y : Operand)
    (g : Nat) (cells : Array Value) (hx : a.eval x = .pointer (some ⟨g, 0, none⟩)) (hy : a.eval y = .agg cells) (t : TypeId) (old : Array Value) (hg : Blk w g t old) (hs : (P.info? ty).map (·.size) = some cells.size) (hold : old.size = cells.size) (h1 : cells.all (·.oneCell') = true)
    (hw : Region.wanted { dst := dst, op := .store ty x y, type := t', pos := pos, after := af, guard := gd } (yielded ops a.tmps) = true)
    (h : wpList P ops Q rest (a.put dst undef) (w.setRow g cells)) : wpList P ops Q ({ dst := dst, op := .store ty x y, type := t', pos := pos, after := af, guard := gd } :: rest) a w := by
  unfold wpList
  rw [if_pos hw]
  exact Or.inl (wp_store_row ty x y rfl g cells hx hy t old hg hs hold h1 h)
theorem Blk.rowK {w : World} {g : Nat} {t : TypeId} {old cs : Array Value} (h : Blk w g t old) : Blk (w.setRow g cs) g t cs := setRow_heap w g old cs t (0, 0) h
theorem Blk.offRow {w : World} {g k : Nat} {t : TypeId} {cs cs' : Array Value} (h : Blk w k t cs) (hne : k ≠ g) : Blk (w.setRow g cs') k t cs := (setRow_other w g k cs' hne).trans h
theorem eqF_cons {P : Program} {w : World} {d : Nat} {xs ys : Array Value} {f : Field} {fs : List Field} {a b : Value} {r s : Bool} (hn : f.name ≠ "_") (hx : (part f.type xs f.offset).run P w = .ok a w) (hy : (part f.type ys f.offset).run P w = .ok b w)
    (he : (Op.equalIn d f.type a b).run P w = .ok r w) (h : (Op.eqFields d xs ys fs).run P w = .ok s w) : (Op.eqFields d xs ys (f :: fs)).run P w = .ok (r && s) w := by
  unfold Op.eqFields
  rw [if_pos hn]
  simp only [Sem.run_bind, hx, hy, he, Result.andThen_ok, Sem.run_ite, Sem.run_pure]
  cases r
  · simp
  · simpa using h
theorem eqF_nil {P : Program} {w : World} {d : Nat} {xs ys : Array Value} : (Op.eqFields d xs ys []).run P w = .ok true w := rfl
theorem eqS_of {P : Program} {w : World} {d : Nat} {t : TypeId} {xs ys : Array Value} {fs : Array Field} {r : Bool} (ht : P.underlying t = some (.struct fs)) (hp : P.stoodInHeld t = false) (h : (Op.eqFields d xs ys fs.toList).run P w = .ok r w) : (Op.equalIn (d + 1) t (.agg xs) (.agg ys)).run P w = .ok r w := by
  have hf : P.fieldsOf t = fs := by unfold Program.fieldsOf; rw [ht]
  rw [run_equalIn_struct w d t xs ys (by rw [hf]; exact ht) hp, hf]
  exact h
theorem i_eq {w : World} {d : Nat} {t : TypeId} {k : IntKind} {a b : Int} (h : Try.prog.underlying t = some (.int k)) : (Op.equalIn (d + 1) t (.int k a) (.int k b)).run Try.prog w = .ok (decide (a = b)) w := by
  rw [run_equalIn_int w d t k k a b h]; rfl
theorem s_eq {w : World} {d : Nat} {t : TypeId} {a b : ByteArray} (h : Try.prog.underlying t = some .string) : (Op.equalIn (d + 1) t (.string a) (.string b)).run Try.prog w = .ok (decide (a = b)) w := by
  rw [run_equalIn_string w d t a b h, ← beq_toListBytes, show (a == b) = decide (a = b) from Bool.eq_iff_iff.2 (by
    obtain ⟨⟨x⟩⟩ := a
    obtain ⟨⟨y⟩⟩ := b
    show ((⟨x⟩ : Array UInt8) == ⟨y⟩) = true ↔ _
    simp)]
end Go.Proofs.Yteglieoeblehpaa
