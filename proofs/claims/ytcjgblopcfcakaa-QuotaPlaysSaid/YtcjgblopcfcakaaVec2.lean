/- The contracts of package vec, its second half: the greater, the lesser, sums of lists. Conditions: the numbers are of their kinds. -/
import Derived.Test.YtcjgblopcfcakaaVec
namespace Go.Proofs.Ytcjgblopcfcakaa
open Go.RowKit

/-- What is taken of two numbers. -/
def Picks (g : Nat) (op : Int → Int → Int) : Prop := ∀ (a b : Int), I64 a → I64 b → ∀ (w : World), Calls Try.prog g #[.int .i64 a, .int .i64 b] w fun e w' => e = .returned (.int .i64 (op a b)) ∧ Below w.heap.size w w'
def pickV (op : Int → Int → Int) (a b : Vec) : Vec := ⟨op a.cpu b.cpu, op a.mem b.mem, op a.disk b.disk⟩
set_option maxHeartbeats 1000000 in
theorem vec_pick (g : Nat) (op : Int → Int → Int) (hg : Picks g op) (ef : ∀ args w, (callFunc g args).run Try.prog w = .ok (.enter g args) w) (a b : Vec) (ha : a.ok) (hb : b.ok) (w : World) :
    Calls Try.prog 58 #[a.v, b.v, .func (.func g) #[] #[]] w fun e w' => e = .returned (pickV op a b).v ∧ Below w.heap.size w w' := by
  obtain ⟨a0, a1, a2⟩ := a
  obtain ⟨b0, b1, b2⟩ := b
  obtain ⟨xa0, xa1, xa2⟩ := ha
  obtain ⟨xb0, xb1, xb2⟩ := hb
  have c0 : ∀ (a b : Int), I64 a → I64 b → ∀ (w : World), Calls Try.prog g #[.int .i64 a, .int .i64 b] w fun e w' => e = .returned (.int .i64 (op a b)) ∧ Below w.heap.size w w' := hg
  have c := Lib.hid c0
  clear hg c0
  go_enter Try.func58, Try.ntmps58
  go_wp2
  refine wp_region_ext_tail 19 (by kernel_rfl) (by kernel_rfl) ?_
  simp only [List.take_succ_cons, List.take_zero, List.drop_succ_cons, List.drop_zero]
  repeat (go_big_quiet_step ((with_reducible refine ext_of (c.out _ _ ?_ ?_ _) <;> with_reducible assumption)))
  refine wpQuiet_nil ?_
  intro w1 hx
  have hB : Below w.heap.size w w1 := below_to (by go_grown) (after_region hx).2.2.2.2
  obtain ⟨hc1, hf1, hce1, hfe1, hb1⟩ := after_region hx
  clear hx hce1 hfe1 hb1
  go_wp2
  refine bodyPost_ret (v := .agg #[.int .i64 (op a0 b0), .int .i64 (op a1 b1), .int .i64 (op a2 b2)]) (by simp [results, Try.results58, go_sem, hc1]) rfl ?_
  exact ⟨rfl, by go_grown⟩
def maxV (a b : Vec) : Vec := pickV max a b
def minV (a b : Vec) : Vec := pickV min a b
set_option maxHeartbeats 400000 in
theorem vec_Min1 : Picks 59 min := by
  intro a b ⟨ha, ha'⟩ ⟨hb, hb'⟩ w
  go_enter Try.func59, Try.ntmps59
  go_wp2
  all_goals
    go_ret
    exact ⟨by first | (rw [show min a b = a by omega]; rfl) | (rw [show min a b = b by omega]; rfl), below_self w⟩
theorem enters_Min1 (args : Array Value) (w : World) : (callFunc 59 args).run Try.prog w = .ok (.enter 59 args) w := enters_of Try.func59 (by kernel_rfl) rfl args w
set_option maxHeartbeats 400000 in
theorem vec_Min (a b : Vec) (ha : a.ok) (hb : b.ok) (w : World) :
    Calls Try.prog 37 #[a.v, b.v] w fun e w' => e = .returned (minV a b).v ∧ Below w.heap.size w w' := by
  obtain ⟨a0, a1, a2⟩ := a
  obtain ⟨b0, b1, b2⟩ := b
  have c : ∀ w, Calls Try.prog 58 #[.agg #[.int .i64 a0, .int .i64 a1, .int .i64 a2], .agg #[.int .i64 b0, .int .i64 b1, .int .i64 b2], .func (.func 59) #[] #[]] w fun e w' => e = .returned (minV ⟨a0, a1, a2⟩ ⟨b0, b1, b2⟩).v ∧ Below w.heap.size w w' := fun w => vec_pick _ _ vec_Min1 enters_Min1 ⟨a0, a1, a2⟩ ⟨b0, b1, b2⟩ ha hb w
  generalize minV ⟨a0, a1, a2⟩ ⟨b0, b1, b2⟩ = r at c ⊢
  obtain ⟨r0, r1, r2⟩ := r
  clear ha hb
  have C := Lib.hid c
  clear c
  go_enter Try.func37, Try.ntmps37
  go_wp2_with (go_at_call 58; refine (C.out _).mono ?_; rintro e w1 ⟨rfl, hb⟩; have hB : Below w.heap.size w w1 := below_to (by go_grown) hb; obtain ⟨hc1, hf1, hce1, hfe1, hb1⟩ := after_call hb; clear hb hce1 hfe1 hb1)
  refine bodyPost_ret (v := .agg #[.int .i64 r0, .int .i64 r1, .int .i64 r2]) (by simp [results, Try.results37, go_sem, hc1]) rfl ?_
  exact ⟨rfl, by go_grown⟩

end Go.Proofs.Ytcjgblopcfcakaa
