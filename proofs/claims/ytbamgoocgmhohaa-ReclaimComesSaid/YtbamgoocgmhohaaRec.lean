/- The contracts of package reclaim: what each function hands back, as plain Lean. Conditions: the numbers are of their kinds. -/
import Derived.Test.YtbamgoocgmhohaaRef1b
import Derived.Test.YtbamgoocgmhohaaK5
namespace Go.Proofs.Ytbamgoocgmhohaa
open Go.RowKit

/-! ### Plain words -/
structure Conf where
  margin : Int
  hold : Int
  slow : Int
  deriving DecidableEq
abbrev Conf.v (c : Conf) : Value := .agg #[.int .i64 c.margin, .int .i64 c.hold, .int .i64 c.slow]
abbrev Conf.cs (c : Conf) : Array Value := #[.int .i64 c.margin, .int .i64 c.hold, .int .i64 c.slow]
def Conf.ok (c : Conf) : Prop := I64 c.margin ∧ I64 c.hold ∧ I64 c.slow
instance (x : Conf) : Decidable x.ok := inferInstanceAs (Decidable (_ ∧ _))
structure Est where
  value : Vec
  calm : Int
  deriving DecidableEq
abbrev Est.v (e : Est) : Value := .agg #[.int .i64 e.value.cpu, .int .i64 e.value.mem, .int .i64 e.value.disk, .int .i64 e.calm]
def Est.ok (e : Est) : Prop := e.value.ok ∧ I64 e.calm
instance (x : Est) : Decidable x.ok := inferInstanceAs (Decidable (_ ∧ _))
def inB (x m : Int) : Bool := decide (0 ≤ x) && decide (x ≤ m)
def mayConf (c : Conf) : Bool := inB c.margin 400 && (inB c.hold 1024 && inB c.slow 16)
def goalI (m u l : Int) : Int := min ((u * (100 + m) + 99) / 100) l
def goalV (c : Conf) (limit usage : Vec) : Vec := pickV (goalI c.margin) usage limit
def goalR (c : Conf) (limit usage : Vec) : Vec × Int := if mayConf c && (mayV limit && mayV usage) then (goalV c limit usage, 0) else (zeroV, 2)
def fallI (slow x g : Int) : Int := x - (x - g + 2 ^ slow.toNat - 1) / 2 ^ slow.toNat

/-- Numbers that a falling may begin with. -/
def Down (x y : Int) : Prop := 0 ≤ y ∧ y ≤ x ∧ x ≤ 1099511627776
/-- Numbers whose goal is asked. -/
def Goes (x y : Int) : Prop := (0 ≤ x ∧ x ≤ 1099511627776) ∧ (0 ≤ y ∧ y ≤ 1099511627776)

set_option maxHeartbeats 400000 in
theorem rec_of (a : Vec) (w : World) :
    Calls Try.prog 71 #[a.v] w fun e w' => e = .returned a.v ∧ Below w.heap.size w w' := by
  go_enter Try.func71, Try.ntmps71
  go_wp2
  go_returns
  exact ⟨rfl, by go_grown⟩
set_option maxHeartbeats 400000 in
theorem rec_vec (a : Vec) (w : World) :
    Calls Try.prog 72 #[a.v] w fun e w' => e = .returned a.v ∧ Below w.heap.size w w' := by
  go_enter Try.func72, Try.ntmps72
  go_wp2
  go_returns
  exact ⟨rfl, by go_grown⟩
set_option maxHeartbeats 400000 in
theorem rec_Begin (a : Vec) (w : World) :
    Calls Try.prog 17 #[a.v] w fun e w' => e = .returned (Est.v ⟨a, 0⟩) ∧ Below w.heap.size w w' := by
  go_enter Try.func17, Try.ntmps17
  go_wp2
  go_returns
  exact ⟨rfl, by go_grown⟩
set_option maxHeartbeats 400000 in
theorem rec_May1 (x m : Int) (w : World) :
    Calls Try.prog 57 #[.int .i64 x, .int .i64 m] w fun e w' => e = .returned (.bool (inB x m)) ∧ Below w.heap.size w w' := by
  unfold inB
  by_cases h : 0 ≤ x
  all_goals
    go_enter Try.func57, Try.ntmps57
    go_wp2
    go_ret
    exact ⟨by first | (simp [*]; done) | (simp [*]; intros; omega), below_self w⟩
def mixC (k : Nat) (a b r : Vec) : Array Value := #[.int .i64 (if 0 < k then r.cpu else a.cpu), .int .i64 (if 1 < k then r.mem else a.mem), .int .i64 (if 2 < k then r.disk else a.disk)]
set_option maxHeartbeats 1000000 in
theorem rec_each (g cb : Nat) (cs : Array Value) (R : Int → Int → Prop) (f : Int → Int → Int)
    (hg : ∀ x y, R x y → ∀ W, Blk W cb 23 cs → Calls Try.prog g #[.int .i64 x, .int .i64 y, .pointer (some ⟨cb, 0, none⟩)] W fun e w' => e = .returned (.int .i64 (f x y)) ∧ Below W.heap.size W w')
    (ef : ∀ args w, (callFunc g args).run Try.prog w = .ok (.enter g args) w) (a b : Vec) (h0 : R a.cpu b.cpu) (h1 : R a.mem b.mem) (h2 : R a.disk b.disk) (w : World) (hc : Blk w cb 23 cs) :
    Calls Try.prog 50 #[a.v, b.v, .func (.func g) #[] #[.pointer (some ⟨cb, 0, none⟩)]] w fun e w' => e = .returned (pickV f a b).v ∧ Below w.heap.size w w' := by
  obtain ⟨a0, a1, a2⟩ := a
  obtain ⟨b0, b1, b2⟩ := b
  have c := Lib.hid hg
  clear hg
  dsimp only at h0 h1 h2
  go_enter Try.func50, Try.ntmps50
  go_wp2
  apply wp_region_made2 4 101 #[.int .i64 0, .int .i64 0, .int .i64 0] 101 #[.int .i64 0, .int .i64 0, .int .i64 0]
  case hm => kernel_rfl
  case hB => kernel_rfl
  case hmk => intro i h0 h1; rcases (show i = 4 ∨ i = 4 + 1 by omega) with rfl | rfl <;> exact ⟨_, rfl, rfl, fun a W => by kernel_rfl⟩
  case hq =>
    intro R hR x
    simp only [List.take_succ_cons, List.take_zero]
    repeat (go_big_quiet_step ((go_at_call 71; exact later_of (rec_of ⟨_, _, _⟩ _))))
    exact wpQuiet_nil hR
  simp only [List.drop_succ_cons, List.drop_zero, List.getElem?_toArray, List.getElem?_cons_succ, List.getElem?_cons_zero, Option.bind_some, Act.put, List.setIfInBounds_toArray, List.set_cons_succ, List.set_cons_zero]
  intro s t W hB hs ht hne hS hT
  obtain ⟨Sc, Sf, Sl⟩ := hS.facts
  obtain ⟨Tc, Tf, Tl⟩ := hT.facts
  have hcl := hc.lt
  have hC : Blk W cb 23 cs := (((hc.alloc _).alloc _).alloc _).below hB (by simp; omega)
  have hZ := (Blk.new2 w (.cells #[.int .i64 a0, .int .i64 a1, .int .i64 a2] 25) (.cells #[.int .i64 b0, .int .i64 b1, .int .i64 b2] 25) 25 #[.int .i64 0, .int .i64 0, .int .i64 0]).below hB (by simp)
  have hW : Below w.heap.size w W := below_to (by go_grown) hB
  replace hs : w.heap.size + 1 + 1 + 1 ≤ s := by simpa using hs
  replace ht : w.heap.size + 1 + 1 + 1 ≤ t := by simpa using ht
  go_wp2
  refine wp_world (fun W2 => Blk W2 s 101 (mixC 0 ⟨a0, a1, a2⟩ ⟨b0, b1, b2⟩ (pickV f ⟨a0, a1, a2⟩ ⟨b0, b1, b2⟩)) ∧ Blk W2 t 101 #[.int .i64 b0, .int .i64 b1, .int .i64 b2] ∧ Blk W2 cb 23 cs ∧ Blk W2 (w.heap.size + 1 + 1) 25 #[.int .i64 0, .int .i64 0, .int .i64 0] ∧ Below w.heap.size w W2) ?_ ?_
  · exact ⟨(((((hS.put 0 _ rfl).put 1 _ rfl).put 2 _ rfl).off hne _).off hne _).off hne _, (((((hT.off hne.symm _).off hne.symm _).off hne.symm _).put 0 _ rfl).put 1 _ rfl).put 2 _ rfl, (((((hC.off (by omega) _).off (by omega) _).off (by omega) _).off (by omega) _).off (by omega) _).off (by omega) _, (((((hZ.off (by omega) _).off (by omega) _).off (by omega) _).off (by omega) _).off (by omega) _).off (by omega) _, by go_grown⟩
  clear hS hT Sc Sf Sl Tc Tf Tl hC hZ hW hB hc W
  rintro W ⟨hS, hT, hC, hZ, hW⟩
  go_loopw [14] (fun i wr => ∃ k : Nat, k ≤ 3 ∧ i = .int .i64 k ∧ Blk wr s 101 (mixC k ⟨a0, a1, a2⟩ ⟨b0, b1, b2⟩ (pickV f ⟨a0, a1, a2⟩ ⟨b0, b1, b2⟩)) ∧ Blk wr t 101 #[.int .i64 b0, .int .i64 b1, .int .i64 b2] ∧ Blk wr cb 23 cs ∧ Blk wr (w.heap.size + 1 + 1) 25 #[.int .i64 0, .int .i64 0, .int .i64 0] ∧ Below w.heap.size w wr) (fun i _ => 3 - (intOf i).toNat)
  case atStart => exact ⟨0, by decide, rfl, hS, hT, hC, hZ, hW⟩
  case round =>
    clear hS hT hC hZ hW
    obtain ⟨k, hk, rfl, hS, hT, hC, hZ, hW⟩ := hrel
    rcases (show k = 0 ∨ k = 1 ∨ k = 2 ∨ k = 3 by omega) with rfl | rfl | rfl | rfl
    · replace hS : Blk wr s 101 #[.int .i64 a0, .int .i64 a1, .int .i64 a2] := hS
      obtain ⟨Sc, Sf, Sl⟩ := hS.facts
      obtain ⟨Tc, Tf, Tl⟩ := hT.facts
      go_wp2_with fail
      refine wp_region_ext_tail 10 (by kernel_rfl) (by kernel_rfl) ?_
      simp only [List.take_succ_cons, List.take_zero, List.drop_succ_cons, List.drop_zero]
      repeat (go_big_quiet_step ((with_reducible refine ext_of (c.out _ _ ?_ _ (hC.past (extn_below _ _))) <;> with_reducible assumption)))
      refine wpQuiet_nil ?_
      intro w1 hx
      obtain ⟨x, rfl⟩ := hx
      have hB := below_to hW (extn_below _ x)
      go_wp2
      go_roundw
      case rel => exact ⟨1, by decide, rfl, (hS.past (extn_below _ x)).put 0 _ rfl, (hT.past (extn_below _ x)).off hne.symm _, (hC.past (extn_below _ x)).off (by omega) _, (hZ.past (extn_below _ x)).off (by omega) _, by go_grown⟩
      case measure => simp [intOf]
    · replace hS : Blk wr s 101 #[.int .i64 (f a0 b0), .int .i64 a1, .int .i64 a2] := hS
      obtain ⟨Sc, Sf, Sl⟩ := hS.facts
      obtain ⟨Tc, Tf, Tl⟩ := hT.facts
      go_wp2_with fail
      refine wp_region_ext_tail 10 (by kernel_rfl) (by kernel_rfl) ?_
      simp only [List.take_succ_cons, List.take_zero, List.drop_succ_cons, List.drop_zero]
      repeat (go_big_quiet_step ((with_reducible refine ext_of (c.out _ _ ?_ _ (hC.past (extn_below _ _))) <;> with_reducible assumption)))
      refine wpQuiet_nil ?_
      intro w1 hx
      obtain ⟨x, rfl⟩ := hx
      have hB := below_to hW (extn_below _ x)
      go_wp2
      go_roundw
      case rel => exact ⟨2, by decide, rfl, (hS.past (extn_below _ x)).put 1 _ rfl, (hT.past (extn_below _ x)).off hne.symm _, (hC.past (extn_below _ x)).off (by omega) _, (hZ.past (extn_below _ x)).off (by omega) _, by go_grown⟩
      case measure => simp [intOf]
    · replace hS : Blk wr s 101 #[.int .i64 (f a0 b0), .int .i64 (f a1 b1), .int .i64 a2] := hS
      obtain ⟨Sc, Sf, Sl⟩ := hS.facts
      obtain ⟨Tc, Tf, Tl⟩ := hT.facts
      go_wp2_with fail
      refine wp_region_ext_tail 10 (by kernel_rfl) (by kernel_rfl) ?_
      simp only [List.take_succ_cons, List.take_zero, List.drop_succ_cons, List.drop_zero]
      repeat (go_big_quiet_step ((with_reducible refine ext_of (c.out _ _ ?_ _ (hC.past (extn_below _ _))) <;> with_reducible assumption)))
      refine wpQuiet_nil ?_
      intro w1 hx
      obtain ⟨x, rfl⟩ := hx
      have hB := below_to hW (extn_below _ x)
      go_wp2
      go_roundw
      case rel => exact ⟨3, by decide, rfl, (hS.past (extn_below _ x)).put 2 _ rfl, (hT.past (extn_below _ x)).off hne.symm _, (hC.past (extn_below _ x)).off (by omega) _, (hZ.past (extn_below _ x)).off (by omega) _, by go_grown⟩
      case measure => simp [intOf]
    · replace hS : Blk wr s 101 #[.int .i64 (f a0 b0), .int .i64 (f a1 b1), .int .i64 (f a2 b2)] := hS
      obtain ⟨Sc, Sf, Sl⟩ := hS.facts
      go_wp2_with fail
      refine (rec_vec ⟨f a0 b0, f a1 b1, f a2 b2⟩ _).mono ?_
      rintro e w1 ⟨rfl, hb⟩
      have hB := below_to hW hb
      obtain ⟨Zc, Zf, Zl⟩ := (hZ.past hb).facts
      clear hS hT hC hZ hW Sc Sf Sl hb
      go_wp2
      refine bodyPost_ret (v := .agg #[.int .i64 (f a0 b0), .int .i64 (f a1 b1), .int .i64 (f a2 b2)]) (by simp [results, Try.results50, go_sem, Zc]) rfl ?_
      exact ⟨rfl, by go_grown⟩
end Go.Proofs.Ytbamgoocgmhohaa
