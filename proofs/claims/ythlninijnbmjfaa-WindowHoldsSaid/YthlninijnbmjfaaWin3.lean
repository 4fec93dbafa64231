/- Windows: the ticks within a time, walked. Conditions: the list is in memory. -/
import Derived.Test.YthlninijnbmjfaaWin2
namespace Go.Proofs.Ythlninijnbmjfaa
open Go.RowKit Go.Shelf
attribute [local go_sem] Oper.semAt_some

def inW (wn now t : Int) : Bool := decide (now - wn < t) && decide (t ≤ now)
def wit (wn now : Int) (xs : List Int) : List Int := xs.filter (inW wn now)
def winB (wn now : Int) : Bool := decide (1 ≤ wn) && (decide (wn ≤ 4294967296) && timedB now)
theorem winB_yes {wn now : Int} : winB wn now = true ↔ 1 ≤ wn ∧ wn ≤ 4294967296 ∧ 0 ≤ now ∧ now ≤ 4611686018427387904 := by
  simp only [winB, timedB, Bool.and_eq_true, decide_eq_true_eq]
def cntW (xs : List Int) (wn now : Int) : Nat := if winB wn now = true then (wit wn now xs).length else 0
theorem wit_take (wn now : Int) (xs : List Int) (k : Nat) (h : k < xs.length) : wit wn now (xs.take (k + 1)) = if inW wn now (xs.getD k 0) then wit wn now (xs.take k) ++ [xs.getD k 0] else wit wn now (xs.take k) := by
  unfold wit
  rw [List.take_succ_eq_append_getElem h, List.filter_append, getD_at h]
  cases hq : inW wn now xs[k] <;> simp [hq]
theorem wit_len (wn now : Int) (xs : List Int) : (wit wn now xs).length ≤ xs.length := List.length_filter_le _ _
/-- Numbers in memory, in a block of those of which R speaks. -/
def IntsR (R : Nat → Prop) (w : World) (A : Option Addr) (xs : List Int) : Prop :=
  xs ≠ [] → ∃ b off, A = some ⟨b, off, none⟩ ∧ R b ∧ ∀ i (h : i < xs.length), w.cell? ⟨b, off + i, none⟩ = some (.int .i64 xs[i])
theorem SameOn.cell {R : Nat → Prop} {W W' : World} (h : SameOn R W W') {p : Addr} (hp : R p.block) : W'.cell? p = W.cell? p := World.cell?_of_block (w := W) (h p.block hp)
theorem IntsR.of {R : Nat → Prop} {w W : World} {A : Option Addr} {xs : List Int} (h : IntsIn w A xs) (hb : Below w.heap.size w W) (hR : ∀ k, k < w.heap.size → R k) : IntsR R W A xs := fun hne => by
  obtain ⟨b, off, hA, hb', hc⟩ := h hne
  exact ⟨b, off, hA, hR b hb', fun i hi => (hb.cell hb').trans (hc i hi)⟩
theorem _root_.Go.Boxed.same {R : Nat → Prop} {W W' : World} {b : Nat} {t : TypeId} {v : Value} (h : Boxed W b t v) (hs : SameOn R W W') (hb : R b) : Boxed W' b t v := (hs b hb).trans h
theorem _root_.Go.Boxed.movedTo {W W' : World} {B b : Nat} {t : TypeId} {v : Value} (h : Boxed W b t v) (hm : Moved B W W') (hne : b ≠ B) : Boxed W' b t v := (hm.block _ h.lt hne).trans h
theorem Moved.belowTo {B n : Nat} {w W W' : World} (hm : Moved B W W') (h : Below n w W) (hn : n ≤ B) (hw : n ≤ w.heap.size := by omega) : Below n w W' :=
  ⟨hm.os.trans h.os, hm.tape.trans h.tape, hm.output.trans h.output, Nat.le_trans h.size hm.size, fun k hk => (hm.block k (Nat.lt_of_lt_of_le (Nat.lt_of_lt_of_le hk hw) h.size) (by omega)).trans (h.block k hk)⟩
theorem keepsFrom_all {B : Nat} {W W' : World} (hs : W.heap.size ≤ W'.heap.size) (h : ∀ k, B ≤ k → k < W.heap.size → W'.heap[k]? = W.heap[k]?) : KeepsFrom B W W' :=
  ⟨hs, fun i o hB hi _ => (h i hB (Array.getElem?_eq_some_iff.1 hi).1).trans hi⟩
theorem below_putObj {n D : Nat} {w W : World} (o : Obj) (h : Below n w W) (hD : n ≤ D) : Below n w (W.putObj D o) :=
  ⟨h.os, h.tape, h.output, by simpa using h.size, fun k hk => (World.putObj_heap_other (by omega)).trans (h.block k hk)⟩
theorem three_boxes (w : World) (tA tB tC : TypeId) (a b c : Value) : ∃ W, W = (((w.alloc (.cells #[a] tA)).alloc (.cells #[b] tB)).alloc (.cells #[c] tC)) ∧ Boxed W w.heap.size tA a ∧ Boxed W (w.heap.size + 1) tB b ∧ Boxed W (w.heap.size + 1 + 1) tC c ∧ W.heap.size = w.heap.size + 1 + 1 + 1 ∧ Below w.heap.size w W := by
  have b0 := Boxed.new w tA a
  have b1 := Boxed.new (w.alloc (.cells #[a] tA)) tB b
  have b2 := Boxed.new ((w.alloc (.cells #[a] tA)).alloc (.cells #[b] tB)) tC c
  simp only [World.size_alloc] at b1 b2
  exact ⟨_, rfl, (b0.alloc _).alloc _, b1.alloc _, b2, by simp, by go_grown⟩
/-- The function over the ticks, and the boxes that it bears. -/
theorem w_within (A : Option Addr) (n c : Nat) (wn now : Int) (w : World) : Calls Try.prog 57 #[.slice A n c, .int .i64 wn, .int .i64 now] w fun r w' => r = .returned (.func (.func 82) #[] #[.pointer (some ⟨w.heap.size, 0, none⟩), .pointer (some ⟨w.heap.size + 1 + 1, 0, none⟩), .pointer (some ⟨w.heap.size + 1, 0, none⟩)]) ∧
    w' = (((w.alloc (.cells #[.slice A n c] 50)).alloc (.cells #[.int .i64 wn] 2)).alloc (.cells #[.int .i64 now] 2)) := by
  go_enter Try.func57, Try.ntmps57
  go_wp2
  go_ret
  exact ⟨rfl, rfl⟩
set_option maxRecDepth 100000 in
set_option maxHeartbeats 1000000 in
theorem w_iter (l b1 b2 b3 : Nat) (A : Option Addr) (n c : Nat) (wn now : Int) (xs : List Int) (hl : xs.length = n) (hn : n ≤ 1000000) (hwin : winB wn now = true)
    (R : Nat → Prop) (J Jx : List Int → World → Prop) (W : World)
    (hY : ∀ pre x W, J pre W → pre.length < n → YieldAt Fence.wide 1 Try.prog l #[.int .i64 x] W fun e W' =>
      (e = .returned (.bool true) ∧ J (pre ++ [x]) W' ∧ SameOn R W W') ∨ (e = .returned (.bool false) ∧ Jx (pre ++ [x]) W'))
    (r1 : R b1) (r2 : R b2) (r3 : R b3) (hA : IntsR R W A xs) (x1 : Boxed W b1 50 (.slice A n c)) (x2 : Boxed W b2 2 (.int .i64 now)) (x3 : Boxed W b3 2 (.int .i64 wn)) (h0 : J [] W) :
    CallsIn Fence.wide 2 Try.prog 82 #[.func (.yield l) #[] #[], .pointer (some ⟨b1, 0, none⟩), .pointer (some ⟨b2, 0, none⟩), .pointer (some ⟨b3, 0, none⟩)] W fun e W' => (∃ v, e = .returned v) ∧
      ((∃ ys, ys = wit wn now xs ∧ J ys W') ∨ (∃ pre, True ∧ Jx pre W')) := by
  obtain ⟨hw0, hw1, hn0, hn1⟩ := winB_yes.1 hwin
  have hwr : wrap64 (now - wn) = now - wn := by unfold wrap64; omega
  refine callsIn_of_wp Try.func82 rfl trivial ?_ rfl
  simp only [Try.ntmps82, List.size_toArray, List.length_cons, List.length_nil, Nat.reduceAdd, Nat.reduceSub, Array.replicate_succ, Array.replicate_zero, List.push_toArray, List.append_toArray, List.nil_append, List.cons_append]
  have X1c := x1.cell
  have X1f := x1.frozen
  gi_wp2
  clear X1c X1f
  gi_loopw [6, 9] (fun _ i wr => ∃ k : Nat, k ≤ n ∧ i = .int .i64 k ∧ J (wit wn now (xs.take k)) wr ∧ SameOn R W wr) (fun _ i _ => n - (intOf i).toNat)
  case atStart => exact ⟨0, Nat.zero_le _, rfl, h0, SameOn.refl _ _⟩
  case round =>
    clear h0
    obtain ⟨k, hk, rfl, hj, hso⟩ := hrel
    have y2 := x2.same hso r2
    have y3 := x3.same hso r3
    clear x1 x2 x3
    by_cases hlt : k < n
    · obtain ⟨b, off, rfl, hb, hcell⟩ := hA (by intro e; rw [e] at hl; simp at hl; omega)
      have j0 := (hso.cell (p := ⟨b, off + k, none⟩) hb).trans (hcell k (by omega))
      have e0 : xs.getD k 0 = xs[k] := getD_at (by omega)
      rw [← e0] at j0
      have hsc := Lib.hid (wit_take wn now xs k (by omega))
      have hln : (wit wn now (xs.take k)).length < n := by have := wit_len wn now (xs.take k); rw [List.length_take] at this; omega
      have hy := Lib.hid (fun W hj => hY (wit wn now (xs.take k)) (xs.getD k 0) W hj hln)
      clear hln
      clear hcell e0
      generalize xs.getD k 0 = x at *
      have Y2c := y2.cell
      have Y2f := y2.frozen
      have Y3c := y3.cell
      have Y3f := y3.frozen
      by_cases h1 : now - wn < x
      · by_cases h2 : x ≤ now
        · have hnx : Hid (wit wn now (xs.take (k + 1)) = wit wn now (xs.take k) ++ [x]) := Lib.hid (by rw [hsc.out]; simp [inW, h1, h2])
          obtain ⟨fn, tmps, assign, body, hyy, hRr⟩ := hy.out wr hj
          clear hy
          gi_wp2
          refine hRr.mono ?_
          rintro r w2 (⟨rfl, hj2, hk2⟩ | ⟨rfl, hjx⟩)
          · dsimp only
            have hso2 := hso.trans hk2
            clear Y2c Y2f Y3c Y3f
            gi_wp2
            exact ⟨⟨k + 1, by omega, by first | rfl | go_num, by rw [hnx.out]; exact hj2, hso2⟩, by simp [intOf]; omega⟩
          · dsimp only
            clear Y2c Y2f Y3c Y3f
            gi_wp2
            refine bodyPost_ret (results_none rfl _ _ _) rfl ?_
            exact ⟨⟨_, rfl⟩, .inr ⟨_, trivial, hjx⟩⟩
        · have hnx : Hid (wit wn now (xs.take (k + 1)) = wit wn now (xs.take k)) := Lib.hid (by rw [hsc.out]; simp [inW, h2])
          clear hy
          gi_wp2
          refine ⟨fun _ h => (by cases h), ?_⟩
          gi_wp2
          exact ⟨⟨k + 1, by omega, by first | rfl | go_num, by rw [hnx.out]; exact hj, hso⟩, by simp [intOf]; omega⟩
      · have hnx : Hid (wit wn now (xs.take (k + 1)) = wit wn now (xs.take k)) := Lib.hid (by rw [hsc.out]; simp [inW, h1])
        clear hy
        gi_wp2
        refine ⟨fun _ h => (by cases h), ?_⟩
        gi_wp2
        exact ⟨⟨k + 1, by omega, by first | rfl | go_num, by rw [hnx.out]; exact hj, hso⟩, by simp [intOf]; omega⟩
    · obtain rfl : k = n := by omega
      rw [List.take_of_length_le (by omega)] at hj
      gi_wp2
      go_end0
      exact ⟨⟨_, rfl⟩, .inl ⟨_, rfl, hj⟩⟩
end Go.Proofs.Ythlninijnbmjfaa
