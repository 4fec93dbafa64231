/- Clocks: new ones, and one that goes on. Conditions: the times are from 0 to MaxTime. -/
import Derived.Test.YtbamgoocgmhohaaTick1
import Derived.Laws.EntriesVeiled
namespace Go.Proofs.Ytbamgoocgmhohaa
open Go.RowKit

def tickE (xs : List Int) (node by_ : Int) : Int :=
  if node < 0 ∨ (xs.length : Int) ≤ node then 5 else if by_ < 0 ∨ 17592186044416 < by_ then 2 else if 17592186044416 < xs.getD node.toNat 0 + by_ then 9 else 0
def tickL (xs : List Int) (node by_ : Int) : List Int := if tickE xs node by_ = 0 then xs.set node.toNat (xs.getD node.toNat 0 + by_) else xs
def tickF (xs : List Int) (node by_ bound : Int) (far : Bool) : Bool := if tickE xs node by_ = 0 then far || decide (bound < apartL (tickL xs node by_)) else far
set_option maxHeartbeats 1000000 in
theorem tk_Tick1 (B P T : Nat) (xs : List Int) (bound : Int) (far : Bool) (w : World) (hB : Blk w B 49 #[.pointer (some ⟨P, 0, none⟩)]) (h : Clk w P T xs bound far) (hx : Times xs) :
    Calls Try.prog 58 #[.pointer (some ⟨B, 0, none⟩)] w fun e w' => e = .returned (.bool (decide (bound < apartL xs))) ∧ Below w.heap.size w w' := by
  have C : Hid (∀ x : Beyond w, Calls Try.prog 32 #[.pointer (some ⟨P, 0, none⟩)] (extn w x) fun e w' => e = .returned (.int .i64 (apartL xs)) ∧ Below (extn w x).heap.size (extn w x) w') := Lib.hid (fun x => by
    refine (tk_Apart P T xs bound far (extn w x) (h.past (extn_below _ x)) hx).mono ?_
    rintro r w' ⟨hr, rfl⟩
    exact ⟨hr, below_self _⟩)
  generalize apartL xs = z at *
  obtain ⟨Bc, Bf, Bl⟩ := hB.facts
  obtain ⟨Pc, Pf, Pl⟩ := h.1.facts
  clear h hx hB
  go_enter Try.func58, Try.ntmps58
  go_wp2_with fail
  refine wp_region_ext (by kernel_rfl) (by kernel_rfl) ?_
  repeat (go_big_quiet_step ((go_at_call 32; exact ext_of (C.out _))))
  refine wpQuiet_nil ?_
  intro w1 hx
  obtain ⟨x, rfl⟩ := hx
  go_wp2_with fail
  go_ret
  exact ⟨rfl, extn_below _ x⟩
set_option maxHeartbeats 1000000 in
theorem tk_Tick_none (P T : Nat) (xs : List Int) (bound : Int) (far : Bool) (k y : Int) (w : World) (h : Clk w P T xs bound far) (hk : k < 0 ∨ xs.length ≤ k) :
    Calls Try.prog 30 #[.pointer (some ⟨P, 0, none⟩), .int .i64 k, .int .i64 y] w fun e w' => e = .returned (.int .i64 5) ∧ Below w.heap.size w w' := by
  obtain ⟨Pc, Pf, Pl⟩ := h.1.facts
  clear h
  go_enter Try.func30, Try.ntmps30
  go_wp2
  all_goals
    go_ret
    exact ⟨rfl, by go_grown⟩
set_option maxHeartbeats 1000000 in
theorem tk_Tick_arg (P T : Nat) (xs : List Int) (bound : Int) (far : Bool) (k y : Int) (w : World) (h : Clk w P T xs bound far) (hk : ¬ k < 0) (hk1 : ¬ xs.length ≤ k) (hy : y < 0 ∨ 17592186044416 < y) :
    Calls Try.prog 30 #[.pointer (some ⟨P, 0, none⟩), .int .i64 k, .int .i64 y] w fun e w' => e = .returned (.int .i64 2) ∧ Below w.heap.size w w' := by
  obtain ⟨Pc, Pf, Pl⟩ := h.1.facts
  clear h
  go_enter Try.func30, Try.ntmps30
  go_wp2
  all_goals
    go_ret
    exact ⟨rfl, by go_grown⟩
set_option maxHeartbeats 1000000 in
theorem tk_Tick_over (P T : Nat) (xs : List Int) (bound : Int) (far : Bool) (k : Nat) (y : Int) (w : World) (h : Clk w P T xs bound far) (hk : k < xs.length) (hx : Times xs) (hy : 0 ≤ y) (hy1 : y ≤ 17592186044416) (hz : 17592186044416 < xs[k] + y) :
    Calls Try.prog 30 #[.pointer (some ⟨P, 0, none⟩), .int .i64 k, .int .i64 y] w fun e w' => e = .returned (.int .i64 9) ∧ Below w.heap.size w w' := by
  have hc := ints_cell h.2 k hk
  have hxk := hx.2 xs[k] (List.getElem_mem hk)
  have hl := hx.1.2
  obtain ⟨Pc, Pf, Pl⟩ := h.1.facts
  have Tl := h.2.lt
  clear h hx
  generalize xs[k] = x at *
  go_enter Try.func30, Try.ntmps30
  go_wp2
  all_goals
    go_ret
    exact ⟨rfl, by go_grown⟩
set_option maxHeartbeats 1000000 in
theorem tk_Tick_ok (P T : Nat) (xs : List Int) (bound : Int) (far : Bool) (k : Nat) (y : Int) (w : World) (h : Clk w P T xs bound far) (hPT : P ≠ T) (hk : k < xs.length) (hx : Times xs) (hy : 0 ≤ y) (hy1 : y ≤ 17592186044416) (hz : xs[k] + y ≤ 17592186044416) (hx' : Times (xs.set k (xs[k] + y))) :
    Calls Try.prog 30 #[.pointer (some ⟨P, 0, none⟩), .int .i64 k, .int .i64 y] w fun e w' => e = .returned (.int .i64 0) ∧ Clk w' P T (xs.set k (xs[k] + y)) bound (far || decide (bound < apartL (xs.set k (xs[k] + y)))) ∧ Keeps P T w w' := by
  have hc := ints_cell h.2 k hk
  have hxk := hx.2 xs[k] (List.getElem_mem hk)
  have hl := hx.1.2
  obtain ⟨Pc, Pf, Pl⟩ := h.1.facts
  have Tl := h.2.lt
  have Tf := h.2.frozen
  have HX := Lib.hid hx'
  have H := Lib.hid h
  clear h hx hx'
  generalize hv : xs[k] = x at *
  go_enter Try.func30, Try.ntmps30
  go_wp2_with fail
  have hP := (H.out.1.far (p := ⟨T, k, none⟩) hPT (.int .i64 (x + y))).alloc (.cells #[.pointer (some ⟨P, 0, none⟩)] 49)
  have hT := (H.out.2.put k (.int .i64 (x + y)) (ints_set xs k (x + y))).alloc (.cells #[.pointer (some ⟨P, 0, none⟩)] 49)
  have hB := Blk.new (w.setCell ⟨T, k, none⟩ (.int .i64 (x + y))) 49 #[.pointer (some ⟨P, 0, none⟩)]
  rw [World.size_setCell] at hB
  have hK : Keeps P T w ((w.setCell ⟨T, k, none⟩ (.int .i64 (x + y))).alloc (.cells #[.pointer (some ⟨P, 0, none⟩)] 49)) := (Keeps.setT k _).trans (Keeps.of (by go_grown))
  obtain ⟨W, hW⟩ : ∃ W, W = ((w.setCell ⟨T, k, none⟩ (.int .i64 (x + y))).alloc (.cells #[.pointer (some ⟨P, 0, none⟩)] 49)) := ⟨_, rfl⟩
  rw [← hW] at hP hT hB hK ⊢
  clear hW Pc Pf Pl Tl Tf hc H
  have hCk : Clk W P T (xs.set k (x + y)) bound far := ⟨by rw [List.length_set]; exact hP, hT⟩
  have C : Hid (∀ X : Beyond W, Calls Try.prog 58 #[.pointer (some ⟨w.heap.size, 0, none⟩)] (extn W X) fun e w' => e = .returned (.bool (decide (bound < apartL (xs.set k (x + y))))) ∧ Below (extn W X).heap.size (extn W X) w') :=
    Lib.hid (fun X => tk_Tick1 _ P T _ bound far _ (hB.past (extn_below _ X)) (hCk.past (extn_below _ X)) HX.out)
  obtain ⟨Pc, Pf, Pl⟩ := hP.facts
  obtain ⟨Bc, Bf, Bl⟩ := hB.facts
  generalize hL : xs.set k (x + y) = L at *
  have hn : xs.length = L.length := by rw [← hL, List.length_set]
  have HN := Lib.hid hn
  have HL := Lib.hid hL
  clear hn hL hT HX
  have HK := Lib.hid hCk
  clear hCk
  obtain ⟨z, hzz⟩ : ∃ z, apartL L = z := ⟨_, rfl⟩
  rw [hzz] at C
  have HZ := Lib.hid hzz
  clear hzz
  cases far with
  | true =>
    refine wp_region_ext_tail 11 (by kernel_rfl) (by kernel_rfl) ?_
    simp only [List.take_succ_cons, List.take_zero, List.drop_succ_cons, List.drop_zero]
    repeat (go_big_quiet_step ((go_at_call 58; exact ext_of (C.out _))))
    refine wpQuiet_nil ?_
    intro w1 hx
    obtain ⟨X, rfl⟩ := hx
    go_wp2_with fail
    go_ret
    rw [HL.out, HZ.out]
    refine ⟨rfl, ⟨?_, ?_⟩, ?_⟩
    · exact (HK.out.1.past (extn_below _ X)).put 2 _ rfl
    · exact (HK.out.2.past (extn_below _ X)).far (p := ⟨P, 2, none⟩) hPT.symm _
    · exact hK.trans ((Keeps.of (extn_below _ X)).trans (Keeps.setP 2 _))
  | false =>
    refine wp_region_ext_tail 11 (by kernel_rfl) (by kernel_rfl) ?_
    simp only [List.take_succ_cons, List.take_zero, List.drop_succ_cons, List.drop_zero]
    repeat (go_big_quiet_step ((go_at_call 58; exact ext_of (C.out _))))
    refine wpQuiet_nil ?_
    intro w1 hx
    obtain ⟨X, rfl⟩ := hx
    go_wp2_with fail
    go_ret
    rw [HL.out, HZ.out]
    refine ⟨rfl, ⟨?_, ?_⟩, ?_⟩
    · exact (HK.out.1.past (extn_below _ X)).put 2 _ rfl
    · exact (HK.out.2.past (extn_below _ X)).far (p := ⟨P, 2, none⟩) hPT.symm _
    · exact hK.trans ((Keeps.of (extn_below _ X)).trans (Keeps.setP 2 _))
theorem times_set {xs : List Int} (hx : Times xs) (k : Nat) (y : Int) (h0 : 0 ≤ y) (h1 : y ≤ 17592186044416) : Times (xs.set k y) := by
  refine ⟨by rw [List.length_set]; exact hx.1, fun x h => ?_⟩
  rcases List.mem_or_eq_of_mem_set h with h | rfl
  · exact hx.2 x h
  · exact ⟨h0, h1⟩
theorem tick_cases (xs : List Int) (node y : Int) (hx : Times xs) :
    ((node < 0 ∨ (xs.length : Int) ≤ node) ∧ tickE xs node y = 5) ∨ ((¬ node < 0 ∧ ¬ (xs.length : Int) ≤ node) ∧ (y < 0 ∨ 17592186044416 < y) ∧ tickE xs node y = 2) ∨
    ∃ (k : Nat) (hk : k < xs.length), node = k ∧ 0 ≤ y ∧ y ≤ 17592186044416 ∧ ((17592186044416 < xs[k] + y ∧ tickE xs node y = 9) ∨ (xs[k] + y ≤ 17592186044416 ∧ tickE xs node y = 0 ∧ tickL xs node y = xs.set k (xs[k] + y) ∧ Times (xs.set k (xs[k] + y)))) := by
  by_cases h1 : node < 0 ∨ (xs.length : Int) ≤ node
  · exact .inl ⟨h1, by unfold tickE; rw [if_pos h1]⟩
  by_cases h2 : y < 0 ∨ 17592186044416 < y
  · exact .inr (.inl ⟨⟨by omega, by omega⟩, h2, by unfold tickE; rw [if_neg h1, if_pos h2]⟩)
  refine .inr (.inr ⟨node.toNat, by omega, by omega, by omega, by omega, ?_⟩)
  have hk : node.toNat < xs.length := by omega
  have hg : xs.getD node.toNat 0 = xs[node.toNat] := by simp [hk]
  have hx0 := (hx.2 _ (List.getElem_mem hk)).1
  by_cases h3 : 17592186044416 < xs[node.toNat] + y
  · exact .inl ⟨h3, by unfold tickE; rw [if_neg h1, if_neg h2, hg, if_pos h3]⟩
  · have he : tickE xs node y = 0 := by unfold tickE; rw [if_neg h1, if_neg h2, hg, if_neg h3]
    exact .inr ⟨by omega, he, by unfold tickL; rw [if_pos he, hg], times_set hx _ _ (by omega) (by omega)⟩
theorem tick_times {xs : List Int} (node y : Int) (hx : Times xs) : Times (tickL xs node y) := by
  rcases tick_cases xs node y hx with ⟨_, he⟩ | ⟨_, _, he⟩ | ⟨k, hk, _, _, _, ⟨_, he⟩ | ⟨_, he, hl, ht⟩⟩
  · unfold tickL; rw [he, if_neg (by decide)]; exact hx
  · unfold tickL; rw [he, if_neg (by decide)]; exact hx
  · unfold tickL; rw [he, if_neg (by decide)]; exact hx
  · rw [hl]; exact ht
theorem tick_len (xs : List Int) (node y : Int) : (tickL xs node y).length = xs.length := by
  unfold tickL; split <;> simp
theorem tk_Tick (P T : Nat) (xs : List Int) (bound : Int) (far : Bool) (node y : Int) (w : World) (h : Clk w P T xs bound far) (hPT : P ≠ T) (hx : Times xs) :
    Calls Try.prog 30 #[.pointer (some ⟨P, 0, none⟩), .int .i64 node, .int .i64 y] w fun e w' => e = .returned (.int .i64 (tickE xs node y)) ∧ Clk w' P T (tickL xs node y) bound (tickF xs node y bound far) ∧ Keeps P T w w' := by
  rcases tick_cases xs node y hx with ⟨h1, he⟩ | ⟨h1, h2, he⟩ | ⟨k, hk, rfl, hy, hy1, ⟨hz, he⟩ | ⟨hz, he, hl, ht⟩⟩
  · have hL : tickL xs node y = xs := by unfold tickL; rw [he, if_neg (by decide)]
    have hF : tickF xs node y bound far = far := by unfold tickF; rw [he, if_neg (by decide)]
    rw [he, hL, hF]
    refine (tk_Tick_none P T xs bound far node y w h h1).mono ?_
    rintro r w' ⟨hr, hb⟩
    exact ⟨hr, h.past hb, Keeps.of hb⟩
  · have hL : tickL xs node y = xs := by unfold tickL; rw [he, if_neg (by decide)]
    have hF : tickF xs node y bound far = far := by unfold tickF; rw [he, if_neg (by decide)]
    rw [he, hL, hF]
    refine (tk_Tick_arg P T xs bound far node y w h h1.1 h1.2 h2).mono ?_
    rintro r w' ⟨hr, hb⟩
    exact ⟨hr, h.past hb, Keeps.of hb⟩
  · have hL : tickL xs k y = xs := by unfold tickL; rw [he, if_neg (by decide)]
    have hF : tickF xs k y bound far = far := by unfold tickF; rw [he, if_neg (by decide)]
    rw [he, hL, hF]
    refine (tk_Tick_over P T xs bound far k y w h hk hx hy hy1 hz).mono ?_
    rintro r w' ⟨hr, hb⟩
    exact ⟨hr, h.past hb, Keeps.of hb⟩
  · have hF : tickF xs k y bound far = (far || decide (bound < apartL (xs.set k (xs[k] + y)))) := by unfold tickF; rw [he, if_pos rfl, hl]
    rw [he, hl, hF]
    exact tk_Tick_ok P T xs bound far k y w h hPT hk hx hy hy1 hz ht
/-- What new clocks may be. -/
def mayT (n bound : Int) : Bool := decide (1 ≤ n) && (decide (n ≤ 128) && (decide (0 ≤ bound) && decide (bound ≤ 17592186044416)))
theorem ints_made (n : Nat) : madeCells #[.int .i64 0] n = ints (List.replicate n 0) := by
  apply Array.ext
  · simp [madeCells, ints]
  · intro i h1 h2
    simp [madeCells, ints, Nat.mod_one]
set_option maxHeartbeats 1000000 in
theorem tk_New_bad (n bound : Int) (w : World) (h : mayT n bound = false) :
    Calls Try.prog 27 #[.int .i64 n, .int .i64 bound] w fun e w' => e = .returned (.tuple #[.pointer none, .int .i64 2]) ∧ Below w.heap.size w w' := by
  have h' : n < 1 ∨ 128 < n ∨ bound < 0 ∨ 17592186044416 < bound := by
    simp only [mayT, Bool.and_eq_false_iff, decide_eq_false_iff_not] at h
    omega
  clear h
  go_enter Try.func27, Try.ntmps27
  go_wp2
  all_goals
    refine bodyPost_ret (v := .tuple #[.pointer none, .int .i64 2]) (by simp [results, Try.results27, go_sem]) rfl ?_
    exact ⟨rfl, by go_grown⟩
set_option maxHeartbeats 1000000 in
theorem tk_New (n : Nat) (bound : Int) (w : World) (h : mayT n bound = true) :
    Calls Try.prog 27 #[.int .i64 n, .int .i64 bound] w fun e w' => ∃ P T, P ≠ T ∧ w.heap.size ≤ P ∧ w.heap.size ≤ T ∧ e = .returned (.tuple #[.pointer (some ⟨P, 0, none⟩), .int .i64 0]) ∧ Clk w' P T (List.replicate n 0) bound false ∧ Below w.heap.size w w' := by
  have h' : 1 ≤ n ∧ n ≤ 128 ∧ 0 ≤ bound ∧ bound ≤ 17592186044416 := by
    simp only [mayT, Bool.and_eq_true, decide_eq_true_eq] at h
    omega
  obtain ⟨h1, h2, h3, h4⟩ := h'
  clear h
  have mk : ∀ W : World, (Instr.makeSlice 55 (.int .i64 n) (.int .i64 n)).run Try.prog W = .ok (.slice (some ⟨W.heap.size, 0, none⟩) n n) (W.alloc (.cells (ints (List.replicate n 0)) 2)) := by
    intro W
    rw [← ints_made]
    exact run_make_row' 55 2 (.int .i64 0) 8 Try.underlying55 (by kernel_rfl) rfl .i64 .i64 n (by omega) (by omega) W
  go_enter Try.func27, Try.ntmps27
  go_wp2
  refine bodyPost_ret (v := .tuple #[.pointer (some ⟨w.heap.size + 1, 0, none⟩), .int .i64 0]) (by simp [results, Try.results27, go_sem]) rfl ?_
  refine ⟨w.heap.size + 1, w.heap.size, by omega, by omega, by omega, rfl, ⟨?_, ?_⟩, by go_grown⟩
  · rw [List.length_replicate]; exact Blk.new1 _ _ _ _
  · exact (Blk.new _ _ _).alloc _
end Go.Proofs.Ytbamgoocgmhohaa
