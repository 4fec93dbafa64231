/- Clocks: what they say. Conditions: the times are from 0 to MaxTime. -/
import Derived.Test.YtbamgoocgmhohaaK4
import Derived.Deep.OwnRows
namespace Go.Proofs.Ytbamgoocgmhohaa
open Go.RowKit

/-- The cells of a list of numbers. -/
def ints (xs : List Int) : Array Value := (xs.map (Value.int .i64)).toArray
theorem ints_cell {w : World} {T : Nat} {t : TypeId} {xs : List Int} (h : Blk w T t (ints xs)) (k : Nat) (hk : k < xs.length) : w.cell? ⟨T, k, none⟩ = some (.int .i64 xs[k]) :=
  (h.cell k).trans (by simp [ints, hk])
theorem ints_set (xs : List Int) (k : Nat) (y : Int) : (ints xs).setIfInBounds k (.int .i64 y) = ints (xs.set k y) := by
  simp [ints, List.map_set]
/-- Only blocks P and T have been written, of those that were there. -/
def Keeps (P T : Nat) (w w' : World) : Prop := (∀ B, B ≤ P → B ≤ T → B ≤ w.heap.size → Below B w w') ∧ ∀ g t cs, g ≠ P → g ≠ T → Blk w g t cs → Blk w' g t cs
theorem Keeps.refl (P T : Nat) (w : World) : Keeps P T w w := ⟨fun B _ _ _ => Below.refl B w, fun _ _ _ _ _ h => h⟩
theorem Keeps.trans {P T : Nat} {w w1 w2 : World} (h : Keeps P T w w1) (h' : Keeps P T w1 w2) : Keeps P T w w2 := ⟨fun B a b c => (h.1 B a b c).trans (h'.1 B a b (Nat.le_trans c (h.1 B a b c).size)), fun g t cs a b c => h'.2 g t cs a b (h.2 g t cs a b c)⟩
theorem Keeps.of {P T : Nat} {w w' : World} (h : Below w.heap.size w w') : Keeps P T w w' := ⟨fun _ _ _ c => h.mono c, fun _ _ _ _ _ hB => hB.past h⟩
theorem Keeps.setP {P T : Nat} {w : World} (i : Nat) (v : Value) : Keeps P T w (w.setCell ⟨P, i, none⟩ v) := ⟨fun B h _ _ => (Below.refl B w).setCell h v, fun _ _ _ h _ hB => hB.far h v⟩
theorem Keeps.setT {P T : Nat} {w : World} (i : Nat) (v : Value) : Keeps P T w (w.setCell ⟨T, i, none⟩ v) := ⟨fun B _ h _ => (Below.refl B w).setCell h v, fun _ _ _ _ h hB => hB.far h v⟩
theorem Keeps.below {P T : Nat} {w0 w w' : World} (h : Keeps P T w w') (hb : Below w0.heap.size w0 w) (hP : w0.heap.size ≤ P) (hT : w0.heap.size ≤ T) : Below w0.heap.size w0 w' := hb.trans (h.1 _ hP hT hb.size)

def mx (x : Int) (l : List Int) : Int := l.foldl max x
def mn (x : Int) (l : List Int) : Int := l.foldl min x
theorem mx_snoc (x : Int) (l : List Int) (k : Nat) (h : k < l.length) : mx x (l.take (k + 1)) = max (mx x (l.take k)) l[k] := by
  unfold mx
  rw [List.take_succ_eq_append_getElem h, List.foldl_append]; rfl
theorem mn_snoc (x : Int) (l : List Int) (k : Nat) (h : k < l.length) : mn x (l.take (k + 1)) = min (mn x (l.take k)) l[k] := by
  unfold mn
  rw [List.take_succ_eq_append_getElem h, List.foldl_append]; rfl
theorem mx_one (l : List Int) (h : 0 < l.length) : mx l[0] (l.take 1) = l[0] := by
  rw [mx_snoc _ _ 0 h]; simp [mx]
theorem mn_one (l : List Int) (h : 0 < l.length) : mn l[0] (l.take 1) = l[0] := by
  rw [mn_snoc _ _ 0 h]; simp [mn]
set_option maxHeartbeats 1000000 in
theorem go_Max (T cp n : Nat) (xs : List Int) (w : World) (hn : xs.length = n) (h : Blk w T 2 (ints xs)) (h0 : 0 < xs.length) (hl : xs.length ≤ 1000) :
    Calls Try.prog 60 #[.slice (some ⟨T, 0, none⟩) n cp] w fun e w' => e = .returned (.int .i64 (mx xs[0] xs)) ∧ w = w' := by
  subst hn
  have HC : Hid (∀ k (hk : k < xs.length), w.cell? ⟨T, k, none⟩ = some (.int .i64 xs[k])) := Lib.hid (ints_cell h)
  have hc0 := ints_cell h 0 h0
  have hb := h.lt
  have hS := Lib.hid (mx_snoc xs[0] xs)
  have h1 := Lib.hid (mx_one xs h0)
  clear h
  generalize xs[0] = x0 at *
  go_enter Try.func60, Try.ntmps60
  go_wp2_with fail
  go_loop [3, 4] (fun m i => ∃ k : Nat, 1 ≤ k ∧ k ≤ xs.length ∧ i = .int .i64 k ∧ m = .int .i64 (mx x0 (xs.take k))) (fun _ i => xs.length - (intOf i).toNat)
  case atStart => exact ⟨1, Nat.le_refl _, h0, rfl, by rw [h1.out]⟩
  case round =>
    obtain ⟨k, hk1, hk, rfl, rfl⟩ := hrel
    by_cases hlt : k < xs.length
    · have hcell := HC.out k hlt
      have hsn := Lib.hid (hS.out k hlt)
      clear hS
      generalize xs[k] = x at *
      generalize mx x0 (xs.take k) = q at *
      obtain ⟨m, hm⟩ : ∃ m, m = max q x := ⟨_, rfl⟩
      have kq : ∀ ats ty, Builtin.max_ ats ty #[.int .i64 q, .int .i64 x] = pure (.int .i64 m) := fun ats ty => by rw [kmax_two, kmax2, hm]; rfl
      rw [← hm] at hsn
      clear hm
      go_wp2
      go_round
      case rel => exact ⟨k + 1, by omega, by omega, by go_num, by rw [hsn.out]⟩
      case measure => simp [intOf]; omega
    · obtain rfl : k = xs.length := by omega
      have ht : Hid (mx x0 (xs.take xs.length) = mx x0 xs) := Lib.hid (by rw [List.take_length])
      clear hS
      generalize mx x0 (xs.take xs.length) = q at *
      go_wp2
      go_ret
      exact ⟨by rw [ht.out]; rfl, rfl⟩
set_option maxHeartbeats 1000000 in
theorem go_Min (T cp n : Nat) (xs : List Int) (w : World) (hn : xs.length = n) (h : Blk w T 2 (ints xs)) (h0 : 0 < xs.length) (hl : xs.length ≤ 1000) :
    Calls Try.prog 61 #[.slice (some ⟨T, 0, none⟩) n cp] w fun e w' => e = .returned (.int .i64 (mn xs[0] xs)) ∧ w = w' := by
  subst hn
  have HC : Hid (∀ k (hk : k < xs.length), w.cell? ⟨T, k, none⟩ = some (.int .i64 xs[k])) := Lib.hid (ints_cell h)
  have hc0 := ints_cell h 0 h0
  have hb := h.lt
  have hS := Lib.hid (mn_snoc xs[0] xs)
  have h1 := Lib.hid (mn_one xs h0)
  clear h
  generalize xs[0] = x0 at *
  go_enter Try.func61, Try.ntmps61
  go_wp2_with fail
  go_loop [3, 4] (fun m i => ∃ k : Nat, 1 ≤ k ∧ k ≤ xs.length ∧ i = .int .i64 k ∧ m = .int .i64 (mn x0 (xs.take k))) (fun _ i => xs.length - (intOf i).toNat)
  case atStart => exact ⟨1, Nat.le_refl _, h0, rfl, by rw [h1.out]⟩
  case round =>
    obtain ⟨k, hk1, hk, rfl, rfl⟩ := hrel
    by_cases hlt : k < xs.length
    · have hcell := HC.out k hlt
      have hsn := Lib.hid (hS.out k hlt)
      clear hS
      generalize xs[k] = x at *
      generalize mn x0 (xs.take k) = q at *
      obtain ⟨m, hm⟩ : ∃ m, m = min q x := ⟨_, rfl⟩
      have kq : ∀ ats ty, Builtin.min_ ats ty #[.int .i64 q, .int .i64 x] = pure (.int .i64 m) := fun ats ty => by rw [kmin_two, kmin2, hm]; rfl
      rw [← hm] at hsn
      clear hm
      go_wp2
      go_round
      case rel => exact ⟨k + 1, by omega, by omega, by go_num, by rw [hsn.out]⟩
      case measure => simp [intOf]; omega
    · obtain rfl : k = xs.length := by omega
      have ht : Hid (mn x0 (xs.take xs.length) = mn x0 xs) := Lib.hid (by rw [List.take_length])
      clear hS
      generalize mn x0 (xs.take xs.length) = q at *
      go_wp2
      go_ret
      exact ⟨by rw [ht.out]; rfl, rfl⟩
/-- Clocks as they lie. -/
def Clk (w : World) (P T : Nat) (xs : List Int) (bound : Int) (far : Bool) : Prop := Blk w P 90 #[.slice (some ⟨T, 0, none⟩) xs.length xs.length, .int .i64 bound, .bool far] ∧ Blk w T 2 (ints xs)
theorem Clk.past {w w' : World} {P T : Nat} {xs : List Int} {bound : Int} {far : Bool} (h : Clk w P T xs bound far) (hb : Below w.heap.size w w') : Clk w' P T xs bound far := ⟨h.1.past hb, h.2.past hb⟩
theorem Clk.keeps {w w' : World} {P T P' T' : Nat} {xs : List Int} {bound : Int} {far : Bool} (h : Clk w P T xs bound far) (hk : Keeps P' T' w w') (h1 : P ≠ P') (h2 : P ≠ T') (h3 : T ≠ P') (h4 : T ≠ T') : Clk w' P T xs bound far := ⟨hk.2 _ _ _ h1 h2 h.1, hk.2 _ _ _ h3 h4 h.2⟩
/-- All times are from 0 to MaxTime. -/
def Times (xs : List Int) : Prop := (0 < xs.length ∧ xs.length ≤ 128) ∧ ∀ x ∈ xs, 0 ≤ x ∧ x ≤ 17592186044416
theorem mx_bd (x : Int) (l : List Int) (a b : Int) (hx : a ≤ x ∧ x ≤ b) (h : ∀ y ∈ l, a ≤ y ∧ y ≤ b) : a ≤ mx x l ∧ mx x l ≤ b := by
  unfold mx
  induction l generalizing x with
  | nil => exact hx
  | cons y l ih =>
    have hy := h y (List.mem_cons_self ..)
    exact ih (max x y) (by omega) (fun z hz => h z (List.mem_cons_of_mem _ hz))
theorem mn_bd (x : Int) (l : List Int) (a b : Int) (hx : a ≤ x ∧ x ≤ b) (h : ∀ y ∈ l, a ≤ y ∧ y ≤ b) : a ≤ mn x l ∧ mn x l ≤ b := by
  unfold mn
  induction l generalizing x with
  | nil => exact hx
  | cons y l ih =>
    have hy := h y (List.mem_cons_self ..)
    exact ih (min x y) (by omega) (fun z hz => h z (List.mem_cons_of_mem _ hz))
/-- How far apart times are. -/
def apartL (xs : List Int) : Int := mx (xs.headD 0) xs - mn (xs.headD 0) xs
theorem headD_eq (xs : List Int) (h : 0 < xs.length) : xs.headD 0 = xs[0] := by cases xs with | nil => simp at h | cons => rfl
set_option maxHeartbeats 1000000 in
theorem tk_of_Max (P T : Nat) (xs : List Int) (bound : Int) (far : Bool) (w : World) (h : Clk w P T xs bound far) (hx : Times xs) :
    Calls Try.prog 59 #[.pointer (some ⟨P, 0, none⟩), .func (.func 60) #[] #[]] w fun e w' => e = .returned (.int .i64 (mx (xs.headD 0) xs)) ∧ w = w' := by
  obtain ⟨h1, h2⟩ := h
  obtain ⟨⟨hx0, hx1⟩, hx2⟩ := hx
  have C := Lib.hid (go_Max T xs.length xs.length xs w rfl h2 hx0 (by omega))
  rw [← headD_eq xs hx0] at C
  obtain ⟨Pc, Pf, Pl⟩ := h1.facts
  clear h1 h2 hx2
  go_enter Try.func59, Try.ntmps59
  go_wp2_with fail
  refine (C.out).mono ?_
  rintro r w1 ⟨rfl, rfl⟩; dsimp only
  go_wp2_with fail
  go_ret
  exact ⟨rfl, rfl⟩
set_option maxHeartbeats 1000000 in
theorem tk_of_Min (P T : Nat) (xs : List Int) (bound : Int) (far : Bool) (w : World) (h : Clk w P T xs bound far) (hx : Times xs) :
    Calls Try.prog 59 #[.pointer (some ⟨P, 0, none⟩), .func (.func 61) #[] #[]] w fun e w' => e = .returned (.int .i64 (mn (xs.headD 0) xs)) ∧ w = w' := by
  obtain ⟨h1, h2⟩ := h
  obtain ⟨⟨hx0, hx1⟩, hx2⟩ := hx
  have C := Lib.hid (go_Min T xs.length xs.length xs w rfl h2 hx0 (by omega))
  rw [← headD_eq xs hx0] at C
  obtain ⟨Pc, Pf, Pl⟩ := h1.facts
  clear h1 h2 hx2
  go_enter Try.func59, Try.ntmps59
  go_wp2_with fail
  refine (C.out).mono ?_
  rintro r w1 ⟨rfl, rfl⟩; dsimp only
  go_wp2_with fail
  go_ret
  exact ⟨rfl, rfl⟩
theorem apart_bd {xs : List Int} (hx : Times xs) : (0 ≤ mx (xs.headD 0) xs ∧ mx (xs.headD 0) xs ≤ 17592186044416) ∧ 0 ≤ mn (xs.headD 0) xs ∧ mn (xs.headD 0) xs ≤ 17592186044416 := by
  obtain ⟨⟨hx0, hx1⟩, hx2⟩ := hx
  have h := hx2 xs[0] (List.getElem_mem hx0)
  rw [headD_eq xs hx0]
  exact ⟨mx_bd _ _ _ _ h hx2, mn_bd _ _ _ _ h hx2⟩
set_option maxHeartbeats 1000000 in
theorem tk_Apart (P T : Nat) (xs : List Int) (bound : Int) (far : Bool) (w : World) (h : Clk w P T xs bound far) (hx : Times xs) :
    Calls Try.prog 32 #[.pointer (some ⟨P, 0, none⟩)] w fun e w' => e = .returned (.int .i64 (apartL xs)) ∧ w = w' := by
  have C1 := Lib.hid (tk_of_Max P T xs bound far w h hx)
  have C2 := Lib.hid (tk_of_Min P T xs bound far w h hx)
  have hbd := apart_bd hx
  unfold apartL
  generalize mx (xs.headD 0) xs = a at *
  generalize mn (xs.headD 0) xs = b at *
  clear h hx
  go_enter Try.func32, Try.ntmps32
  go_wp2_with fail
  refine (C1.out).mono ?_
  rintro r w1 ⟨rfl, rfl⟩; dsimp only
  go_wp2_with fail
  refine (C2.out).mono ?_
  rintro r w1 ⟨rfl, rfl⟩; dsimp only
  go_wp2_with fail
  go_ret
  exact ⟨by go_num, rfl⟩
set_option maxHeartbeats 1000000 in
theorem tk_Within (P T : Nat) (xs : List Int) (bound : Int) (far : Bool) (w : World) (h : Clk w P T xs bound far) :
    Calls Try.prog 34 #[.pointer (some ⟨P, 0, none⟩)] w fun e w' => e = .returned (.bool (!far)) ∧ w = w' := by
  obtain ⟨Pc, Pf, Pl⟩ := h.1.facts
  clear h
  go_enter Try.func34, Try.ntmps34
  go_wp2_with fail
  go_ret
  exact ⟨rfl, rfl⟩
set_option maxHeartbeats 1000000 in
theorem tk_Len (P T : Nat) (xs : List Int) (bound : Int) (far : Bool) (w : World) (h : Clk w P T xs bound far) :
    Calls Try.prog 29 #[.pointer (some ⟨P, 0, none⟩)] w fun e w' => e = .returned (.int .i64 xs.length) ∧ w = w' := by
  obtain ⟨Pc, Pf, Pl⟩ := h.1.facts
  clear h
  go_enter Try.func29, Try.ntmps29
  go_wp2_with fail
  go_ret
  exact ⟨rfl, rfl⟩
set_option maxHeartbeats 1000000 in
theorem tk_At_bad (P T : Nat) (xs : List Int) (bound : Int) (far : Bool) (k : Int) (w : World) (h : Clk w P T xs bound far) (hk : k < 0 ∨ xs.length ≤ k) :
    Calls Try.prog 35 #[.pointer (some ⟨P, 0, none⟩), .int .i64 k] w fun e w' => e = .returned (.tuple #[.int .i64 0, .int .i64 5]) ∧ w = w' := by
  obtain ⟨Pc, Pf, Pl⟩ := h.1.facts
  clear h
  go_enter Try.func35, Try.ntmps35
  go_wp2
  all_goals
    refine bodyPost_ret (v := .tuple #[.int .i64 0, .int .i64 5]) (by simp [results, Try.results35, go_sem]) rfl ?_
    exact ⟨rfl, rfl⟩
set_option maxHeartbeats 1000000 in
theorem tk_At (P T : Nat) (xs : List Int) (bound : Int) (far : Bool) (k : Nat) (hk : k < xs.length) (hx : Times xs) (w : World) (h : Clk w P T xs bound far) :
    Calls Try.prog 35 #[.pointer (some ⟨P, 0, none⟩), .int .i64 k] w fun e w' => e = .returned (.tuple #[.int .i64 xs[k], .int .i64 0]) ∧ w = w' := by
  obtain ⟨Pc, Pf, Pl⟩ := h.1.facts
  have hc := ints_cell h.2 k hk
  have hl := h.2.lt
  have hn := hx.1.2
  clear h hx
  generalize xs[k] = x at *
  go_enter Try.func35, Try.ntmps35
  go_wp2
  refine bodyPost_ret (v := .tuple #[.int .i64 x, .int .i64 0]) (by simp [results, Try.results35, go_sem]) rfl ?_
  exact ⟨rfl, rfl⟩
end Go.Proofs.Ytbamgoocgmhohaa
