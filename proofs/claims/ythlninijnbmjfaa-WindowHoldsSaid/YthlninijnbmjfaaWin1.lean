/- Windows: lists of ticks in memory; the checks ahead, walked. Conditions: the numbers are of their kinds. -/
import Derived.Test.YthlninijnbmjfaaTWin
import Derived.Test.YthlninijnbmjfaaK14
import Derived.Test.YthlninijnbmjfaaK12
import Derived.Test.YthlninijnbmjfaaK10
namespace Go.Proofs.Ythlninijnbmjfaa
open Go.RowKit Go.Deep Go.WideShapes Go.Shelf

/-- A list of numbers in memory. -/
def IntsIn (w : World) (A : Option Addr) (xs : List Int) : Prop :=
  xs ≠ [] → ∃ b off, A = some ⟨b, off, none⟩ ∧ b < w.heap.size ∧ ∀ i (h : i < xs.length), w.cell? ⟨b, off + i, none⟩ = some (.int .i64 xs[i])
theorem Ints_open {H : Type} {enc : TypeId × Value → H} {w : World} {spare : Nat → Bool} {held : Bool} {A : Option Addr} {n c : Nat} {d : DataW H} {p : List MemPlace} (h : DataW.Trod enc Try.prog w 0 spare held 50 (.slice A n c) d p) : ∃ xs : List Int, xs.length = n ∧ (∀ x ∈ xs, I64 x) ∧ IntsIn w A xs := by
  obtain ⟨xs, hl, ho, hr⟩ := slice_rows (c := 1) (Pf := fun cs (t : Int) => cs = [.int .i64 t] ∧ I64 t) Try.underlying50 (by kernel_rfl) (by decide) (fun h => by
    obtain ⟨a, e, _, hw⟩ := DataW.trod_int Try.underlying2 h
    exact ⟨a, e, I64_of hw⟩) h
  refine ⟨xs, hl, fun x hx => by obtain ⟨cs, _, h2⟩ := ho x hx; exact h2, fun hne => ?_⟩
  obtain ⟨b, off, hA, hb, hc⟩ := hr hne
  refine ⟨b, off, hA, hb, fun i hi => ?_⟩
  obtain ⟨cs, _, ⟨rfl, _⟩, hj⟩ := hc i hi
  have := hj 0 (by decide)
  simpa using this
theorem ints_past {w w' : World} {A : Option Addr} {xs : List Int} (h : IntsIn w A xs) (hb : Below w.heap.size w w') : IntsIn w' A xs := fun hne => by
  obtain ⟨b, off, hA, hlt, hc⟩ := h hne
  exact ⟨b, off, hA, Nat.lt_of_lt_of_le hlt hb.size, fun i hi => (hb.cell hlt).trans (hc i hi)⟩
theorem ints_none {w : World} {A : Option Addr} {xs : List Int} {n : Nat} (h : IntsIn w A xs) (hl : xs.length = n) (hA : A = none) : n = 0 := by
  rcases Nat.eq_zero_or_pos n with h0 | h0
  · exact h0
  · obtain ⟨b, off, e, _⟩ := h (by intro e; rw [e] at hl; simp at hl; omega)
    rw [hA] at e
    cases e
theorem cell_pastW {w w' : World} {p : Addr} {v : Value} (hb : Below w.heap.size w w') (h : w.cell? p = some v) : w'.cell? p = some v := (hb.cell (World.block_lt_of_cell? _ _ h)).trans h
def mayBud (b : Budget) : Bool := decide (0 ≤ b.k) && (decide (b.k ≤ 64) && (decide (1 ≤ b.window) && decide (b.window ≤ 4294967296)))
set_option maxHeartbeats 1000000 in
theorem spec_May (b : Budget) (w : World) :
    Calls Try.prog 39 #[b.v] w fun e w' => e = .returned (.bool (mayBud b)) ∧ Below w.heap.size w w' := by
  obtain ⟨k, n⟩ := b
  unfold mayBud
  go_enter Try.func39, Try.ntmps39
  go_wp2
  all_goals
    go_returns
    exact ⟨by first | (simp [*]; done) | (simp [*]; intros; omega), by go_grown⟩
set_option maxHeartbeats 1000000 in
theorem ref_May16 (b : Budget) (w : World) :
    Calls Try.prog 29 #[b.v] w fun e w' => e = .returned (.bool (mayBud b)) ∧ Below w.heap.size w w' := by
  obtain ⟨k, n⟩ := b
  unfold mayBud
  go_enter Try.func29, Try.ntmps29
  go_wp2
  all_goals
    go_returns
    exact ⟨by first | (simp [*]; done) | (simp [*]; intros; omega), by go_grown⟩
def timedB (now : Int) : Bool := decide (0 ≤ now) && decide (now ≤ 4611686018427387904)
set_option maxHeartbeats 400000 in
theorem w_timed (now : Int) (w : World) : Calls Try.prog 77 #[.int .i64 now] w fun e w' => e = .returned (.bool (timedB now)) ∧ w = w' := by
  unfold timedB
  by_cases h0 : 0 ≤ now <;> by_cases h1 : now ≤ 4611686018427387904
  all_goals
    go_enter Try.func77, Try.ntmps77
    go_wp2
    go_ret
    exact ⟨by simp [*], rfl⟩
set_option maxHeartbeats 400000 in
theorem w_isNaN (x : Int) (w : World) : Calls Try.prog 98 #[.int .i64 x] w fun e w' => e = .returned (.bool false) ∧ w = w' := by
  go_enter Try.func98, Try.ntmps98
  go_wp2
  go_ret
  exact ⟨by simp, rfl⟩
set_option maxHeartbeats 400000 in
theorem w_Less (x y : Int) (w : World) : Calls Try.prog 92 #[.int .i64 x, .int .i64 y] w fun e w' => e = .returned (.bool (decide (x < y))) ∧ w = w' := by
  have c := fun w => w_isNaN x w
  go_enter Try.func92, Try.ntmps92
  go_wp2_with fail
  refine (c _).mono ?_
  rintro r w1 ⟨rfl, rfl⟩; dsimp only
  go_wp2_with fail
  go_ret
  exact ⟨rfl, rfl⟩
/-- In order? -/
def sortedB (l : List Int) : Bool := (List.range l.length).all fun i => decide (i = 0) || decide (l.getD (i - 1) 0 ≤ l.getD i 0)
theorem sortedB_yes {l : List Int} : sortedB l = true ↔ ∀ i, 0 < i → i < l.length → l.getD (i - 1) 0 ≤ l.getD i 0 := by
  simp only [sortedB, List.all_eq_true, List.mem_range, Bool.or_eq_true, decide_eq_true_eq]
  constructor
  · intro h i h0 hi
    rcases h i hi with e | e
    · omega
    · exact e
  · intro h i hi
    rcases Nat.eq_zero_or_pos i with e | e
    · exact .inl e
    · exact .inr (h i e hi)
def oddB (now t : Int) : Bool := decide (t < 0) || decide (now < t)
def inB (l : List Int) (now : Int) : Bool := l.all fun t => !oddB now t
theorem inB_yes {l : List Int} {now : Int} : inB l now = true ↔ ∀ i, i < l.length → oddB now (l.getD i 0) = false := by
  simp only [inB, List.all_eq_true, Bool.not_eq_true']
  constructor
  · intro h i hi
    rw [List.getD, List.getElem?_eq_getElem hi]
    exact h _ (List.getElem_mem hi)
  · intro h t ht
    obtain ⟨i, hi, rfl⟩ := List.getElem_of_mem ht
    have := h i hi
    rw [List.getD, List.getElem?_eq_getElem hi] at this
    exact this
theorem getD_at {l : List Int} {k : Nat} (h : k < l.length) : l.getD k 0 = l[k] := by simp [List.getD, h]
set_option maxHeartbeats 400000 in
theorem w_IsSorted (A : Option Addr) (n c : Nat) (xs : List Int) (hl : xs.length = n) (hn : n ≤ 1000000) (w : World) (hA : IntsIn w A xs) :
    Calls Try.prog 79 #[.slice A n c] w fun e w' => e = .returned (.bool (sortedB xs)) ∧ Below w.heap.size w w' := by
  have HA := Lib.hid hA
  clear hA
  have hW := Below.refl w.heap.size w
  have hwr : IntKind.i64.wrap ((n : Int) - 1) = (n : Int) - 1 := IntWalk.i64_in _ (by omega)
  go_enter Try.func79, Try.ntmps79
  go_wp2
  go_loopw [3] (fun i wr => ∃ k : Int, -1 ≤ k ∧ k < n ∧ i = .int .i64 k ∧ Hid (∀ j : Nat, k < j → 0 < j → j < xs.length → xs.getD (j - 1) 0 ≤ xs.getD j 0) ∧ Below w.heap.size w wr) (fun i _ => (intOf i + 1).toNat)
  case atStart => exact ⟨(n : Int) - 1, by omega, by omega, by first | rfl | rw [hwr], Lib.hid (by omega), hW⟩
  case round =>
    clear hW
    obtain ⟨k, hk0, hk1, rfl, hbef, hW⟩ := hrel
    by_cases hlt : 0 < k
    · obtain ⟨j, rfl⟩ : ∃ j : Nat, k = (j : Int) := ⟨k.toNat, by omega⟩
      obtain ⟨b, off, rfl, hb, hcell⟩ := HA.out (by intro e; rw [e] at hl; simp at hl; omega)
      have k0 := (hW.cell (p := ⟨b, off + j, none⟩) hb).trans (hcell j (by omega))
      have k1 := (hW.cell (p := ⟨b, off + (j - 1), none⟩) hb).trans (hcell (j - 1) (by omega))
      clear hcell
      have e0 : xs.getD j 0 = xs[j] := getD_at (by omega)
      have e1 : xs.getD (j - 1) 0 = xs[j - 1] := getD_at (by omega)
      have hj1 : ((j : Int) - 1).toNat = j - 1 := by omega
      have hw1 : IntKind.i64.wrap ((j : Int) - 1) = ((j - 1 : Nat) : Int) := by rw [IntWalk.i64_in _ (by omega)]; omega
      have hw2 : wrap64 ((j : Int) - 1) = ((j - 1 : Nat) : Int) := by unfold wrap64; omega
      have c1 := fun w => w_Less xs[j] xs[j - 1] w
      have C1 := Lib.hid c1
      clear c1
      rw [← e0, ← e1] at C1
      rw [← e0] at k0
      rw [← e1] at k1
      generalize hx : xs.getD j 0 = x at *
      generalize hy : xs.getD (j - 1) 0 = y at *
      clear e0 e1
      replace hx := Lib.hid hx
      replace hy := Lib.hid hy
      have hlt' : 0 < j := by omega
      have hj2 : j - 1 < n := by omega
      have hj3 : j < n := by omega
      go_wp2_with fail
      refine wp_region_held0 (S := fun w' => w'.cell? ⟨b, off + j, none⟩ = some (.int .i64 x) ∧ w'.cell? ⟨b, off + (j - 1), none⟩ = some (.int .i64 y)) (by kernel_rfl) ⟨k0, k1⟩ (fun hHeld => ?_)
      refine wpAnyH_take (i := 0) (v := ?_) rfl (by kernel_rfl) (by kernel_rfl) (by kernel_rfl) (fun _ _ _ h => h) (Or.inl ⟨by rfl, ?hy⟩) hHeld ?_
      case hy =>
        intro w hSw
        (try dsimp only at hSw)
        go_simp
        (try with_reducible rfl)
      try simp only [Act.put, List.getElem_toArray, List.getElem_cons_succ, List.getElem_cons_zero, List.setIfInBounds_toArray, List.set_cons_zero, List.set_cons_succ]
      refine wpAnyH_take (i := 1) (v := ?_) rfl (by kernel_rfl) (by kernel_rfl) (by kernel_rfl) (fun _ _ _ h => h) (Or.inl ⟨by rfl, ?hy⟩) hHeld ?_
      case hy =>
        intro w hSw
        (try dsimp only at hSw)
        go_simp
        (try with_reducible rfl)
      try simp only [Act.put, List.getElem_toArray, List.getElem_cons_succ, List.getElem_cons_zero, List.setIfInBounds_toArray, List.set_cons_zero, List.set_cons_succ]
      refine wpAnyH_take (i := 2) (v := ?_) rfl (by kernel_rfl) (by kernel_rfl) (by kernel_rfl) (fun _ _ _ h => h) (Or.inl ⟨by rfl, ?hy⟩) hHeld ?_
      case hy =>
        intro w hSw
        (try dsimp only at hSw)
        go_simp
        (try with_reducible rfl)
      try simp only [Act.put, List.getElem_toArray, List.getElem_cons_succ, List.getElem_cons_zero, List.setIfInBounds_toArray, List.set_cons_zero, List.set_cons_succ]
      refine wpAnyH_take (i := 3) (v := ?_) rfl (by kernel_rfl) (by kernel_rfl) (by kernel_rfl) (fun _ _ _ h => h) (Or.inl ⟨by rfl, ?hy⟩) hHeld ?_
      case hy =>
        intro w hSw
        (try dsimp only at hSw)
        go_simp
        (try with_reducible rfl)
      try simp only [Act.put, List.getElem_toArray, List.getElem_cons_succ, List.getElem_cons_zero, List.setIfInBounds_toArray, List.set_cons_zero, List.set_cons_succ]
      refine wpAnyH_take (i := 4) (v := ?_) rfl (by kernel_rfl) (by kernel_rfl) (by kernel_rfl) (fun _ _ _ h => h) (Or.inl ⟨by rfl, ?hy⟩) hHeld ?_
      case hy =>
        intro w hSw
        (try dsimp only at hSw)
        go_simp
        (try with_reducible rfl)
      try simp only [Act.put, List.getElem_toArray, List.getElem_cons_succ, List.getElem_cons_zero, List.setIfInBounds_toArray, List.set_cons_zero, List.set_cons_succ]
      refine wpAnyH_take (i := 5) (v := ?_) rfl (by kernel_rfl) (by kernel_rfl) (by kernel_rfl) (fun _ _ _ h => h) (Or.inl ⟨by rfl, ?hy⟩) hHeld ?_
      case hy =>
        intro w hSw
        (try dsimp only at hSw)
        go_simp
        (try with_reducible rfl)
      try simp only [Act.put, List.getElem_toArray, List.getElem_cons_succ, List.getElem_cons_zero, List.setIfInBounds_toArray, List.set_cons_zero, List.set_cons_succ]
      refine wpAnyH_take (i := 6) (v := ?_) rfl (by kernel_rfl) (by kernel_rfl) (by kernel_rfl) (fun _ _ _ h => h) (Or.inl ⟨by rfl, ?hy⟩) hHeld ?_
      case hy =>
        intro w hSw
        (try dsimp only at hSw)
        go_simp
        (try with_reducible rfl)
      try simp only [Act.put, List.getElem_toArray, List.getElem_cons_succ, List.getElem_cons_zero, List.setIfInBounds_toArray, List.set_cons_zero, List.set_cons_succ]
      refine wpAnyH_take (i := 7) (v := ?_) rfl (by kernel_rfl) (by kernel_rfl) (by kernel_rfl) (fun _ _ _ h => h) (Or.inl ⟨by rfl, ?hy⟩) hHeld ?_
      case hy =>
        intro w hSw
        (try dsimp only at hSw)
        go_simp
        (try with_reducible rfl)
      try simp only [Act.put, List.getElem_toArray, List.getElem_cons_succ, List.getElem_cons_zero, List.setIfInBounds_toArray, List.set_cons_zero, List.set_cons_succ]
      refine wpAnyH_take (i := 8) (v := ?_) rfl (by kernel_rfl) (by kernel_rfl) (by kernel_rfl) (fun _ _ _ h => h) (Or.inl ⟨by rfl, ?hy⟩) hHeld ?_
      case hy =>
        intro w hSw
        (try dsimp only at hSw)
        go_simp
        (try with_reducible rfl)
      try simp only [Act.put, List.getElem_toArray, List.getElem_cons_succ, List.getElem_cons_zero, List.setIfInBounds_toArray, List.set_cons_zero, List.set_cons_succ]
      refine wpAnyH_ready (rs := [9]) (by kernel_rfl) (by simp) ?_
      refine AllReadyH.cons rfl (fun K hK => ?_) AllReadyH.nil
      have hOld := hHeld
      clear hHeld
      go_simp
      refine (C1.out _).mono ?_
      rintro r ww ⟨rfl, rfl⟩
      dsimp only
      refine hK.out _ _ (hOld) (fun hHeld => ?_)
      clear hK K hOld
      try simp only [Act.put, List.getElem_toArray, List.getElem_cons_succ, List.getElem_cons_zero, List.setIfInBounds_toArray, List.set_cons_zero, List.set_cons_succ]
      refine wpAnyH_done (by kernel_rfl) ?_ _
      simp only [Exit.then]
      clear hHeld k0 k1 C1
      by_cases hxy : x < y
      · have hs : sortedB xs = false := by
          rw [Bool.eq_false_iff]
          intro h
          have := sortedB_yes.1 h j (by omega) (by omega)
          rw [hx.out, hy.out] at this
          omega
        replace hs := Lib.hid hs
        go_wp2_with fail
        go_ret
        exact ⟨by rw [hs.out]; rfl, hW.drew⟩
      · have hbef' : Hid (∀ i : Nat, ((j - 1 : Nat) : Int) < i → 0 < i → i < xs.length → xs.getD (i - 1) 0 ≤ xs.getD i 0) := Lib.hid (fun i hi h0 hl' => by
          rcases (show i = j ∨ j < i by omega) with rfl | h
          · rw [hx.out, hy.out]; omega
          · exact hbef.out i (by omega) h0 hl')
        go_wp2_with fail
        go_roundw
        case rel => exact ⟨((j - 1 : Nat) : Int), by omega, by omega, by first | rfl | go_num, hbef', hW.drew⟩
        case measure => simp [intOf]; omega
    · have hs : sortedB xs = true := sortedB_yes.2 (fun i h0 hi => hbef.out i (by omega) h0 hi)
      replace hs := Lib.hid hs
      go_wp2_with fail
      go_ret
      exact ⟨by rw [hs.out]; rfl, hW⟩
end Go.Proofs.Ythlninijnbmjfaa
