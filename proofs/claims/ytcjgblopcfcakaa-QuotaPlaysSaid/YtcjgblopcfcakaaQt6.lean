/- The order of shares, walked, to the world that it leaves. Conditions: what comes in is of its kind. -/
import Derived.Test.YtcjgblopcfcakaaQt2
import Derived.Test.YtcjgblopcfcakaaK10
import Derived.LoopN
import Derived.Sort.Grow
namespace Go.Proofs.Ytcjgblopcfcakaa
open Go.RowKit

def cmpStr (x y : ByteArray) : Int := if bLess x y = true then -1 else if bLess y x = true then 1 else 0
def cmpInt (x y : Int) : Int := if x < y then -1 else if y < x then 1 else 0
def cmpS (x y : Share) : Int := if cmpStr x.user y.user = 0 then cmpInt x.band y.band else cmpStr x.user y.user
theorem gtr_str (t : TypeId) (x y : ByteArray) (w : World) : (binOp .gtr t (.string x) (.string y)).run Try.prog w = .ok (.bool (bLess y x)) w := by
  have e : bLess y x = (!bLess x y && !(x.toList == y.toList)) := by
    cases h : bLess x y with
    | true =>
      cases h2 : bLess y x with
      | true => have := bLess_trans h h2; rw [bLess_irrefl] at this; cases this
      | false => rfl
    | false =>
      cases h2 : bLess y x with
      | true =>
        have : x.toList ≠ y.toList := fun e => by
          rw [data_inj e, bLess_irrefl] at h2; cases h2
        simpa using this
      | false => rw [bLess_total h h2]; simp
  rw [e]
  simp [binOp, Op.stringOp, bLess]
theorem cmp_str (x y : ByteArray) (w : World) : Calls Try.prog 56 #[.string x, .string y] w fun e w' => e = .returned (.int .i64 (cmpStr x y)) ∧ w = w' := by
  have g1 := gtr_str
  have g2 : ∀ a b : ByteArray, Op.bytesLess a.toList b.toList = bLess a b := fun _ _ => rfl
  unfold cmpStr
  cases h1 : bLess x y with
  | true =>
    go_enter Try.func56, Try.ntmps56
    go_wp2
    go_ret
    exact ⟨by simp, rfl⟩
  | false =>
    cases h2 : bLess y x with
    | true =>
      have h3 : (x.toList == y.toList) = false := by
        rw [beq_eq_false_iff_ne]
        intro e
        rw [data_inj e, bLess_irrefl] at h2
        cases h2
      go_enter Try.func56, Try.ntmps56
      go_wp2
      go_ret
      exact ⟨by simp, rfl⟩
    | false =>
      have h3 : (x.toList == y.toList) = true := by rw [bLess_total h1 h2]; simp
      go_enter Try.func56, Try.ntmps56
      go_wp2
      go_ret
      exact ⟨by simp, rfl⟩
theorem cmp_u8 (x y : Int) (w : World) : Calls Try.prog 57 #[.int .u8 x, .int .u8 y] w fun e w' => e = .returned (.int .i64 (cmpInt x y)) ∧ w = w' := by
  unfold cmpInt
  by_cases h1 : x < y
  · go_enter Try.func57, Try.ntmps57
    go_wp2
    go_ret
    exact ⟨by simp [h1], rfl⟩
  · by_cases h2 : y < x
    · go_enter Try.func57, Try.ntmps57
      go_wp2
      go_ret
      exact ⟨by simp [h1, h2], rfl⟩
    · go_enter Try.func57, Try.ntmps57
      go_wp2
      go_ret
      exact ⟨by simp [h1, h2], rfl⟩
theorem cmp_or (a b : Int) (g : Nat) (w : World) (h : Blk w g 3 #[.int .i64 a, .int .i64 b]) : Calls Try.prog 55 #[.slice (some ⟨g, 0, none⟩) 2 2] w fun e w' => e = .returned (.int .i64 (if a = 0 then b else a)) ∧ w = w' := by
  obtain ⟨Gc, Gf, Gl⟩ := h.facts
  by_cases h1 : a = 0
  · subst h1
    by_cases h2 : b = 0
    · subst h2
      go_enter Try.func55, Try.ntmps55
      go_wp2
      refine wp_loop_rounds 3 ?_
      rw [rounds_succ]; go_wp2
      rw [rounds_succ]; go_wp2
      rw [rounds_succ]; go_wp2
      go_ret
      exact ⟨rfl, rfl⟩
    · have h2' : (b != 0) = true := by simpa using h2
      go_enter Try.func55, Try.ntmps55
      go_wp2
      refine wp_loop_rounds 2 ?_
      rw [rounds_succ]; go_wp2
      rw [rounds_succ]; go_wp2
      go_ret
      exact ⟨rfl, rfl⟩
  · have h1' : (a != 0) = true := by simpa using h1
    go_enter Try.func55, Try.ntmps55
    go_wp2
    refine wp_loop_rounds 1 ?_
    rw [rounds_succ]; go_wp2
    go_ret
    exact ⟨by simp [h1], rfl⟩
set_option maxHeartbeats 1000000 in
theorem q_order (x y : Share) (w : World) : Calls Try.prog 35 #[x.v, y.v] w fun e w' => e = .returned (.int .i64 (cmpS x y)) ∧ ∃ q os, w' = Sort.grow (w.drewN q) os := by
  have c1 := cmp_str x.user y.user
  have c2 := cmp_u8 x.band y.band
  unfold cmpS
  obtain ⟨xu, xb, ⟨xq0, xq1, xq2⟩, ⟨xu0, xu1, xu2⟩⟩ := x
  obtain ⟨yu, yb, ⟨yq0, yq1, yq2⟩, ⟨yu0, yu1, yu2⟩⟩ := y
  dsimp only at *
  generalize cmpStr xu yu = r1 at *
  generalize cmpInt xb yb = r2 at *
  have C1 := Lib.hid c1
  have C2 := Lib.hid c2
  have c3 := cmp_or r1 r2
  generalize (if r1 = 0 then r2 else r1) = R at c3 ⊢
  have C3 := Lib.hid c3
  clear c1 c2 c3
  go_enter Try.func35, Try.ntmps35
  go_wp2_with fail
  obtain ⟨X, hX⟩ : ∃ X, X = w.heap.size := ⟨_, rfl⟩
  have hB0 := (Blk.new w 39 #[.string xu, .int .u8 xb, .int .i64 xq0, .int .i64 xq1, .int .i64 xq2, .int .i64 xu0, .int .i64 xu1, .int .i64 xu2]).alloc (.cells #[.string yu, .int .u8 yb, .int .i64 yq0, .int .i64 yq1, .int .i64 yq2, .int .i64 yu0, .int .i64 yu1, .int .i64 yu2] 39)
  have hB1 := Blk.new1 w (.cells #[.string xu, .int .u8 xb, .int .i64 xq0, .int .i64 xq1, .int .i64 xq2, .int .i64 xu0, .int .i64 xu1, .int .i64 xu2] 39) 39 #[.string yu, .int .u8 yb, .int .i64 yq0, .int .i64 yq1, .int .i64 yq2, .int .i64 yu0, .int .i64 yu1, .int .i64 yu2]
  have hW : RowKit.Hid (∃ os, (w.alloc (.cells #[.string xu, .int .u8 xb, .int .i64 xq0, .int .i64 xq1, .int .i64 xq2, .int .i64 xu0, .int .i64 xu1, .int .i64 xu2] 39)).alloc (.cells #[.string yu, .int .u8 yb, .int .i64 yq0, .int .i64 yq1, .int .i64 yq2, .int .i64 yu0, .int .i64 yu1, .int .i64 yu2] 39) = Sort.grow w os) := Lib.hid ⟨_, by rw [Sort.alloc_eq_grow, Sort.alloc_eq_grow, Sort.grow_grow]⟩
  refine wp_world (F := fun W => Blk W w.heap.size 39 #[.string xu, .int .u8 xb, .int .i64 xq0, .int .i64 xq1, .int .i64 xq2, .int .i64 xu0, .int .i64 xu1, .int .i64 xu2] ∧ Blk W (w.heap.size + 1) 39 #[.string yu, .int .u8 yb, .int .i64 yq0, .int .i64 yq1, .int .i64 yq2, .int .i64 yu0, .int .i64 yu1, .int .i64 yu2] ∧ ∃ os, W = Sort.grow w os) ⟨hB0, hB1, hW.out⟩ ?_
  clear hB0 hB1 hW hX X
  rintro W ⟨hB0, hB1, hW⟩
  replace hW := Lib.hid hW
  obtain ⟨Xc, Xf, Xl⟩ := hB0.facts
  obtain ⟨Yc, Yf, Yl⟩ := hB1.facts
  refine wp_region_held_drew (S := (fun w' => w'.cell? ⟨w.heap.size, 0, none⟩ = some (.string xu) ∧ w'.cell? ⟨w.heap.size, 1, none⟩ = some (.int .u8 xb) ∧ w'.cell? ⟨w.heap.size + 1, 0, none⟩ = some (.string yu) ∧ w'.cell? ⟨w.heap.size + 1, 1, none⟩ = some (.int .u8 yb))) (by kernel_rfl) ⟨Xc 0, Xc 1, Yc 0, Yc 1⟩ (fun hHeld => ?_)
  refine wpAnyH_take (i := 0) (v := ?_) rfl (by kernel_rfl) (by kernel_rfl) (by kernel_rfl) (fun _ _ _ h => h) (Or.inl ⟨by rfl, ?hy⟩) hHeld ?_
  case hy =>
    intro w hSw
    (try dsimp only at hSw)
    go_simp
    (try with_reducible rfl)
  try simp only [Act.put, List.getElem_toArray, List.getElem_cons_zero, List.setIfInBounds_toArray, List.set_cons_zero, List.set_cons_succ]
  refine wpAnyH_take (i := 1) (v := ?_) rfl (by kernel_rfl) (by kernel_rfl) (by kernel_rfl) (fun _ _ _ h => h) (Or.inl ⟨by rfl, ?hy⟩) hHeld ?_
  case hy =>
    intro w hSw
    (try dsimp only at hSw)
    go_simp
    (try with_reducible rfl)
  try simp only [Act.put, List.getElem_toArray, List.getElem_cons_succ, List.getElem_cons_zero, List.setIfInBounds_toArray, List.set_cons_zero, List.set_cons_succ]
  refine wpAnyH_take (i := 2) (v := ?_) rfl (by kernel_rfl) (by kernel_rfl) (by kernel_rfl) (fun _ _ _ h => h) (Or.inl ⟨by rfl, ?hy⟩) hHeld ?_
  case hy =>
    intro w hSw
    (try dsimp only at hSw)
    go_simp
    (try with_reducible rfl)
  try simp only [Act.put, List.getElem_toArray, List.getElem_cons_succ, List.getElem_cons_zero, List.setIfInBounds_toArray, List.set_cons_zero, List.set_cons_succ]
  refine wpAnyH_take (i := 3) (v := ?_) rfl (by kernel_rfl) (by kernel_rfl) (by kernel_rfl) (fun _ _ _ h => h) (Or.inl ⟨by rfl, ?hy⟩) hHeld ?_
  case hy =>
    intro w hSw
    (try dsimp only at hSw)
    go_simp
    (try with_reducible rfl)
  try simp only [Act.put, List.getElem_toArray, List.getElem_cons_succ, List.getElem_cons_zero, List.setIfInBounds_toArray, List.set_cons_zero, List.set_cons_succ]
  refine wpAnyH_take (i := 5) (v := ?_) rfl (by kernel_rfl) (by kernel_rfl) (by kernel_rfl) (fun _ _ _ h => h) (Or.inl ⟨by rfl, ?hy⟩) hHeld ?_
  case hy =>
    intro w hSw
    (try dsimp only at hSw)
    go_simp
    (try with_reducible rfl)
  try simp only [Act.put, List.getElem_toArray, List.getElem_cons_succ, List.getElem_cons_zero, List.setIfInBounds_toArray, List.set_cons_zero, List.set_cons_succ]
  refine wpAnyH_take (i := 6) (v := ?_) rfl (by kernel_rfl) (by kernel_rfl) (by kernel_rfl) (fun _ _ _ h => h) (Or.inl ⟨by rfl, ?hy⟩) hHeld ?_
  case hy =>
    intro w hSw
    (try dsimp only at hSw)
    go_simp
    (try with_reducible rfl)
  try simp only [Act.put, List.getElem_toArray, List.getElem_cons_succ, List.getElem_cons_zero, List.setIfInBounds_toArray, List.set_cons_zero, List.set_cons_succ]
  refine wpAnyH_take (i := 7) (v := ?_) rfl (by kernel_rfl) (by kernel_rfl) (by kernel_rfl) (fun _ _ _ h => h) (Or.inl ⟨by rfl, ?hy⟩) hHeld ?_
  case hy =>
    intro w hSw
    (try dsimp only at hSw)
    go_simp
    (try with_reducible rfl)
  try simp only [Act.put, List.getElem_toArray, List.getElem_cons_succ, List.getElem_cons_zero, List.setIfInBounds_toArray, List.set_cons_zero, List.set_cons_succ]
  refine wpAnyH_take (i := 8) (v := ?_) rfl (by kernel_rfl) (by kernel_rfl) (by kernel_rfl) (fun _ _ _ h => h) (Or.inl ⟨by rfl, ?hy⟩) hHeld ?_
  case hy =>
    intro w hSw
    (try dsimp only at hSw)
    go_simp
    (try with_reducible rfl)
  try simp only [Act.put, List.getElem_toArray, List.getElem_cons_succ, List.getElem_cons_zero, List.setIfInBounds_toArray, List.set_cons_zero, List.set_cons_succ]
  refine wpAnyH_ready (rs := [4]) (by kernel_rfl) (by simp) ?_
  refine AllReadyH.cons rfl (fun K hK => ?_) AllReadyH.nil
  have hOld := hHeld
  clear hHeld
  go_simp
  refine (C1.out _).mono ?_
  rintro r w1 ⟨rfl, rfl⟩
  dsimp only
  refine hK.out _ _ (hOld) (fun hHeld => ?_)
  clear hK K hOld
  try simp only [Act.put, List.getElem_toArray, List.getElem_cons_succ, List.getElem_cons_zero, List.setIfInBounds_toArray, List.set_cons_zero, List.set_cons_succ]
  refine wpAnyH_ready (rs := [9]) (by kernel_rfl) (by simp) ?_
  refine AllReadyH.cons rfl (fun K hK => ?_) AllReadyH.nil
  have hOld := hHeld
  clear hHeld
  go_simp
  refine (C2.out _).mono ?_
  rintro r w1 ⟨rfl, rfl⟩
  dsimp only
  refine hK.out _ _ (hOld) (fun hHeld => ?_)
  clear hK K hOld
  try simp only [Act.put, List.getElem_toArray, List.getElem_cons_succ, List.getElem_cons_zero, List.setIfInBounds_toArray, List.set_cons_zero, List.set_cons_succ]
  refine wpAnyH_ready (rs := [10]) (by kernel_rfl) (by simp) ?_
  refine AllReadyH.cons rfl (fun K hK => ?_) AllReadyH.nil
  have hOld := hHeld
  clear hHeld
  go_simp
  have hG := Blk.new W 3 #[.int .i64 r1, .int .i64 r2]
  refine hK.out _ _ (⟨by go_simp, by go_simp, by go_simp, by go_simp⟩) (fun hHeld => ?_)
  clear hK K hOld
  try simp only [Act.put, List.getElem_toArray, List.getElem_cons_succ, List.getElem_cons_zero, List.setIfInBounds_toArray, List.set_cons_zero, List.set_cons_succ]
  refine wpAnyH_ready (rs := [11]) (by kernel_rfl) (by simp) ?_
  refine AllReadyH.cons rfl (fun K hK => ?_) AllReadyH.nil
  have hOld := hHeld
  clear hHeld
  go_simp
  refine (C3.out _ _ hG.drew).mono ?_
  rintro r w1 ⟨rfl, rfl⟩
  dsimp only
  refine hK.out _ _ (hOld) (fun hHeld => ?_)
  clear hK K hOld
  try simp only [Act.put, List.getElem_toArray, List.getElem_cons_succ, List.getElem_cons_zero, List.setIfInBounds_toArray, List.set_cons_zero, List.set_cons_succ]
  refine wpAnyH_take (i := 12) (v := ?_) rfl (by kernel_rfl) (by kernel_rfl) (by kernel_rfl) (fun _ _ _ h => h) (Or.inl ⟨by rfl, ?hy⟩) hHeld ?_
  case hy =>
    intro w hSw
    (try dsimp only at hSw)
    go_simp
    (try with_reducible rfl)
  try simp only [Act.put, List.getElem_toArray, List.getElem_cons_succ, List.getElem_cons_zero, List.setIfInBounds_toArray, List.set_cons_zero, List.set_cons_succ]
  refine wpAnyH_done (by kernel_rfl) ?_ _
  simp only [Exit.then]
  clear hHeld Xc Xf Xl Yc Yf Yl hG
  go_wp2_with fail
  go_ret
  obtain ⟨os, rfl⟩ := hW.out
  refine ⟨rfl, 1, os ++ #[.cells #[.int .i64 r1, .int .i64 r2] 3], ?_⟩
  rw [Sort.alloc_eq_grow, Sort.grow_grow]
  rfl
theorem q_order_below (x y : Share) (w : World) : Calls Try.prog 35 #[x.v, y.v] w fun e w' => e = .returned (.int .i64 (cmpS x y)) ∧ Below w.heap.size w w' :=
  (q_order x y w).mono fun _ _ ⟨he, q, os, hw⟩ => ⟨he, by
    subst hw
    refine ⟨rfl, rfl, rfl, ?_, fun k hk => ?_⟩
    · show w.heap.size ≤ (w.heap ++ os).size
      simp
    · show (w.heap ++ os)[k]? = w.heap[k]?
      rw [Array.getElem?_append_left hk]⟩
theorem cmpS_neg (x y : Share) : decide (cmpS x y < 0) = ltK x.user x.band y := by
  unfold cmpS cmpStr cmpInt ltK
  cases h1 : bLess x.user y.user with
  | true => simp
  | false =>
    cases h2 : bLess y.user x.user with
    | true =>
      have h3 : x.user ≠ y.user := fun e => by rw [e, bLess_irrefl] at h2; cases h2
      simp [h3]
    | false =>
      have h3 := bLess_total h1 h2
      by_cases h4 : x.band < y.band
      · simp [h3, h4]
      · by_cases h5 : y.band < x.band <;> simp [h3, h4, h5]
end Go.Proofs.Ytcjgblopcfcakaa
