/- The law WireReads of reevelaw03, walked. Conditions: the numbers are of their kinds. -/
import Derived.Test.YteglieoeblehpaaWire6
import Derived.Test.YteglieoeblehpaaK10
import Derived.Test.YteglieoeblehpaaTWire
namespace Go.Proofs.Yteglieoeblehpaa
open Go.RowKit

theorem askedAny (P R : Nat) (s : ByteArray) (f : Int) (a : Ask) (ha : a.ok) (w : World) (hs : s.size ≤ 140737488351232) (h : Rd w P s f) (hx : RRd w R s f) (hPR : P ≠ R) :
    Calls Try.prog 28 #[.pointer (some ⟨P, 0, none⟩), .pointer (some ⟨R, 0, none⟩), a.v] w fun e w' => e = .returned (.bool true) ∧ Both P R s w' ∧ Kept2 P R w w' := by
  obtain ⟨d, least, most⟩ := a
  obtain ⟨⟨hd0, hd1⟩, ⟨hl0, hl1⟩, hm0, hm1⟩ := ha
  dsimp only at *
  obtain ⟨most, rfl⟩ : ∃ n : Nat, most = n := ⟨most.toNat, by omega⟩
  rcases (show d % 6 = 0 ∨ d % 6 = 1 ∨ d % 6 = 2 ∨ d % 6 = 3 ∨ d % 6 = 4 ∨ d % 6 = 5 by omega) with e | e | e | e | e | e
  · exact asked0 P R s f d least most hd0 (by omega) e w hs h hx hPR
  · exact asked1 P R s f d least most hd0 (by omega) e w hs h hx hPR
  · exact asked2 P R s f d least most hd0 (by omega) e hl0 hl1 w hs h hx hPR
  · exact asked3 P R s f d least most hd0 (by omega) e hl0 hl1 w hs h hx hPR
  · exact asked4 P R s f d least most hd0 (by omega) e w hs h hx hPR
  · exact asked5 P R s f d least most hd0 (by omega) e w hs h hx hPR
set_option maxRecDepth 100000 in
set_option maxHeartbeats 8000000 in
theorem WireReads_walk (s : ByteArray) (hs : s.size ≤ 140737488351232) (A : Option Addr) (m cp : Nat) (xs : List Ask) (hx : xs.length = m) (_hm : m * 24 ≤ 140737488351232) (hok : ∀ x ∈ xs, x.ok) {w : World} (hr : AsksIn w A xs) :
    Calls Try.prog 5 #[.string s, .slice A m cp] w fun e w' => e = .returned (.bool true) ∧ Below w.heap.size w w' := by
  have al := Lib.hid alive03
  subst hx
  by_cases hbig : 4096 < s.size
  · clear hr
    go_enter Try.func5, Try.ntmps5
    go_wp2_with fail
    refine (al.out _).mono ?_
    rintro r w1 ⟨rfl, hb⟩; dsimp only
    go_wp2_with fail
    go_ret
    exact ⟨rfl, hb⟩
  by_cases hbig2 : 100 < xs.length
  · clear hr
    go_enter Try.func5, Try.ntmps5
    go_wp2_with fail
    refine (al.out _).mono ?_
    rintro r w1 ⟨rfl, hb⟩; dsimp only
    go_wp2_with fail
    go_ret
    exact ⟨rfl, hb⟩
  have HR := Lib.hid hr
  have OK := Lib.hid hok
  clear hr hok
  have C0 := Lib.hid (rd_New s w)
  go_enter Try.func5, Try.ntmps5
  go_wp2_with fail
  refine (C0.out).mono ?_
  rintro r w1 ⟨rfl, h1, hB⟩; dsimp only
  go_wp2_with fail
  have h2 := Blk.alloc h1 (.cells #[.string s, .int .i64 0] 45)
  have x2 : RRd (w1.alloc (.cells #[.string s, .int .i64 0] 45)) w1.heap.size s 0 := Blk.new _ _ _
  have hB2 := below_own hB (.cells #[.string s, .int .i64 0] 45)
  have hPR : w.heap.size ≠ w1.heap.size := Nat.ne_of_lt (Blk.lt h1)
  have hP : w.heap.size ≤ w.heap.size := Nat.le_refl _
  have hR : w.heap.size ≤ w1.heap.size := hB.size
  clear C0 h1 hB
  generalize w1.alloc (.cells #[.string s, .int .i64 0] 45) = W at *
  generalize hPe : w.heap.size = P at hPR h2 hP ⊢
  generalize w1.heap.size = R at *
  have hP : w.heap.size ≤ P := by omega
  clear hPe w1
  go_wp2_with fail
  go_loopw [7] (fun i wr => ∃ (k : Nat) (t : ByteArray) (f : Int), k ≤ xs.length ∧ i = .int .i64 k ∧ t.size ≤ 4096 ∧ Rd wr P t f ∧ RRd wr R t f ∧ Below w.heap.size w wr) (fun i _ => xs.length - (intOf i).toNat)
  case atStart => exact ⟨0, s, 0, Nat.zero_le _, rfl, by omega, h2, x2, hB2⟩
  case round =>
    clear h2 x2 hB2 W
    obtain ⟨k, t, f, hk, rfl, ht, hr, hx, hB⟩ := hrel
    by_cases hlt : k < xs.length
    · obtain ⟨b, off, rfl, hbA, hcell⟩ := HR.out (by intro e; rw [e] at hlt; simp at hlt)
      obtain ⟨k0, k1, k2⟩ := hcell k hlt
      have j0 := (hB.cell (p := ⟨b, off + k * 3, none⟩) hbA).trans k0
      have j1 := (hB.cell (p := ⟨b, off + k * 3 + 1, none⟩) hbA).trans k1
      have j2 := (hB.cell (p := ⟨b, off + k * 3 + 2, none⟩) hbA).trans k2
      have K0 := Lib.hid k0
      have K1 := Lib.hid k1
      have K2 := Lib.hid k2
      have C1 := fun w h1 h2 => askedAny P R t f xs[k] (OK.out _ (List.getElem_mem hlt)) w (by omega) h1 h2 hPR
      clear k0 k1 k2 hcell
      have hbr : b < wr.heap.size := Nat.lt_of_lt_of_le hbA hB.size
      generalize xs[k] = q at *
      obtain ⟨d, least, most⟩ := q
      dsimp only [Ask.v] at j0 j1 j2 K0 K1 K2 C1
      replace C1 := Lib.hid C1
      have H1 := Lib.hid hr
      have X1 := Lib.hid hx
      clear hr hx
      go_wp2_with fail
      have g1 : ((t.size : Int) != (t.size : Int)) = false := bne_self_eq_false ..
      refine wp_region_held_drew (S := fun w' => w'.cell? ⟨b, off + k * 3, none⟩ = some (.int .u8 d) ∧ w'.cell? ⟨b, off + k * 3 + 1, none⟩ = some (.int .i64 least) ∧ w'.cell? ⟨b, off + k * 3 + 2, none⟩ = some (.int .u64 most)) (by kernel_rfl) ⟨j0, j1, j2⟩ (fun hHeld => ?_)
      refine wpAnyH_take (i := 0) (v := ?_) rfl (by kernel_rfl) (by kernel_rfl) (by kernel_rfl) (fun _ _ _ h => h) (Or.inl ⟨by rfl, ?hy⟩) hHeld ?_
      case hy =>
        intro w hSw
        (try dsimp only at hSw)
        go_simp
        (try with_reducible rfl)
      try simp only [Act.put, List.getElem_toArray, List.getElem_cons_succ, List.getElem_cons_zero, List.setIfInBounds_toArray, List.set_cons_zero, List.set_cons_succ]
      refine wpAnyH_take (i := 1) (v := ?_) rfl (by kernel_rfl) (by kernel_rfl) (by kernel_rfl) (fun _ _ _ h => h) (Or.inl ⟨by rfl, ?hy⟩) hHeld ?_
      case hy =>
        intro w hSw
        (try dsimp only at hSw)
        go_simp
        (try with_reducible rfl)
      try simp only [Act.put, List.getElem_toArray, List.getElem_cons_succ, List.getElem_cons_zero, List.setIfInBounds_toArray, List.set_cons_zero, List.set_cons_succ]
      refine wpAnyH_take (i := 2) (v := ?_) rfl (by kernel_rfl) (by kernel_rfl) (by kernel_rfl) (fun _ _ _ h => h) (Or.inl ⟨by rfl, ?hy⟩) hHeld ?_
      case hy =>
        intro w hSw
        (try dsimp only at hSw)
        go_simp
        (try with_reducible rfl)
      try simp only [Act.put, List.getElem_toArray, List.getElem_cons_succ, List.getElem_cons_zero, List.setIfInBounds_toArray, List.set_cons_zero, List.set_cons_succ]
      refine wpAnyH_take (i := 3) (v := ?_) rfl (by kernel_rfl) (by kernel_rfl) (by kernel_rfl) (fun _ _ _ h => h) (Or.inl ⟨by rfl, ?hy⟩) hHeld ?_
      case hy =>
        intro w hSw
        (try dsimp only at hSw)
        go_simp
        (try with_reducible rfl)
      try simp only [Act.put, List.getElem_toArray, List.getElem_cons_succ, List.getElem_cons_zero, List.setIfInBounds_toArray, List.set_cons_zero, List.set_cons_succ]
      refine wpAnyH_take (i := 4) (v := ?_) rfl (by kernel_rfl) (by kernel_rfl) (by kernel_rfl) (fun _ _ _ h => h) (Or.inl ⟨by rfl, ?hy⟩) hHeld ?_
      case hy =>
        intro w hSw
        (try dsimp only at hSw)
        go_simp
        (try with_reducible rfl)
      try simp only [Act.put, List.getElem_toArray, List.getElem_cons_succ, List.getElem_cons_zero, List.setIfInBounds_toArray, List.set_cons_zero, List.set_cons_succ]
      refine wpAnyH_take (i := 5) (v := ?_) rfl (by kernel_rfl) (by kernel_rfl) (by kernel_rfl) (fun _ _ _ h => h) (Or.inl ⟨by rfl, ?hy⟩) hHeld ?_
      case hy =>
        intro w hSw
        (try dsimp only at hSw)
        go_simp
        (try with_reducible rfl)
      try simp only [Act.put, List.getElem_toArray, List.getElem_cons_succ, List.getElem_cons_zero, List.setIfInBounds_toArray, List.set_cons_zero, List.set_cons_succ]
      refine wpAnyH_ready (rs := [6]) (by kernel_rfl) (by simp) ?_
      refine AllReadyH.cons rfl (fun K hK => ?_) AllReadyH.nil
      have hOld := hHeld
      clear hHeld
      go_simp
      refine (C1.out wr.drew H1.out X1.out).mono ?_
      rintro r w2 ⟨rfl, ⟨t', f', ht', hr2, hx2⟩, hk2⟩
      dsimp only
      have hB2 : Below w.heap.size w w2 := Kept2.below hk2 hB.drew hP hR
      have e0 := (hB2.cell (p := ⟨b, off + k * 3, none⟩) hbA).trans K0.out
      have e1 := (hB2.cell (p := ⟨b, off + k * 3 + 1, none⟩) hbA).trans K1.out
      have e2 := (hB2.cell (p := ⟨b, off + k * 3 + 2, none⟩) hbA).trans K2.out
      refine hK.out _ _ ⟨e0, e1, e2⟩ (fun hHeld => ?_)
      clear hK K hOld
      try simp only [Act.put, List.getElem_toArray, List.getElem_cons_succ, List.getElem_cons_zero, List.setIfInBounds_toArray, List.set_cons_zero, List.set_cons_succ]
      have m0 := Blk.cell hx2 0
      have m1 := Blk.cell hx2 1
      have g1 : ((t'.size : Int) != (t'.size : Int)) = false := bne_self_eq_false ..
      have g2 : (f' != f') = false := bne_self_eq_false ..
      have C2 := Lib.hid (rd_Left P t' f' w2 hr2)
      have C3 := Lib.hid (rd_Err P t' f' w2 hr2)
      have H2 := Lib.hid hr2
      have X2 := Lib.hid hx2
      clear hr2 hx2 e0 e1 e2 j0 j1 j2
      refine wpAnyH_strong (S' := (fun w' : World => (w'.cell? ⟨b, off + k * 3, none⟩ = some (.int .u8 d) ∧ w'.cell? ⟨b, off + k * 3 + 1, none⟩ = some (.int .i64 least) ∧ w'.cell? ⟨b, off + k * 3 + 2, none⟩ = some (.int .u64 most)) ∧ w'.cell? ⟨R, 0, none⟩ = some (.string t') ∧ w'.cell? ⟨R, 1, none⟩ = some (.int .i64 f'))) (fun _ h => h.1) _ _ _ _ ?_
      have hNew := And.intro hHeld (And.intro m0 m1)
      clear hHeld
      have hHeld := hNew
      clear hNew
      clear m0 m1
      refine wpAnyH_take (i := 7) (v := ?_) rfl (by kernel_rfl) (by kernel_rfl) (by kernel_rfl) (fun _ _ _ h => h) (Or.inl ⟨by rfl, ?hy⟩) hHeld ?_
      case hy =>
        intro w hSw
        (try dsimp only at hSw)
        go_simp
        (try with_reducible rfl)
      try simp only [Act.put, List.getElem_toArray, List.getElem_cons_succ, List.getElem_cons_zero, List.setIfInBounds_toArray, List.set_cons_zero, List.set_cons_succ]
      refine wpAnyH_take (i := 8) (v := ?_) rfl (by kernel_rfl) (by kernel_rfl) (by kernel_rfl) (fun _ _ _ h => h) (Or.inl ⟨by rfl, ?hy⟩) hHeld ?_
      case hy =>
        intro w hSw
        (try dsimp only at hSw)
        go_simp
        (try with_reducible rfl)
      try simp only [Act.put, List.getElem_toArray, List.getElem_cons_succ, List.getElem_cons_zero, List.setIfInBounds_toArray, List.set_cons_zero, List.set_cons_succ]
      refine wpAnyH_take (i := 9) (v := ?_) rfl (by kernel_rfl) (by kernel_rfl) (by kernel_rfl) (fun _ _ _ h => h) (Or.inl ⟨by rfl, ?hy⟩) hHeld ?_
      case hy =>
        intro w hSw
        (try dsimp only at hSw)
        go_simp
        (try with_reducible rfl)
      try simp only [Act.put, List.getElem_toArray, List.getElem_cons_succ, List.getElem_cons_zero, List.setIfInBounds_toArray, List.set_cons_zero, List.set_cons_succ]
      refine wpAnyH_take (i := 11) (v := ?_) rfl (by kernel_rfl) (by kernel_rfl) (by kernel_rfl) (fun _ _ _ h => h) (Or.inl ⟨by rfl, ?hy⟩) hHeld ?_
      case hy =>
        intro w hSw
        (try dsimp only at hSw)
        go_simp
        (try with_reducible rfl)
      try simp only [Act.put, List.getElem_toArray, List.getElem_cons_succ, List.getElem_cons_zero, List.setIfInBounds_toArray, List.set_cons_zero, List.set_cons_succ]
      refine wpAnyH_take (i := 12) (v := ?_) rfl (by kernel_rfl) (by kernel_rfl) (by kernel_rfl) (fun _ _ _ h => h) (Or.inl ⟨by rfl, ?hy⟩) hHeld ?_
      case hy =>
        intro w hSw
        (try dsimp only at hSw)
        go_simp
        (try with_reducible rfl)
      try simp only [Act.put, List.getElem_toArray, List.getElem_cons_succ, List.getElem_cons_zero, List.setIfInBounds_toArray, List.set_cons_zero, List.set_cons_succ]
      refine wpAnyH_take (i := 13) (v := ?_) rfl (by kernel_rfl) (by kernel_rfl) (by kernel_rfl) (fun _ _ _ h => h) (Or.inl ⟨by rfl, ?hy⟩) hHeld ?_
      case hy =>
        intro w hSw
        (try dsimp only at hSw)
        go_simp
        (try with_reducible rfl)
      try simp only [Act.put, List.getElem_toArray, List.getElem_cons_succ, List.getElem_cons_zero, List.setIfInBounds_toArray, List.set_cons_zero, List.set_cons_succ]
      refine wpAnyH_take (i := 14) (v := ?_) rfl (by kernel_rfl) (by kernel_rfl) (by kernel_rfl) (fun _ _ _ h => h) (Or.inl ⟨by rfl, ?hy⟩) hHeld ?_
      case hy =>
        intro w hSw
        (try dsimp only at hSw)
        go_simp
        (try with_reducible rfl)
      try simp only [Act.put, List.getElem_toArray, List.getElem_cons_succ, List.getElem_cons_zero, List.setIfInBounds_toArray, List.set_cons_zero, List.set_cons_succ]
      refine wpAnyH_take (i := 15) (v := ?_) rfl (by kernel_rfl) (by kernel_rfl) (by kernel_rfl) (fun _ _ _ h => h) (Or.inl ⟨by rfl, ?hy⟩) hHeld ?_
      case hy =>
        intro w hSw
        (try dsimp only at hSw)
        go_simp
        (try with_reducible rfl)
      try simp only [Act.put, List.getElem_toArray, List.getElem_cons_succ, List.getElem_cons_zero, List.setIfInBounds_toArray, List.set_cons_zero, List.set_cons_succ]
      refine wpAnyH_ready (rs := [10]) (by kernel_rfl) (by simp) ?_
      refine AllReadyH.cons rfl (fun K hK => ?_) AllReadyH.nil
      have hOld := hHeld
      clear hHeld
      go_simp
      refine (C2.out).mono ?_
      rintro r w3 ⟨rfl, rfl⟩
      dsimp only
      refine hK.out _ _ hOld (fun hHeld => ?_)
      clear hK K hOld
      try simp only [Act.put, List.getElem_toArray, List.getElem_cons_succ, List.getElem_cons_zero, List.setIfInBounds_toArray, List.set_cons_zero, List.set_cons_succ]
      refine wpAnyH_take (i := 16) (v := ?_) rfl (by kernel_rfl) (by kernel_rfl) (by kernel_rfl) (fun _ _ _ h => h) (Or.inl ⟨by rfl, ?hy⟩) hHeld ?_
      case hy =>
        intro w hSw
        (try dsimp only at hSw)
        go_simp
        (try with_reducible rfl)
      try simp only [Act.put, List.getElem_toArray, List.getElem_cons_succ, List.getElem_cons_zero, List.setIfInBounds_toArray, List.set_cons_zero, List.set_cons_succ]
      refine wpAnyH_take (i := 17) (v := ?_) rfl (by kernel_rfl) (by kernel_rfl) (by kernel_rfl) (fun _ _ _ h => h) (Or.inl ⟨by rfl, ?hy⟩) hHeld ?_
      case hy =>
        intro w hSw
        (try dsimp only at hSw)
        go_simp
        (try with_reducible rfl)
      try simp only [Act.put, List.getElem_toArray, List.getElem_cons_succ, List.getElem_cons_zero, List.setIfInBounds_toArray, List.set_cons_zero, List.set_cons_succ]
      refine wpAnyH_take (i := 18) (v := ?_) rfl (by kernel_rfl) (by kernel_rfl) (by kernel_rfl) (fun _ _ _ h => h) (Or.inl ⟨by rfl, ?hy⟩) hHeld ?_
      case hy =>
        intro w hSw
        (try dsimp only at hSw)
        go_simp
        (try with_reducible rfl)
      try simp only [Act.put, List.getElem_toArray, List.getElem_cons_succ, List.getElem_cons_zero, List.setIfInBounds_toArray, List.set_cons_zero, List.set_cons_succ]
      refine wpAnyH_take (i := 19) (v := ?_) rfl (by kernel_rfl) (by kernel_rfl) (by kernel_rfl) (fun _ _ _ h => h) (Or.inl ⟨by rfl, ?hy⟩) hHeld ?_
      case hy =>
        intro w hSw
        (try dsimp only at hSw)
        go_simp
        (try with_reducible rfl)
      try simp only [Act.put, List.getElem_toArray, List.getElem_cons_succ, List.getElem_cons_zero, List.setIfInBounds_toArray, List.set_cons_zero, List.set_cons_succ]
      refine wpAnyH_take (i := 21) (v := ?_) rfl (by kernel_rfl) (by kernel_rfl) (by kernel_rfl) (fun _ _ _ h => h) (Or.inl ⟨by rfl, ?hy⟩) hHeld ?_
      case hy =>
        intro w hSw
        (try dsimp only at hSw)
        go_simp
        (try with_reducible rfl)
      try simp only [Act.put, List.getElem_toArray, List.getElem_cons_succ, List.getElem_cons_zero, List.setIfInBounds_toArray, List.set_cons_zero, List.set_cons_succ]
      refine wpAnyH_take (i := 22) (v := ?_) rfl (by kernel_rfl) (by kernel_rfl) (by kernel_rfl) (fun _ _ _ h => h) (Or.inl ⟨by rfl, ?hy⟩) hHeld ?_
      case hy =>
        intro w hSw
        (try dsimp only at hSw)
        go_simp
        (try with_reducible rfl)
      try simp only [Act.put, List.getElem_toArray, List.getElem_cons_succ, List.getElem_cons_zero, List.setIfInBounds_toArray, List.set_cons_zero, List.set_cons_succ]
      refine wpAnyH_take (i := 23) (v := ?_) rfl (by kernel_rfl) (by kernel_rfl) (by kernel_rfl) (fun _ _ _ h => h) (Or.inl ⟨by rfl, ?hy⟩) hHeld ?_
      case hy =>
        intro w hSw
        (try dsimp only at hSw)
        go_simp
        (try with_reducible rfl)
      try simp only [Act.put, List.getElem_toArray, List.getElem_cons_succ, List.getElem_cons_zero, List.setIfInBounds_toArray, List.set_cons_zero, List.set_cons_succ]
      refine wpAnyH_take (i := 24) (v := ?_) rfl (by kernel_rfl) (by kernel_rfl) (by kernel_rfl) (fun _ _ _ h => h) (Or.inl ⟨by rfl, ?hy⟩) hHeld ?_
      case hy =>
        intro w hSw
        (try dsimp only at hSw)
        go_simp
        (try with_reducible rfl)
      try simp only [Act.put, List.getElem_toArray, List.getElem_cons_succ, List.getElem_cons_zero, List.setIfInBounds_toArray, List.set_cons_zero, List.set_cons_succ]
      refine wpAnyH_ready (rs := [20]) (by kernel_rfl) (by simp) ?_
      refine AllReadyH.cons rfl (fun K hK => ?_) AllReadyH.nil
      have hOld := hHeld
      clear hHeld
      go_simp
      refine (C3.out).mono ?_
      rintro r w3 ⟨rfl, rfl⟩
      dsimp only
      refine hK.out _ _ hOld (fun hHeld => ?_)
      clear hK K hOld
      try simp only [Act.put, List.getElem_toArray, List.getElem_cons_succ, List.getElem_cons_zero, List.setIfInBounds_toArray, List.set_cons_zero, List.set_cons_succ]
      refine wpAnyH_take (i := 25) (v := ?_) rfl (by kernel_rfl) (by kernel_rfl) (by kernel_rfl) (fun _ _ _ h => h) (Or.inl ⟨by rfl, ?hy⟩) hHeld ?_
      case hy =>
        intro w hSw
        (try dsimp only at hSw)
        go_simp
        (try with_reducible rfl)
      try simp only [Act.put, List.getElem_toArray, List.getElem_cons_succ, List.getElem_cons_zero, List.setIfInBounds_toArray, List.set_cons_zero, List.set_cons_succ]
      refine wpAnyH_take (i := 26) (v := ?_) rfl (by kernel_rfl) (by kernel_rfl) (by kernel_rfl) (fun _ _ _ h => h) (Or.inl ⟨by rfl, ?hy⟩) hHeld ?_
      case hy =>
        intro w hSw
        (try dsimp only at hSw)
        go_simp
        (try with_reducible rfl)
      try simp only [Act.put, List.getElem_toArray, List.getElem_cons_succ, List.getElem_cons_zero, List.setIfInBounds_toArray, List.set_cons_zero, List.set_cons_succ]
      refine wpAnyH_done (by kernel_rfl) ?_ _
      clear hHeld
      go_wp2_with fail
      go_roundw
      case rel => exact ⟨k + 1, t', f', by omega, by go_num, by omega, H2.out, X2.out, hB2⟩
      case measure => simp [intOf]; omega
    · obtain rfl : k = xs.length := by omega
      clear HR
      go_wp2_with fail
      refine (al.out _).mono ?_
      rintro r w2 ⟨rfl, hb⟩; dsimp only
      replace hB := below_to hB hb
      go_wp2_with fail
      go_ret
      exact ⟨rfl, hB⟩
end Go.Proofs.Yteglieoeblehpaa
