/- The document's ledger, walked: Set. Conditions: what comes in is of its kind. -/
import Derived.Test.YtcjgblopcfcakaaQt17b
import Derived.Test.YtcjgblopcfcakaaQtN
import Derived.Test.YtcjgblopcfcakaaQt5
import Derived.Laws.AppendOwnNone
namespace Go.Proofs.Ytcjgblopcfcakaa
open Go.RowKit Go.MapKept

theorem ownsRow_low {w : World} {B e k n : Nat} {v : Value} {xs : List Value} (h : w.ownsRow B e k v n xs) : w.ownsRow 0 e k v n xs :=
  ⟨h.1, h.2.imp id fun ⟨g, cap, cur, hv, _, r⟩ => ⟨g, cap, cur, hv, Nat.zero_le _, r⟩⟩
theorem ownsRow_set {w : World} {B e k n P i : Nat} {v x : Value} {xs : List Value} (h : w.ownsRow B e k v n xs) (hne : ∀ g, v.ownBlock = some g → g ≠ P) : (w.setCell ⟨P, i, none⟩ x).ownsRow B e k v n xs :=
  ⟨h.1, h.2.imp id fun ⟨g, cap, cur, hv, hB, hg, r⟩ => ⟨g, cap, cur, hv, hB, (Below.heap_setCell w ⟨P, i, none⟩ x g (hne g (by rw [hv]; rfl))).trans hg, r⟩⟩
theorem ownsRow_below {w w' : World} {B e k n : Nat} {v : Value} {xs : List Value} (h : w.ownsRow B e k v n xs) (hb : Below w.heap.size w w') : w'.ownsRow B e k v n xs :=
  ⟨h.1, h.2.imp id fun ⟨g, cap, cur, hv, hB, hg, r⟩ => ⟨g, cap, cur, hv, hB, (hb.block g (Array.getElem?_eq_some_iff.1 hg).1).trans hg, r⟩⟩
theorem flat_take (L : List Share) (i : Nat) : (flatS L).take (i * 8) = flatS (L.take i) := by
  apply List.ext_getElem?
  intro j
  by_cases hj : j < i * 8
  · rw [List.getElem?_take_of_lt hj]
    by_cases h2 : j < L.length * 8
    · have e1 := flatS_get L (j / 8) (j % 8) (by omega) (by omega)
      have e2 := flatS_get (L.take i) (j / 8) (j % 8) (by simp; omega) (by omega)
      rw [show j / 8 * 8 + j % 8 = j by omega] at e1 e2
      rw [e1, e2]
      simp
    · rw [List.getElem?_eq_none (by rw [flatS_len]; omega), List.getElem?_eq_none (by rw [flatS_len, List.length_take]; omega)]
  · rw [List.getElem?_take_eq_none (by omega), List.getElem?_eq_none (by rw [flatS_len, List.length_take]; omega)]
theorem flat_drop (L : List Share) (i : Nat) : (flatS L).drop (i * 8) = flatS (L.drop i) := by
  apply List.ext_getElem?
  intro j
  rw [List.getElem?_drop]
  by_cases h2 : i * 8 + j < L.length * 8
  · have e1 := flatS_get L (i + j / 8) (j % 8) (by omega) (by omega)
    have e2 := flatS_get (L.drop i) (j / 8) (j % 8) (by simp; omega) (by omega)
    rw [show (i + j / 8) * 8 + j % 8 = i * 8 + j by omega] at e1
    rw [show j / 8 * 8 + j % 8 = j by omega] at e2
    rw [e1, e2]
    simp
  · rw [List.getElem?_eq_none (by rw [flatS_len]; omega), List.getElem?_eq_none (by rw [flatS_len, List.length_drop]; omega)]
theorem set_name {L : List Share} {u : ByteArray} {b : Int} {v : Vec} (h : nameB u = false) : setE L u b v = 160 ∧ setL L u b v = L := by
  have e : setE L u b v = 160 := by unfold setE; rw [if_neg (by rw [h]; decide)]
  exact ⟨e, set_same (by rw [e]; decide)⟩
theorem set_band {L : List Share} {u : ByteArray} {b : Int} {v : Vec} (h : nameB u = true) (h2 : bandB b = false) : setE L u b v = 161 ∧ setL L u b v = L := by
  have e : setE L u b v = 161 := by unfold setE; rw [if_pos h, if_neg (by rw [h2]; decide)]
  exact ⟨e, set_same (by rw [e]; decide)⟩
theorem set_may {L : List Share} {u : ByteArray} {b : Int} {v : Vec} (h : nameB u = true) (h2 : bandB b = true) (h3 : mayV v = false) : setE L u b v = 163 ∧ setL L u b v = L := by
  have e : setE L u b v = 163 := by unfold setE; rw [if_pos h, if_pos h2, if_neg (by rw [h3]; decide)]
  exact ⟨e, set_same (by rw [e]; decide)⟩
theorem set_some {L : List Share} {u : ByteArray} {b : Int} {v : Vec} {s : Share} (h : nameB u = true) (h2 : bandB b = true) (h3 : mayV v = true) (hg : getS L u b = some s) : setE L u b v = 0 ∧ setL L u b v = updS L u b (setS v) := by
  have e : setE L u b v = 0 := by unfold setE; rw [if_pos h, if_pos h2, if_pos h3, hg]
  exact ⟨e, by unfold setL; rw [if_pos e, hg]⟩
theorem set_full {L : List Share} {u : ByteArray} {b : Int} {v : Vec} (h : nameB u = true) (h2 : bandB b = true) (h3 : mayV v = true) (hg : getS L u b = none) (hl : 64 ≤ L.length) : setE L u b v = 6 ∧ setL L u b v = L := by
  have e : setE L u b v = 6 := by unfold setE; rw [if_pos h, if_pos h2, if_pos h3, hg]; exact if_pos hl
  exact ⟨e, set_same (by rw [e]; decide)⟩
theorem set_new {L : List Share} {u : ByteArray} {b : Int} {v : Vec} (h : nameB u = true) (h2 : bandB b = true) (h3 : mayV v = true) (hg : getS L u b = none) (hl : ¬ 64 ≤ L.length) : setE L u b v = 0 ∧ setL L u b v = putS ⟨u, b, v, zeroV⟩ L := by
  have e : setE L u b v = 0 := by unfold setE; rw [if_pos h, if_pos h2, if_pos h3, hg]; exact if_neg hl
  exact ⟨e, by unfold setL; rw [if_pos e, hg]⟩
set_option maxRecDepth 100000 in
set_option maxHeartbeats 40000000 in
theorem r_Set (w : World) (R : Nat) (S : Nat → Prop) (L : List Share) (h : RLed w R S L) (hl : L.length ≤ 64) (hr : Rising L) (u : ByteArray) (b : Int) (v : Vec) (hu : u.size ≤ 9223372036854775807) (hb : U8 b) (hv : v.ok) :
    Calls Try.prog 42 #[ptrV R, .string u, .int .u8 b, v.v] w fun e w' => e = .returned (.int .i64 (setE L u b v)) ∧ ∃ S', RLed w' R S' (setL L u b v) ∧ (∀ c, S' c → S c ∨ w.heap.size ≤ c) ∧ OnlyS S w w' := by
  have h0 := Lib.hid h
  have hA : Below w.heap.size w (w.alloc (.cells #[.int .i64 v.cpu, .int .i64 v.mem, .int .i64 v.disk] 28)) := below_own (below_self w) _
  have hV := Blk.new w 28 #[.int .i64 v.cpu, .int .i64 v.mem, .int .i64 v.disk]
  have c1 := ref_Name u
  have c3 := ref_May v
  obtain ⟨E, hE⟩ : ∃ E, E = setE L u b v := ⟨_, rfl⟩
  obtain ⟨LL, hLL⟩ : ∃ LL, LL = setL L u b v := ⟨_, rfl⟩
  rw [← hE, ← hLL]
  obtain ⟨f1, hf1⟩ : ∃ f, f = nameB u := ⟨_, rfl⟩
  obtain ⟨f3, hf3⟩ : ∃ f, f = mayV v := ⟨_, rfl⟩
  rw [← hf1] at c1
  rw [← hf3] at c3
  have hbb : bandB b = (decide (b = 1) || decide (b = 2)) := rfl
  obtain ⟨v0, v1, v2⟩ := v
  dsimp only at *
  have C1 := Lib.hid c1
  have C3 := Lib.hid c3
  replace hE := Lib.hid hE
  replace hLL := Lib.hid hLL
  replace hf1 := Lib.hid hf1
  replace hf3 := Lib.hid hf3
  have hend : Hid (∀ w2, Below w.heap.size w w2 → ∃ S', RLed w2 R S' L ∧ (∀ c, S' c → S c ∨ w.heap.size ≤ c) ∧ OnlyS S w w2) := Lib.hid (fun w2 hb2 => ⟨S, h0.out.past hb2, fun _ h => Or.inl h, OnlyS.below hb2⟩)
  clear c1 c3 h
  go_enter Try.func42, Try.ntmps42
  go_wp2_with fail
  refine (C1.out _).mono ?_
  rintro r w1 ⟨rfl, rfl⟩; dsimp only
  cases f1
  · replace hA := Lib.hid hA
    go_wp2_with fail
    go_ret
    obtain ⟨x1, x2⟩ := set_name (L := L) (b := b) (v := ⟨v0, v1, v2⟩) hf1.out.symm
    rw [hE.out, hLL.out, x1, x2]
    exact ⟨rfl, hend.out _ hA.out⟩
  by_cases hbd : b = 1 ∨ b = 2
  case neg =>
    have n1 : (b != 1) = true := by simp; omega
    have n2 : (b != 2) = true := by simp; omega
    have n3 : bandB b = false := by rw [hbb]; simp; omega
    replace n3 := Lib.hid n3
    replace hA := Lib.hid hA
    clear hbb hbd
    go_wp2_with fail
    go_ret
    obtain ⟨x1, x2⟩ := set_band (L := L) (v := ⟨v0, v1, v2⟩) hf1.out.symm n3.out
    rw [hE.out, hLL.out, x1, x2]
    exact ⟨rfl, hend.out _ hA.out⟩
  clear hbb
  rcases hbd with rfl | rfl
  · have hbt : Hid (bandB 1 = true) := Lib.hid rfl
    obtain ⟨Vc, Vf, Vl⟩ := hV.facts
    go_wp2_with fail
    refine (C3.out _).mono ?_
    rintro r w2 ⟨rfl, hb2⟩; dsimp only
    replace hV := hV.past hb2
    have hB2 := Lib.hid (below_to hA hb2)
    clear hb2 hA Vc Vf Vl
    cases f3
    · go_wp2_with fail
      go_ret
      obtain ⟨x1, x2⟩ := set_may (L := L) (v := ⟨v0, v1, v2⟩) hf1.out.symm hbt.out hf3.out.symm
      rw [hE.out, hLL.out, x1, x2]
      exact ⟨rfl, hend.out _ hB2.out⟩
    have con := r_Find w2 R S L (h0.out.past hB2.out) hl u 1
    go_wp2_with fail
    refine con.mono ?_
    rintro r w3 ⟨rfl, hb3⟩; dsimp only
    replace hV := hV.past hb3
    have hB3 := Lib.hid (below_to hB2.out hb3)
    clear hb3 hB2 con
    cases hf : (findI L u 1).2 with
    | true =>
      obtain ⟨hi, hg, hu2⟩ := find_yes (setS ⟨v0, v1, v2⟩) hr hf
      replace hg := Lib.hid hg
      replace hu2 := Lib.hid hu2
      clear hf hr
      generalize (findI L u 1).1 = i at *
      obtain ⟨s, hse⟩ : ∃ s, s = L[i] := ⟨_, rfl⟩
      obtain ⟨su, sb, ⟨q0, q1, q2⟩, ⟨u0, u1, u2⟩⟩ := s
      obtain ⟨Vc, Vf, Vl⟩ := hV.facts
      obtain ⟨g, cap, cur, hRb, hh, hle, hm, hs, ht, hSR, hSg, hne, hcells⟩ := (h0.out.past (hB3).out).out hi
      simp only [← hse] at hcells
      have k2 : (w3).cell? ⟨g, i * 8 + 2, none⟩ = some (.int .i64 q0) := hcells 2 (by decide)
      have k3 : (w3).cell? ⟨g, i * 8 + 3, none⟩ = some (.int .i64 q1) := hcells 3 (by decide)
      have k4 : (w3).cell? ⟨g, i * 8 + 4, none⟩ = some (.int .i64 q2) := hcells 4 (by decide)
      have k5 : (w3).cell? ⟨g, i * 8 + 5, none⟩ = some (.int .i64 u0) := hcells 5 (by decide)
      have k6 : (w3).cell? ⟨g, i * 8 + 6, none⟩ = some (.int .i64 u1) := hcells 6 (by decide)
      have k7 : (w3).cell? ⟨g, i * 8 + 7, none⟩ = some (.int .i64 u2) := hcells 7 (by decide)
      obtain ⟨Rc, Rf, Rl⟩ := hRb.facts
      obtain ⟨-, Gf, Gl⟩ := (show Blk w3 g 39 cur from hh).facts
      clear hcells
      go_wp2_with fail
      refine wp_region_left0 (S := fun l w' => Left 8 l → (w'.cell? ⟨R, 0, none⟩ = some (.slice (some ⟨g, 0, none⟩) L.length cap) ∧ w'.cell? ⟨w.heap.size, 0, none⟩ = some (.int .i64 v0) ∧ w'.cell? ⟨w.heap.size, 1, none⟩ = some (.int .i64 v1) ∧ w'.cell? ⟨w.heap.size, 2, none⟩ = some (.int .i64 v2))) (by kernel_rfl) (fun _ => ⟨Rc 0, Vc 0, Vc 1, Vc 2⟩) (fun hHeld => ?_)
      refine wpAnyL_takeN (i := 0) (v := ?_) rfl (by kernel_rfl) (by kernel_rfl) (by kernel_rfl) (fun _ _ _ h => h) ?hS (Or.inl ⟨by rfl, ?hy⟩) hHeld ?_
      case hS => intro l w; (try dsimp only); simp (config := { decide := true }) only [left_set, ne_eq]
      case hy =>
        intro w hSw
        go_simp
        (try with_reducible rfl)
      clear hHeld
      intro hHeld
      try simp only [Act.put, List.getElem_toArray, List.getElem_cons_succ, List.getElem_cons_zero, List.setIfInBounds_toArray, List.set_cons_zero, List.set_cons_succ]
      refine wpAnyL_takeN (i := 1) (v := ?_) rfl (by kernel_rfl) (by kernel_rfl) (by kernel_rfl) (fun _ _ _ h => h) ?hS (Or.inl ⟨by rfl, ?hy⟩) hHeld ?_
      case hS => intro l w; (try dsimp only); simp (config := { decide := true }) only [left_set, ne_eq]
      case hy =>
        intro w hSw
        go_simp
        (try with_reducible rfl)
      clear hHeld
      intro hHeld
      try simp only [Act.put, List.getElem_toArray, List.getElem_cons_succ, List.getElem_cons_zero, List.setIfInBounds_toArray, List.set_cons_zero, List.set_cons_succ]
      refine wpAnyL_takeN (i := 2) (v := ?_) rfl (by kernel_rfl) (by kernel_rfl) (by kernel_rfl) (fun _ _ _ h => h) ?hS (Or.inl ⟨by rfl, ?hy⟩) hHeld ?_
      case hS => intro l w; (try dsimp only); simp (config := { decide := true }) only [left_set, ne_eq]
      case hy =>
        intro w hSw
        go_simp
        (try with_reducible rfl)
      clear hHeld
      intro hHeld
      try simp only [Act.put, List.getElem_toArray, List.getElem_cons_succ, List.getElem_cons_zero, List.setIfInBounds_toArray, List.set_cons_zero, List.set_cons_succ]
      refine wpAnyL_take (i := 3) (b := 8) (v := ?_) rfl (by kernel_rfl) (by kernel_rfl) (by kernel_rfl) (fun _ _ _ h => h) (by decide) (by kernel_rfl) ?hS (Or.inl ⟨by rfl, ?hy⟩) hHeld (by unfold Left; kernel_rfl) ?_
      case hS => intro l w; (try dsimp only); simp (config := { decide := true }) only [left_set, ne_eq]
      case hy =>
        rintro w ⟨l, hSw, hLw⟩
        (try dsimp only at hSw)
        (try simp only [hLw, true_implies] at hSw)
        go_simp
        (try with_reducible rfl)
      clear hHeld
      intro hHeld
      try simp only [Act.put, List.getElem_toArray, List.getElem_cons_succ, List.getElem_cons_zero, List.setIfInBounds_toArray, List.set_cons_zero, List.set_cons_succ]
      refine wpAnyL_takeN (i := 4) (v := ?_) rfl (by kernel_rfl) (by kernel_rfl) (by kernel_rfl) (fun _ _ _ h => h) ?hS (Or.inl ⟨by rfl, ?hy⟩) hHeld ?_
      case hS => intro l w; (try dsimp only); simp (config := { decide := true }) only [left_set, ne_eq]
      case hy =>
        intro w hSw
        go_simp
        (try with_reducible rfl)
      clear hHeld
      intro hHeld
      try simp only [Act.put, List.getElem_toArray, List.getElem_cons_succ, List.getElem_cons_zero, List.setIfInBounds_toArray, List.set_cons_zero, List.set_cons_succ]
      refine wpAnyL_take (i := 5) (b := 8) (v := ?_) rfl (by kernel_rfl) (by kernel_rfl) (by kernel_rfl) (fun _ _ _ h => h) (by decide) (by kernel_rfl) ?hS (Or.inl ⟨by rfl, ?hy⟩) hHeld (by unfold Left; kernel_rfl) ?_
      case hS => intro l w; (try dsimp only); simp (config := { decide := true }) only [left_set, ne_eq]
      case hy =>
        rintro w ⟨l, hSw, hLw⟩
        (try dsimp only at hSw)
        (try simp only [hLw, true_implies] at hSw)
        go_simp
        (try with_reducible rfl)
      clear hHeld
      intro hHeld
      try simp only [Act.put, List.getElem_toArray, List.getElem_cons_succ, List.getElem_cons_zero, List.setIfInBounds_toArray, List.set_cons_zero, List.set_cons_succ]
      refine wpAnyL_takeN (i := 6) (v := ?_) rfl (by kernel_rfl) (by kernel_rfl) (by kernel_rfl) (fun _ _ _ h => h) ?hS (Or.inl ⟨by rfl, ?hy⟩) hHeld ?_
      case hS => intro l w; (try dsimp only); simp (config := { decide := true }) only [left_set, ne_eq]
      case hy =>
        intro w hSw
        go_simp
        (try with_reducible rfl)
      clear hHeld
      intro hHeld
      try simp only [Act.put, List.getElem_toArray, List.getElem_cons_succ, List.getElem_cons_zero, List.setIfInBounds_toArray, List.set_cons_zero, List.set_cons_succ]
      refine wpAnyL_takeN (i := 7) (v := ?_) rfl (by kernel_rfl) (by kernel_rfl) (by kernel_rfl) (fun _ _ _ h => h) ?hS (Or.inl ⟨by rfl, ?hy⟩) hHeld ?_
      case hS => intro l w; (try dsimp only); simp (config := { decide := true }) only [left_set, ne_eq]
      case hy =>
        intro w hSw
        go_simp
        (try with_reducible rfl)
      clear hHeld
      intro hHeld
      try simp only [Act.put, List.getElem_toArray, List.getElem_cons_succ, List.getElem_cons_zero, List.setIfInBounds_toArray, List.set_cons_zero, List.set_cons_succ]
      refine wpAnyL_one 8 (by kernel_rfl) rfl (fun K hK => ?_)
      clear hHeld
      go_simp
      refine hK.out _ _ (Left.gone (by kernel_rfl)) (fun hHeld => ?_)
      clear hK K
      try simp only [Act.put, List.getElem_toArray, List.getElem_cons_succ, List.getElem_cons_zero, List.setIfInBounds_toArray, List.set_cons_zero, List.set_cons_succ]
      refine wpAnyL_done (by kernel_rfl) ?_ _
      (try simp only [Exit.then])
      have hT := Lib.hid (RLed.turned (i := i) (j0 := 2) (s' := setS ⟨v0, v1, v2⟩ L[i]) (a := .int .i64 v0) (b := .int .i64 v1) (c := .int .i64 v2) hRb hh hle hm hs ht hSR hSg hne hi (by decide) (by rw [← hse]; rfl))
      clear Vc Vf Vl hV
      clear hRb hh hle hm hs ht hSR hSg hne k2 k3 k4 k5 k6 k7 Rc Rf Rl Gf Gl
      go_wp2_with fail
      go_ret
      obtain ⟨x1, x2⟩ := set_some hf1.out.symm hbt.out hf3.out.symm hg.out
      rw [hE.out, hLL.out, x1, x2, hu2.out]
      refine ⟨rfl, S, hT.out.1, fun _ h => Or.inl h, (OnlyS.below hB3.out).trans (S' := S) ?_ (fun _ h => Or.inl h)⟩
      exact hT.out.2.trans (S' := S) (OnlyS.below (Below.refl _ _).drew) (fun _ h => Or.inl h)
    | false =>
      obtain ⟨hg, hp⟩ := find_no (s := ⟨u, 1, ⟨v0, v1, v2⟩, zeroV⟩) ⟨rfl, rfl⟩ hr hf
      have hle' := findI_le (u := u) (b := 1) L
      replace hg := Lib.hid hg
      replace hp := Lib.hid hp
      clear hf
      generalize (findI L u 1).1 = i at *
      obtain ⟨i0, hi0, hz0, hz1, hz2⟩ := info_parts shareInfo
      obtain ⟨Vc, Vf, Vl⟩ := hV.facts
      by_cases hfull : 64 ≤ L.length
      · have d1 : decide ((64 : Int) ≤ (L.length : Int)) = true := decide_eq_true (by omega)
        obtain ⟨vv, hRb, hown, -, -⟩ := h0.out.past hB3.out
        obtain ⟨A0, cap0, rfl, -, -⟩ := own_shares hown
        obtain ⟨Rc, Rf, Rl⟩ := hRb.facts
        clear hRb hown
        go_wp2_with fail
        go_ret
        obtain ⟨x1, x2⟩ := set_full (v := ⟨v0, v1, v2⟩) hf1.out.symm hbt.out hf3.out.symm hg.out hfull
        rw [hE.out, hLL.out, x1, x2]
        exact ⟨rfl, hend.out _ hB3.out⟩
      have d1 : decide ((64 : Int) ≤ (L.length : Int)) = false := decide_eq_false (by omega)
      obtain ⟨vv, hRb0, hown, hSR, hSo⟩ := h0.out
      have hVlt := hV.lt
      have hWle := hB3.out.size
      rcases hown.2 with ⟨rfl, hl0⟩ | ⟨g, cap, cur, rfl, -, hh0, hlec, hm, hs, ht⟩
      · have hi00 : i = 0 := by omega
        subst hi00
        have hLn : Hid (L = []) := Lib.hid (List.eq_nil_of_length_eq_zero hl0)
        have hRb := hRb0.past hB3.out
        obtain ⟨Rc, Rf, Rl⟩ := hRb.facts
        go_wp2_with (at_builtin; first | (refine wpList_append_own_none rfl _ _ 36 rfl w3.heap.size 39 i0 8 Try.underlying36 hi0 (.slice none 0 0) 0 [] rfl (World.ownsRow_nil _ _ _ _) rfl ?_) | refine wpList_append_own _ rfl _ _ 36 rfl w3.heap.size 39 i0 (.agg #[.string ⟨#[]⟩, .int .u8 0, .int .i64 0, .int .i64 0, .int .i64 0, .int .i64 0, .int .i64 0, .int .i64 0]) 8 72 Try.underlying36 hi0 hz0 hz1 hz2 rfl (by decide) _ _ _ rfl (World.ownsRow_nil _ _ _ _) ⟨w3.heap.size, 0, none⟩ 1 1 (shRow ⟨u, 1, ⟨v0, v1, v2⟩, zeroV⟩) rfl rfl ?e2x1 ?e3x1 ?e4x1 ?e5x1 ?e6x1 ?_)
        case e2x1 =>
          intro j x hj
          have hN := Blk.new w3 39 #[.string u, .int .u8 1, .int .i64 v0, .int .i64 v1, .int .i64 v2, .int .i64 0, .int .i64 0, .int .i64 0]
          (try rw [addr_add, Nat.zero_add])
          (try rw [hN.cell])
          simpa [shRow, zeroV] using hj
        case e3x1 => exact fun x hx => shRow_cell hx
        all_goals try (first | (unfold maxLen; omega) | omega | (simp; done))
        intro o3 w6 hown3 hgrow3 _
        have hB6 : Below w3.heap.size w3 w6 := ((Below.refl w3.heap.size w3).alloc (Nat.le_refl _) _).grown hgrow3 (by simp) (fun k hk => by cases hk)
        replace hRb := hRb.past hB6
        have ho3 : Hid (∀ x, o3.ownBlock = some x → w3.heap.size ≤ x) := Lib.hid (fun x hx => (hown3.lt x hx).1)
        have hRlt : Hid (R < w.heap.size) := Lib.hid hRb0.lt
        have hfl : Hid (shRow ⟨u, 1, ⟨v0, v1, v2⟩, zeroV⟩ = flatS (putS ⟨u, 1, ⟨v0, v1, v2⟩, zeroV⟩ L)) := Lib.hid (by rw [hp.out, hLn.out]; simp [flatS])
        have hnl : Hid (1 = (putS ⟨u, 1, ⟨v0, v1, v2⟩, zeroV⟩ L).length) := Lib.hid (by rw [(put_perm _ L).length_eq, List.length_cons]; omega)
        have hown3 : w6.ownsRow w3.heap.size 39 8 o3 (putS ⟨u, 1, ⟨v0, v1, v2⟩, zeroV⟩ L).length (flatS (putS ⟨u, 1, ⟨v0, v1, v2⟩, zeroV⟩ L)) := by rw [← hfl.out, ← hnl.out]; simpa using hown3
        obtain ⟨a3, c3, rfl⟩ : ∃ a c, o3 = .slice a (putS ⟨u, 1, ⟨v0, v1, v2⟩, zeroV⟩ L).length c := by
          rcases hown3.2 with ⟨rfl, h0⟩ | ⟨g, cap, cur, rfl, _⟩
          · rw [h0]; exact ⟨_, _, rfl⟩
          · exact ⟨_, _, rfl⟩
        have H := Lib.hid (And.intro hRb (And.intro hown3 (below_to hB3.out hB6)))
        clear Rc Rf Rl
        obtain ⟨Rc, Rf, Rl⟩ := hRb.facts
        go_wp2_with (at_builtin; refine wpList_append_own_none rfl _ _ 36 rfl w3.heap.size 39 i0 8 Try.underlying36 hi0 _ _ _ rfl hown3 rfl ?_)
        go_ret
        obtain ⟨x1, x2⟩ := set_new (v := ⟨v0, v1, v2⟩) hf1.out.symm hbt.out hf3.out.symm hg.out hfull
        rw [hE.out, hLL.out, x1, x2]
        obtain ⟨hRb, hown3, hB6⟩ := H.out
        have hne3 : ∀ x, Value.ownBlock (.slice a3 (putS ⟨u, 1, ⟨v0, v1, v2⟩, zeroV⟩ L).length c3) = some x → x ≠ R := fun x hx e => by have := ho3.out x hx; have := hRlt.out; omega
        refine ⟨rfl, fun c => S c ∨ w.heap.size ≤ c, ⟨_, hRb.put 0 _ rfl, ownsRow_low (ownsRow_set hown3 hne3), Or.inl hSR, fun x hx => ⟨Or.inr (Nat.le_trans hWle (ho3.out x hx)), hne3 x hx⟩⟩, fun _ h => h, (OnlyS.below hB6).trans (S' := fun c => c = R) (OnlyS.grown (grown_set w6 R 0 _) rfl) (fun c hc => Or.inl (hc ▸ hSR))⟩
      have hgR := (hSo g rfl).2
      have hRb := hRb0.past hB3.out
      have hh : Blk w3 g 39 cur := (show Blk w g 39 cur from hh0).past hB3.out
      have hglt := hh.lt
      obtain ⟨Rc, Rf, Rl⟩ := hRb.facts
      obtain ⟨-, Gf, Gl⟩ := hh.facts
      go_wp2_with (at_builtin; refine wpList_append_own _ rfl _ _ 36 rfl w3.heap.size 39 i0 (.agg #[.string ⟨#[]⟩, .int .u8 0, .int .i64 0, .int .i64 0, .int .i64 0, .int .i64 0, .int .i64 0, .int .i64 0]) 8 72 Try.underlying36 hi0 hz0 hz1 hz2 rfl (by decide) _ _ _ rfl (World.ownsRow_nil _ _ _ _) ⟨g, 0, none⟩ i cap (flatS (L.take i)) rfl ?a1x1 ?a2x1 ?a3x1 ?a4x1 ?a5x1 ?a6x1 ?_)
      case a1x1 => rw [flatS_len, List.length_take]; omega
      case a2x1 =>
        intro j x hj
        have hjl : j < i * 8 := by
          rcases Nat.lt_or_ge j (i * 8) with q | q
          · exact q
          · rw [List.getElem?_eq_none (by rw [flatS_len, List.length_take]; omega)] at hj; cases hj
        rw [hh.cell, ← Array.getElem?_toList, ← List.getElem?_take_of_lt (show j < L.length * 8 by omega), ht, ← hj, ← flat_take, List.getElem?_take_of_lt hjl]
      case a3x1 =>
        intro x hx
        obtain ⟨y, _, hy⟩ := List.mem_flatMap.1 hx
        exact shRow_cell hy
      case a4x1 => unfold maxLen; omega
      case a5x1 => omega
      intro o1 w4 hown1 hgrow1 _
      have hB4 : Below w3.heap.size w3 w4 := ⟨hgrow1.os, hgrow1.tape, hgrow1.output, hgrow1.size, fun k hk => hgrow1.block k hk (by simp [Value.ownBlock])⟩
      replace hV := hV.past hB4
      replace hRb := hRb.past hB4
      replace hh := hh.past hB4
      clear Rc Rf Rl Gf Gl Vc Vf Vl hgrow1
      obtain ⟨Vc, Vf, Vl⟩ := hV.facts
      obtain ⟨Rc, Rf, Rl⟩ := hRb.facts
      obtain ⟨-, Gf, Gl⟩ := hh.facts
      go_wp2_with (at_builtin; refine wpList_append_own _ rfl _ _ 36 rfl w3.heap.size 39 i0 (.agg #[.string ⟨#[]⟩, .int .u8 0, .int .i64 0, .int .i64 0, .int .i64 0, .int .i64 0, .int .i64 0, .int .i64 0]) 8 72 Try.underlying36 hi0 hz0 hz1 hz2 rfl (by decide) _ _ _ rfl (hown1.alloc _) ⟨w4.heap.size, 0, none⟩ 1 1 (shRow ⟨u, 1, ⟨v0, v1, v2⟩, zeroV⟩) rfl rfl ?b2x1 ?b3x1 ?b4x1 ?b5x1 ?b6x1 ?_)
      case b2x1 =>
        intro j x hj
        have hN := Blk.new w4 39 #[.string u, .int .u8 1, .int .i64 v0, .int .i64 v1, .int .i64 v2, .int .i64 0, .int .i64 0, .int .i64 0]
        (try rw [addr_add, Nat.zero_add])
        rw [hN.cell]
        simpa [shRow, zeroV] using hj
      case b3x1 => exact fun x hx => shRow_cell hx
      case b4x1 => unfold maxLen; omega
      case b5x1 => omega
      case b6x1 => have := hB4.size; simp; omega
      intro o2 w5 hown2 hgrow2 _
      have hB5 : Below w3.heap.size w3 w5 := (hB4.alloc hB4.size _).grown hgrow2 (by have := hB4.size; simp; omega) (fun k hk => (hown1.lt k hk).1)
      replace hV := (hV.alloc (.cells #[.string u, .int .u8 1, .int .i64 v0, .int .i64 v1, .int .i64 v2, .int .i64 0, .int .i64 0, .int .i64 0] 39)).grown hgrow2 (by intro e; have := (hown1.lt _ e.symm).1; omega)
      replace hRb := (hRb.alloc (.cells #[.string u, .int .u8 1, .int .i64 v0, .int .i64 v1, .int .i64 v2, .int .i64 0, .int .i64 0, .int .i64 0] 39)).grown hgrow2 (by intro e; have := (hown1.lt _ e.symm).1; have := hRb0.lt; omega)
      replace hh := (hh.alloc (.cells #[.string u, .int .u8 1, .int .i64 v0, .int .i64 v1, .int .i64 v2, .int .i64 0, .int .i64 0, .int .i64 0] 39)).grown hgrow2 (by intro e; have := (hown1.lt _ e.symm).1; omega)
      clear Rc Rf Rl Gf Gl Vc Vf Vl hgrow2 hown1
      obtain ⟨Rc, Rf, Rl⟩ := hRb.facts
      obtain ⟨-, Gf, Gl⟩ := hh.facts
      obtain ⟨ao, hao, hao2⟩ : ∃ ao, (if cap = i then some (⟨g, 0, none⟩ : Addr) else some ⟨g, i * 8, none⟩) = some ⟨g, ao, none⟩ ∧ Hid (i < L.length → ao = i * 8) := by
        by_cases hci : cap = i
        · exact ⟨0, by rw [if_pos hci], Lib.hid (fun h => by omega)⟩
        · exact ⟨i * 8, by rw [if_neg hci], Lib.hid (fun _ => rfl)⟩
      go_wp2_with (at_builtin; refine wpList_append_own _ rfl _ _ 36 rfl w3.heap.size 39 i0 (.agg #[.string ⟨#[]⟩, .int .u8 0, .int .i64 0, .int .i64 0, .int .i64 0, .int .i64 0, .int .i64 0, .int .i64 0]) 8 72 Try.underlying36 hi0 hz0 hz1 hz2 rfl (by decide) _ _ _ rfl hown2 ⟨g, ao, none⟩ (L.length - i) (cap - i) (flatS (L.drop i)) rfl ?d1x1 ?d2x1 ?d3x1 ?d4x1 ?d5x1 ?d6x1 ?_)
      case d1x1 => rw [flatS_len, List.length_drop]
      case d2x1 =>
        intro j x hj
        have hjl : i * 8 + j < L.length * 8 := by
          rcases Nat.lt_or_ge (i * 8 + j) (L.length * 8) with q | q
          · exact q
          · rw [List.getElem?_eq_none (by rw [flatS_len, List.length_drop]; omega)] at hj; cases hj
        (try rw [addr_add])
        rw [hao2.out (by omega), hh.cell, ← Array.getElem?_toList, ← List.getElem?_take_of_lt hjl, ht, ← hj, ← flat_drop, List.getElem?_drop]
      case d3x1 =>
        intro x hx
        obtain ⟨y, _, hy⟩ := List.mem_flatMap.1 hx
        exact shRow_cell hy
      case d4x1 => unfold maxLen; omega
      case d5x1 => omega
      case d6x1 => exact hB5.size
      intro o3 w6 hown3 hgrow3 _
      have hB6 := hB5.grown hgrow3 hB5.size (fun k hk => (hown2.lt k hk).1)
      replace hRb := hRb.grown hgrow3 (by intro e; have := (hown2.lt _ e.symm).1; have := hRb0.lt; omega)
      have ho3 : Hid (∀ x, o3.ownBlock = some x → w3.heap.size ≤ x) := Lib.hid (fun x hx => (hown3.lt x hx).1)
      have hRlt : Hid (R < w.heap.size) := Lib.hid hRb0.lt
      have hfl : Hid (flatS (L.take i) ++ (shRow ⟨u, 1, ⟨v0, v1, v2⟩, zeroV⟩ ++ flatS (L.drop i)) = flatS (putS ⟨u, 1, ⟨v0, v1, v2⟩, zeroV⟩ L)) := Lib.hid (by rw [hp.out]; simp [flatS])
      have hnl : Hid (i + 1 + (L.length - i) = (putS ⟨u, 1, ⟨v0, v1, v2⟩, zeroV⟩ L).length) := Lib.hid (by rw [(put_perm _ L).length_eq, List.length_cons]; omega)
      rw [hfl.out, hnl.out] at hown3
      obtain ⟨a3, c3, rfl⟩ : ∃ a c, o3 = .slice a (putS ⟨u, 1, ⟨v0, v1, v2⟩, zeroV⟩ L).length c := by
        rcases hown3.2 with ⟨rfl, h0⟩ | ⟨g, cap, cur, rfl, _⟩
        · rw [h0]; exact ⟨_, _, rfl⟩
        · exact ⟨_, _, rfl⟩
      have H := Lib.hid (And.intro hRb (And.intro hown3 (below_to hB3.out (hB6.mono (Nat.le_refl _)))))
      clear Rc Rf Rl Gf Gl hgrow3 hown2 hV hh hB4 hB5 hB6 hown3 hao hh0
      obtain ⟨Rc, Rf, Rl⟩ := hRb.facts
      clear hRb
      go_wp2_with fail
      go_ret
      obtain ⟨x1, x2⟩ := set_new (v := ⟨v0, v1, v2⟩) hf1.out.symm hbt.out hf3.out.symm hg.out hfull
      rw [hE.out, hLL.out, x1, x2]
      obtain ⟨hRb, hown3, hB6⟩ := H.out
      have hne3 : ∀ x, Value.ownBlock (.slice a3 (putS ⟨u, 1, ⟨v0, v1, v2⟩, zeroV⟩ L).length c3) = some x → x ≠ R := fun x hx e => by have := ho3.out x hx; have := hRlt.out; omega
      refine ⟨rfl, fun c => S c ∨ w.heap.size ≤ c, ⟨_, hRb.put 0 _ rfl, ownsRow_low (ownsRow_set hown3 hne3), Or.inl hSR, fun x hx => ⟨Or.inr (Nat.le_trans hWle (ho3.out x hx)), hne3 x hx⟩⟩, fun _ h => h, (OnlyS.below hB6).trans (S' := fun c => c = R) (OnlyS.grown (grown_set w6 R 0 _) rfl) (fun c hc => Or.inl (hc ▸ hSR))⟩
  · have hbt : Hid (bandB 2 = true) := Lib.hid rfl
    obtain ⟨Vc, Vf, Vl⟩ := hV.facts
    go_wp2_with fail
    refine (C3.out _).mono ?_
    rintro r w2 ⟨rfl, hb2⟩; dsimp only
    replace hV := hV.past hb2
    have hB2 := Lib.hid (below_to hA hb2)
    clear hb2 hA Vc Vf Vl
    cases f3
    · go_wp2_with fail
      go_ret
      obtain ⟨x1, x2⟩ := set_may (L := L) (v := ⟨v0, v1, v2⟩) hf1.out.symm hbt.out hf3.out.symm
      rw [hE.out, hLL.out, x1, x2]
      exact ⟨rfl, hend.out _ hB2.out⟩
    have con := r_Find w2 R S L (h0.out.past hB2.out) hl u 2
    go_wp2_with fail
    refine con.mono ?_
    rintro r w3 ⟨rfl, hb3⟩; dsimp only
    replace hV := hV.past hb3
    have hB3 := Lib.hid (below_to hB2.out hb3)
    clear hb3 hB2 con
    cases hf : (findI L u 2).2 with
    | true =>
      obtain ⟨hi, hg, hu2⟩ := find_yes (setS ⟨v0, v1, v2⟩) hr hf
      replace hg := Lib.hid hg
      replace hu2 := Lib.hid hu2
      clear hf hr
      generalize (findI L u 2).1 = i at *
      obtain ⟨s, hse⟩ : ∃ s, s = L[i] := ⟨_, rfl⟩
      obtain ⟨su, sb, ⟨q0, q1, q2⟩, ⟨u0, u1, u2⟩⟩ := s
      obtain ⟨Vc, Vf, Vl⟩ := hV.facts
      obtain ⟨g, cap, cur, hRb, hh, hle, hm, hs, ht, hSR, hSg, hne, hcells⟩ := (h0.out.past (hB3).out).out hi
      simp only [← hse] at hcells
      have k2 : (w3).cell? ⟨g, i * 8 + 2, none⟩ = some (.int .i64 q0) := hcells 2 (by decide)
      have k3 : (w3).cell? ⟨g, i * 8 + 3, none⟩ = some (.int .i64 q1) := hcells 3 (by decide)
      have k4 : (w3).cell? ⟨g, i * 8 + 4, none⟩ = some (.int .i64 q2) := hcells 4 (by decide)
      have k5 : (w3).cell? ⟨g, i * 8 + 5, none⟩ = some (.int .i64 u0) := hcells 5 (by decide)
      have k6 : (w3).cell? ⟨g, i * 8 + 6, none⟩ = some (.int .i64 u1) := hcells 6 (by decide)
      have k7 : (w3).cell? ⟨g, i * 8 + 7, none⟩ = some (.int .i64 u2) := hcells 7 (by decide)
      obtain ⟨Rc, Rf, Rl⟩ := hRb.facts
      obtain ⟨-, Gf, Gl⟩ := (show Blk w3 g 39 cur from hh).facts
      clear hcells
      go_wp2_with fail
      refine wp_region_left0 (S := fun l w' => Left 8 l → (w'.cell? ⟨R, 0, none⟩ = some (.slice (some ⟨g, 0, none⟩) L.length cap) ∧ w'.cell? ⟨w.heap.size, 0, none⟩ = some (.int .i64 v0) ∧ w'.cell? ⟨w.heap.size, 1, none⟩ = some (.int .i64 v1) ∧ w'.cell? ⟨w.heap.size, 2, none⟩ = some (.int .i64 v2))) (by kernel_rfl) (fun _ => ⟨Rc 0, Vc 0, Vc 1, Vc 2⟩) (fun hHeld => ?_)
      refine wpAnyL_takeN (i := 0) (v := ?_) rfl (by kernel_rfl) (by kernel_rfl) (by kernel_rfl) (fun _ _ _ h => h) ?hS (Or.inl ⟨by rfl, ?hy⟩) hHeld ?_
      case hS => intro l w; (try dsimp only); simp (config := { decide := true }) only [left_set, ne_eq]
      case hy =>
        intro w hSw
        go_simp
        (try with_reducible rfl)
      clear hHeld
      intro hHeld
      try simp only [Act.put, List.getElem_toArray, List.getElem_cons_succ, List.getElem_cons_zero, List.setIfInBounds_toArray, List.set_cons_zero, List.set_cons_succ]
      refine wpAnyL_takeN (i := 1) (v := ?_) rfl (by kernel_rfl) (by kernel_rfl) (by kernel_rfl) (fun _ _ _ h => h) ?hS (Or.inl ⟨by rfl, ?hy⟩) hHeld ?_
      case hS => intro l w; (try dsimp only); simp (config := { decide := true }) only [left_set, ne_eq]
      case hy =>
        intro w hSw
        go_simp
        (try with_reducible rfl)
      clear hHeld
      intro hHeld
      try simp only [Act.put, List.getElem_toArray, List.getElem_cons_succ, List.getElem_cons_zero, List.setIfInBounds_toArray, List.set_cons_zero, List.set_cons_succ]
      refine wpAnyL_takeN (i := 2) (v := ?_) rfl (by kernel_rfl) (by kernel_rfl) (by kernel_rfl) (fun _ _ _ h => h) ?hS (Or.inl ⟨by rfl, ?hy⟩) hHeld ?_
      case hS => intro l w; (try dsimp only); simp (config := { decide := true }) only [left_set, ne_eq]
      case hy =>
        intro w hSw
        go_simp
        (try with_reducible rfl)
      clear hHeld
      intro hHeld
      try simp only [Act.put, List.getElem_toArray, List.getElem_cons_succ, List.getElem_cons_zero, List.setIfInBounds_toArray, List.set_cons_zero, List.set_cons_succ]
      refine wpAnyL_take (i := 3) (b := 8) (v := ?_) rfl (by kernel_rfl) (by kernel_rfl) (by kernel_rfl) (fun _ _ _ h => h) (by decide) (by kernel_rfl) ?hS (Or.inl ⟨by rfl, ?hy⟩) hHeld (by unfold Left; kernel_rfl) ?_
      case hS => intro l w; (try dsimp only); simp (config := { decide := true }) only [left_set, ne_eq]
      case hy =>
        rintro w ⟨l, hSw, hLw⟩
        (try dsimp only at hSw)
        (try simp only [hLw, true_implies] at hSw)
        go_simp
        (try with_reducible rfl)
      clear hHeld
      intro hHeld
      try simp only [Act.put, List.getElem_toArray, List.getElem_cons_succ, List.getElem_cons_zero, List.setIfInBounds_toArray, List.set_cons_zero, List.set_cons_succ]
      refine wpAnyL_takeN (i := 4) (v := ?_) rfl (by kernel_rfl) (by kernel_rfl) (by kernel_rfl) (fun _ _ _ h => h) ?hS (Or.inl ⟨by rfl, ?hy⟩) hHeld ?_
      case hS => intro l w; (try dsimp only); simp (config := { decide := true }) only [left_set, ne_eq]
      case hy =>
        intro w hSw
        go_simp
        (try with_reducible rfl)
      clear hHeld
      intro hHeld
      try simp only [Act.put, List.getElem_toArray, List.getElem_cons_succ, List.getElem_cons_zero, List.setIfInBounds_toArray, List.set_cons_zero, List.set_cons_succ]
      refine wpAnyL_take (i := 5) (b := 8) (v := ?_) rfl (by kernel_rfl) (by kernel_rfl) (by kernel_rfl) (fun _ _ _ h => h) (by decide) (by kernel_rfl) ?hS (Or.inl ⟨by rfl, ?hy⟩) hHeld (by unfold Left; kernel_rfl) ?_
      case hS => intro l w; (try dsimp only); simp (config := { decide := true }) only [left_set, ne_eq]
      case hy =>
        rintro w ⟨l, hSw, hLw⟩
        (try dsimp only at hSw)
        (try simp only [hLw, true_implies] at hSw)
        go_simp
        (try with_reducible rfl)
      clear hHeld
      intro hHeld
      try simp only [Act.put, List.getElem_toArray, List.getElem_cons_succ, List.getElem_cons_zero, List.setIfInBounds_toArray, List.set_cons_zero, List.set_cons_succ]
      refine wpAnyL_takeN (i := 6) (v := ?_) rfl (by kernel_rfl) (by kernel_rfl) (by kernel_rfl) (fun _ _ _ h => h) ?hS (Or.inl ⟨by rfl, ?hy⟩) hHeld ?_
      case hS => intro l w; (try dsimp only); simp (config := { decide := true }) only [left_set, ne_eq]
      case hy =>
        intro w hSw
        go_simp
        (try with_reducible rfl)
      clear hHeld
      intro hHeld
      try simp only [Act.put, List.getElem_toArray, List.getElem_cons_succ, List.getElem_cons_zero, List.setIfInBounds_toArray, List.set_cons_zero, List.set_cons_succ]
      refine wpAnyL_takeN (i := 7) (v := ?_) rfl (by kernel_rfl) (by kernel_rfl) (by kernel_rfl) (fun _ _ _ h => h) ?hS (Or.inl ⟨by rfl, ?hy⟩) hHeld ?_
      case hS => intro l w; (try dsimp only); simp (config := { decide := true }) only [left_set, ne_eq]
      case hy =>
        intro w hSw
        go_simp
        (try with_reducible rfl)
      clear hHeld
      intro hHeld
      try simp only [Act.put, List.getElem_toArray, List.getElem_cons_succ, List.getElem_cons_zero, List.setIfInBounds_toArray, List.set_cons_zero, List.set_cons_succ]
      refine wpAnyL_one 8 (by kernel_rfl) rfl (fun K hK => ?_)
      clear hHeld
      go_simp
      refine hK.out _ _ (Left.gone (by kernel_rfl)) (fun hHeld => ?_)
      clear hK K
      try simp only [Act.put, List.getElem_toArray, List.getElem_cons_succ, List.getElem_cons_zero, List.setIfInBounds_toArray, List.set_cons_zero, List.set_cons_succ]
      refine wpAnyL_done (by kernel_rfl) ?_ _
      (try simp only [Exit.then])
      have hT := Lib.hid (RLed.turned (i := i) (j0 := 2) (s' := setS ⟨v0, v1, v2⟩ L[i]) (a := .int .i64 v0) (b := .int .i64 v1) (c := .int .i64 v2) hRb hh hle hm hs ht hSR hSg hne hi (by decide) (by rw [← hse]; rfl))
      clear Vc Vf Vl hV
      clear hRb hh hle hm hs ht hSR hSg hne k2 k3 k4 k5 k6 k7 Rc Rf Rl Gf Gl
      go_wp2_with fail
      go_ret
      obtain ⟨x1, x2⟩ := set_some hf1.out.symm hbt.out hf3.out.symm hg.out
      rw [hE.out, hLL.out, x1, x2, hu2.out]
      refine ⟨rfl, S, hT.out.1, fun _ h => Or.inl h, (OnlyS.below hB3.out).trans (S' := S) ?_ (fun _ h => Or.inl h)⟩
      exact hT.out.2.trans (S' := S) (OnlyS.below (Below.refl _ _).drew) (fun _ h => Or.inl h)
    | false =>
      obtain ⟨hg, hp⟩ := find_no (s := ⟨u, 2, ⟨v0, v1, v2⟩, zeroV⟩) ⟨rfl, rfl⟩ hr hf
      have hle' := findI_le (u := u) (b := 2) L
      replace hg := Lib.hid hg
      replace hp := Lib.hid hp
      clear hf
      generalize (findI L u 2).1 = i at *
      obtain ⟨i0, hi0, hz0, hz1, hz2⟩ := info_parts shareInfo
      obtain ⟨Vc, Vf, Vl⟩ := hV.facts
      by_cases hfull : 64 ≤ L.length
      · have d1 : decide ((64 : Int) ≤ (L.length : Int)) = true := decide_eq_true (by omega)
        obtain ⟨vv, hRb, hown, -, -⟩ := h0.out.past hB3.out
        obtain ⟨A0, cap0, rfl, -, -⟩ := own_shares hown
        obtain ⟨Rc, Rf, Rl⟩ := hRb.facts
        clear hRb hown
        go_wp2_with fail
        go_ret
        obtain ⟨x1, x2⟩ := set_full (v := ⟨v0, v1, v2⟩) hf1.out.symm hbt.out hf3.out.symm hg.out hfull
        rw [hE.out, hLL.out, x1, x2]
        exact ⟨rfl, hend.out _ hB3.out⟩
      have d1 : decide ((64 : Int) ≤ (L.length : Int)) = false := decide_eq_false (by omega)
      obtain ⟨vv, hRb0, hown, hSR, hSo⟩ := h0.out
      have hVlt := hV.lt
      have hWle := hB3.out.size
      rcases hown.2 with ⟨rfl, hl0⟩ | ⟨g, cap, cur, rfl, -, hh0, hlec, hm, hs, ht⟩
      · have hi00 : i = 0 := by omega
        subst hi00
        have hLn : Hid (L = []) := Lib.hid (List.eq_nil_of_length_eq_zero hl0)
        have hRb := hRb0.past hB3.out
        obtain ⟨Rc, Rf, Rl⟩ := hRb.facts
        go_wp2_with (at_builtin; first | (refine wpList_append_own_none rfl _ _ 36 rfl w3.heap.size 39 i0 8 Try.underlying36 hi0 (.slice none 0 0) 0 [] rfl (World.ownsRow_nil _ _ _ _) rfl ?_) | refine wpList_append_own _ rfl _ _ 36 rfl w3.heap.size 39 i0 (.agg #[.string ⟨#[]⟩, .int .u8 0, .int .i64 0, .int .i64 0, .int .i64 0, .int .i64 0, .int .i64 0, .int .i64 0]) 8 72 Try.underlying36 hi0 hz0 hz1 hz2 rfl (by decide) _ _ _ rfl (World.ownsRow_nil _ _ _ _) ⟨w3.heap.size, 0, none⟩ 1 1 (shRow ⟨u, 2, ⟨v0, v1, v2⟩, zeroV⟩) rfl rfl ?e2x2 ?e3x2 ?e4x2 ?e5x2 ?e6x2 ?_)
        case e2x2 =>
          intro j x hj
          have hN := Blk.new w3 39 #[.string u, .int .u8 2, .int .i64 v0, .int .i64 v1, .int .i64 v2, .int .i64 0, .int .i64 0, .int .i64 0]
          (try rw [addr_add, Nat.zero_add])
          (try rw [hN.cell])
          simpa [shRow, zeroV] using hj
        case e3x2 => exact fun x hx => shRow_cell hx
        all_goals try (first | (unfold maxLen; omega) | omega | (simp; done))
        intro o3 w6 hown3 hgrow3 _
        have hB6 : Below w3.heap.size w3 w6 := ((Below.refl w3.heap.size w3).alloc (Nat.le_refl _) _).grown hgrow3 (by simp) (fun k hk => by cases hk)
        replace hRb := hRb.past hB6
        have ho3 : Hid (∀ x, o3.ownBlock = some x → w3.heap.size ≤ x) := Lib.hid (fun x hx => (hown3.lt x hx).1)
        have hRlt : Hid (R < w.heap.size) := Lib.hid hRb0.lt
        have hfl : Hid (shRow ⟨u, 2, ⟨v0, v1, v2⟩, zeroV⟩ = flatS (putS ⟨u, 2, ⟨v0, v1, v2⟩, zeroV⟩ L)) := Lib.hid (by rw [hp.out, hLn.out]; simp [flatS])
        have hnl : Hid (1 = (putS ⟨u, 2, ⟨v0, v1, v2⟩, zeroV⟩ L).length) := Lib.hid (by rw [(put_perm _ L).length_eq, List.length_cons]; omega)
        have hown3 : w6.ownsRow w3.heap.size 39 8 o3 (putS ⟨u, 2, ⟨v0, v1, v2⟩, zeroV⟩ L).length (flatS (putS ⟨u, 2, ⟨v0, v1, v2⟩, zeroV⟩ L)) := by rw [← hfl.out, ← hnl.out]; simpa using hown3
        obtain ⟨a3, c3, rfl⟩ : ∃ a c, o3 = .slice a (putS ⟨u, 2, ⟨v0, v1, v2⟩, zeroV⟩ L).length c := by
          rcases hown3.2 with ⟨rfl, h0⟩ | ⟨g, cap, cur, rfl, _⟩
          · rw [h0]; exact ⟨_, _, rfl⟩
          · exact ⟨_, _, rfl⟩
        have H := Lib.hid (And.intro hRb (And.intro hown3 (below_to hB3.out hB6)))
        clear Rc Rf Rl
        obtain ⟨Rc, Rf, Rl⟩ := hRb.facts
        go_wp2_with (at_builtin; refine wpList_append_own_none rfl _ _ 36 rfl w3.heap.size 39 i0 8 Try.underlying36 hi0 _ _ _ rfl hown3 rfl ?_)
        go_ret
        obtain ⟨x1, x2⟩ := set_new (v := ⟨v0, v1, v2⟩) hf1.out.symm hbt.out hf3.out.symm hg.out hfull
        rw [hE.out, hLL.out, x1, x2]
        obtain ⟨hRb, hown3, hB6⟩ := H.out
        have hne3 : ∀ x, Value.ownBlock (.slice a3 (putS ⟨u, 2, ⟨v0, v1, v2⟩, zeroV⟩ L).length c3) = some x → x ≠ R := fun x hx e => by have := ho3.out x hx; have := hRlt.out; omega
        refine ⟨rfl, fun c => S c ∨ w.heap.size ≤ c, ⟨_, hRb.put 0 _ rfl, ownsRow_low (ownsRow_set hown3 hne3), Or.inl hSR, fun x hx => ⟨Or.inr (Nat.le_trans hWle (ho3.out x hx)), hne3 x hx⟩⟩, fun _ h => h, (OnlyS.below hB6).trans (S' := fun c => c = R) (OnlyS.grown (grown_set w6 R 0 _) rfl) (fun c hc => Or.inl (hc ▸ hSR))⟩
      have hgR := (hSo g rfl).2
      have hRb := hRb0.past hB3.out
      have hh : Blk w3 g 39 cur := (show Blk w g 39 cur from hh0).past hB3.out
      have hglt := hh.lt
      obtain ⟨Rc, Rf, Rl⟩ := hRb.facts
      obtain ⟨-, Gf, Gl⟩ := hh.facts
      go_wp2_with (at_builtin; refine wpList_append_own _ rfl _ _ 36 rfl w3.heap.size 39 i0 (.agg #[.string ⟨#[]⟩, .int .u8 0, .int .i64 0, .int .i64 0, .int .i64 0, .int .i64 0, .int .i64 0, .int .i64 0]) 8 72 Try.underlying36 hi0 hz0 hz1 hz2 rfl (by decide) _ _ _ rfl (World.ownsRow_nil _ _ _ _) ⟨g, 0, none⟩ i cap (flatS (L.take i)) rfl ?a1x2 ?a2x2 ?a3x2 ?a4x2 ?a5x2 ?a6x2 ?_)
      case a1x2 => rw [flatS_len, List.length_take]; omega
      case a2x2 =>
        intro j x hj
        have hjl : j < i * 8 := by
          rcases Nat.lt_or_ge j (i * 8) with q | q
          · exact q
          · rw [List.getElem?_eq_none (by rw [flatS_len, List.length_take]; omega)] at hj; cases hj
        rw [hh.cell, ← Array.getElem?_toList, ← List.getElem?_take_of_lt (show j < L.length * 8 by omega), ht, ← hj, ← flat_take, List.getElem?_take_of_lt hjl]
      case a3x2 =>
        intro x hx
        obtain ⟨y, _, hy⟩ := List.mem_flatMap.1 hx
        exact shRow_cell hy
      case a4x2 => unfold maxLen; omega
      case a5x2 => omega
      intro o1 w4 hown1 hgrow1 _
      have hB4 : Below w3.heap.size w3 w4 := ⟨hgrow1.os, hgrow1.tape, hgrow1.output, hgrow1.size, fun k hk => hgrow1.block k hk (by simp [Value.ownBlock])⟩
      replace hV := hV.past hB4
      replace hRb := hRb.past hB4
      replace hh := hh.past hB4
      clear Rc Rf Rl Gf Gl Vc Vf Vl hgrow1
      obtain ⟨Vc, Vf, Vl⟩ := hV.facts
      obtain ⟨Rc, Rf, Rl⟩ := hRb.facts
      obtain ⟨-, Gf, Gl⟩ := hh.facts
      go_wp2_with (at_builtin; refine wpList_append_own _ rfl _ _ 36 rfl w3.heap.size 39 i0 (.agg #[.string ⟨#[]⟩, .int .u8 0, .int .i64 0, .int .i64 0, .int .i64 0, .int .i64 0, .int .i64 0, .int .i64 0]) 8 72 Try.underlying36 hi0 hz0 hz1 hz2 rfl (by decide) _ _ _ rfl (hown1.alloc _) ⟨w4.heap.size, 0, none⟩ 1 1 (shRow ⟨u, 2, ⟨v0, v1, v2⟩, zeroV⟩) rfl rfl ?b2x2 ?b3x2 ?b4x2 ?b5x2 ?b6x2 ?_)
      case b2x2 =>
        intro j x hj
        have hN := Blk.new w4 39 #[.string u, .int .u8 2, .int .i64 v0, .int .i64 v1, .int .i64 v2, .int .i64 0, .int .i64 0, .int .i64 0]
        (try rw [addr_add, Nat.zero_add])
        rw [hN.cell]
        simpa [shRow, zeroV] using hj
      case b3x2 => exact fun x hx => shRow_cell hx
      case b4x2 => unfold maxLen; omega
      case b5x2 => omega
      case b6x2 => have := hB4.size; simp; omega
      intro o2 w5 hown2 hgrow2 _
      have hB5 : Below w3.heap.size w3 w5 := (hB4.alloc hB4.size _).grown hgrow2 (by have := hB4.size; simp; omega) (fun k hk => (hown1.lt k hk).1)
      replace hV := (hV.alloc (.cells #[.string u, .int .u8 2, .int .i64 v0, .int .i64 v1, .int .i64 v2, .int .i64 0, .int .i64 0, .int .i64 0] 39)).grown hgrow2 (by intro e; have := (hown1.lt _ e.symm).1; omega)
      replace hRb := (hRb.alloc (.cells #[.string u, .int .u8 2, .int .i64 v0, .int .i64 v1, .int .i64 v2, .int .i64 0, .int .i64 0, .int .i64 0] 39)).grown hgrow2 (by intro e; have := (hown1.lt _ e.symm).1; have := hRb0.lt; omega)
      replace hh := (hh.alloc (.cells #[.string u, .int .u8 2, .int .i64 v0, .int .i64 v1, .int .i64 v2, .int .i64 0, .int .i64 0, .int .i64 0] 39)).grown hgrow2 (by intro e; have := (hown1.lt _ e.symm).1; omega)
      clear Rc Rf Rl Gf Gl Vc Vf Vl hgrow2 hown1
      obtain ⟨Rc, Rf, Rl⟩ := hRb.facts
      obtain ⟨-, Gf, Gl⟩ := hh.facts
      obtain ⟨ao, hao, hao2⟩ : ∃ ao, (if cap = i then some (⟨g, 0, none⟩ : Addr) else some ⟨g, i * 8, none⟩) = some ⟨g, ao, none⟩ ∧ Hid (i < L.length → ao = i * 8) := by
        by_cases hci : cap = i
        · exact ⟨0, by rw [if_pos hci], Lib.hid (fun h => by omega)⟩
        · exact ⟨i * 8, by rw [if_neg hci], Lib.hid (fun _ => rfl)⟩
      go_wp2_with (at_builtin; refine wpList_append_own _ rfl _ _ 36 rfl w3.heap.size 39 i0 (.agg #[.string ⟨#[]⟩, .int .u8 0, .int .i64 0, .int .i64 0, .int .i64 0, .int .i64 0, .int .i64 0, .int .i64 0]) 8 72 Try.underlying36 hi0 hz0 hz1 hz2 rfl (by decide) _ _ _ rfl hown2 ⟨g, ao, none⟩ (L.length - i) (cap - i) (flatS (L.drop i)) rfl ?d1x2 ?d2x2 ?d3x2 ?d4x2 ?d5x2 ?d6x2 ?_)
      case d1x2 => rw [flatS_len, List.length_drop]
      case d2x2 =>
        intro j x hj
        have hjl : i * 8 + j < L.length * 8 := by
          rcases Nat.lt_or_ge (i * 8 + j) (L.length * 8) with q | q
          · exact q
          · rw [List.getElem?_eq_none (by rw [flatS_len, List.length_drop]; omega)] at hj; cases hj
        (try rw [addr_add])
        rw [hao2.out (by omega), hh.cell, ← Array.getElem?_toList, ← List.getElem?_take_of_lt hjl, ht, ← hj, ← flat_drop, List.getElem?_drop]
      case d3x2 =>
        intro x hx
        obtain ⟨y, _, hy⟩ := List.mem_flatMap.1 hx
        exact shRow_cell hy
      case d4x2 => unfold maxLen; omega
      case d5x2 => omega
      case d6x2 => exact hB5.size
      intro o3 w6 hown3 hgrow3 _
      have hB6 := hB5.grown hgrow3 hB5.size (fun k hk => (hown2.lt k hk).1)
      replace hRb := hRb.grown hgrow3 (by intro e; have := (hown2.lt _ e.symm).1; have := hRb0.lt; omega)
      have ho3 : Hid (∀ x, o3.ownBlock = some x → w3.heap.size ≤ x) := Lib.hid (fun x hx => (hown3.lt x hx).1)
      have hRlt : Hid (R < w.heap.size) := Lib.hid hRb0.lt
      have hfl : Hid (flatS (L.take i) ++ (shRow ⟨u, 2, ⟨v0, v1, v2⟩, zeroV⟩ ++ flatS (L.drop i)) = flatS (putS ⟨u, 2, ⟨v0, v1, v2⟩, zeroV⟩ L)) := Lib.hid (by rw [hp.out]; simp [flatS])
      have hnl : Hid (i + 1 + (L.length - i) = (putS ⟨u, 2, ⟨v0, v1, v2⟩, zeroV⟩ L).length) := Lib.hid (by rw [(put_perm _ L).length_eq, List.length_cons]; omega)
      rw [hfl.out, hnl.out] at hown3
      obtain ⟨a3, c3, rfl⟩ : ∃ a c, o3 = .slice a (putS ⟨u, 2, ⟨v0, v1, v2⟩, zeroV⟩ L).length c := by
        rcases hown3.2 with ⟨rfl, h0⟩ | ⟨g, cap, cur, rfl, _⟩
        · rw [h0]; exact ⟨_, _, rfl⟩
        · exact ⟨_, _, rfl⟩
      have H := Lib.hid (And.intro hRb (And.intro hown3 (below_to hB3.out (hB6.mono (Nat.le_refl _)))))
      clear Rc Rf Rl Gf Gl hgrow3 hown2 hV hh hB4 hB5 hB6 hown3 hao hh0
      obtain ⟨Rc, Rf, Rl⟩ := hRb.facts
      clear hRb
      go_wp2_with fail
      go_ret
      obtain ⟨x1, x2⟩ := set_new (v := ⟨v0, v1, v2⟩) hf1.out.symm hbt.out hf3.out.symm hg.out hfull
      rw [hE.out, hLL.out, x1, x2]
      obtain ⟨hRb, hown3, hB6⟩ := H.out
      have hne3 : ∀ x, Value.ownBlock (.slice a3 (putS ⟨u, 2, ⟨v0, v1, v2⟩, zeroV⟩ L).length c3) = some x → x ≠ R := fun x hx e => by have := ho3.out x hx; have := hRlt.out; omega
      refine ⟨rfl, fun c => S c ∨ w.heap.size ≤ c, ⟨_, hRb.put 0 _ rfl, ownsRow_low (ownsRow_set hown3 hne3), Or.inl hSR, fun x hx => ⟨Or.inr (Nat.le_trans hWle (ho3.out x hx)), hne3 x hx⟩⟩, fun _ h => h, (OnlyS.below hB6).trans (S' := fun c => c = R) (OnlyS.grown (grown_set w6 R 0 _) rfl) (fun c hc => Or.inl (hc ▸ hSR))⟩
end Go.Proofs.Ytcjgblopcfcakaa
