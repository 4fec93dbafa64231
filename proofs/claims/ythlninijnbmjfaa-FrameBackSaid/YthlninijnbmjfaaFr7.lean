/- Lists of texts, compared; the known answers of frames; the laws FrameReads, FrameLong, walked. Conditions: none. -/
import Derived.Test.YthlninijnbmjfaaFr6
namespace Go.Proofs.Ythlninijnbmjfaa
open Go.RowKit Go.Shelf

/-- A slice whose cells hold these texts. -/
def Strs (w : World) (v : Value) (l : List (List UInt8)) : Prop :=
  ∃ A n c, v = .slice A n c ∧ n = l.length ∧ (l ≠ [] → ∃ b off, A = some ⟨b, off, none⟩ ∧ b < w.heap.size ∧ ∀ i (h : i < l.length), w.cell? ⟨b, off + i, none⟩ = some (.string (bs l[i])))
theorem Strs.own {w : World} {base : Nat} {e : TypeId} {v : Value} {n : Nat} {l : List (List UInt8)} (h : w.ownsRow base e 1 v n (strs l)) : Strs w v l := by
  have hl := h.1
  rw [strs_len] at hl
  rcases h.2 with ⟨rfl, hn, _⟩ | ⟨g, cap, cur, rfl, hB, hg, _⟩
  · have : l = [] := List.eq_nil_of_length_eq_zero (by omega)
    subst this
    exact ⟨none, 0, 0, rfl, rfl, fun h => absurd rfl h⟩
  · refine ⟨_, _, _, rfl, by omega, fun _ => ⟨g, 0, rfl, (Array.getElem?_eq_some_iff.1 hg).1, fun i hi => ?_⟩⟩
    have := h.cells (g := g) rfl i (.string (bs l[i])) (by simp [strs, hi])
    rw [addr_add] at this; simpa using this
theorem Strs.past {w w' : World} {v : Value} {l : List (List UInt8)} (h : Strs w v l) (hb : Below w.heap.size w w') : Strs w' v l := by
  obtain ⟨A, n, c, rfl, hn, hc⟩ := h
  refine ⟨A, n, c, rfl, hn, fun hl => ?_⟩
  obtain ⟨b, off, rfl, hlt, hx⟩ := hc hl
  exact ⟨b, off, rfl, Nat.lt_of_lt_of_le hlt hb.size, fun i hi => (World.cell?_of_block (hb.block b hlt)).trans (hx i hi)⟩
theorem eq_upto {α : Type} {l m : List α} (h : l.length = m.length) : (∀ i (h1 : i < l.length) (h2 : i < m.length), l[i] = m[i]) → l = m := fun hh => List.ext_getElem h hh
theorem str_ne {a b : ByteArray} (h : a.data.toList ≠ b.data.toList) : (a.toList == b.toList) = false := by
  rw [ByteArray.toList_eq, ByteArray.toList_eq]
  simpa using h
theorem bs_ne {a b : List UInt8} (h : a ≠ b) : ((bs a).toList == (bs b).toList) = false := str_ne h
set_option maxRecDepth 100000 in
set_option maxHeartbeats 4000000 in
theorem same04 (u v : Value) (l m : List (List UInt8)) (w : World) (hl : Strs w u l) (hm : Strs w v m) (hz : l.length ≤ 1000000) (hz' : m.length ≤ 1000000) :
    Calls Try.prog 20 #[u, v] w fun e w' => e = .returned (.bool (decide (l = m))) ∧ Below w.heap.size w w' := by
  obtain ⟨A, n, c, rfl, rfl, hA⟩ := hl
  obtain ⟨B, n', c', rfl, rfl, hB⟩ := hm
  obtain ⟨q, hqq⟩ : ∃ q, q = decide (l = m) := ⟨_, rfl⟩
  rw [← hqq]
  replace hqq := Lib.hid hqq
  by_cases hlen : l.length = m.length
  · by_cases hnil : l = []
    · subst hnil
      obtain rfl : m = [] := List.eq_nil_of_length_eq_zero (by rw [← hlen]; rfl)
      go_enter Try.func20, Try.ntmps20
      go_wp2_with fail
      go_loopw [5] (fun i wr => i = .int .i64 0 ∧ wr = w) (fun _ _ => 0)
      case atStart => exact ⟨rfl, rfl⟩
      case round =>
        obtain ⟨rfl, rfl⟩ := hrel
        go_wp2_with fail
        go_ret
        exact ⟨by rw [hqq.out]; rfl, Below.refl _ _⟩
    · obtain ⟨b, off, rfl, hb, hx⟩ := hA hnil
      obtain ⟨b', off', rfl, hb', hx'⟩ := hB (by rintro rfl; exact hnil (List.eq_nil_of_length_eq_zero (by rw [hlen]; rfl)))
      have HX := Lib.hid hx
      have HX' := Lib.hid hx'
      clear hx hx' hA hB
      go_enter Try.func20, Try.ntmps20
      go_wp2_with fail
      go_loopw [5] (fun i wr => ∃ k : Nat, i = .int .i64 k ∧ k ≤ l.length ∧ Hid (∀ i, i < k → ∀ (h1 : i < l.length) (h2 : i < m.length), l[i] = m[i]) ∧ Below w.heap.size w wr) (fun i _ => l.length - (intOf i).toNat)
      case atStart => exact ⟨0, rfl, Nat.zero_le _, Lib.hid (fun i hi => absurd hi (by omega)), Below.refl _ _⟩
      case round =>
        obtain ⟨k, rfl, hk, hq, hBw⟩ := hrel
        by_cases hlt : k < l.length
        · have hlt2 : k < m.length := by omega
          have x1 := (hBw.cell (p := ⟨b, off + k, none⟩) hb).trans (HX.out k hlt)
          have x2 := (hBw.cell (p := ⟨b', off' + k, none⟩) hb').trans (HX'.out k (by omega))
          have e1 : l[k]? = some l[k] := List.getElem?_eq_getElem hlt
          have e2 : m[k]? = some (m[k]'(by omega)) := List.getElem?_eq_getElem (by omega)
          generalize l[k] = t at *
          generalize m[k]'(by omega) = t' at *
          by_cases ht : t = t'
          · subst ht
            go_wp2_with fail
            refine wp_region_held0 (S := fun w' => w'.cell? ⟨b, off + k, none⟩ = some (.string (bs t)) ∧ w'.cell? ⟨b', off' + k, none⟩ = some (.string (bs t))) (by kernel_rfl) ⟨x1, x2⟩ (fun hHeld => ?_)
            refine wpAnyH_take (i := 0) (v := ?_) rfl (by kernel_rfl) (by kernel_rfl) (by kernel_rfl) (fun _ _ _ h => h) (Or.inl ⟨by rfl, ?hy⟩) hHeld ?_
            case hy =>
              intro w hSw
              (try dsimp only at hSw)
              go_simp
              (try with_reducible rfl)
            try simp only [Act.put, List.getElem_toArray, List.getElem_cons_succ, List.getElem_cons_zero, List.setIfInBounds_toArray, List.set_cons_zero, List.set_cons_succ]
            refine wpAnyH_take (i := 1) (v := ?_) rfl (by kernel_rfl) (by kernel_rfl) (by kernel_rfl) (fun _ _ _ h => h) (Or.inl ⟨by rfl, ?hy⟩) hHeld ?_
            case hy =>
              intro w hSw
              (try dsimp only at hSw)
              go_simp
              (try with_reducible rfl)
            try simp only [Act.put, List.getElem_toArray, List.getElem_cons_succ, List.getElem_cons_zero, List.setIfInBounds_toArray, List.set_cons_zero, List.set_cons_succ]
            refine wpAnyH_take (i := 2) (v := ?_) rfl (by kernel_rfl) (by kernel_rfl) (by kernel_rfl) (fun _ _ _ h => h) (Or.inl ⟨by rfl, ?hy⟩) hHeld ?_
            case hy =>
              intro w hSw
              (try dsimp only at hSw)
              go_simp
              (try with_reducible rfl)
            try simp only [Act.put, List.getElem_toArray, List.getElem_cons_succ, List.getElem_cons_zero, List.setIfInBounds_toArray, List.set_cons_zero, List.set_cons_succ]
            refine wpAnyH_take (i := 3) (v := ?_) rfl (by kernel_rfl) (by kernel_rfl) (by kernel_rfl) (fun _ _ _ h => h) (Or.inl ⟨by rfl, ?hy⟩) hHeld ?_
            case hy =>
              intro w hSw
              (try dsimp only at hSw)
              go_simp
              (try with_reducible rfl)
            try simp only [Act.put, List.getElem_toArray, List.getElem_cons_succ, List.getElem_cons_zero, List.setIfInBounds_toArray, List.set_cons_zero, List.set_cons_succ]
            refine wpAnyH_take (i := 4) (v := ?_) rfl (by kernel_rfl) (by kernel_rfl) (by kernel_rfl) (fun _ _ _ h => h) (Or.inl ⟨by rfl, ?hy⟩) hHeld ?_
            case hy =>
              intro w hSw
              (try dsimp only at hSw)
              go_simp
              (try with_reducible rfl)
            try simp only [Act.put, List.getElem_toArray, List.getElem_cons_succ, List.getElem_cons_zero, List.setIfInBounds_toArray, List.set_cons_zero, List.set_cons_succ]
            refine wpAnyH_take (i := 5) (v := ?_) rfl (by kernel_rfl) (by kernel_rfl) (by kernel_rfl) (fun _ _ _ h => h) (Or.inl ⟨by rfl, ?hy⟩) hHeld ?_
            case hy =>
              intro w hSw
              (try dsimp only at hSw)
              go_simp
              (try with_reducible rfl)
            try simp only [Act.put, List.getElem_toArray, List.getElem_cons_succ, List.getElem_cons_zero, List.setIfInBounds_toArray, List.set_cons_zero, List.set_cons_succ]
            refine wpAnyH_take (i := 6) (v := ?_) rfl (by kernel_rfl) (by kernel_rfl) (by kernel_rfl) (fun _ _ _ h => h) (Or.inl ⟨by rfl, ?hy⟩) hHeld ?_
            case hy =>
              intro w hSw
              (try dsimp only at hSw)
              go_simp
              (try with_reducible rfl)
            try simp only [Act.put, List.getElem_toArray, List.getElem_cons_succ, List.getElem_cons_zero, List.setIfInBounds_toArray, List.set_cons_zero, List.set_cons_succ]
            refine wpAnyH_take (i := 7) (v := ?_) rfl (by kernel_rfl) (by kernel_rfl) (by kernel_rfl) (fun _ _ _ h => h) (Or.inl ⟨by rfl, ?hy⟩) hHeld ?_
            case hy =>
              intro w hSw
              (try dsimp only at hSw)
              go_simp
              (try with_reducible rfl)
            try simp only [Act.put, List.getElem_toArray, List.getElem_cons_succ, List.getElem_cons_zero, List.setIfInBounds_toArray, List.set_cons_zero, List.set_cons_succ]
            refine wpAnyH_take (i := 8) (v := ?_) rfl (by kernel_rfl) (by kernel_rfl) (by kernel_rfl) (fun _ _ _ h => h) (Or.inl ⟨by rfl, ?hy⟩) hHeld ?_
            case hy =>
              intro w hSw
              (try dsimp only at hSw)
              go_simp
              (try with_reducible rfl)
            try simp only [Act.put, List.getElem_toArray, List.getElem_cons_succ, List.getElem_cons_zero, List.setIfInBounds_toArray, List.set_cons_zero, List.set_cons_succ]
            refine wpAnyH_done (by kernel_rfl) ?_ _
            simp only [Exit.then]
            go_wp2_with fail
            go_roundw
            case rel =>
              refine ⟨k + 1, by go_num, by omega, Lib.hid (fun i hi h1 h2 => ?_), hBw.drew⟩
              by_cases hik : i < k
              · exact hq.out i hik h1 h2
              · obtain rfl : i = k := by omega
                rw [List.getElem?_eq_getElem h1] at e1
                rw [List.getElem?_eq_getElem h2] at e2
                exact (Option.some.inj e1).trans (Option.some.inj e2).symm
            case measure => simp [intOf]; omega
          · have g1 : ((bs t).toList == (bs t').toList) = false := bs_ne ht
            have hne : decide (l = m) = false := by
              simp
              rintro rfl
              exact ht (Option.some.inj (e1.symm.trans e2))
            go_wp2_with fail
            refine wp_region_held0 (S := fun w' => w'.cell? ⟨b, off + k, none⟩ = some (.string (bs t)) ∧ w'.cell? ⟨b', off' + k, none⟩ = some (.string (bs t'))) (by kernel_rfl) ⟨x1, x2⟩ (fun hHeld => ?_)
            refine wpAnyH_take (i := 0) (v := ?_) rfl (by kernel_rfl) (by kernel_rfl) (by kernel_rfl) (fun _ _ _ h => h) (Or.inl ⟨by rfl, ?hy⟩) hHeld ?_
            case hy =>
              intro w hSw
              (try dsimp only at hSw)
              go_simp
              (try with_reducible rfl)
            try simp only [Act.put, List.getElem_toArray, List.getElem_cons_succ, List.getElem_cons_zero, List.setIfInBounds_toArray, List.set_cons_zero, List.set_cons_succ]
            refine wpAnyH_take (i := 1) (v := ?_) rfl (by kernel_rfl) (by kernel_rfl) (by kernel_rfl) (fun _ _ _ h => h) (Or.inl ⟨by rfl, ?hy⟩) hHeld ?_
            case hy =>
              intro w hSw
              (try dsimp only at hSw)
              go_simp
              (try with_reducible rfl)
            try simp only [Act.put, List.getElem_toArray, List.getElem_cons_succ, List.getElem_cons_zero, List.setIfInBounds_toArray, List.set_cons_zero, List.set_cons_succ]
            refine wpAnyH_take (i := 2) (v := ?_) rfl (by kernel_rfl) (by kernel_rfl) (by kernel_rfl) (fun _ _ _ h => h) (Or.inl ⟨by rfl, ?hy⟩) hHeld ?_
            case hy =>
              intro w hSw
              (try dsimp only at hSw)
              go_simp
              (try with_reducible rfl)
            try simp only [Act.put, List.getElem_toArray, List.getElem_cons_succ, List.getElem_cons_zero, List.setIfInBounds_toArray, List.set_cons_zero, List.set_cons_succ]
            refine wpAnyH_take (i := 3) (v := ?_) rfl (by kernel_rfl) (by kernel_rfl) (by kernel_rfl) (fun _ _ _ h => h) (Or.inl ⟨by rfl, ?hy⟩) hHeld ?_
            case hy =>
              intro w hSw
              (try dsimp only at hSw)
              go_simp
              (try with_reducible rfl)
            try simp only [Act.put, List.getElem_toArray, List.getElem_cons_succ, List.getElem_cons_zero, List.setIfInBounds_toArray, List.set_cons_zero, List.set_cons_succ]
            refine wpAnyH_take (i := 4) (v := ?_) rfl (by kernel_rfl) (by kernel_rfl) (by kernel_rfl) (fun _ _ _ h => h) (Or.inl ⟨by rfl, ?hy⟩) hHeld ?_
            case hy =>
              intro w hSw
              (try dsimp only at hSw)
              go_simp
              (try with_reducible rfl)
            try simp only [Act.put, List.getElem_toArray, List.getElem_cons_succ, List.getElem_cons_zero, List.setIfInBounds_toArray, List.set_cons_zero, List.set_cons_succ]
            refine wpAnyH_take (i := 5) (v := ?_) rfl (by kernel_rfl) (by kernel_rfl) (by kernel_rfl) (fun _ _ _ h => h) (Or.inl ⟨by rfl, ?hy⟩) hHeld ?_
            case hy =>
              intro w hSw
              (try dsimp only at hSw)
              go_simp
              (try with_reducible rfl)
            try simp only [Act.put, List.getElem_toArray, List.getElem_cons_succ, List.getElem_cons_zero, List.setIfInBounds_toArray, List.set_cons_zero, List.set_cons_succ]
            refine wpAnyH_take (i := 6) (v := ?_) rfl (by kernel_rfl) (by kernel_rfl) (by kernel_rfl) (fun _ _ _ h => h) (Or.inl ⟨by rfl, ?hy⟩) hHeld ?_
            case hy =>
              intro w hSw
              (try dsimp only at hSw)
              go_simp
              (try with_reducible rfl)
            try simp only [Act.put, List.getElem_toArray, List.getElem_cons_succ, List.getElem_cons_zero, List.setIfInBounds_toArray, List.set_cons_zero, List.set_cons_succ]
            refine wpAnyH_take (i := 7) (v := ?_) rfl (by kernel_rfl) (by kernel_rfl) (by kernel_rfl) (fun _ _ _ h => h) (Or.inl ⟨by rfl, ?hy⟩) hHeld ?_
            case hy =>
              intro w hSw
              (try dsimp only at hSw)
              go_simp
              (try with_reducible rfl)
            try simp only [Act.put, List.getElem_toArray, List.getElem_cons_succ, List.getElem_cons_zero, List.setIfInBounds_toArray, List.set_cons_zero, List.set_cons_succ]
            refine wpAnyH_take (i := 8) (v := ?_) rfl (by kernel_rfl) (by kernel_rfl) (by kernel_rfl) (fun _ _ _ h => h) (Or.inl ⟨by rfl, ?hy⟩) hHeld ?_
            case hy =>
              intro w hSw
              (try dsimp only at hSw)
              go_simp
              (try with_reducible rfl)
            try simp only [Act.put, List.getElem_toArray, List.getElem_cons_succ, List.getElem_cons_zero, List.setIfInBounds_toArray, List.set_cons_zero, List.set_cons_succ]
            refine wpAnyH_done (by kernel_rfl) ?_ _
            simp only [Exit.then]
            go_wp2_with fail
            go_ret
            exact ⟨by rw [hqq.out, hne]; rfl, hBw.drew⟩
        · have hlt2 : ¬ k < m.length := by omega
          have he : decide (l = m) = true := by
            simp
            exact eq_upto hlen fun i h1 h2 => hq.out i (by omega) h1 h2
          go_wp2_with fail
          go_ret
          exact ⟨by rw [hqq.out, he]; rfl, hBw⟩
  · have hne : decide (l = m) = false := by simp; rintro rfl; exact hlen rfl
    have g1 : ((l.length : Int) != (m.length : Int)) = true := by simp; omega
    go_enter Try.func20, Try.ntmps20
    go_wp2_with fail
    go_ret
    exact ⟨by rw [hqq.out, hne]; rfl, Below.refl _ _⟩
theorem scan_fuel_len : ∀ (f : Nat) (l : List UInt8), (scanL f l).1.length * 8 ≤ l.length
  | 0, l => by simp [scanL]
  | f + 1, l => by
    simp only [scanL]
    by_cases h0 : l = []
    · rw [if_pos h0]; simp
    rw [if_neg h0]
    by_cases h1 : readE l = 0
    · rw [if_pos h1]
      have hb := readN_bd h1
      have := scan_fuel_len f (l.drop (readN l))
      rw [List.length_drop] at this
      simp only [List.length_cons]
      omega
    · rw [if_neg h1]; simp
theorem scan_len (l : List UInt8) (h : l.length ≤ 1000000) : (scan l).1.length ≤ 1000000 := by
  have := scan_fuel_len (l.length + 1) l
  unfold scan
  omega
/-- The frame of "a". -/
def fa : ByteArray := ⟨#[1, 0, 0, 0, 97, 248, 9, 206, 238]⟩
theorem fa_frame : bs (frameL (⟨#[97]⟩ : ByteArray).data.toList) = fa := by decide +kernel
theorem fa_x : readV (fa ++ (⟨#[120]⟩ : ByteArray)).data.toList = .tuple #[.string ⟨#[97]⟩, .int .i64 9, .int .i64 0] := by
  unfold readV
  rw [show readE (fa ++ (⟨#[120]⟩ : ByteArray)).data.toList = 0 by decide +kernel, show readT (fa ++ (⟨#[120]⟩ : ByteArray)).data.toList = [97] by decide +kernel, show readN (fa ++ (⟨#[120]⟩ : ByteArray)).data.toList = 9 by decide +kernel]
  rfl
theorem fa_cut : readV (fa.extract 0 8).data.toList = .tuple #[.string ⟨#[]⟩, .int .i64 0, .int .i64 40] := readV_bad (by decide +kernel) (by decide)
theorem fa_scan : scan (fa ++ fa ++ (⟨#[120]⟩ : ByteArray)).data.toList = ([[97], [97]], 18, 40) := by decide +kernel
set_option maxRecDepth 100000 in
set_option maxHeartbeats 4000000 in
theorem alive04 (w : World) : Calls Try.prog 13 #[] w fun e w' => e = .returned (.bool true) ∧ Below w.heap.size w w' := by
  have c0 := fun w => fr_Frame (⟨#[97]⟩ : ByteArray) (by decide) w
  rw [if_neg (by decide), fa_frame] at c0
  have c1 := fun w => fr_Read (fa ++ (⟨#[120]⟩ : ByteArray)) (by decide +kernel) w
  rw [fa_x] at c1
  have c2 := fun w => fr_Read (fa.extract 0 8) (by decide +kernel) w
  rw [fa_cut] at c2
  have c3 := fun w => fr_Scan (fa ++ fa ++ (⟨#[120]⟩ : ByteArray)) (by decide +kernel) w
  unfold ScanPost at c3
  rw [fa_scan] at c3
  have hz : fa.size = 9 := rfl
  have h5 : ((fa.extract 0 5).toList == [1, 0, 0, 0, 97]) = true := by rw [ByteArray.toList_eq]; decide +kernel
  have C0 := Lib.hid c0
  have C1 := Lib.hid c1
  have C2 := Lib.hid c2
  have C3 := Lib.hid c3
  clear c0 c1 c2 c3
  generalize fa = S at *
  go_enter Try.func13, Try.ntmps13
  go_wp2_with fail
  refine (C0.out _).mono ?_
  rintro r w1 ⟨rfl, hb1⟩; dsimp only
  go_wp2_with fail
  refine (C1.out _).mono ?_
  rintro r w2 ⟨rfl, hb2⟩; dsimp only
  replace hb1 := below_to hb1 hb2
  go_wp2_with fail
  refine (C2.out _).mono ?_
  rintro r w3 ⟨rfl, hb3⟩; dsimp only
  replace hb1 := below_to hb1 hb3
  go_wp2_with fail
  refine (C3.out _).mono ?_
  rintro r w4 ⟨v, rfl, hown, hb4⟩; dsimp only
  replace hb1 := below_to hb1 hb4
  obtain ⟨A, n, c, rfl, hn, _⟩ := Strs.own hown
  obtain rfl : n = 2 := hn
  go_wp2_with fail
  go_ret
  exact ⟨rfl, hb1⟩
set_option maxRecDepth 100000 in
set_option maxHeartbeats 4000000 in
theorem FrameReads_walk (text : ByteArray) (ht : text.size ≤ 140737488351232) (s : ByteArray) (hs : s.size ≤ 140737488351232) (w : World) :
    Calls Try.prog 3 #[.string text, .string s] w fun e w' => e = .returned (.bool true) ∧ Below w.heap.size w w' := by
  have CA := Lib.hid alive04
  by_cases hbig : 4096 < text.size
  · go_enter Try.func3, Try.ntmps3
    go_wp2_with fail
    refine (CA.out _).mono ?_
    rintro r w1 ⟨rfl, hb⟩; dsimp only
    go_wp2_with fail
    go_ret
    exact ⟨rfl, hb⟩
  by_cases hbig' : 4096 < s.size
  · go_enter Try.func3, Try.ntmps3
    go_wp2_with fail
    refine (CA.out _).mono ?_
    rintro r w1 ⟨rfl, hb⟩; dsimp only
    go_wp2_with fail
    go_ret
    exact ⟨rfl, hb⟩
  have c1 := fun w => fr_Frame text ht w
  have c2 := fun w => rf_Frame text ht w
  rw [if_neg (by omega)] at c1 c2
  have c3 := fun w => fr_Read s hs w
  have c4 := fun w => rf_Read s hs w
  unfold readV at c3 c4
  have c5 := fun w => fr_Scan s (by omega) w
  have c6 := fun w => rf_Scan s (by omega) w
  unfold ScanPost at c5 c6
  have hsc := (Scans.zero s.data.toList)
  have C7 := Lib.hid (fun u v w (hu : Strs w u (scan s.data.toList).1) (hv : Strs w v (scan s.data.toList).1) => same04 u v _ _ w hu hv (scan_len s.data.toList (by rw [size_list]; omega)) (scan_len s.data.toList (by rw [size_list]; omega)))
  simp only [decide_true] at C7
  generalize (scan s.data.toList).1 = L at *
  generalize (scan s.data.toList).2.1 = N at *
  generalize (scan s.data.toList).2.2 = E at *
  generalize bs (frameL text.data.toList) = ft at *
  generalize bs (readT s.data.toList) = tt at *
  generalize readN s.data.toList = n at *
  generalize readE s.data.toList = er at *
  have C1 := Lib.hid c1
  have C2 := Lib.hid c2
  have C3 := Lib.hid c3
  have C4 := Lib.hid c4
  have C5 := Lib.hid c5
  have C6 := Lib.hid c6
  clear c1 c2 c3 c4 c5 c6 hsc
  go_enter Try.func3, Try.ntmps3
  go_wp2_with fail
  refine (C1.out _).mono ?_
  rintro r w1 ⟨rfl, hb⟩; dsimp only
  go_wp2_with fail
  refine (C2.out _).mono ?_
  rintro r w2 ⟨rfl, hb2⟩; dsimp only
  replace hb := below_to hb hb2
  clear hb2
  go_wp2_with fail
  refine (C3.out _).mono ?_
  rintro r w3 ⟨rfl, hb2⟩; dsimp only
  replace hb := below_to hb hb2
  clear hb2
  go_wp2_with fail
  refine (C4.out _).mono ?_
  rintro r w4 ⟨rfl, hb2⟩; dsimp only
  replace hb := below_to hb hb2
  clear hb2
  go_wp2_with fail
  refine (C5.out _).mono ?_
  rintro r w5 ⟨v5, rfl, ho5, hb2⟩; dsimp only
  replace hb := below_to hb hb2
  clear hb2
  replace ho5 := Strs.own ho5
  go_wp2_with fail
  refine (C6.out _).mono ?_
  rintro r w6 ⟨v6, rfl, ho6, hb2⟩; dsimp only
  replace hb := below_to hb hb2
  replace ho5 := ho5.past hb2
  clear hb2
  replace ho6 := Strs.own ho6
  go_wp2_with fail
  refine (C7.out _ _ _ ho5 ho6).mono ?_
  rintro r w7 ⟨rfl, hb2⟩; dsimp only
  replace hb := below_to hb hb2
  clear hb2
  go_wp2_with fail
  refine (CA.out _).mono ?_
  rintro r w8 ⟨rfl, hb2⟩; dsimp only
  replace hb := below_to hb hb2
  go_wp2_with fail
  go_ret
  exact ⟨rfl, hb⟩
end Go.Proofs.Ythlninijnbmjfaa
