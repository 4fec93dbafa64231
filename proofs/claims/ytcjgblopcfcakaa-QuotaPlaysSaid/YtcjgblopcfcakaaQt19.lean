/- The document's May, walked: may a list be a ledger's? Conditions: what comes in is of its kind. -/
import Derived.Test.YtcjgblopcfcakaaQt18
namespace Go.Proofs.Ytcjgblopcfcakaa
open Go.RowKit Go.MapKept

theorem good_bad {ls : List Share} {k : Nat} (h : k < ls.length) (hb : okS ls[k] = false) : goodB ls = false := goodB_false fun hg => by
  have := (hg.1 k h).1
  rw [hb] at this
  cases this
theorem good_fall {ls : List Share} {k : Nat} (h : k < ls.length) (h0 : 0 < k) (h' : k - 1 < ls.length) (hb : ltK ls[k - 1].user ls[k - 1].band ls[k] = false) : goodB ls = false := goodB_false fun hg => by
  have := (hg.1 k h).2 h0 h'
  rw [hb] at this
  cases this
theorem good_len {ls : List Share} (h : ∀ j (h : j < ls.length), okS ls[j] = true ∧ (0 < j → ∀ h' : j - 1 < ls.length, ltK ls[j - 1].user ls[j - 1].band ls[j] = true)) : goodB ls = decide (ls.length ≤ 64) := by
  by_cases hl : ls.length ≤ 64
  · rw [decide_eq_true hl]; exact goodB_true ⟨h, hl⟩
  · rw [decide_eq_false hl]; exact goodB_false fun hg => hl hg.2
set_option maxRecDepth 100000 in
set_option maxHeartbeats 8000000 in
theorem r_May (A : Option Addr) (c : Nat) (xs : List Share) (w : World) (hn : xs.length ≤ 1000000) (hA : SharesIn w A xs) :
    Calls Try.prog 19 #[.slice A xs.length c] w fun e w' => e = .returned (.bool (goodB xs)) ∧ Below w.heap.size w w' := by
  have HA := Lib.hid hA
  have C1 := Lib.hid (fun u w => ref_Name u w)
  have C2 := Lib.hid (fun v w => ref_May v w)
  have C3 := Lib.hid (fun v w => r_positive v w)
  have C4 := Lib.hid (fun u b s w => r_less u b s w)
  obtain ⟨G, hG⟩ : ∃ G, G = goodB xs := ⟨_, rfl⟩
  rw [← hG]
  replace hG := Lib.hid hG
  clear hA
  go_enter Try.func19, Try.ntmps19
  go_wp2_with fail
  go_loopw [3] (fun i wr => ∃ k : Nat, i = .int .i64 k ∧ k ≤ xs.length ∧ Hid (∀ j (h : j < xs.length), j < k → okS xs[j] = true ∧ (0 < j → ∀ h' : j - 1 < xs.length, ltK xs[j - 1].user xs[j - 1].band xs[j] = true)) ∧ Below w.heap.size w wr) (fun i _ => xs.length - (intOf i).toNat)
  case atStart => exact ⟨0, rfl, Nat.zero_le _, Lib.hid (fun j _ h => absurd h (by omega)), Below.refl _ _⟩
  case round =>
    obtain ⟨k, rfl, hk, hs, hB⟩ := hrel
    by_cases hlt : k < xs.length
    · obtain ⟨g, off, rfl, hg, hcell⟩ := HA.out (by intro e; rw [e] at hlt; simp at hlt)
      have hbad : Hid (okS xs[k] = false → goodB xs = false) := Lib.hid (fun h => good_bad hlt h)
      have hnext : Hid (okS xs[k] = true → (0 < k → ∀ h' : k - 1 < xs.length, ltK xs[k - 1].user xs[k - 1].band xs[k] = true) → ∀ j (h : j < xs.length), j < k + 1 → okS xs[j] = true ∧ (0 < j → ∀ h' : j - 1 < xs.length, ltK xs[j - 1].user xs[j - 1].band xs[j] = true)) := Lib.hid (fun h1 h2 j hj hjk => by
        by_cases e : j < k
        · exact hs.out j hj e
        · have : j = k := by omega
          subst this
          exact ⟨h1, h2⟩)
      have hprev : Hid (0 < k → ∃ (pu : ByteArray) (pb : Int), Hid (∀ W, Below w.heap.size w W → W.cell? ⟨g, off + (k - 1) * 8, none⟩ = some (.string pu) ∧ W.cell? ⟨g, off + (k - 1) * 8 + 1, none⟩ = some (.int .u8 pb)) ∧ Hid (ltK pu pb xs[k] = true → ∀ h' : k - 1 < xs.length, ltK xs[k - 1].user xs[k - 1].band xs[k] = true) ∧ Hid (ltK pu pb xs[k] = false → goodB xs = false)) := Lib.hid (fun h0 => by
        have h' : k - 1 < xs.length := by omega
        obtain ⟨z0, z1, _⟩ := hcell (k - 1) h'
        exact ⟨xs[k - 1].user, xs[k - 1].band, Lib.hid (fun W hW => ⟨(hW.cell (p := ⟨g, off + (k - 1) * 8, none⟩) hg).trans z0, (hW.cell (p := ⟨g, off + (k - 1) * 8 + 1, none⟩) hg).trans z1⟩), Lib.hid (fun h _ => h), Lib.hid (fun h => good_fall hlt h0 h' h)⟩)
      obtain ⟨k0, k1, k2, k3, k4, k5, k6, k7⟩ := hcell k hlt
      have j0 := (hB.cell (p := ⟨g, off + k * 8, none⟩) hg).trans k0
      have j1 := (hB.cell (p := ⟨g, off + k * 8 + 1, none⟩) hg).trans k1
      have j2 := (hB.cell (p := ⟨g, off + k * 8 + 2, none⟩) hg).trans k2
      have j3 := (hB.cell (p := ⟨g, off + k * 8 + 3, none⟩) hg).trans k3
      have j4 := (hB.cell (p := ⟨g, off + k * 8 + 4, none⟩) hg).trans k4
      have j5 := (hB.cell (p := ⟨g, off + k * 8 + 5, none⟩) hg).trans k5
      have j6 := (hB.cell (p := ⟨g, off + k * 8 + 6, none⟩) hg).trans k6
      have j7 := (hB.cell (p := ⟨g, off + k * 8 + 7, none⟩) hg).trans k7
      clear k0 k1 k2 k3 k4 k5 k6 k7 hcell hg
      have hoke : Hid (okS xs[k] = (nameB xs[k].user && (bandB xs[k].band && (mayV xs[k].quota && fitsV zeroV xs[k].used)))) := Lib.hid rfl
      generalize hxx : xs[k] = x at *
      obtain ⟨su, sb, ⟨q0, q1, q2⟩, ⟨u0, u1, u2⟩⟩ := x
      dsimp only at *
      clear hxx
      have hX := Blk.new wr 39 #[.string su, .int .u8 sb, .int .i64 q0, .int .i64 q1, .int .i64 q2, .int .i64 u0, .int .i64 u1, .int .i64 u2]
      have hB1 : Below w.heap.size w (wr.alloc (.cells #[.string su, .int .u8 sb, .int .i64 q0, .int .i64 q1, .int .i64 q2, .int .i64 u0, .int .i64 u1, .int .i64 u2] 39)) := below_own hB _
      go_wp2_with fail
      refine at_world (F := fun W => Below w.heap.size w W ∧ Blk W wr.heap.size 39 #[.string su, .int .u8 sb, .int .i64 q0, .int .i64 q1, .int .i64 q2, .int .i64 u0, .int .i64 u1, .int .i64 u2]) ⟨hB1, hX⟩ ?_
      clear hB1 hX hB j0 j1 j2 j3 j4 j5 j6 j7
      generalize wr.heap.size = X at *
      rintro W ⟨hB, hX⟩
      refine (C1.out su _).mono ?_
      rintro r ww ⟨rfl, rfl⟩; dsimp only
      cases hf1 : nameB su
      · replace hB := Lib.hid hB
        replace hf1 := Lib.hid hf1
        have hg := Lib.hid (hG.out.trans (hbad.out (by rw [hoke.out, hf1.out]; simp)))
        clear hX
        go_wp2_with fail
        go_returns
        rw [hg.out]
        exact ⟨rfl, hB.out⟩
      replace hf1 := Lib.hid hf1
      have hbb : bandB sb = (decide (sb = 1) || decide (sb = 2)) := rfl
      obtain ⟨Xc, Xf, Xl⟩ := hX.facts
      by_cases hbd : sb = 1 ∨ sb = 2
      case neg =>
        have n1 : (sb != 1) = true := by simp; omega
        have n2 : (sb != 2) = true := by simp; omega
        have n3 : bandB sb = false := by rw [hbb]; simp; omega
        replace n3 := Lib.hid n3
        replace hB := Lib.hid hB
        have hg := Lib.hid (hG.out.trans (hbad.out (by rw [hoke.out, hf1.out, n3.out]; simp)))
        clear hbb hbd hX
        go_wp2_with fail
        go_returns
        rw [hg.out]
        exact ⟨rfl, hB.out⟩
      have n3 : bandB sb = true := by rw [hbb]; simp; omega
      rw [n3] at hoke
      have hok2 : Hid (mayV ⟨q0, q1, q2⟩ = true → fitsV zeroV ⟨u0, u1, u2⟩ = true → okS ⟨su, sb, ⟨q0, q1, q2⟩, ⟨u0, u1, u2⟩⟩ = true) := Lib.hid (fun h1 h2 => by rw [hoke.out, hf1.out, h1, h2]; rfl)
      clear hbb n3 Xc Xf Xl
      rcases hbd with rfl | rfl
      ·
        have hXf := hX.facts
        obtain ⟨Xc, Xf, Xl⟩ := hXf
        go_wp2_with fail
        refine (C2.out ⟨q0, q1, q2⟩ _).mono ?_
        rintro r w1 ⟨rfl, hb1⟩; dsimp only
        replace hX := hX.past hb1
        replace hB := below_to hB hb1
        clear hb1 Xc Xf Xl
        cases hf2 : mayV ⟨q0, q1, q2⟩
        · replace hB := Lib.hid hB
          replace hf2 := Lib.hid hf2
          clear hX hok2
          have hg := Lib.hid (hG.out.trans (hbad.out (by rw [hoke.out, hf1.out, hf2.out]; simp)))
          go_wp2_with fail
          go_returns
          rw [hg.out]
          exact ⟨rfl, hB.out⟩
        obtain ⟨Xc, Xf, Xl⟩ := hX.facts
        replace hf2 := Lib.hid hf2
        go_wp2_with fail
        refine (C3.out ⟨u0, u1, u2⟩ _).mono ?_
        rintro r w2 ⟨rfl, hb1⟩; dsimp only
        replace hX := hX.past hb1
        replace hB := below_to hB hb1
        clear hb1 Xc Xf Xl
        cases hf3 : fitsV zeroV ⟨u0, u1, u2⟩
        · replace hB := Lib.hid hB
          replace hf3 := Lib.hid hf3
          clear hX hok2
          have hg := Lib.hid (hG.out.trans (hbad.out (by rw [hoke.out, hf1.out, hf2.out, hf3.out]; simp)))
          go_wp2_with fail
          go_returns
          rw [hg.out]
          exact ⟨rfl, hB.out⟩
        replace hf3 := Lib.hid hf3
        have hok3 := Lib.hid (hok2.out hf2.out hf3.out)
        clear hok2 hbad hoke
        obtain ⟨Xc, Xf, Xl⟩ := hX.facts
        rcases Nat.eq_zero_or_pos k with hk0 | hk0
        · subst hk0
          have hn2 := Lib.hid (hnext.out hok3.out (fun h => absurd h (by omega)))
          clear hnext hprev hs
          go_wp2_with fail
          refine wp_region_ext (by kernel_rfl) (by kernel_rfl) ?_
          repeat (go_big_quiet_step (fail))
          refine wpQuiet_nil ?_
          rintro w3 ⟨x, hx⟩
          have hB3 := Lib.hid (below_to hB (hx ▸ extn_below w2 x))
          clear hx hX Xc Xf Xl hB
          go_wp2_with fail
          go_roundw
          case rel => exact ⟨1, by go_num, hlt, hn2, hB3.out⟩
          case measure => simp [intOf]; omega
        · obtain ⟨pu, pb, hpc, hpl, hpf⟩ := hprev.out hk0
          obtain ⟨m, hm⟩ : ∃ m, m = k - 1 := ⟨_, rfl⟩
          rw [← hm] at hpc
          obtain ⟨p0, p1⟩ := hpc.out _ hB
          have ek : ((k : Int) - 1) = (m : Int) := by omega
          have em : m < xs.length := by omega
          have ew : IntKind.i64.wrap (m : Int) = (m : Int) := IntWalk.i64_in _ (by omega)
          have eb : (m : Int) < (xs.length : Int) := by omega
          clear hm
          have hd0 : decide ((0 : Int) < (k : Int)) = true := decide_eq_true (by omega)
          go_wp2_with fail
          refine wp_region_held_drew (S := (fun w' => w'.cell? ⟨g, off + m * 8, none⟩ = some (.string pu) ∧ w'.cell? ⟨g, off + m * 8 + 1, none⟩ = some (.int .u8 pb) ∧ w'.cell? ⟨X, 0, none⟩ = some (.string su) ∧ w'.cell? ⟨X, 1, none⟩ = some (.int .u8 1) ∧ w'.cell? ⟨X, 2, none⟩ = some (.int .i64 q0) ∧ w'.cell? ⟨X, 3, none⟩ = some (.int .i64 q1) ∧ w'.cell? ⟨X, 4, none⟩ = some (.int .i64 q2) ∧ w'.cell? ⟨X, 5, none⟩ = some (.int .i64 u0) ∧ w'.cell? ⟨X, 6, none⟩ = some (.int .i64 u1) ∧ w'.cell? ⟨X, 7, none⟩ = some (.int .i64 u2))) (by kernel_rfl) ⟨p0, p1, Xc 0, Xc 1, Xc 2, Xc 3, Xc 4, Xc 5, Xc 6, Xc 7⟩ (fun hHeld => ?_)
          refine wpAnyH_take (i := 0) (v := ?_) rfl (by kernel_rfl) (by kernel_rfl) (by kernel_rfl) (fun _ _ _ h => h) (Or.inl ⟨by rfl, ?hy⟩) hHeld ?_
          case hy =>
            intro w hSw
            (try dsimp only at hSw)
            go_simp
            (try with_reducible rfl)
          try simp only [Act.put, List.getElem_toArray, List.getElem_cons_zero, List.setIfInBounds_toArray, List.set_cons_zero, List.set_cons_succ]
          refine wpAnyH_take (i := 1) (v := ?_) rfl (by kernel_rfl) (by kernel_rfl) (by kernel_rfl) (fun _ _ _ h => h) (Or.inl ⟨by rfl, ?hy⟩) hHeld ?_
          case hy =>
            intro w hSw
            (try dsimp only at hSw)
            go_simp
            (try with_reducible rfl)
          try simp only [Act.put, List.getElem_toArray, List.getElem_cons_succ, List.getElem_cons_zero, List.setIfInBounds_toArray, List.set_cons_zero, List.set_cons_succ]
          refine wpAnyH_take (i := 2) (v := ?_) rfl (by kernel_rfl) (by kernel_rfl) (by kernel_rfl) (fun _ _ _ h => h) (Or.inl ⟨by rfl, ?hy⟩) hHeld ?_
          case hy =>
            intro w hSw
            (try dsimp only at hSw)
            go_simp
            (try with_reducible rfl)
          try simp only [Act.put, List.getElem_toArray, List.getElem_cons_succ, List.getElem_cons_zero, List.setIfInBounds_toArray, List.set_cons_zero, List.set_cons_succ]
          refine wpAnyH_take (i := 3) (v := ?_) rfl (by kernel_rfl) (by kernel_rfl) (by kernel_rfl) (fun _ _ _ h => h) (Or.inl ⟨by rfl, ?hy⟩) hHeld ?_
          case hy =>
            intro w hSw
            (try dsimp only at hSw)
            go_simp
            (try with_reducible rfl)
          try simp only [Act.put, List.getElem_toArray, List.getElem_cons_succ, List.getElem_cons_zero, List.setIfInBounds_toArray, List.set_cons_zero, List.set_cons_succ]
          refine wpAnyH_take (i := 4) (v := ?_) rfl (by kernel_rfl) (by kernel_rfl) (by kernel_rfl) (fun _ _ _ h => h) (Or.inl ⟨by rfl, ?hy⟩) hHeld ?_
          case hy =>
            intro w hSw
            (try dsimp only at hSw)
            go_simp
            (try with_reducible rfl)
          try simp only [Act.put, List.getElem_toArray, List.getElem_cons_succ, List.getElem_cons_zero, List.setIfInBounds_toArray, List.set_cons_zero, List.set_cons_succ]
          refine wpAnyH_take (i := 5) (v := ?_) rfl (by kernel_rfl) (by kernel_rfl) (by kernel_rfl) (fun _ _ _ h => h) (Or.inl ⟨by rfl, ?hy⟩) hHeld ?_
          case hy =>
            intro w hSw
            (try dsimp only at hSw)
            go_simp
            (try with_reducible rfl)
          try simp only [Act.put, List.getElem_toArray, List.getElem_cons_succ, List.getElem_cons_zero, List.setIfInBounds_toArray, List.set_cons_zero, List.set_cons_succ]
          refine wpAnyH_take (i := 6) (v := ?_) rfl (by kernel_rfl) (by kernel_rfl) (by kernel_rfl) (fun _ _ _ h => h) (Or.inl ⟨by rfl, ?hy⟩) hHeld ?_
          case hy =>
            intro w hSw
            (try dsimp only at hSw)
            go_simp
            (try with_reducible rfl)
          try simp only [Act.put, List.getElem_toArray, List.getElem_cons_succ, List.getElem_cons_zero, List.setIfInBounds_toArray, List.set_cons_zero, List.set_cons_succ]
          refine wpAnyH_take (i := 7) (v := ?_) rfl (by kernel_rfl) (by kernel_rfl) (by kernel_rfl) (fun _ _ _ h => h) (Or.inl ⟨by rfl, ?hy⟩) hHeld ?_
          case hy =>
            intro w hSw
            (try dsimp only at hSw)
            go_simp
            (try with_reducible rfl)
          try simp only [Act.put, List.getElem_toArray, List.getElem_cons_succ, List.getElem_cons_zero, List.setIfInBounds_toArray, List.set_cons_zero, List.set_cons_succ]
          refine wpAnyH_take (i := 8) (v := ?_) rfl (by kernel_rfl) (by kernel_rfl) (by kernel_rfl) (fun _ _ _ h => h) (Or.inl ⟨by rfl, ?hy⟩) hHeld ?_
          case hy =>
            intro w hSw
            (try dsimp only at hSw)
            go_simp
            (try with_reducible rfl)
          try simp only [Act.put, List.getElem_toArray, List.getElem_cons_succ, List.getElem_cons_zero, List.setIfInBounds_toArray, List.set_cons_zero, List.set_cons_succ]
          refine wpAnyH_take (i := 9) (v := ?_) rfl (by kernel_rfl) (by kernel_rfl) (by kernel_rfl) (fun _ _ _ h => h) (Or.inl ⟨by rfl, ?hy⟩) hHeld ?_
          case hy =>
            intro w hSw
            (try dsimp only at hSw)
            go_simp
            (try with_reducible rfl)
          try simp only [Act.put, List.getElem_toArray, List.getElem_cons_succ, List.getElem_cons_zero, List.setIfInBounds_toArray, List.set_cons_zero, List.set_cons_succ]
          refine wpAnyH_take (i := 10) (v := ?_) rfl (by kernel_rfl) (by kernel_rfl) (by kernel_rfl) (fun _ _ _ h => h) (Or.inl ⟨by rfl, ?hy⟩) hHeld ?_
          case hy =>
            intro w hSw
            (try dsimp only at hSw)
            go_simp
            (try with_reducible rfl)
          try simp only [Act.put, List.getElem_toArray, List.getElem_cons_succ, List.getElem_cons_zero, List.setIfInBounds_toArray, List.set_cons_zero, List.set_cons_succ]
          refine wpAnyH_take (i := 11) (v := ?_) rfl (by kernel_rfl) (by kernel_rfl) (by kernel_rfl) (fun _ _ _ h => h) (Or.inl ⟨by rfl, ?hy⟩) hHeld ?_
          case hy =>
            intro w hSw
            (try dsimp only at hSw)
            go_simp
            (try with_reducible rfl)
          try simp only [Act.put, List.getElem_toArray, List.getElem_cons_succ, List.getElem_cons_zero, List.setIfInBounds_toArray, List.set_cons_zero, List.set_cons_succ]
          refine wpAnyH_take (i := 12) (v := ?_) rfl (by kernel_rfl) (by kernel_rfl) (by kernel_rfl) (fun _ _ _ h => h) (Or.inl ⟨by rfl, ?hy⟩) hHeld ?_
          case hy =>
            intro w hSw
            (try dsimp only at hSw)
            go_simp
            (try with_reducible rfl)
          try simp only [Act.put, List.getElem_toArray, List.getElem_cons_succ, List.getElem_cons_zero, List.setIfInBounds_toArray, List.set_cons_zero, List.set_cons_succ]
          refine wpAnyH_take (i := 13) (v := ?_) rfl (by kernel_rfl) (by kernel_rfl) (by kernel_rfl) (fun _ _ _ h => h) (Or.inl ⟨by rfl, ?hy⟩) hHeld ?_
          case hy =>
            intro w hSw
            (try dsimp only at hSw)
            go_simp
            (try with_reducible rfl)
          try simp only [Act.put, List.getElem_toArray, List.getElem_cons_succ, List.getElem_cons_zero, List.setIfInBounds_toArray, List.set_cons_zero, List.set_cons_succ]
          refine wpAnyH_take (i := 14) (v := ?_) rfl (by kernel_rfl) (by kernel_rfl) (by kernel_rfl) (fun _ _ _ h => h) (Or.inl ⟨by rfl, ?hy⟩) hHeld ?_
          case hy =>
            intro w hSw
            (try dsimp only at hSw)
            go_simp
            (try with_reducible rfl)
          try simp only [Act.put, List.getElem_toArray, List.getElem_cons_succ, List.getElem_cons_zero, List.setIfInBounds_toArray, List.set_cons_zero, List.set_cons_succ]
          refine wpAnyH_take (i := 15) (v := ?_) rfl (by kernel_rfl) (by kernel_rfl) (by kernel_rfl) (fun _ _ _ h => h) (Or.inl ⟨by rfl, ?hy⟩) hHeld ?_
          case hy =>
            intro w hSw
            (try dsimp only at hSw)
            go_simp
            (try with_reducible rfl)
          try simp only [Act.put, List.getElem_toArray, List.getElem_cons_succ, List.getElem_cons_zero, List.setIfInBounds_toArray, List.set_cons_zero, List.set_cons_succ]
          refine wpAnyH_ready (rs := [16]) (by kernel_rfl) (by simp) ?_
          refine AllReadyH.cons rfl (fun K hK => ?_) AllReadyH.nil
          have hOld := hHeld
          clear hHeld
          go_simp
          refine (C4.out pu pb ⟨su, 1, ⟨q0, q1, q2⟩, ⟨u0, u1, u2⟩⟩ _).mono ?_
          rintro r w3 ⟨rfl, hb1⟩
          dsimp only
          have hB3 := below_to (below_to hB (Below.refl _ _).drew) hb1
          have hX3 := (hX.drew).past hb1
          obtain ⟨p0, p1⟩ := hpc.out _ hB3
          refine hK.out _ _ (⟨p0, p1, hX3.cell 0, hX3.cell 1, hX3.cell 2, hX3.cell 3, hX3.cell 4, hX3.cell 5, hX3.cell 6, hX3.cell 7⟩) (fun hHeld => ?_)
          clear hK K hOld
          try simp only [Act.put, List.getElem_toArray, List.getElem_cons_succ, List.getElem_cons_zero, List.setIfInBounds_toArray, List.set_cons_zero, List.set_cons_succ]
          refine wpAnyH_take (i := 17) (v := ?_) rfl (by kernel_rfl) (by kernel_rfl) (by kernel_rfl) (fun _ _ _ h => h) (Or.inl ⟨by rfl, ?hy⟩) hHeld ?_
          case hy =>
            intro w hSw
            (try dsimp only at hSw)
            go_simp
            (try with_reducible rfl)
          try simp only [Act.put, List.getElem_toArray, List.getElem_cons_succ, List.getElem_cons_zero, List.setIfInBounds_toArray, List.set_cons_zero, List.set_cons_succ]
          refine wpAnyH_take (i := 18) (v := ?_) rfl (by kernel_rfl) (by kernel_rfl) (by kernel_rfl) (fun _ _ _ h => h) (Or.inl ⟨by rfl, ?hy⟩) hHeld ?_
          case hy =>
            intro w hSw
            (try dsimp only at hSw)
            go_simp
            (try with_reducible rfl)
          try simp only [Act.put, List.getElem_toArray, List.getElem_cons_succ, List.getElem_cons_zero, List.setIfInBounds_toArray, List.set_cons_zero, List.set_cons_succ]
          refine wpAnyH_done (by kernel_rfl) ?_ _
          simp only [Exit.then]
          clear hHeld hX3 hX Xc Xf Xl p0 p1 hb1
          replace hB3 := Lib.hid hB3
          clear hB hpc
          cases hlk : ltK pu pb ⟨su, 1, ⟨q0, q1, q2⟩, ⟨u0, u1, u2⟩⟩ with
          | true =>
            have hn2 := Lib.hid (hnext.out hok3.out (fun _ h' => hpl.out hlk h'))
            clear hnext hprev hs hpl hpf hlk
            go_wp2_with fail
            go_roundw
            case rel => exact ⟨k + 1, by go_num, hlt, hn2, hB3.out⟩
            case measure => simp [intOf]; omega
          | false =>
            have hg := Lib.hid (hG.out.trans (hpf.out hlk))
            clear hnext hprev hs hpl hpf hlk
            go_wp2_with fail
            go_returns
            rw [hg.out]
            exact ⟨rfl, hB3.out⟩
      ·
        have hXf := hX.facts
        obtain ⟨Xc, Xf, Xl⟩ := hXf
        go_wp2_with fail
        refine (C2.out ⟨q0, q1, q2⟩ _).mono ?_
        rintro r w1 ⟨rfl, hb1⟩; dsimp only
        replace hX := hX.past hb1
        replace hB := below_to hB hb1
        clear hb1 Xc Xf Xl
        cases hf2 : mayV ⟨q0, q1, q2⟩
        · replace hB := Lib.hid hB
          replace hf2 := Lib.hid hf2
          clear hX hok2
          have hg := Lib.hid (hG.out.trans (hbad.out (by rw [hoke.out, hf1.out, hf2.out]; simp)))
          go_wp2_with fail
          go_returns
          rw [hg.out]
          exact ⟨rfl, hB.out⟩
        obtain ⟨Xc, Xf, Xl⟩ := hX.facts
        replace hf2 := Lib.hid hf2
        go_wp2_with fail
        refine (C3.out ⟨u0, u1, u2⟩ _).mono ?_
        rintro r w2 ⟨rfl, hb1⟩; dsimp only
        replace hX := hX.past hb1
        replace hB := below_to hB hb1
        clear hb1 Xc Xf Xl
        cases hf3 : fitsV zeroV ⟨u0, u1, u2⟩
        · replace hB := Lib.hid hB
          replace hf3 := Lib.hid hf3
          clear hX hok2
          have hg := Lib.hid (hG.out.trans (hbad.out (by rw [hoke.out, hf1.out, hf2.out, hf3.out]; simp)))
          go_wp2_with fail
          go_returns
          rw [hg.out]
          exact ⟨rfl, hB.out⟩
        replace hf3 := Lib.hid hf3
        have hok3 := Lib.hid (hok2.out hf2.out hf3.out)
        clear hok2 hbad hoke
        obtain ⟨Xc, Xf, Xl⟩ := hX.facts
        rcases Nat.eq_zero_or_pos k with hk0 | hk0
        · subst hk0
          have hn2 := Lib.hid (hnext.out hok3.out (fun h => absurd h (by omega)))
          clear hnext hprev hs
          go_wp2_with fail
          refine wp_region_ext (by kernel_rfl) (by kernel_rfl) ?_
          repeat (go_big_quiet_step (fail))
          refine wpQuiet_nil ?_
          rintro w3 ⟨x, hx⟩
          have hB3 := Lib.hid (below_to hB (hx ▸ extn_below w2 x))
          clear hx hX Xc Xf Xl hB
          go_wp2_with fail
          go_roundw
          case rel => exact ⟨1, by go_num, hlt, hn2, hB3.out⟩
          case measure => simp [intOf]; omega
        · obtain ⟨pu, pb, hpc, hpl, hpf⟩ := hprev.out hk0
          obtain ⟨m, hm⟩ : ∃ m, m = k - 1 := ⟨_, rfl⟩
          rw [← hm] at hpc
          obtain ⟨p0, p1⟩ := hpc.out _ hB
          have ek : ((k : Int) - 1) = (m : Int) := by omega
          have em : m < xs.length := by omega
          have ew : IntKind.i64.wrap (m : Int) = (m : Int) := IntWalk.i64_in _ (by omega)
          have eb : (m : Int) < (xs.length : Int) := by omega
          clear hm
          have hd0 : decide ((0 : Int) < (k : Int)) = true := decide_eq_true (by omega)
          go_wp2_with fail
          refine wp_region_held_drew (S := (fun w' => w'.cell? ⟨g, off + m * 8, none⟩ = some (.string pu) ∧ w'.cell? ⟨g, off + m * 8 + 1, none⟩ = some (.int .u8 pb) ∧ w'.cell? ⟨X, 0, none⟩ = some (.string su) ∧ w'.cell? ⟨X, 1, none⟩ = some (.int .u8 2) ∧ w'.cell? ⟨X, 2, none⟩ = some (.int .i64 q0) ∧ w'.cell? ⟨X, 3, none⟩ = some (.int .i64 q1) ∧ w'.cell? ⟨X, 4, none⟩ = some (.int .i64 q2) ∧ w'.cell? ⟨X, 5, none⟩ = some (.int .i64 u0) ∧ w'.cell? ⟨X, 6, none⟩ = some (.int .i64 u1) ∧ w'.cell? ⟨X, 7, none⟩ = some (.int .i64 u2))) (by kernel_rfl) ⟨p0, p1, Xc 0, Xc 1, Xc 2, Xc 3, Xc 4, Xc 5, Xc 6, Xc 7⟩ (fun hHeld => ?_)
          refine wpAnyH_take (i := 0) (v := ?_) rfl (by kernel_rfl) (by kernel_rfl) (by kernel_rfl) (fun _ _ _ h => h) (Or.inl ⟨by rfl, ?hy⟩) hHeld ?_
          case hy =>
            intro w hSw
            (try dsimp only at hSw)
            go_simp
            (try with_reducible rfl)
          try simp only [Act.put, List.getElem_toArray, List.getElem_cons_zero, List.setIfInBounds_toArray, List.set_cons_zero, List.set_cons_succ]
          refine wpAnyH_take (i := 1) (v := ?_) rfl (by kernel_rfl) (by kernel_rfl) (by kernel_rfl) (fun _ _ _ h => h) (Or.inl ⟨by rfl, ?hy⟩) hHeld ?_
          case hy =>
            intro w hSw
            (try dsimp only at hSw)
            go_simp
            (try with_reducible rfl)
          try simp only [Act.put, List.getElem_toArray, List.getElem_cons_succ, List.getElem_cons_zero, List.setIfInBounds_toArray, List.set_cons_zero, List.set_cons_succ]
          refine wpAnyH_take (i := 2) (v := ?_) rfl (by kernel_rfl) (by kernel_rfl) (by kernel_rfl) (fun _ _ _ h => h) (Or.inl ⟨by rfl, ?hy⟩) hHeld ?_
          case hy =>
            intro w hSw
            (try dsimp only at hSw)
            go_simp
            (try with_reducible rfl)
          try simp only [Act.put, List.getElem_toArray, List.getElem_cons_succ, List.getElem_cons_zero, List.setIfInBounds_toArray, List.set_cons_zero, List.set_cons_succ]
          refine wpAnyH_take (i := 3) (v := ?_) rfl (by kernel_rfl) (by kernel_rfl) (by kernel_rfl) (fun _ _ _ h => h) (Or.inl ⟨by rfl, ?hy⟩) hHeld ?_
          case hy =>
            intro w hSw
            (try dsimp only at hSw)
            go_simp
            (try with_reducible rfl)
          try simp only [Act.put, List.getElem_toArray, List.getElem_cons_succ, List.getElem_cons_zero, List.setIfInBounds_toArray, List.set_cons_zero, List.set_cons_succ]
          refine wpAnyH_take (i := 4) (v := ?_) rfl (by kernel_rfl) (by kernel_rfl) (by kernel_rfl) (fun _ _ _ h => h) (Or.inl ⟨by rfl, ?hy⟩) hHeld ?_
          case hy =>
            intro w hSw
            (try dsimp only at hSw)
            go_simp
            (try with_reducible rfl)
          try simp only [Act.put, List.getElem_toArray, List.getElem_cons_succ, List.getElem_cons_zero, List.setIfInBounds_toArray, List.set_cons_zero, List.set_cons_succ]
          refine wpAnyH_take (i := 5) (v := ?_) rfl (by kernel_rfl) (by kernel_rfl) (by kernel_rfl) (fun _ _ _ h => h) (Or.inl ⟨by rfl, ?hy⟩) hHeld ?_
          case hy =>
            intro w hSw
            (try dsimp only at hSw)
            go_simp
            (try with_reducible rfl)
          try simp only [Act.put, List.getElem_toArray, List.getElem_cons_succ, List.getElem_cons_zero, List.setIfInBounds_toArray, List.set_cons_zero, List.set_cons_succ]
          refine wpAnyH_take (i := 6) (v := ?_) rfl (by kernel_rfl) (by kernel_rfl) (by kernel_rfl) (fun _ _ _ h => h) (Or.inl ⟨by rfl, ?hy⟩) hHeld ?_
          case hy =>
            intro w hSw
            (try dsimp only at hSw)
            go_simp
            (try with_reducible rfl)
          try simp only [Act.put, List.getElem_toArray, List.getElem_cons_succ, List.getElem_cons_zero, List.setIfInBounds_toArray, List.set_cons_zero, List.set_cons_succ]
          refine wpAnyH_take (i := 7) (v := ?_) rfl (by kernel_rfl) (by kernel_rfl) (by kernel_rfl) (fun _ _ _ h => h) (Or.inl ⟨by rfl, ?hy⟩) hHeld ?_
          case hy =>
            intro w hSw
            (try dsimp only at hSw)
            go_simp
            (try with_reducible rfl)
          try simp only [Act.put, List.getElem_toArray, List.getElem_cons_succ, List.getElem_cons_zero, List.setIfInBounds_toArray, List.set_cons_zero, List.set_cons_succ]
          refine wpAnyH_take (i := 8) (v := ?_) rfl (by kernel_rfl) (by kernel_rfl) (by kernel_rfl) (fun _ _ _ h => h) (Or.inl ⟨by rfl, ?hy⟩) hHeld ?_
          case hy =>
            intro w hSw
            (try dsimp only at hSw)
            go_simp
            (try with_reducible rfl)
          try simp only [Act.put, List.getElem_toArray, List.getElem_cons_succ, List.getElem_cons_zero, List.setIfInBounds_toArray, List.set_cons_zero, List.set_cons_succ]
          refine wpAnyH_take (i := 9) (v := ?_) rfl (by kernel_rfl) (by kernel_rfl) (by kernel_rfl) (fun _ _ _ h => h) (Or.inl ⟨by rfl, ?hy⟩) hHeld ?_
          case hy =>
            intro w hSw
            (try dsimp only at hSw)
            go_simp
            (try with_reducible rfl)
          try simp only [Act.put, List.getElem_toArray, List.getElem_cons_succ, List.getElem_cons_zero, List.setIfInBounds_toArray, List.set_cons_zero, List.set_cons_succ]
          refine wpAnyH_take (i := 10) (v := ?_) rfl (by kernel_rfl) (by kernel_rfl) (by kernel_rfl) (fun _ _ _ h => h) (Or.inl ⟨by rfl, ?hy⟩) hHeld ?_
          case hy =>
            intro w hSw
            (try dsimp only at hSw)
            go_simp
            (try with_reducible rfl)
          try simp only [Act.put, List.getElem_toArray, List.getElem_cons_succ, List.getElem_cons_zero, List.setIfInBounds_toArray, List.set_cons_zero, List.set_cons_succ]
          refine wpAnyH_take (i := 11) (v := ?_) rfl (by kernel_rfl) (by kernel_rfl) (by kernel_rfl) (fun _ _ _ h => h) (Or.inl ⟨by rfl, ?hy⟩) hHeld ?_
          case hy =>
            intro w hSw
            (try dsimp only at hSw)
            go_simp
            (try with_reducible rfl)
          try simp only [Act.put, List.getElem_toArray, List.getElem_cons_succ, List.getElem_cons_zero, List.setIfInBounds_toArray, List.set_cons_zero, List.set_cons_succ]
          refine wpAnyH_take (i := 12) (v := ?_) rfl (by kernel_rfl) (by kernel_rfl) (by kernel_rfl) (fun _ _ _ h => h) (Or.inl ⟨by rfl, ?hy⟩) hHeld ?_
          case hy =>
            intro w hSw
            (try dsimp only at hSw)
            go_simp
            (try with_reducible rfl)
          try simp only [Act.put, List.getElem_toArray, List.getElem_cons_succ, List.getElem_cons_zero, List.setIfInBounds_toArray, List.set_cons_zero, List.set_cons_succ]
          refine wpAnyH_take (i := 13) (v := ?_) rfl (by kernel_rfl) (by kernel_rfl) (by kernel_rfl) (fun _ _ _ h => h) (Or.inl ⟨by rfl, ?hy⟩) hHeld ?_
          case hy =>
            intro w hSw
            (try dsimp only at hSw)
            go_simp
            (try with_reducible rfl)
          try simp only [Act.put, List.getElem_toArray, List.getElem_cons_succ, List.getElem_cons_zero, List.setIfInBounds_toArray, List.set_cons_zero, List.set_cons_succ]
          refine wpAnyH_take (i := 14) (v := ?_) rfl (by kernel_rfl) (by kernel_rfl) (by kernel_rfl) (fun _ _ _ h => h) (Or.inl ⟨by rfl, ?hy⟩) hHeld ?_
          case hy =>
            intro w hSw
            (try dsimp only at hSw)
            go_simp
            (try with_reducible rfl)
          try simp only [Act.put, List.getElem_toArray, List.getElem_cons_succ, List.getElem_cons_zero, List.setIfInBounds_toArray, List.set_cons_zero, List.set_cons_succ]
          refine wpAnyH_take (i := 15) (v := ?_) rfl (by kernel_rfl) (by kernel_rfl) (by kernel_rfl) (fun _ _ _ h => h) (Or.inl ⟨by rfl, ?hy⟩) hHeld ?_
          case hy =>
            intro w hSw
            (try dsimp only at hSw)
            go_simp
            (try with_reducible rfl)
          try simp only [Act.put, List.getElem_toArray, List.getElem_cons_succ, List.getElem_cons_zero, List.setIfInBounds_toArray, List.set_cons_zero, List.set_cons_succ]
          refine wpAnyH_ready (rs := [16]) (by kernel_rfl) (by simp) ?_
          refine AllReadyH.cons rfl (fun K hK => ?_) AllReadyH.nil
          have hOld := hHeld
          clear hHeld
          go_simp
          refine (C4.out pu pb ⟨su, 2, ⟨q0, q1, q2⟩, ⟨u0, u1, u2⟩⟩ _).mono ?_
          rintro r w3 ⟨rfl, hb1⟩
          dsimp only
          have hB3 := below_to (below_to hB (Below.refl _ _).drew) hb1
          have hX3 := (hX.drew).past hb1
          obtain ⟨p0, p1⟩ := hpc.out _ hB3
          refine hK.out _ _ (⟨p0, p1, hX3.cell 0, hX3.cell 1, hX3.cell 2, hX3.cell 3, hX3.cell 4, hX3.cell 5, hX3.cell 6, hX3.cell 7⟩) (fun hHeld => ?_)
          clear hK K hOld
          try simp only [Act.put, List.getElem_toArray, List.getElem_cons_succ, List.getElem_cons_zero, List.setIfInBounds_toArray, List.set_cons_zero, List.set_cons_succ]
          refine wpAnyH_take (i := 17) (v := ?_) rfl (by kernel_rfl) (by kernel_rfl) (by kernel_rfl) (fun _ _ _ h => h) (Or.inl ⟨by rfl, ?hy⟩) hHeld ?_
          case hy =>
            intro w hSw
            (try dsimp only at hSw)
            go_simp
            (try with_reducible rfl)
          try simp only [Act.put, List.getElem_toArray, List.getElem_cons_succ, List.getElem_cons_zero, List.setIfInBounds_toArray, List.set_cons_zero, List.set_cons_succ]
          refine wpAnyH_take (i := 18) (v := ?_) rfl (by kernel_rfl) (by kernel_rfl) (by kernel_rfl) (fun _ _ _ h => h) (Or.inl ⟨by rfl, ?hy⟩) hHeld ?_
          case hy =>
            intro w hSw
            (try dsimp only at hSw)
            go_simp
            (try with_reducible rfl)
          try simp only [Act.put, List.getElem_toArray, List.getElem_cons_succ, List.getElem_cons_zero, List.setIfInBounds_toArray, List.set_cons_zero, List.set_cons_succ]
          refine wpAnyH_done (by kernel_rfl) ?_ _
          simp only [Exit.then]
          clear hHeld hX3 hX Xc Xf Xl p0 p1 hb1
          replace hB3 := Lib.hid hB3
          clear hB hpc
          cases hlk : ltK pu pb ⟨su, 2, ⟨q0, q1, q2⟩, ⟨u0, u1, u2⟩⟩ with
          | true =>
            have hn2 := Lib.hid (hnext.out hok3.out (fun _ h' => hpl.out hlk h'))
            clear hnext hprev hs hpl hpf hlk
            go_wp2_with fail
            go_roundw
            case rel => exact ⟨k + 1, by go_num, hlt, hn2, hB3.out⟩
            case measure => simp [intOf]; omega
          | false =>
            have hg := Lib.hid (hG.out.trans (hpf.out hlk))
            clear hnext hprev hs hpl hpf hlk
            go_wp2_with fail
            go_returns
            rw [hg.out]
            exact ⟨rfl, hB3.out⟩
    · have hk' : k = xs.length := by omega
      subst hk'
      have hg := Lib.hid (hG.out.trans (good_len (fun j hj => hs.out j hj (by omega))))
      clear hs hG
      have hd : (decide ((xs.length : Int) ≤ 64)) = decide (xs.length ≤ 64) := by
        rw [decide_eq_decide]; omega
      go_wp2_with fail
      go_ret
      rw [hg.out]
      exact ⟨by simp, hB⟩
end Go.Proofs.Ytcjgblopcfcakaa
