/- The document's ledger, walked: Find, Take, Give, Left. Conditions: what comes in is of its kind. -/
import Derived.Test.YtcjgblopcfcakaaQt15
import Derived.Test.YtcjgblopcfcakaaQt13
import Derived.Test.YtcjgblopcfcakaaK17
namespace Go.Proofs.Ytcjgblopcfcakaa
open Go.RowKit Go.MapKept

theorem r_less (u : ByteArray) (b : Int) (s : Share) (w : World) : Calls Try.prog 41 #[.string u, .int .u8 b, s.v] w fun e w' => e = .returned (.bool (ltK u b s)) ∧ Below w.heap.size w w' := by
  have e0 : ∀ x y : ByteArray, Op.bytesLess x.toList y.toList = bLess x y := fun _ _ => rfl
  have e1 := str_eq u s.user
  unfold ltK
  obtain ⟨su, sb, ⟨q0, q1, q2⟩, ⟨u0, u1, u2⟩⟩ := s
  dsimp only at *
  cases h1 : bLess u su with
  | true =>
    go_enter Try.func41, Try.ntmps41
    go_wp2
    go_ret
    exact ⟨rfl, by go_grown⟩
  | false =>
    by_cases h2 : u = su
    · subst h2
      simp only [decide_true] at e1 ⊢
      by_cases h3 : b < sb
      · go_enter Try.func41, Try.ntmps41
        go_wp2
        go_ret
        exact ⟨by simp [h3], by go_grown⟩
      · go_enter Try.func41, Try.ntmps41
        go_wp2
        go_ret
        exact ⟨by simp [h3], by go_grown⟩
    · rw [decide_eq_false h2] at e1 ⊢
      go_enter Try.func41, Try.ntmps41
      go_wp2
      go_ret
      exact ⟨by simp, by go_grown⟩
set_option maxHeartbeats 400000 in
theorem r_positive (v : Vec) (w : World) : Calls Try.prog 40 #[v.v] w fun e w' => e = .returned (.bool (fitsV zeroV v)) ∧ Below w.heap.size w w' := by
  obtain ⟨v0, v1, v2⟩ := v
  have c : ∀ w, Calls Try.prog 60 #[.agg #[.int .i64 0, .int .i64 0, .int .i64 0], .agg #[.int .i64 v0, .int .i64 v1, .int .i64 v2]] w fun e w' => e = .returned (.bool (fitsV zeroV ⟨v0, v1, v2⟩)) ∧ Below w.heap.size w w' := fun w => ref_Fits zeroV ⟨v0, v1, v2⟩ w
  generalize fitsV zeroV ⟨v0, v1, v2⟩ = f at *
  have C := Lib.hid c
  clear c
  go_enter Try.func40, Try.ntmps40
  go_wp2_with fail
  refine (C.out _).mono ?_
  rintro e w1 ⟨rfl, hb1⟩; dsimp only
  have hB : Below w.heap.size w w1 := below_to (by go_grown) hb1
  clear hb1 C
  go_wp2_with fail
  go_ret
  exact ⟨rfl, hB⟩
set_option maxHeartbeats 2000000 in
theorem r_Find (w : World) (R : Nat) (S : Nat → Prop) (L : List Share) (h : RLed w R S L) (hl : L.length ≤ 64) (u : ByteArray) (b : Int) :
    Calls Try.prog 61 #[ptrV R, .string u, .int .u8 b] w fun e w' => e = .returned (.tuple #[.int .i64 (findI L u b).1, .bool (findI L u b).2]) ∧ Below w.heap.size w w' := by
  obtain ⟨v, hR, hown, -, -⟩ := h
  obtain ⟨A, cap, rfl, hsh, -⟩ := own_shares hown
  have HS := Lib.hid hsh
  have HL := Lib.hid (fun s w => r_less u b s w)
  clear hsh hown
  obtain ⟨Rc, Rf, Rl⟩ := hR.facts
  have hRh := Lib.hid hR
  clear hR
  go_enter Try.func61, Try.ntmps61
  go_wp2_with fail
  clear Rc Rf Rl
  go_loopw [8] (fun i wr => ∃ k : Nat, i = .int .i64 k ∧ k ≤ L.length ∧ Hid (∀ j (h : j < L.length), j < k → isK u b L[j] = false ∧ ltK u b L[j] = false) ∧ Below w.heap.size w wr) (fun i _ => L.length - (intOf i).toNat)
  case atStart => exact ⟨0, rfl, Nat.zero_le _, Lib.hid (fun j _ h => absurd h (by omega)), Below.refl _ _⟩
  case round =>
    obtain ⟨k, rfl, hk, hs, hB⟩ := hrel
    have hR := hRh.out.past hB
    obtain ⟨Rc, Rf, Rl⟩ := hR.facts
    by_cases hlt : k < L.length
    · obtain ⟨g, off, rfl, hg, hcell⟩ := HS.out (by intro e; rw [e] at hlt; simp at hlt)
      have hcell2 := hcell k hlt
      obtain ⟨k0, k1, k2, k3, k4, k5, k6, k7⟩ := hcell2
      have j0 := (hB.cell (p := ⟨g, off + k * 8, none⟩) hg).trans k0
      have j1 := (hB.cell (p := ⟨g, off + k * 8 + 1, none⟩) hg).trans k1
      have j2 := (hB.cell (p := ⟨g, off + k * 8 + 2, none⟩) hg).trans k2
      have j3 := (hB.cell (p := ⟨g, off + k * 8 + 3, none⟩) hg).trans k3
      have j4 := (hB.cell (p := ⟨g, off + k * 8 + 4, none⟩) hg).trans k4
      have j5 := (hB.cell (p := ⟨g, off + k * 8 + 5, none⟩) hg).trans k5
      have j6 := (hB.cell (p := ⟨g, off + k * 8 + 6, none⟩) hg).trans k6
      have j7 := (hB.cell (p := ⟨g, off + k * 8 + 7, none⟩) hg).trans k7
      clear k0 k1 k2 k3 k4 k5 k6 k7 hcell
      have e1 := str_eq L[k].user u
      have con := HL.out L[k]
      have hnext : Hid (isK u b L[k] = false → ltK u b L[k] = false → ∀ j (h : j < L.length), j < k + 1 → isK u b L[j] = false ∧ ltK u b L[j] = false) := Lib.hid (fun h1 h2 j hj hjk => by
        by_cases e : j < k
        · exact hs.out j hj e
        · have : j = k := by omega
          subst this
          exact ⟨h1, h2⟩)
      have hhere : Hid (isK u b L[k] = true → findI L u b = (k, true)) := Lib.hid (fun h => findI_here hlt hs.out h)
      have hbefore : Hid (isK u b L[k] = false → ltK u b L[k] = true → findI L u b = (k, false)) := Lib.hid (fun h1 h2 => findI_before hlt hs.out h1 h2)
      have hkk : isK u b L[k] = (decide (L[k].user = u) && decide (L[k].band = b)) := rfl
      generalize hxx : L[k] = x at *
      obtain ⟨su, sb, ⟨q0, q1, q2⟩, ⟨u0, u1, u2⟩⟩ := x
      dsimp only at *
      dsimp only [Share.v] at con
      clear hxx
      by_cases hK : su = u ∧ sb = b
      · obtain ⟨rfl, rfl⟩ := hK
        have hf := hhere.out (by rw [hkk]; simp)
        replace hf := Lib.hid hf
        clear hhere hbefore hnext hkk con
        go_wp2_with fail
        go_returns
        rw [hf.out]
        exact ⟨rfl, hB⟩
      · have hk0 : (decide (su = u) && decide (sb = b)) = false := by
          by_cases h1 : su = u
          · have : ¬ sb = b := fun e => hK ⟨h1, e⟩
            simp [h1, this]
          · simp [h1]
        have hisK := hkk.trans hk0
        have hq : (su.toList == u.toList) = false ∨ ((su.toList == u.toList) = true ∧ (sb == b) = false) := by
          rw [e1]
          by_cases h1 : su = u
          · have : ¬ sb = b := fun e => hK ⟨h1, e⟩
            exact Or.inr ⟨by simp [h1], by simpa using this⟩
          · exact Or.inl (by simp [h1])
        clear e1 hK hk0 hhere
        rcases hq with e1 | ⟨e1, e2⟩
        ·
          go_wp2_with fail
          refine (con _).mono ?_
          rintro r w2 ⟨rfl, hb2⟩; dsimp only
          have hB2 := Lib.hid (below_to hB hb2)
          clear hb2 j0 j1 j2 j3 j4 j5 j6 j7 hB con
          cases hlt2 : ltK u b ⟨su, sb, ⟨q0, q1, q2⟩, ⟨u0, u1, u2⟩⟩ with
          | true =>
            have hf := hbefore.out hisK hlt2
            replace hf := Lib.hid hf
            clear hbefore hnext hkk hisK hlt2
            go_wp2_with fail
            go_returns
            rw [hf.out]
            exact ⟨rfl, hB2.out⟩
          | false =>
            have hn := Lib.hid (hnext.out hisK hlt2)
            clear hbefore hnext hkk hisK hlt2
            go_wp2_with fail
            go_roundw
            case rel => exact ⟨k + 1, by go_num, hlt, hn, hB2.out⟩
            case measure => simp [intOf]; omega
        ·
          go_wp2_with fail
          refine (con _).mono ?_
          rintro r w2 ⟨rfl, hb2⟩; dsimp only
          have hB2 := Lib.hid (below_to hB hb2)
          clear hb2 j0 j1 j2 j3 j4 j5 j6 j7 hB con
          cases hlt2 : ltK u b ⟨su, sb, ⟨q0, q1, q2⟩, ⟨u0, u1, u2⟩⟩ with
          | true =>
            have hf := hbefore.out hisK hlt2
            replace hf := Lib.hid hf
            clear hbefore hnext hkk hisK hlt2
            go_wp2_with fail
            go_returns
            rw [hf.out]
            exact ⟨rfl, hB2.out⟩
          | false =>
            have hn := Lib.hid (hnext.out hisK hlt2)
            clear hbefore hnext hkk hisK hlt2
            go_wp2_with fail
            go_roundw
            case rel => exact ⟨k + 1, by go_num, hlt, hn, hB2.out⟩
            case measure => simp [intOf]; omega
    · have hf := findI_none (fun j hj => hs.out j hj (by omega))
      have hk' : k = L.length := by omega
      subst hk'
      replace hf := Lib.hid hf
      clear hs
      go_wp2_with fail
      go_returns
      rw [hf.out]
      exact ⟨rfl, hB⟩
end Go.Proofs.Ytcjgblopcfcakaa
