/- The document's ledger, walked: what turns a share where it lies. Conditions: what comes in is of its kind. -/
import Derived.Test.YtcjgblopcfcakaaQt16
import Derived.Test.YtcjgblopcfcakaaK17
import Derived.Test.YtcjgblopcfcakaaK7
namespace Go.Proofs.Ytcjgblopcfcakaa
open Go.RowKit Go.MapKept

theorem row_turn {w : World} {g cap i j0 : Nat} {cur : Array Value} {L : List Share} {s' : Share} {a b c : Value} (hh : w.heap[g]? = some (.cells cur 39 (0, 0))) (hs : cur.size = cap * 8) (hle : L.length ≤ cap) (ht : cur.toList.take (L.length * 8) = flatS L) (hi : i < L.length) (hj : j0 + 2 < 8)
    (hrow : shRow s' = (((shRow L[i]).set j0 a).set (j0 + 1) b).set (j0 + 2) c) :
    ∃ cur', (((w.setCell ⟨g, i * 8 + j0, none⟩ a).setCell ⟨g, i * 8 + j0 + 1, none⟩ b).setCell ⟨g, i * 8 + j0 + 2, none⟩ c).heap[g]? = some (.cells cur' 39 (0, 0)) ∧ cur'.size = cap * 8 ∧ cur'.toList.take (L.length * 8) = flatS (L.set i s') := by
  have hB : Blk w g 39 cur := hh
  have hB3 := ((hB.set_ (i * 8 + j0) a).set_ (i * 8 + j0 + 1) b).set_ (i * 8 + j0 + 2) c
  refine ⟨_, hB3, by simpa using hs, ?_⟩
  refine flat_set hi s' ht ?_ (by simp [hs]; omega)
  intro j
  have hcur : ∀ k, i * 8 ≤ k → k < i * 8 + 8 → cur.toList[k]? = (shRow L[i])[k - i * 8]? := fun k h1 h2 => by
    have e := flatS_get L i (k - i * 8) hi (by omega)
    rw [show i * 8 + (k - i * 8) = k by omega, ← ht, List.getElem?_take_of_lt (by omega)] at e
    exact e
  rw [Array.toList_setIfInBounds, Array.toList_setIfInBounds, Array.toList_setIfInBounds, hrow]
  have hl : (shRow L[i]).length = 8 := rfl
  have hcl : cur.toList.length = cap * 8 := by rw [Array.length_toList]; exact hs
  by_cases h2 : i * 8 ≤ j ∧ j < i * 8 + 8
  · rw [if_pos h2]
    have e := hcur j h2.1 h2.2
    obtain ⟨k, rfl⟩ : ∃ k, j = i * 8 + k := ⟨j - i * 8, by omega⟩
    rw [show i * 8 + k - i * 8 = k by omega] at e ⊢
    have e0 : (i * 8 + j0 = i * 8 + k) ↔ (j0 = k) := by omega
    have e1 : (i * 8 + j0 + 1 = i * 8 + k) ↔ (j0 + 1 = k) := by omega
    have e2 : (i * 8 + j0 + 2 = i * 8 + k) ↔ (j0 + 2 = k) := by omega
    have l0 : i * 8 + j0 < cur.toList.length := by omega
    have l1 : i * 8 + j0 + 1 < cur.toList.length := by omega
    have l2 : i * 8 + j0 + 2 < cur.toList.length := by omega
    have m0 : j0 < (shRow L[i]).length := by omega
    have m1 : j0 + 1 < (shRow L[i]).length := by omega
    have m2 : j0 + 2 < (shRow L[i]).length := by omega
    simp only [List.getElem?_set, List.length_set, e0, e1, e2, l0, l1, l2, m0, m1, m2, if_true, e]
  · rw [if_neg h2]
    simp only [List.getElem?_set, List.length_set]
    rw [if_neg (by omega), if_neg (by omega), if_neg (by omega)]
/-- The document's ledger, written out: where its row lies. -/
theorem RLed.out {w : World} {R : Nat} {S : Nat → Prop} {L : List Share} (h : RLed w R S L) {i : Nat} (hi : i < L.length) : ∃ g cap cur, Blk w R 48 #[.slice (some ⟨g, 0, none⟩) L.length cap] ∧ w.heap[g]? = some (.cells cur 39 (0, 0)) ∧ L.length ≤ cap ∧ cap ≤ maxLen ∧ cur.size = cap * 8 ∧ cur.toList.take (L.length * 8) = flatS L ∧ S R ∧ S g ∧ g ≠ R ∧
    ∀ j, j < 8 → w.cell? ⟨g, i * 8 + j, none⟩ = (shRow L[i])[j]? := by
  obtain ⟨v, h1, h2, h3, h4⟩ := h
  obtain ⟨hl, ⟨rfl, h0⟩ | ⟨g, cap, cur, rfl, hg, hh, hnn, hm, hs, ht⟩⟩ := h2
  · omega
  · refine ⟨g, cap, cur, h1, hh, hnn, hm, hs, ht, h3, (h4 g rfl).1, (h4 g rfl).2, fun j hj => ?_⟩
    have hB : Blk w g 39 cur := hh
    rw [hB.cell, ← flatS_get L i j hi hj, ← ht, List.getElem?_take_of_lt (by omega), Array.getElem?_toList]
theorem RLed.turned {w : World} {R g cap i j0 : Nat} {S : Nat → Prop} {cur : Array Value} {L : List Share} {s' : Share} {a b c : Value} (hR : Blk w R 48 #[.slice (some ⟨g, 0, none⟩) L.length cap]) (hh : w.heap[g]? = some (.cells cur 39 (0, 0))) (hle : L.length ≤ cap) (hm : cap ≤ maxLen) (hs : cur.size = cap * 8) (ht : cur.toList.take (L.length * 8) = flatS L)
    (hSR : S R) (hSg : S g) (hne : g ≠ R) (hi : i < L.length) (hj : j0 + 2 < 8) (hrow : shRow s' = (((shRow L[i]).set j0 a).set (j0 + 1) b).set (j0 + 2) c) :
    RLed (((w.setCell ⟨g, i * 8 + j0, none⟩ a).setCell ⟨g, i * 8 + j0 + 1, none⟩ b).setCell ⟨g, i * 8 + j0 + 2, none⟩ c) R S (L.set i s') ∧ OnlyS S w (((w.setCell ⟨g, i * 8 + j0, none⟩ a).setCell ⟨g, i * 8 + j0 + 1, none⟩ b).setCell ⟨g, i * 8 + j0 + 2, none⟩ c) := by
  obtain ⟨cur', k1, k2, k3⟩ := row_turn hh hs hle ht hi hj hrow
  have hG := grown_trans (grown_trans (grown_set w g (i * 8 + j0) a) (grown_set _ g (i * 8 + j0 + 1) b)) (grown_set _ g (i * 8 + j0 + 2) c)
  refine ⟨⟨_, hR.grown hG (by simpa using hne.symm), ⟨by rw [flatS_len], .inr ⟨g, cap, cur', by rw [List.length_set], Nat.zero_le _, k1, by rw [List.length_set]; exact hle, hm, k2, by rw [List.length_set]; exact k3⟩⟩, hSR, fun g' hg' => ?_⟩, OnlyS.grown hG hSg⟩
  simp [Value.ownBlock] at hg'
  subst hg'
  exact ⟨hSg, hne⟩
set_option maxHeartbeats 2000000 in
theorem r_Take (w : World) (R : Nat) (S : Nat → Prop) (L : List Share) (h : RLed w R S L) (hl : L.length ≤ 64) (hr : Rising L) (hok : ∀ s ∈ L, s.ok) (u : ByteArray) (b : Int) (v : Vec) (hv : v.ok) :
    Calls Try.prog 43 #[ptrV R, .string u, .int .u8 b, v.v] w fun e w' => e = .returned (.int .i64 (onE L u b (fun s => takeR s v))) ∧ RLed w' R S (onL L u b (fun s => takeS s v)) ∧ OnlyS S w w' := by
  have hA : Below w.heap.size w (w.alloc (.cells #[.int .i64 v.cpu, .int .i64 v.mem, .int .i64 v.disk] 28)) := below_own (below_self w) _
  have con := r_Find _ R S L (h.past hA) hl u b
  have hV := Blk.new w 28 #[.int .i64 v.cpu, .int .i64 v.mem, .int .i64 v.disk]
  have h0 := Lib.hid h
  unfold onE onL
  cases hf : (findI L u b).2 with
  | false =>
    rw [hf] at con
    have hg := (find_no (s := ⟨u, b, zeroV, zeroV⟩) ⟨rfl, rfl⟩ hr hf).1
    rw [hg]
    generalize (findI L u b).1 = i at *
    replace hA := Lib.hid hA
    obtain ⟨v0, v1, v2⟩ := v
    dsimp only at *
    clear hV h hf hg
    go_enter Try.func43, Try.ntmps43
    go_wp2_with fail
    refine con.mono ?_
    rintro r w1 ⟨rfl, hb1⟩; dsimp only
    replace hb1 := Lib.hid hb1
    go_wp2_with fail
    go_ret
    exact ⟨rfl, (h0.out.past hA.out).past hb1.out, OnlyS.below (below_to hA.out hb1.out)⟩
  | true =>
    rw [hf] at con
    obtain ⟨hi, hg, hu⟩ := find_yes (fun s => takeS s v) hr hf
    rw [hg, hu]
    have hso := hok _ (List.getElem_mem hi)
    generalize (findI L u b).1 = i at *
    obtain ⟨s, hse⟩ : ∃ s, s = L[i] := ⟨_, rfl⟩
    rw [← hse] at hso
    simp only [← hse]
    have ae := add_err s.used v
    have c1 := r_positive v
    have c2 := ref_Add s.used v hso.2.2.2 hv
    have c3 := ref_Fits (addV s.used v).1 s.quota
    have hset : Hid (takeR s v = 0 → takeS s v = { s with used := (addV s.used v).1 }) := Lib.hid (fun h => by unfold takeS; rw [if_pos h])
    have hsame : Hid (takeR s v ≠ 0 → takeS s v = s) := Lib.hid (fun h => by unfold takeS; rw [if_neg h])
    have hfin : Hid (∀ w2 w' : World, Below w.heap.size w w2 → ∀ s', s' = s → RLed w2 R S L → w' = w2 → RLed w' R S (L.set i s')) := Lib.hid (fun w2 w' _ s' hs' hR hw => by rw [hs', hse, List.set_getElem_self, hw]; exact hR)
    unfold takeR at hset hsame ⊢
    obtain ⟨su, sb, ⟨q0, q1, q2⟩, ⟨u0, u1, u2⟩⟩ := s
    obtain ⟨v0, v1, v2⟩ := v
    dsimp only at *
    generalize takeS ⟨su, sb, ⟨q0, q1, q2⟩, ⟨u0, u1, u2⟩⟩ ⟨v0, v1, v2⟩ = s' at *
    generalize addV ⟨u0, u1, u2⟩ ⟨v0, v1, v2⟩ = r at *
    obtain ⟨⟨r0, r1, r2⟩, re⟩ := r
    dsimp only at *
    generalize fitsV zeroV ⟨v0, v1, v2⟩ = f1 at *
    generalize fitsV ⟨r0, r1, r2⟩ ⟨q0, q1, q2⟩ = f2 at *
    have C1 := Lib.hid c1
    have C2 := Lib.hid c2
    have C3 := Lib.hid c3
    clear c1 c2 c3 hso hv hf hg hu h hok hr
    have hA0 := Lib.hid hA
    clear hA
    go_enter Try.func43, Try.ntmps43
    go_wp2_with fail
    refine con.mono ?_
    rintro r w1 ⟨rfl, hb1⟩; dsimp only
    replace hV := hV.past hb1
    have hB1 := Lib.hid (below_to hA0.out hb1)
    clear hb1 con
    obtain ⟨Vc, Vf, Vl⟩ := hV.facts
    go_wp2_with fail
    refine (C1.out _).mono ?_
    rintro r w2 ⟨rfl, hb2⟩; dsimp only
    replace hV := hV.past hb2
    have hB2 := Lib.hid (below_to hB1.out hb2)
    clear hb2 Vc Vf Vl hB1 C1
    have hRL := h0.out.past hB2.out
    cases f1
    · replace hRL := Lib.hid hRL
      clear hV
      go_wp2_with fail
      go_ret
      exact ⟨rfl, hfin.out _ _ hB2.out _ (hsame.out (by simp)) hRL.out rfl, OnlyS.below hB2.out⟩
    · clear hRL
      obtain ⟨Vc, Vf, Vl⟩ := hV.facts
      obtain ⟨g, cap, cur, hRb, hh, hle, hm, hs, ht, hSR, hSg, hne, hcells⟩ := (h0.out.past (hB2).out).out hi
      simp only [← hse] at hcells
      have k2 : (w2).cell? ⟨g, i * 8 + 2, none⟩ = some (.int .i64 q0) := hcells 2 (by decide)
      have k3 : (w2).cell? ⟨g, i * 8 + 3, none⟩ = some (.int .i64 q1) := hcells 3 (by decide)
      have k4 : (w2).cell? ⟨g, i * 8 + 4, none⟩ = some (.int .i64 q2) := hcells 4 (by decide)
      have k5 : (w2).cell? ⟨g, i * 8 + 5, none⟩ = some (.int .i64 u0) := hcells 5 (by decide)
      have k6 : (w2).cell? ⟨g, i * 8 + 6, none⟩ = some (.int .i64 u1) := hcells 6 (by decide)
      have k7 : (w2).cell? ⟨g, i * 8 + 7, none⟩ = some (.int .i64 u2) := hcells 7 (by decide)
      obtain ⟨Rc, Rf, Rl⟩ := hRb.facts
      obtain ⟨-, Gf, Gl⟩ := (show Blk w2 g 39 cur from hh).facts
      clear hcells
      go_wp2_with fail
      apply wp_region_stored 13 28 #[.int .i64 0, .int .i64 0, .int .i64 0] #[.int .i64 r0, .int .i64 r1, .int .i64 r2]
      case hm => kernel_rfl
      case hB => kernel_rfl
      case hmk => exact ⟨_, rfl, rfl, fun a W => by kernel_rfl⟩
      case hq =>
        intro R hR x
        simp only [List.take_succ_cons, List.take_zero]
        repeat (go_big_quiet_step ((go_at_call 62; with_reducible exact later_of (C2.out _))))
        exact wpQuiet_nil hR
      case hst =>
        intro b
        refine ⟨_, rfl, rfl, rfl, fun W hX => ⟨putAll b W 0 [.int .i64 r0, .int .i64 r1, .int .i64 r2], ?_, putAll_all _ hX rfl, fun B w0 h hb => putAll_below h _ _ _ hb⟩⟩
        obtain ⟨Xc, Xf, Xl⟩ := hX.facts
        simp [go_sem, putAll, execOp, Act.put, Act.eval, Xc, Xf, Xl]
      simp only [List.drop_succ_cons, List.drop_zero, List.getElem?_toArray, List.getElem?_cons_succ, List.getElem?_cons_zero, Option.bind_some, Act.put, List.setIfInBounds_toArray, List.set_cons_succ, List.set_cons_zero]
      intro X w3 hb3 hX0 hX
      have hB3 := Lib.hid (below_to hB2.out hb3)
      clear hb3 hX0 hV Vc Vf Vl hB2 C2
      clear hRb hh hle hm hs ht hSR hSg hne k2 k3 k4 k5 k6 k7 Rc Rf Rl Gf Gl
      obtain ⟨Xc, Xf, Xl⟩ := hX.facts
      rcases ae with rfl | rfl
      · cases f2
        ·
          obtain ⟨g, cap, cur, hRb, hh, hle, hm, hs, ht, hSR, hSg, hne, hcells⟩ := (h0.out.past (hB3).out).out hi
          simp only [← hse] at hcells
          have k2 : (w3).cell? ⟨g, i * 8 + 2, none⟩ = some (.int .i64 q0) := hcells 2 (by decide)
          have k3 : (w3).cell? ⟨g, i * 8 + 3, none⟩ = some (.int .i64 q1) := hcells 3 (by decide)
          have k4 : (w3).cell? ⟨g, i * 8 + 4, none⟩ = some (.int .i64 q2) := hcells 4 (by decide)
          have k5 : (w3).cell? ⟨g, i * 8 + 5, none⟩ = some (.int .i64 u0) := hcells 5 (by decide)
          have k6 : (w3).cell? ⟨g, i * 8 + 6, none⟩ = some (.int .i64 u1) := hcells 6 (by decide)
          have k7 : (w3).cell? ⟨g, i * 8 + 7, none⟩ = some (.int .i64 u2) := hcells 7 (by decide)
          obtain ⟨Rc, Rf, Rl⟩ := hRb.facts
          obtain ⟨-, Gf, Gl⟩ := (show Blk w3 g 39 cur from hh).facts
          clear hcells
          go_wp2_with fail
          refine wp_region_ext (by kernel_rfl) (by kernel_rfl) ?_
          repeat (go_big_quiet_step ((go_at_call 60; with_reducible exact ext_of (C3.out _))))
          refine wpQuiet_nil ?_
          rintro w4 ⟨x4, hx4⟩
          have hB4 := Lib.hid (below_to hB3.out (hx4 ▸ extn_below w3 x4))
          clear hx4 Xc Xf Xl hX
          clear hRb hh hle hm hs ht hSR hSg hne k2 k3 k4 k5 k6 k7 Rc Rf Rl Gf Gl
          go_wp2_with fail
          go_ret
          exact ⟨rfl, hfin.out _ _ hB4.out _ (hsame.out (by simp)) (h0.out.past hB4.out) rfl, OnlyS.below hB4.out⟩
        ·
          obtain ⟨g, cap, cur, hRb, hh, hle, hm, hs, ht, hSR, hSg, hne, hcells⟩ := (h0.out.past (hB3).out).out hi
          simp only [← hse] at hcells
          have k2 : (w3).cell? ⟨g, i * 8 + 2, none⟩ = some (.int .i64 q0) := hcells 2 (by decide)
          have k3 : (w3).cell? ⟨g, i * 8 + 3, none⟩ = some (.int .i64 q1) := hcells 3 (by decide)
          have k4 : (w3).cell? ⟨g, i * 8 + 4, none⟩ = some (.int .i64 q2) := hcells 4 (by decide)
          have k5 : (w3).cell? ⟨g, i * 8 + 5, none⟩ = some (.int .i64 u0) := hcells 5 (by decide)
          have k6 : (w3).cell? ⟨g, i * 8 + 6, none⟩ = some (.int .i64 u1) := hcells 6 (by decide)
          have k7 : (w3).cell? ⟨g, i * 8 + 7, none⟩ = some (.int .i64 u2) := hcells 7 (by decide)
          obtain ⟨Rc, Rf, Rl⟩ := hRb.facts
          obtain ⟨-, Gf, Gl⟩ := (show Blk w3 g 39 cur from hh).facts
          clear hcells
          go_wp2_with fail
          refine wp_region_ext (by kernel_rfl) (by kernel_rfl) ?_
          repeat (go_big_quiet_step ((go_at_call 60; with_reducible exact ext_of (C3.out _))))
          refine wpQuiet_nil ?_
          rintro w4 ⟨x4, hx4⟩
          have hb4 := hx4 ▸ extn_below w3 x4
          have hB4 := Lib.hid (below_to hB3.out hb4)
          replace hX := hX.past hb4
          clear hx4 hb4 Xc Xf Xl
          clear hRb hh hle hm hs ht hSR hSg hne k2 k3 k4 k5 k6 k7 Rc Rf Rl Gf Gl
          obtain ⟨Xc, Xf, Xl⟩ := hX.facts
          obtain ⟨g, cap, cur, hRb, hh, hle, hm, hs, ht, hSR, hSg, hne, hcells⟩ := (h0.out.past (hB4).out).out hi
          simp only [← hse] at hcells
          have k2 : (w4).cell? ⟨g, i * 8 + 2, none⟩ = some (.int .i64 q0) := hcells 2 (by decide)
          have k3 : (w4).cell? ⟨g, i * 8 + 3, none⟩ = some (.int .i64 q1) := hcells 3 (by decide)
          have k4 : (w4).cell? ⟨g, i * 8 + 4, none⟩ = some (.int .i64 q2) := hcells 4 (by decide)
          have k5 : (w4).cell? ⟨g, i * 8 + 5, none⟩ = some (.int .i64 u0) := hcells 5 (by decide)
          have k6 : (w4).cell? ⟨g, i * 8 + 6, none⟩ = some (.int .i64 u1) := hcells 6 (by decide)
          have k7 : (w4).cell? ⟨g, i * 8 + 7, none⟩ = some (.int .i64 u2) := hcells 7 (by decide)
          obtain ⟨Rc, Rf, Rl⟩ := hRb.facts
          obtain ⟨-, Gf, Gl⟩ := (show Blk w4 g 39 cur from hh).facts
          clear hcells
          go_wp2_with fail
          refine wp_region_left0 (S := fun l w' => Left 8 l → (w'.cell? ⟨R, 0, none⟩ = some (.slice (some ⟨g, 0, none⟩) L.length cap) ∧ w'.cell? ⟨X, 0, none⟩ = some (.int .i64 r0) ∧ w'.cell? ⟨X, 1, none⟩ = some (.int .i64 r1) ∧ w'.cell? ⟨X, 2, none⟩ = some (.int .i64 r2))) (by kernel_rfl) (fun _ => ⟨Rc 0, Xc 0, Xc 1, Xc 2⟩) (fun hHeld => ?_)
          refine wpAnyL_takeN (i := 0) (v := ?_) rfl (by kernel_rfl) (by kernel_rfl) (by kernel_rfl) (fun _ _ _ h => h) ?hS (Or.inl ⟨by rfl, ?hy⟩) hHeld ?_
          case hS => intro l w; (try dsimp only); simp (config := { decide := true }) only [left_set, ne_eq]
          case hy =>
            intro w hSw
            go_simp
            (try with_reducible rfl)
          clear hHeld
          intro hHeld
          try simp only [Act.put, List.getElem_toArray, List.getElem_cons_succ, List.getElem_cons_zero, List.setIfInBounds_toArray, List.set_cons_zero, List.set_cons_succ]
          refine wpAnyL_takeN (i := 1) (v := ?_) rfl (by kernel_rfl) (by kernel_rfl) (by kernel_rfl) (fun _ _ _ h => h) ?hS (Or.inl ⟨by rfl, ?hy⟩) hHeld ?_
          case hS => intro l w; (try dsimp only); simp (config := { decide := true }) only [left_set, ne_eq]
          case hy =>
            intro w hSw
            go_simp
            (try with_reducible rfl)
          clear hHeld
          intro hHeld
          try simp only [Act.put, List.getElem_toArray, List.getElem_cons_succ, List.getElem_cons_zero, List.setIfInBounds_toArray, List.set_cons_zero, List.set_cons_succ]
          refine wpAnyL_takeN (i := 2) (v := ?_) rfl (by kernel_rfl) (by kernel_rfl) (by kernel_rfl) (fun _ _ _ h => h) ?hS (Or.inl ⟨by rfl, ?hy⟩) hHeld ?_
          case hS => intro l w; (try dsimp only); simp (config := { decide := true }) only [left_set, ne_eq]
          case hy =>
            intro w hSw
            go_simp
            (try with_reducible rfl)
          clear hHeld
          intro hHeld
          try simp only [Act.put, List.getElem_toArray, List.getElem_cons_succ, List.getElem_cons_zero, List.setIfInBounds_toArray, List.set_cons_zero, List.set_cons_succ]
          refine wpAnyL_take (i := 3) (b := 8) (v := ?_) rfl (by kernel_rfl) (by kernel_rfl) (by kernel_rfl) (fun _ _ _ h => h) (by decide) (by kernel_rfl) ?hS (Or.inl ⟨by rfl, ?hy⟩) hHeld (by unfold Left; kernel_rfl) ?_
          case hS => intro l w; (try dsimp only); simp (config := { decide := true }) only [left_set, ne_eq]
          case hy =>
            rintro w ⟨l, hSw, hLw⟩
            (try dsimp only at hSw)
            (try simp only [hLw, true_implies] at hSw)
            go_simp
            (try with_reducible rfl)
          clear hHeld
          intro hHeld
          try simp only [Act.put, List.getElem_toArray, List.getElem_cons_succ, List.getElem_cons_zero, List.setIfInBounds_toArray, List.set_cons_zero, List.set_cons_succ]
          refine wpAnyL_takeN (i := 4) (v := ?_) rfl (by kernel_rfl) (by kernel_rfl) (by kernel_rfl) (fun _ _ _ h => h) ?hS (Or.inl ⟨by rfl, ?hy⟩) hHeld ?_
          case hS => intro l w; (try dsimp only); simp (config := { decide := true }) only [left_set, ne_eq]
          case hy =>
            intro w hSw
            go_simp
            (try with_reducible rfl)
          clear hHeld
          intro hHeld
          try simp only [Act.put, List.getElem_toArray, List.getElem_cons_succ, List.getElem_cons_zero, List.setIfInBounds_toArray, List.set_cons_zero, List.set_cons_succ]
          refine wpAnyL_take (i := 5) (b := 8) (v := ?_) rfl (by kernel_rfl) (by kernel_rfl) (by kernel_rfl) (fun _ _ _ h => h) (by decide) (by kernel_rfl) ?hS (Or.inl ⟨by rfl, ?hy⟩) hHeld (by unfold Left; kernel_rfl) ?_
          case hS => intro l w; (try dsimp only); simp (config := { decide := true }) only [left_set, ne_eq]
          case hy =>
            rintro w ⟨l, hSw, hLw⟩
            (try dsimp only at hSw)
            (try simp only [hLw, true_implies] at hSw)
            go_simp
            (try with_reducible rfl)
          clear hHeld
          intro hHeld
          try simp only [Act.put, List.getElem_toArray, List.getElem_cons_succ, List.getElem_cons_zero, List.setIfInBounds_toArray, List.set_cons_zero, List.set_cons_succ]
          refine wpAnyL_takeN (i := 6) (v := ?_) rfl (by kernel_rfl) (by kernel_rfl) (by kernel_rfl) (fun _ _ _ h => h) ?hS (Or.inl ⟨by rfl, ?hy⟩) hHeld ?_
          case hS => intro l w; (try dsimp only); simp (config := { decide := true }) only [left_set, ne_eq]
          case hy =>
            intro w hSw
            go_simp
            (try with_reducible rfl)
          clear hHeld
          intro hHeld
          try simp only [Act.put, List.getElem_toArray, List.getElem_cons_succ, List.getElem_cons_zero, List.setIfInBounds_toArray, List.set_cons_zero, List.set_cons_succ]
          refine wpAnyL_takeN (i := 7) (v := ?_) rfl (by kernel_rfl) (by kernel_rfl) (by kernel_rfl) (fun _ _ _ h => h) ?hS (Or.inl ⟨by rfl, ?hy⟩) hHeld ?_
          case hS => intro l w; (try dsimp only); simp (config := { decide := true }) only [left_set, ne_eq]
          case hy =>
            intro w hSw
            go_simp
            (try with_reducible rfl)
          clear hHeld
          intro hHeld
          try simp only [Act.put, List.getElem_toArray, List.getElem_cons_succ, List.getElem_cons_zero, List.setIfInBounds_toArray, List.set_cons_zero, List.set_cons_succ]
          refine wpAnyL_one 8 (by kernel_rfl) rfl (fun K hK => ?_)
          clear hHeld
          go_simp
          refine hK.out _ _ (Left.gone (by kernel_rfl)) (fun hHeld => ?_)
          clear hK K
          try simp only [Act.put, List.getElem_toArray, List.getElem_cons_succ, List.getElem_cons_zero, List.setIfInBounds_toArray, List.set_cons_zero, List.set_cons_succ]
          refine wpAnyL_done (by kernel_rfl) ?_ _
          (try simp only [Exit.then])
          have hT := Lib.hid (RLed.turned (i := i) (j0 := 5) (s' := s') (a := .int .i64 r0) (b := .int .i64 r1) (c := .int .i64 r2) hRb hh hle hm hs ht hSR hSg hne hi (by decide) (by rw [← hse, hset.out (by simp)]; rfl))
          clear Xc Xf Xl hX hset hsame
          clear hRb hh hle hm hs ht hSR hSg hne k2 k3 k4 k5 k6 k7 Rc Rf Rl Gf Gl
          go_wp2_with fail
          go_ret
          refine ⟨rfl, hT.out.1, (OnlyS.below hB4.out).trans (S' := S) ?_ (fun _ h => Or.inl h)⟩
          exact hT.out.2.trans (S' := S) (OnlyS.below (Below.refl _ _).drew) (fun _ h => Or.inl h)
      · clear Xc Xf Xl hX
        go_wp2_with fail
        go_ret
        exact ⟨rfl, hfin.out _ _ hB3.out _ (hsame.out (by simp)) (h0.out.past hB3.out) rfl, OnlyS.below hB3.out⟩
end Go.Proofs.Ytcjgblopcfcakaa
