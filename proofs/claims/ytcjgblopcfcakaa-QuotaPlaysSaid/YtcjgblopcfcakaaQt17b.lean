/- The document's ledger, walked: Give, Left. Conditions: what comes in is of its kind. -/
import Derived.Test.YtcjgblopcfcakaaQt17
namespace Go.Proofs.Ytcjgblopcfcakaa
open Go.RowKit Go.MapKept

set_option maxHeartbeats 2000000 in
theorem r_Give (w : World) (R : Nat) (S : Nat → Prop) (L : List Share) (h : RLed w R S L) (hl : L.length ≤ 64) (hr : Rising L) (hok : ∀ s ∈ L, s.ok) (u : ByteArray) (b : Int) (v : Vec) (hv : v.ok) :
    Calls Try.prog 44 #[ptrV R, .string u, .int .u8 b, v.v] w fun e w' => e = .returned (.int .i64 (onE L u b (fun s => giveR s v))) ∧ RLed w' R S (onL L u b (fun s => giveS s v)) ∧ OnlyS S w w' := by
  have hA : Below w.heap.size w (w.alloc (.cells #[.int .i64 v.cpu, .int .i64 v.mem, .int .i64 v.disk] 28)) := below_own (below_self w) _
  have con := r_Find _ R S L (h.past hA) hl u b
  have hV := Blk.new w 28 #[.int .i64 v.cpu, .int .i64 v.mem, .int .i64 v.disk]
  have h0 := Lib.hid h
  unfold onE onL
  cases hf : (findI L u b).2 with
  | false =>
    rw [hf] at con
    have hg := (find_no (s := ⟨u, b, zeroV, zeroV⟩) ⟨rfl, rfl⟩ hr hf).1
    rw [hg]
    generalize (findI L u b).1 = i at *
    replace hA := Lib.hid hA
    obtain ⟨v0, v1, v2⟩ := v
    dsimp only at *
    clear hV h hf hg
    go_enter Try.func44, Try.ntmps44
    go_wp2_with fail
    refine con.mono ?_
    rintro r w1 ⟨rfl, hb1⟩; dsimp only
    replace hb1 := Lib.hid hb1
    go_wp2_with fail
    go_ret
    exact ⟨rfl, (h0.out.past hA.out).past hb1.out, OnlyS.below (below_to hA.out hb1.out)⟩
  | true =>
    rw [hf] at con
    obtain ⟨hi, hg, hu⟩ := find_yes (fun s => giveS s v) hr hf
    rw [hg, hu]
    have hso := hok _ (List.getElem_mem hi)
    generalize (findI L u b).1 = i at *
    obtain ⟨s, hse⟩ : ∃ s, s = L[i] := ⟨_, rfl⟩
    rw [← hse] at hso
    simp only [← hse]
    have c1 := r_positive v
    have c2 := ref_Sub s.used v hso.2.2.2 hv
    have c3 := ref_Fits v s.used
    have hset : Hid (giveR s v = 0 → giveS s v = { s with used := (subV s.used v).1 }) := Lib.hid (fun h => by unfold giveS; rw [if_pos h])
    have hsame : Hid (giveR s v ≠ 0 → giveS s v = s) := Lib.hid (fun h => by unfold giveS; rw [if_neg h])
    have hfin : Hid (∀ w2 w' : World, Below w.heap.size w w2 → ∀ s', s' = s → RLed w2 R S L → w' = w2 → RLed w' R S (L.set i s')) := Lib.hid (fun w2 w' _ s' hs' hR hw => by rw [hs', hse, List.set_getElem_self, hw]; exact hR)
    unfold giveR at hset hsame ⊢
    obtain ⟨su, sb, ⟨q0, q1, q2⟩, ⟨u0, u1, u2⟩⟩ := s
    obtain ⟨v0, v1, v2⟩ := v
    dsimp only at *
    generalize giveS ⟨su, sb, ⟨q0, q1, q2⟩, ⟨u0, u1, u2⟩⟩ ⟨v0, v1, v2⟩ = s' at *
    generalize subV ⟨u0, u1, u2⟩ ⟨v0, v1, v2⟩ = r at *
    obtain ⟨⟨r0, r1, r2⟩, re⟩ := r
    dsimp only at *
    generalize fitsV zeroV ⟨v0, v1, v2⟩ = f1 at *
    generalize fitsV ⟨v0, v1, v2⟩ ⟨u0, u1, u2⟩ = f2 at *
    have C1 := Lib.hid c1
    have C2 := Lib.hid c2
    have C3 := Lib.hid c3
    clear c1 c2 c3 hso hv hf hg hu h hok hr
    have hA0 := Lib.hid hA
    clear hA
    go_enter Try.func44, Try.ntmps44
    go_wp2_with fail
    refine con.mono ?_
    rintro r w1 ⟨rfl, hb1⟩; dsimp only
    replace hV := hV.past hb1
    have hB1 := Lib.hid (below_to hA0.out hb1)
    clear hb1 con
    obtain ⟨Vc, Vf, Vl⟩ := hV.facts
    obtain ⟨g, cap, cur, hRb, hh, hle, hm, hs, ht, hSR, hSg, hne, hcells⟩ := (h0.out.past (hB1).out).out hi
    simp only [← hse] at hcells
    have k2 : (w1).cell? ⟨g, i * 8 + 2, none⟩ = some (.int .i64 q0) := hcells 2 (by decide)
    have k3 : (w1).cell? ⟨g, i * 8 + 3, none⟩ = some (.int .i64 q1) := hcells 3 (by decide)
    have k4 : (w1).cell? ⟨g, i * 8 + 4, none⟩ = some (.int .i64 q2) := hcells 4 (by decide)
    have k5 : (w1).cell? ⟨g, i * 8 + 5, none⟩ = some (.int .i64 u0) := hcells 5 (by decide)
    have k6 : (w1).cell? ⟨g, i * 8 + 6, none⟩ = some (.int .i64 u1) := hcells 6 (by decide)
    have k7 : (w1).cell? ⟨g, i * 8 + 7, none⟩ = some (.int .i64 u2) := hcells 7 (by decide)
    obtain ⟨Rc, Rf, Rl⟩ := hRb.facts
    obtain ⟨-, Gf, Gl⟩ := (show Blk w1 g 39 cur from hh).facts
    clear hcells
    cases f1
    · go_wp2_with fail
      refine wp_region_ext (by kernel_rfl) (by kernel_rfl) ?_
      repeat (go_big_quiet_step ((first | (go_at_call 40; with_reducible exact ext_of (C1.out _)) | (go_at_call 60; with_reducible exact ext_of (C3.out _)))))
      refine wpQuiet_nil ?_
      rintro w4 ⟨x4, hx4⟩
      have hB4 := Lib.hid (below_to hB1.out (hx4 ▸ extn_below w1 x4))
      clear hx4 Vc Vf Vl hV
      clear hRb hh hle hm hs ht hSR hSg hne k2 k3 k4 k5 k6 k7 Rc Rf Rl Gf Gl
      go_wp2_with fail
      go_ret
      exact ⟨rfl, hfin.out _ _ hB4.out _ (hsame.out (by simp)) (h0.out.past hB4.out) rfl, OnlyS.below hB4.out⟩
    · cases f2
      · go_wp2_with fail
        refine wp_region_ext (by kernel_rfl) (by kernel_rfl) ?_
        repeat (go_big_quiet_step ((first | (go_at_call 40; with_reducible exact ext_of (C1.out _)) | (go_at_call 60; with_reducible exact ext_of (C3.out _)))))
        refine wpQuiet_nil ?_
        rintro w4 ⟨x4, hx4⟩
        have hB4 := Lib.hid (below_to hB1.out (hx4 ▸ extn_below w1 x4))
        clear hx4 Vc Vf Vl hV
        clear hRb hh hle hm hs ht hSR hSg hne k2 k3 k4 k5 k6 k7 Rc Rf Rl Gf Gl
        go_wp2_with fail
        go_ret
        exact ⟨rfl, hfin.out _ _ hB4.out _ (hsame.out (by simp)) (h0.out.past hB4.out) rfl, OnlyS.below hB4.out⟩
      · go_wp2_with fail
        refine wp_region_ext (by kernel_rfl) (by kernel_rfl) ?_
        repeat (go_big_quiet_step ((first | (go_at_call 40; with_reducible exact ext_of (C1.out _)) | (go_at_call 60; with_reducible exact ext_of (C3.out _)))))
        refine wpQuiet_nil ?_
        rintro w2 ⟨x4, hx4⟩
        have hb2 := hx4 ▸ extn_below w1 x4
        have hB2 := Lib.hid (below_to hB1.out hb2)
        replace hV := hV.past hb2
        clear hx4 hb2 Vc Vf Vl C1 C3 hB1
        clear hRb hh hle hm hs ht hSR hSg hne k2 k3 k4 k5 k6 k7 Rc Rf Rl Gf Gl
        obtain ⟨Vc, Vf, Vl⟩ := hV.facts
        obtain ⟨g, cap, cur, hRb, hh, hle, hm, hs, ht, hSR, hSg, hne, hcells⟩ := (h0.out.past (hB2).out).out hi
        simp only [← hse] at hcells
        have k2 : (w2).cell? ⟨g, i * 8 + 2, none⟩ = some (.int .i64 q0) := hcells 2 (by decide)
        have k3 : (w2).cell? ⟨g, i * 8 + 3, none⟩ = some (.int .i64 q1) := hcells 3 (by decide)
        have k4 : (w2).cell? ⟨g, i * 8 + 4, none⟩ = some (.int .i64 q2) := hcells 4 (by decide)
        have k5 : (w2).cell? ⟨g, i * 8 + 5, none⟩ = some (.int .i64 u0) := hcells 5 (by decide)
        have k6 : (w2).cell? ⟨g, i * 8 + 6, none⟩ = some (.int .i64 u1) := hcells 6 (by decide)
        have k7 : (w2).cell? ⟨g, i * 8 + 7, none⟩ = some (.int .i64 u2) := hcells 7 (by decide)
        obtain ⟨Rc, Rf, Rl⟩ := hRb.facts
        obtain ⟨-, Gf, Gl⟩ := (show Blk w2 g 39 cur from hh).facts
        clear hcells
        go_wp2_with fail
        apply wp_region_stored 13 28 #[.int .i64 0, .int .i64 0, .int .i64 0] #[.int .i64 r0, .int .i64 r1, .int .i64 r2]
        case hm => kernel_rfl
        case hB => kernel_rfl
        case hmk => exact ⟨_, rfl, rfl, fun a W => by kernel_rfl⟩
        case hq =>
          intro R hR x
          simp only [List.take_succ_cons, List.take_zero]
          repeat (go_big_quiet_step ((go_at_call 63; with_reducible exact later_of (C2.out _))))
          exact wpQuiet_nil hR
        case hst =>
          intro b
          refine ⟨_, rfl, rfl, rfl, fun W hX => ⟨putAll b W 0 [.int .i64 r0, .int .i64 r1, .int .i64 r2], ?_, putAll_all _ hX rfl, fun B w0 h hb => putAll_below h _ _ _ hb⟩⟩
          obtain ⟨Xc, Xf, Xl⟩ := hX.facts
          simp [go_sem, putAll, execOp, Act.put, Act.eval, Xc, Xf, Xl]
        simp only [List.drop_succ_cons, List.drop_zero, List.getElem?_toArray, List.getElem?_cons_succ, List.getElem?_cons_zero, Option.bind_some, Act.put, List.setIfInBounds_toArray, List.set_cons_succ, List.set_cons_zero]
        intro X w4 hb3 hX0 hX
        have hB4 := Lib.hid (below_to hB2.out hb3)
        clear hb3 hX0 hV Vc Vf Vl hB2 C2
        clear hRb hh hle hm hs ht hSR hSg hne k2 k3 k4 k5 k6 k7 Rc Rf Rl Gf Gl
        obtain ⟨Xc, Xf, Xl⟩ := hX.facts
        obtain ⟨g, cap, cur, hRb, hh, hle, hm, hs, ht, hSR, hSg, hne, hcells⟩ := (h0.out.past (hB4).out).out hi
        simp only [← hse] at hcells
        have k2 : (w4).cell? ⟨g, i * 8 + 2, none⟩ = some (.int .i64 q0) := hcells 2 (by decide)
        have k3 : (w4).cell? ⟨g, i * 8 + 3, none⟩ = some (.int .i64 q1) := hcells 3 (by decide)
        have k4 : (w4).cell? ⟨g, i * 8 + 4, none⟩ = some (.int .i64 q2) := hcells 4 (by decide)
        have k5 : (w4).cell? ⟨g, i * 8 + 5, none⟩ = some (.int .i64 u0) := hcells 5 (by decide)
        have k6 : (w4).cell? ⟨g, i * 8 + 6, none⟩ = some (.int .i64 u1) := hcells 6 (by decide)
        have k7 : (w4).cell? ⟨g, i * 8 + 7, none⟩ = some (.int .i64 u2) := hcells 7 (by decide)
        obtain ⟨Rc, Rf, Rl⟩ := hRb.facts
        obtain ⟨-, Gf, Gl⟩ := (show Blk w4 g 39 cur from hh).facts
        clear hcells
        go_wp2_with fail
        refine wp_region_left0 (S := fun l w' => Left 8 l → (w'.cell? ⟨R, 0, none⟩ = some (.slice (some ⟨g, 0, none⟩) L.length cap) ∧ w'.cell? ⟨X, 0, none⟩ = some (.int .i64 r0) ∧ w'.cell? ⟨X, 1, none⟩ = some (.int .i64 r1) ∧ w'.cell? ⟨X, 2, none⟩ = some (.int .i64 r2))) (by kernel_rfl) (fun _ => ⟨Rc 0, Xc 0, Xc 1, Xc 2⟩) (fun hHeld => ?_)
        refine wpAnyL_takeN (i := 0) (v := ?_) rfl (by kernel_rfl) (by kernel_rfl) (by kernel_rfl) (fun _ _ _ h => h) ?hS (Or.inl ⟨by rfl, ?hy⟩) hHeld ?_
        case hS => intro l w; (try dsimp only); simp (config := { decide := true }) only [left_set, ne_eq]
        case hy =>
          intro w hSw
          go_simp
          (try with_reducible rfl)
        clear hHeld
        intro hHeld
        try simp only [Act.put, List.getElem_toArray, List.getElem_cons_succ, List.getElem_cons_zero, List.setIfInBounds_toArray, List.set_cons_zero, List.set_cons_succ]
        refine wpAnyL_takeN (i := 1) (v := ?_) rfl (by kernel_rfl) (by kernel_rfl) (by kernel_rfl) (fun _ _ _ h => h) ?hS (Or.inl ⟨by rfl, ?hy⟩) hHeld ?_
        case hS => intro l w; (try dsimp only); simp (config := { decide := true }) only [left_set, ne_eq]
        case hy =>
          intro w hSw
          go_simp
          (try with_reducible rfl)
        clear hHeld
        intro hHeld
        try simp only [Act.put, List.getElem_toArray, List.getElem_cons_succ, List.getElem_cons_zero, List.setIfInBounds_toArray, List.set_cons_zero, List.set_cons_succ]
        refine wpAnyL_takeN (i := 2) (v := ?_) rfl (by kernel_rfl) (by kernel_rfl) (by kernel_rfl) (fun _ _ _ h => h) ?hS (Or.inl ⟨by rfl, ?hy⟩) hHeld ?_
        case hS => intro l w; (try dsimp only); simp (config := { decide := true }) only [left_set, ne_eq]
        case hy =>
          intro w hSw
          go_simp
          (try with_reducible rfl)
        clear hHeld
        intro hHeld
        try simp only [Act.put, List.getElem_toArray, List.getElem_cons_succ, List.getElem_cons_zero, List.setIfInBounds_toArray, List.set_cons_zero, List.set_cons_succ]
        refine wpAnyL_take (i := 3) (b := 8) (v := ?_) rfl (by kernel_rfl) (by kernel_rfl) (by kernel_rfl) (fun _ _ _ h => h) (by decide) (by kernel_rfl) ?hS (Or.inl ⟨by rfl, ?hy⟩) hHeld (by unfold Left; kernel_rfl) ?_
        case hS => intro l w; (try dsimp only); simp (config := { decide := true }) only [left_set, ne_eq]
        case hy =>
          rintro w ⟨l, hSw, hLw⟩
          (try dsimp only at hSw)
          (try simp only [hLw, true_implies] at hSw)
          go_simp
          (try with_reducible rfl)
        clear hHeld
        intro hHeld
        try simp only [Act.put, List.getElem_toArray, List.getElem_cons_succ, List.getElem_cons_zero, List.setIfInBounds_toArray, List.set_cons_zero, List.set_cons_succ]
        refine wpAnyL_takeN (i := 4) (v := ?_) rfl (by kernel_rfl) (by kernel_rfl) (by kernel_rfl) (fun _ _ _ h => h) ?hS (Or.inl ⟨by rfl, ?hy⟩) hHeld ?_
        case hS => intro l w; (try dsimp only); simp (config := { decide := true }) only [left_set, ne_eq]
        case hy =>
          intro w hSw
          go_simp
          (try with_reducible rfl)
        clear hHeld
        intro hHeld
        try simp only [Act.put, List.getElem_toArray, List.getElem_cons_succ, List.getElem_cons_zero, List.setIfInBounds_toArray, List.set_cons_zero, List.set_cons_succ]
        refine wpAnyL_take (i := 5) (b := 8) (v := ?_) rfl (by kernel_rfl) (by kernel_rfl) (by kernel_rfl) (fun _ _ _ h => h) (by decide) (by kernel_rfl) ?hS (Or.inl ⟨by rfl, ?hy⟩) hHeld (by unfold Left; kernel_rfl) ?_
        case hS => intro l w; (try dsimp only); simp (config := { decide := true }) only [left_set, ne_eq]
        case hy =>
          rintro w ⟨l, hSw, hLw⟩
          (try dsimp only at hSw)
          (try simp only [hLw, true_implies] at hSw)
          go_simp
          (try with_reducible rfl)
        clear hHeld
        intro hHeld
        try simp only [Act.put, List.getElem_toArray, List.getElem_cons_succ, List.getElem_cons_zero, List.setIfInBounds_toArray, List.set_cons_zero, List.set_cons_succ]
        refine wpAnyL_takeN (i := 6) (v := ?_) rfl (by kernel_rfl) (by kernel_rfl) (by kernel_rfl) (fun _ _ _ h => h) ?hS (Or.inl ⟨by rfl, ?hy⟩) hHeld ?_
        case hS => intro l w; (try dsimp only); simp (config := { decide := true }) only [left_set, ne_eq]
        case hy =>
          intro w hSw
          go_simp
          (try with_reducible rfl)
        clear hHeld
        intro hHeld
        try simp only [Act.put, List.getElem_toArray, List.getElem_cons_succ, List.getElem_cons_zero, List.setIfInBounds_toArray, List.set_cons_zero, List.set_cons_succ]
        refine wpAnyL_takeN (i := 7) (v := ?_) rfl (by kernel_rfl) (by kernel_rfl) (by kernel_rfl) (fun _ _ _ h => h) ?hS (Or.inl ⟨by rfl, ?hy⟩) hHeld ?_
        case hS => intro l w; (try dsimp only); simp (config := { decide := true }) only [left_set, ne_eq]
        case hy =>
          intro w hSw
          go_simp
          (try with_reducible rfl)
        clear hHeld
        intro hHeld
        try simp only [Act.put, List.getElem_toArray, List.getElem_cons_succ, List.getElem_cons_zero, List.setIfInBounds_toArray, List.set_cons_zero, List.set_cons_succ]
        refine wpAnyL_one 8 (by kernel_rfl) rfl (fun K hK => ?_)
        clear hHeld
        go_simp
        refine hK.out _ _ (Left.gone (by kernel_rfl)) (fun hHeld => ?_)
        clear hK K
        try simp only [Act.put, List.getElem_toArray, List.getElem_cons_succ, List.getElem_cons_zero, List.setIfInBounds_toArray, List.set_cons_zero, List.set_cons_succ]
        refine wpAnyL_done (by kernel_rfl) ?_ _
        (try simp only [Exit.then])
        have hT := Lib.hid (RLed.turned (i := i) (j0 := 5) (s' := s') (a := .int .i64 r0) (b := .int .i64 r1) (c := .int .i64 r2) hRb hh hle hm hs ht hSR hSg hne hi (by decide) (by rw [← hse, hset.out (by simp)]; rfl))
        clear Xc Xf Xl hX hset hsame
        clear hRb hh hle hm hs ht hSR hSg hne k2 k3 k4 k5 k6 k7 Rc Rf Rl Gf Gl
        go_wp2_with fail
        go_ret
        refine ⟨rfl, hT.out.1, (OnlyS.below hB4.out).trans (S' := S) ?_ (fun _ h => Or.inl h)⟩
        exact hT.out.2.trans (S' := S) (OnlyS.below (Below.refl _ _).drew) (fun _ h => Or.inl h)
theorem left_plain {q u : Vec} (hq : mayV q = true) (hu : fitsV zeroV u = true) (s : Share) (h1 : s.quota = q) (h2 : s.used = u) : leftV s = ⟨q.cpu - min q.cpu u.cpu, q.mem - min q.mem u.mem, q.disk - min q.disk u.disk⟩ ∧ I64 (q.cpu - min q.cpu u.cpu) ∧ I64 (q.mem - min q.mem u.mem) ∧ I64 (q.disk - min q.disk u.disk) := by
  unfold mayV at hq
  unfold fitsV zeroV at hu
  simp only [Bool.and_eq_true, decide_eq_true_eq] at hq hu
  have hf : I64 (q.cpu - min q.cpu u.cpu) ∧ I64 (q.mem - min q.mem u.mem) ∧ I64 (q.disk - min q.disk u.disk) := by
    unfold I64
    omega
  refine ⟨?_, hf⟩
  unfold leftV minV pickV subV eachV fits
  rw [h1, h2]
  obtain ⟨⟨a0, a1⟩, ⟨b0, b1⟩, ⟨c0, c1⟩⟩ := hf
  rw [if_pos (by simp only [Bool.and_eq_true, decide_eq_true_eq]; exact ⟨⟨⟨a0, a1⟩, ⟨b0, b1⟩⟩, ⟨c0, c1⟩⟩)]
attribute [local go_sem] kmax2 kmin2 kmax_two kmin_two
set_option maxHeartbeats 2000000 in
theorem r_Left (w : World) (R : Nat) (S : Nat → Prop) (L : List Share) (h : RLed w R S L) (hl : L.length ≤ 64) (hr : Rising L) (hgood : ∀ s ∈ L, mayV s.quota = true ∧ fitsV zeroV s.used = true) (u : ByteArray) (b : Int) :
    Calls Try.prog 45 #[ptrV R, .string u, .int .u8 b] w fun e w' => e = .returned (.tuple #[(leftL L u b).v, .int .i64 (leftE L u b)]) ∧ Below w.heap.size w w' := by
  have hA : Below w.heap.size w (w.alloc (.cells #[.int .i64 0, .int .i64 0, .int .i64 0] 28)) := below_own (below_self w) _
  have con := r_Find _ R S L (h.past hA) hl u b
  have hV := Blk.new w 28 #[.int .i64 0, .int .i64 0, .int .i64 0]
  have h0 := Lib.hid h
  unfold leftL leftE
  cases hf : (findI L u b).2 with
  | false =>
    rw [hf] at con
    have hg := (find_no (s := ⟨u, b, zeroV, zeroV⟩) ⟨rfl, rfl⟩ hr hf).1
    rw [hg]
    generalize (findI L u b).1 = i at *
    dsimp only [zeroV] at *
    clear h hf hg
    go_enter Try.func45, Try.ntmps45
    go_wp2_with fail
    refine con.mono ?_
    rintro r w1 ⟨rfl, hb1⟩; dsimp only
    replace hV := hV.past hb1
    have hB1 := Lib.hid (below_to hA hb1)
    clear hb1 con hA
    obtain ⟨Vc, Vf, Vl⟩ := hV.facts
    go_wp2_with fail
    have hV3 := ((hV.put 0 (.int .i64 0) rfl).put 1 (.int .i64 0) rfl).put 2 (.int .i64 0) rfl
    have hA3 := Lib.hid (((hB1.out.setCell (p := ⟨w.heap.size, 0, none⟩) (Nat.le_refl _) (.int .i64 0)).setCell (p := ⟨w.heap.size, 1, none⟩) (Nat.le_refl _) (.int .i64 0)).setCell (p := ⟨w.heap.size, 2, none⟩) (Nat.le_refl _) (.int .i64 0))
    clear Vc Vf Vl hV hB1
    obtain ⟨Wc, Wf, Wl⟩ := hV3.facts
    generalize ((w1.setCell ⟨w.heap.size, 0, none⟩ (.int .i64 0)).setCell ⟨w.heap.size, 1, none⟩ (.int .i64 0)).setCell ⟨w.heap.size, 2, none⟩ (.int .i64 0) = W3 at *
    refine bodyPost_ret (v := .tuple #[.agg #[.int .i64 0, .int .i64 0, .int .i64 0], .int .i64 5]) (by simp [results, Try.results45, go_sem, Wc]) rfl ?_
    exact ⟨rfl, hA3.out⟩
  | true =>
    rw [hf] at con
    obtain ⟨hi, hg, -⟩ := find_yes id hr hf
    rw [hg]
    have hgd := hgood _ (List.getElem_mem hi)
    generalize (findI L u b).1 = i at *
    obtain ⟨s, hse⟩ : ∃ s, s = L[i] := ⟨_, rfl⟩
    rw [← hse] at hgd
    simp only [← hse]
    obtain ⟨hlv, z0, z1, z2⟩ := left_plain hgd.1 hgd.2 s rfl rfl
    rw [hlv]
    obtain ⟨su, sb, ⟨q0, q1, q2⟩, ⟨u0, u1, u2⟩⟩ := s
    dsimp only at *
    have y0 := wrap64_id z0
    have y1 := wrap64_id z1
    have y2 := wrap64_id z2
    clear hlv hgd hf hg h hgood z0 z1 z2 hr
    go_enter Try.func45, Try.ntmps45
    go_wp2_with fail
    refine con.mono ?_
    rintro r w1 ⟨rfl, hb1⟩; dsimp only
    replace hV := hV.past hb1
    have hB1 := Lib.hid (below_to hA hb1)
    clear hb1 con hA
    obtain ⟨Vc, Vf, Vl⟩ := hV.facts
    obtain ⟨g, cap, cur, hRb, hh, hle, hm, hs, ht, hSR, hSg, hne, hcells⟩ := (h0.out.past (hB1).out).out hi
    simp only [← hse] at hcells
    have k2 : (w1).cell? ⟨g, i * 8 + 2, none⟩ = some (.int .i64 q0) := hcells 2 (by decide)
    have k3 : (w1).cell? ⟨g, i * 8 + 3, none⟩ = some (.int .i64 q1) := hcells 3 (by decide)
    have k4 : (w1).cell? ⟨g, i * 8 + 4, none⟩ = some (.int .i64 q2) := hcells 4 (by decide)
    have k5 : (w1).cell? ⟨g, i * 8 + 5, none⟩ = some (.int .i64 u0) := hcells 5 (by decide)
    have k6 : (w1).cell? ⟨g, i * 8 + 6, none⟩ = some (.int .i64 u1) := hcells 6 (by decide)
    have k7 : (w1).cell? ⟨g, i * 8 + 7, none⟩ = some (.int .i64 u2) := hcells 7 (by decide)
    obtain ⟨Rc, Rf, Rl⟩ := hRb.facts
    obtain ⟨-, Gf, Gl⟩ := (show Blk w1 g 39 cur from hh).facts
    clear hcells
    go_wp2_with fail
    clear hRb hh hle hm hs ht hSR hSg hne k2 k3 k4 k5 k6 k7 Rc Rf Rl Gf Gl
    clear Vc Vf Vl
    have hV3 := ((((hV.put 0 (.int .i64 (q0 - min q0 u0)) rfl).put 1 (.int .i64 (q1 - min q1 u1)) rfl).put 2 (.int .i64 (q2 - min q2 u2)) rfl).alloc (.cells #[.int .i64 q0, .int .i64 q1, .int .i64 q2] 28)).alloc (.cells #[.int .i64 u0, .int .i64 u1, .int .i64 u2] 28)
    have hA2 := (((hB1.out.setCell (p := ⟨w.heap.size, 0, none⟩) (Nat.le_refl _) (.int .i64 (q0 - min q0 u0))).setCell (p := ⟨w.heap.size, 1, none⟩) (Nat.le_refl _) (.int .i64 (q1 - min q1 u1))).setCell (p := ⟨w.heap.size, 2, none⟩) (Nat.le_refl _) (.int .i64 (q2 - min q2 u2)))
    have hA3 := Lib.hid (below_own (below_own hA2 (.cells #[.int .i64 q0, .int .i64 q1, .int .i64 q2] 28)) (.cells #[.int .i64 u0, .int .i64 u1, .int .i64 u2] 28))
    clear hV hB1 hA2
    obtain ⟨Wc, Wf, Wl⟩ := hV3.facts
    generalize ((((w1.setCell ⟨w.heap.size, 0, none⟩ (.int .i64 (q0 - min q0 u0))).setCell ⟨w.heap.size, 1, none⟩ (.int .i64 (q1 - min q1 u1))).setCell ⟨w.heap.size, 2, none⟩ (.int .i64 (q2 - min q2 u2))).alloc (.cells #[.int .i64 q0, .int .i64 q1, .int .i64 q2] 28)).alloc (.cells #[.int .i64 u0, .int .i64 u1, .int .i64 u2] 28) = W3 at *
    refine bodyPost_ret (v := .tuple #[.agg #[.int .i64 (q0 - min q0 u0), .int .i64 (q1 - min q1 u1), .int .i64 (q2 - min q2 u2)], .int .i64 0]) (by simp [results, Try.results45, go_sem, Wc]) rfl ?_
    exact ⟨rfl, hA3.out⟩
end Go.Proofs.Ytcjgblopcfcakaa
