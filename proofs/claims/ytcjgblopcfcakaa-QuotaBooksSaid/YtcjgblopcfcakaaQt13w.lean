/- The law of layer 17, walked: what is used is what was taken, and not given back. Conditions: what comes in is within the reach. -/
import Derived.Test.YtcjgblopcfcakaaQt13
namespace Go.Proofs.Ytcjgblopcfcakaa
open Go.RowKit Go.MapKept

theorem eachV_ok {op : Int → Int → Int} {a b : Vec} (h : (eachV op a b).2 = 0) : (eachV op a b).1.ok := by
  unfold eachV at *
  split
  · rename_i hq
    simp only [Bool.and_eq_true, fits, decide_eq_true_eq] at hq
    exact ⟨hq.1.1, hq.1.2, hq.2⟩
  · decide
set_option maxRecDepth 100000 in
set_option maxHeartbeats 8000000 in
theorem QuotaBooks_walk (A : Option Addr) (n c : Nat) (xs : List QStep) (hx : xs.length = n) (hm : n * 56 ≤ 140737488351232) (hok : ∀ x ∈ xs, x.ok) {w : World} (hr : QStepsIn w A xs) :
    Calls Try.prog 3 #[.slice A n c] w fun e w' => e = .returned (.bool true) ∧ Below w.heap.size w w' := by
  subst hx
  have al := Lib.hid law17_alive
  have he : Calls Try.prog 7 #[.slice none 0 0, .slice A xs.length c] w _ := law_heavy none A 0 c [] xs w (by simp) (by omega) (by simp) hok (fun h => absurd rfl h) hr
  have HE := Lib.hid he
  clear he
  go_enter Try.func3, Try.ntmps3
  go_wp2_with fail
  refine (HE.out).mono ?_
  rintro r ww ⟨hv, rfl, hsm, rfl⟩; dsimp only
  replace hsm := Lib.hid hsm
  cases hv with
  | true =>
    go_wp2_with fail
    refine (al.out _).mono ?_
    rintro r w1 ⟨rfl, hb1⟩; dsimp only
    replace hb1 := Lib.hid hb1
    go_wp2_with fail
    go_ret
    exact ⟨rfl, hb1.out⟩
  | false =>
  go_wp2_with fail
  refine (q_New w).mono ?_
  rintro r w1 ⟨rfl, hLa, hB1⟩; dsimp only
  have hm2 : xs.length ≤ 1024 := by have := hsm.out; simpa using this
  have h0 : Led1 w w1 (w.heap.size + 1) [] [] := ⟨fun c => w.heap.size ≤ c ∧ c < w1.heap.size, hLa.tight, by simp, fun c hc => hc, by simp, hB1⟩
  have h1 := (h0.more zeroV).more zeroV
  have hR := Lib.hid hr
  generalize w.heap.size + 1 = P at *
  clear hr hLa hB1 h0 hsm HE
  go_wp2_with fail
  obtain ⟨V4, hV4⟩ : ∃ V4, V4 = w1.heap.size := ⟨_, rfl⟩
  obtain ⟨V5, hV5⟩ : ∃ V5, V5 = w1.heap.size + 1 := ⟨_, rfl⟩
  rw [← hV5, ← hV4]
  rw [show (w1.alloc (.cells (vcs zeroV) 28)).heap.size = V5 by rw [hV5]; simp, ← hV4] at h1
  clear hV4 hV5
  go_loopw [6] (fun i wr => ∃ (k : Nat) (L : List Share) (used limit : Vec), i = .int .i64 k ∧ k ≤ xs.length ∧ Led1 w wr P L [(V5, limit), (V4, used)] ∧ used.ok ∧ limit.ok ∧ Hid (Book L used limit)) (fun i _ => xs.length - (intOf i).toNat)
  case atStart => exact ⟨0, [], zeroV, zeroV, rfl, Nat.zero_le _, h1, by decide, by decide, Lib.hid (Or.inl ⟨rfl, rfl⟩)⟩
  case round =>
    clear h1
    obtain ⟨k, L, used, limit, rfl, hk, hL, huok, hlok, hBk⟩ := hrel
    by_cases hlt : k < xs.length
    · obtain ⟨bA, off, rfl, hbA, hcell⟩ := hR.out (by intro e; rw [e] at hlt; simp at hlt)
      have hW := hL.below
      have j0 := (hW.cell (p := ⟨bA, off + k * 6, none⟩) hbA).trans (hcell k hlt).1
      have j3 := (hW.cell (p := ⟨bA, off + k * 6 + 3, none⟩) hbA).trans (hcell k hlt).2.2.2.1
      have j4 := (hW.cell (p := ⟨bA, off + k * 6 + 4, none⟩) hbA).trans (hcell k hlt).2.2.2.2.1
      have j5 := (hW.cell (p := ⟨bA, off + k * 6 + 5, none⟩) hbA).trans (hcell k hlt).2.2.2.2.2
      have hbr : bA < wr.heap.size := Nat.lt_of_lt_of_le hbA hW.size
      have hxo := hok xs[k] (List.getElem_mem hlt)
      clear hcell hW
      generalize xs[k] = x at *
      obtain ⟨xd, xu, xb, ⟨x0, x1, x2⟩⟩ := x
      obtain ⟨xo1, -, -, xo4⟩ := hxo
      obtain ⟨u0, u1, u2⟩ := used
      obtain ⟨l0, l1, l2⟩ := limit
      dsimp only at *
      have hrem : xd.tmod 3 = 0 ∨ xd.tmod 3 = 1 ∨ xd.tmod 3 = 2 := by
        obtain ⟨h1, h2⟩ := xo1
        rw [Int.tmod_eq_emod_of_nonneg h1]
        omega
      have hL7 := hL.more ⟨x0, x1, x2⟩
      dsimp only [vcs] at hL7
      obtain ⟨V7, hV7⟩ : ∃ V7, V7 = wr.heap.size := ⟨_, rfl⟩
      rw [← hV7] at hL7
      rcases hrem with hrem | hrem | hrem
      · have t0 : (xd.tmod 3 == 0) = true := by rw [hrem]; rfl
        clear hrem
        have con := one_Set hL7 ann2 2 ⟨x0, x1, x2⟩ (by decide) (by decide) xo4
        have huok' := huok
        rcases hBk.out.set (v := ⟨x0, x1, x2⟩) with ⟨hE, hBk2⟩ | ⟨hE, hBk2⟩
        · rw [hE] at con
          replace hBk2 := Lib.hid hBk2
          have hlok' := xo4
          clear hBk hL hL7 hE hlok
          go_wp2_with fail
          refine con.mono ?_
          rintro r w2 ⟨rfl, hL2⟩; dsimp only
          clear con j0 j3 j4 j5
          have b7 := (hL2.blk (g := V7) (v := ⟨x0, x1, x2⟩) (by simp)).facts
          have b5 := (hL2.blk (g := V5) (v := ⟨l0, l1, l2⟩) (by simp)).facts
          dsimp only [vcs] at b7 b5
          rw [hV7] at b7
          obtain ⟨b7c, b7f, b7l⟩ := b7
          obtain ⟨b5c, b5f, b5l⟩ := b5
          have hL3 := (hL2.pick (G' := [(V5, ⟨l0, l1, l2⟩), (V7, ⟨x0, x1, x2⟩), (V4, ⟨u0, u1, u2⟩)]) (by simp) (by have := hL2.nodup; simp at this ⊢; omega)).put (v := ⟨x0, x1, x2⟩)
          clear hL2
          go_wp2_with fail
          clear b7c b7f b7l b5c b5f b5l
          refine (one_Rows hL3).mono ?_
          rintro r w8 ⟨⟨A8, c8, rfl, hsh, -⟩, hL8⟩; dsimp only
          rcases hBk2.out with ⟨hl0, hz⟩ | hl1
          · injection hz with z0 z1 z2
            rw [hl0] at hsh hL8
            rw [hl0]
            have b5 := (hL8.blk (g := V5) (v := ⟨x0, x1, x2⟩) (by simp)).facts
            have b4 := (hL8.blk (g := V4) (v := ⟨u0, u1, u2⟩) (by simp)).facts
            rw [z0, z1, z2] at b4
            dsimp only [vcs] at b4 b5
            obtain ⟨b5c, b5f, b5l⟩ := b5
            obtain ⟨b4c, b4f, b4l⟩ := b4
            clear hsh
            go_wp2_with fail
            refine wp_region_ext (by kernel_rfl) (by kernel_rfl) ?_
            repeat (go_big_quiet_step (fail))
            refine wpQuiet_nil ?_
            rintro w9 ⟨x9, hx9⟩
            have hb9 : Below w8.heap.size w8 w9 := hx9 ▸ extn_below _ x9
            clear hx9 b5c b5f b5l b4c b4f b4l
            replace hL8 := hL8.past hb9
            clear hb9
            have hL9 := Lib.hid (hL8.pick (G' := [(V5, ⟨x0, x1, x2⟩), (V4, ⟨u0, u1, u2⟩)]) (by simp) (by have := hL8.nodup; simp at this ⊢; omega))
            have hB9 := Lib.hid (show Book ([] : List Share) ⟨u0, u1, u2⟩ ⟨x0, x1, x2⟩ from Or.inl ⟨rfl, by rw [z0, z1, z2]; rfl⟩)
            clear hL8
            go_wp2_with fail
            go_roundw
            case rel => exact ⟨k + 1, [], _, _, by go_num, hlt, hL9.out, huok', hlok', hB9⟩
            case measure => simp [intOf]; omega
          · rw [hl1] at hsh hL8
            rw [hl1]
            have b5 := (hL8.blk (g := V5) (v := ⟨x0, x1, x2⟩) (by simp)).facts
            have b4 := (hL8.blk (g := V4) (v := ⟨u0, u1, u2⟩) (by simp)).facts
            dsimp only [vcs] at b4 b5
            obtain ⟨b5c, b5f, b5l⟩ := b5
            obtain ⟨b4c, b4f, b4l⟩ := b4
            obtain ⟨g8, off8, rfl, hglt, hcell8⟩ := hsh (by simp)
            obtain ⟨s0, s1, s2, s3, s4, s5, s6, s7⟩ := hcell8 0 (by simp)
            simp only [Nat.zero_mul, Nat.add_zero, List.getElem_cons_zero] at s0 s1 s2 s3 s4 s5 s6 s7
            clear hsh hcell8
            go_wp2_with fail
            refine wp_region_ext (by kernel_rfl) (by kernel_rfl) ?_
            repeat (go_big_quiet_step (fail))
            refine wpQuiet_nil ?_
            rintro w9 ⟨x9, hx9⟩
            have hb9 : Below w8.heap.size w8 w9 := hx9 ▸ extn_below _ x9
            clear hx9 b5c b5f b5l b4c b4f b4l s0 s1 s2 s3 s4 s5 s6 s7 hglt
            replace hL8 := hL8.past hb9
            clear hb9
            have hL9 := Lib.hid (hL8.pick (G' := [(V5, ⟨x0, x1, x2⟩), (V4, ⟨u0, u1, u2⟩)]) (by simp) (by have := hL8.nodup; simp at this ⊢; omega))
            have hB9 := Lib.hid (show Book [⟨ann2, 2, ⟨x0, x1, x2⟩, ⟨u0, u1, u2⟩⟩] ⟨u0, u1, u2⟩ ⟨x0, x1, x2⟩ from Or.inr rfl)
            clear hL8
            go_wp2_with fail
            go_roundw
            case rel => exact ⟨k + 1, _, _, _, by go_num, hlt, hL9.out, huok', hlok', hB9⟩
            case measure => simp [intOf]; omega
        · have hE' : (setE L ann2 2 ⟨x0, x1, x2⟩ == 0) = false := by simpa using hE
          replace hBk2 := Lib.hid hBk2
          have hlok' := hlok
          clear hBk hL hL7 hE
          go_wp2_with fail
          refine con.mono ?_
          rintro r w2 ⟨rfl, hL2⟩; dsimp only
          clear con j0 j3 j4 j5
          go_wp2_with fail
          refine (one_Rows hL2).mono ?_
          rintro r w8 ⟨⟨A8, c8, rfl, hsh, -⟩, hL8⟩; dsimp only
          rcases hBk2.out with ⟨hl0, hz⟩ | hl1
          · injection hz with z0 z1 z2
            rw [hl0] at hsh hL8
            rw [hl0]
            have b5 := (hL8.blk (g := V5) (v := ⟨l0, l1, l2⟩) (by simp)).facts
            have b4 := (hL8.blk (g := V4) (v := ⟨u0, u1, u2⟩) (by simp)).facts
            rw [z0, z1, z2] at b4
            dsimp only [vcs] at b4 b5
            obtain ⟨b5c, b5f, b5l⟩ := b5
            obtain ⟨b4c, b4f, b4l⟩ := b4
            clear hsh
            go_wp2_with fail
            refine wp_region_ext (by kernel_rfl) (by kernel_rfl) ?_
            repeat (go_big_quiet_step (fail))
            refine wpQuiet_nil ?_
            rintro w9 ⟨x9, hx9⟩
            have hb9 : Below w8.heap.size w8 w9 := hx9 ▸ extn_below _ x9
            clear hx9 b5c b5f b5l b4c b4f b4l
            replace hL8 := hL8.past hb9
            clear hb9
            have hL9 := Lib.hid (hL8.pick (G' := [(V5, ⟨l0, l1, l2⟩), (V4, ⟨u0, u1, u2⟩)]) (by simp) (by have := hL8.nodup; simp at this ⊢; omega))
            have hB9 := Lib.hid (show Book ([] : List Share) ⟨u0, u1, u2⟩ ⟨l0, l1, l2⟩ from Or.inl ⟨rfl, by rw [z0, z1, z2]; rfl⟩)
            clear hL8
            go_wp2_with fail
            go_roundw
            case rel => exact ⟨k + 1, [], _, _, by go_num, hlt, hL9.out, huok', hlok', hB9⟩
            case measure => simp [intOf]; omega
          · rw [hl1] at hsh hL8
            rw [hl1]
            have b5 := (hL8.blk (g := V5) (v := ⟨l0, l1, l2⟩) (by simp)).facts
            have b4 := (hL8.blk (g := V4) (v := ⟨u0, u1, u2⟩) (by simp)).facts
            dsimp only [vcs] at b4 b5
            obtain ⟨b5c, b5f, b5l⟩ := b5
            obtain ⟨b4c, b4f, b4l⟩ := b4
            obtain ⟨g8, off8, rfl, hglt, hcell8⟩ := hsh (by simp)
            obtain ⟨s0, s1, s2, s3, s4, s5, s6, s7⟩ := hcell8 0 (by simp)
            simp only [Nat.zero_mul, Nat.add_zero, List.getElem_cons_zero] at s0 s1 s2 s3 s4 s5 s6 s7
            clear hsh hcell8
            go_wp2_with fail
            refine wp_region_ext (by kernel_rfl) (by kernel_rfl) ?_
            repeat (go_big_quiet_step (fail))
            refine wpQuiet_nil ?_
            rintro w9 ⟨x9, hx9⟩
            have hb9 : Below w8.heap.size w8 w9 := hx9 ▸ extn_below _ x9
            clear hx9 b5c b5f b5l b4c b4f b4l s0 s1 s2 s3 s4 s5 s6 s7 hglt
            replace hL8 := hL8.past hb9
            clear hb9
            have hL9 := Lib.hid (hL8.pick (G' := [(V5, ⟨l0, l1, l2⟩), (V4, ⟨u0, u1, u2⟩)]) (by simp) (by have := hL8.nodup; simp at this ⊢; omega))
            have hB9 := Lib.hid (show Book [⟨ann2, 2, ⟨l0, l1, l2⟩, ⟨u0, u1, u2⟩⟩] ⟨u0, u1, u2⟩ ⟨l0, l1, l2⟩ from Or.inr rfl)
            clear hL8
            go_wp2_with fail
            go_roundw
            case rel => exact ⟨k + 1, _, _, _, by go_num, hlt, hL9.out, huok', hlok', hB9⟩
            case measure => simp [intOf]; omega
      · have t0 : (xd.tmod 3 == 0) = false := by rw [hrem]; rfl
        have t1 : (xd.tmod 3 == 1) = true := by rw [hrem]; rfl
        clear hrem
        have con := one_Take hL7 ann2 2 ⟨x0, x1, x2⟩ (by decide) (by decide) xo4
        rcases hBk.out.take (v := ⟨x0, x1, x2⟩) with ⟨hE, hA0, hF, hZ, hBk2⟩ | ⟨hE, hBk2⟩
        · rw [hE] at con
          have ca := vec_Add ⟨u0, u1, u2⟩ ⟨x0, x1, x2⟩ huok xo4
          rw [hA0] at ca
          have huok' := eachV_ok hA0
          have hlok' := hlok
          replace hBk2 := Lib.hid hBk2
          change (addV ⟨u0, u1, u2⟩ ⟨x0, x1, x2⟩).1.ok at huok'
          generalize (addV ⟨u0, u1, u2⟩ ⟨x0, x1, x2⟩).1 = s at *
          obtain ⟨s0, s1, s2⟩ := s
          clear hBk hL hL7 hE hA0
          go_wp2_with fail
          refine con.mono ?_
          rintro r w2 ⟨rfl, hL2⟩; dsimp only
          clear con j0 j3 j4 j5
          have b7 := ((hL2).blk (g := V7) (v := ⟨x0, x1, x2⟩) (by simp)).facts
          have b4 := ((hL2).blk (g := V4) (v := ⟨u0, u1, u2⟩) (by simp)).facts
          dsimp only [vcs] at b7 b4
          rw [hV7] at b7
          obtain ⟨b7c, b7f, b7l⟩ := b7
          obtain ⟨b4c, b4f, b4l⟩ := b4
          go_wp2_with fail
          refine (ca _).mono ?_
          rintro r w3 ⟨rfl, hb3⟩; dsimp only [Vec.v]
          have hL3 := hL2.past hb3
          have hL4 := hL3.more ⟨s0, s1, s2⟩
          dsimp only [vcs] at hL4
          obtain ⟨V8, hV8⟩ : ∃ V8, V8 = w3.heap.size := ⟨_, rfl⟩
          rw [← hV8] at hL4
          clear b7c b7f b7l b4c b4f b4l hb3 hL2 ca
          have b5 := (hL3.blk (g := V5) (v := ⟨l0, l1, l2⟩) (by simp)).facts
          have b7 := (hL3.blk (g := V7) (v := ⟨x0, x1, x2⟩) (by simp)).facts
          dsimp only [vcs] at b5 b7
          rw [hV7] at b7
          obtain ⟨b5c, b5f, b5l⟩ := b5
          obtain ⟨b7c, b7f, b7l⟩ := b7
          go_wp2_with fail
          have c1 := vec_Fits ⟨s0, s1, s2⟩ ⟨l0, l1, l2⟩
          rw [hF] at c1
          refine (c1 _).mono ?_
          rintro r w4 ⟨rfl, hb4⟩; dsimp only
          have hL5 := hL4.past hb4
          clear c1 b5c b5f b5l b7c b7f b7l hL3 hb4 hL4
          have b7 := (hL5.blk (g := V7) (v := ⟨x0, x1, x2⟩) (by simp)).facts
          dsimp only [vcs] at b7
          rw [hV7] at b7
          obtain ⟨b7c, b7f, b7l⟩ := b7
          go_wp2_with fail
          have c2 := vec_Fits zeroV ⟨x0, x1, x2⟩
          rw [hZ] at c2
          refine (c2 _).mono ?_
          rintro r w5 ⟨rfl, hb5⟩; dsimp only
          have hL6 := hL5.past hb5
          clear c2 b7c b7f b7l hL5 hb5
          have b8 := (hL6.blk (g := V8) (v := ⟨s0, s1, s2⟩) (by simp)).facts
          have b4 := (hL6.blk (g := V4) (v := ⟨u0, u1, u2⟩) (by simp)).facts
          dsimp only [vcs] at b8 b4
          rw [hV8] at b8
          obtain ⟨b8c, b8f, b8l⟩ := b8
          obtain ⟨b4c, b4f, b4l⟩ := b4
          have hL9' := (hL6.pick (G' := [(V4, ⟨u0, u1, u2⟩), (V8, ⟨s0, s1, s2⟩), (V7, ⟨x0, x1, x2⟩), (V5, ⟨l0, l1, l2⟩)]) (by simp) (by have := hL6.nodup; simp at this ⊢; omega)).put (v := ⟨s0, s1, s2⟩)
          clear hL6
          go_wp2_with fail
          clear b8c b8f b8l b4c b4f b4l
          refine (one_Rows hL9').mono ?_
          rintro r w8 ⟨⟨A8, c8, rfl, hsh, -⟩, hL8⟩; dsimp only
          rcases hBk2.out with ⟨hl0, hz⟩ | hl1
          · injection hz with z0 z1 z2
            rw [hl0] at hsh hL8
            rw [hl0]
            have b5 := (hL8.blk (g := V5) (v := ⟨l0, l1, l2⟩) (by simp)).facts
            have b4 := (hL8.blk (g := V4) (v := ⟨s0, s1, s2⟩) (by simp)).facts
            rw [z0, z1, z2] at b4
            dsimp only [vcs] at b4 b5
            obtain ⟨b5c, b5f, b5l⟩ := b5
            obtain ⟨b4c, b4f, b4l⟩ := b4
            clear hsh
            go_wp2_with fail
            refine wp_region_ext (by kernel_rfl) (by kernel_rfl) ?_
            repeat (go_big_quiet_step (fail))
            refine wpQuiet_nil ?_
            rintro w9 ⟨x9, hx9⟩
            have hb9 : Below w8.heap.size w8 w9 := hx9 ▸ extn_below _ x9
            clear hx9 b5c b5f b5l b4c b4f b4l
            replace hL8 := hL8.past hb9
            clear hb9
            have hL9 := Lib.hid (hL8.pick (G' := [(V5, ⟨l0, l1, l2⟩), (V4, ⟨s0, s1, s2⟩)]) (by simp) (by have := hL8.nodup; simp at this ⊢; omega))
            have hB9 := Lib.hid (show Book ([] : List Share) ⟨s0, s1, s2⟩ ⟨l0, l1, l2⟩ from Or.inl ⟨rfl, by rw [z0, z1, z2]; rfl⟩)
            clear hL8
            go_wp2_with fail
            go_roundw
            case rel => exact ⟨k + 1, [], _, _, by go_num, hlt, hL9.out, huok', hlok', hB9⟩
            case measure => simp [intOf]; omega
          · rw [hl1] at hsh hL8
            rw [hl1]
            have b5 := (hL8.blk (g := V5) (v := ⟨l0, l1, l2⟩) (by simp)).facts
            have b4 := (hL8.blk (g := V4) (v := ⟨s0, s1, s2⟩) (by simp)).facts
            dsimp only [vcs] at b4 b5
            obtain ⟨b5c, b5f, b5l⟩ := b5
            obtain ⟨b4c, b4f, b4l⟩ := b4
            obtain ⟨g8, off8, rfl, hglt, hcell8⟩ := hsh (by simp)
            obtain ⟨s0, s1, s2, s3, s4, s5, s6, s7⟩ := hcell8 0 (by simp)
            simp only [Nat.zero_mul, Nat.add_zero, List.getElem_cons_zero] at s0 s1 s2 s3 s4 s5 s6 s7
            clear hsh hcell8
            go_wp2_with fail
            refine wp_region_ext (by kernel_rfl) (by kernel_rfl) ?_
            repeat (go_big_quiet_step (fail))
            refine wpQuiet_nil ?_
            rintro w9 ⟨x9, hx9⟩
            have hb9 : Below w8.heap.size w8 w9 := hx9 ▸ extn_below _ x9
            clear hx9 b5c b5f b5l b4c b4f b4l s0 s1 s2 s3 s4 s5 s6 s7 hglt
            replace hL8 := hL8.past hb9
            clear hb9
            have hL9 := Lib.hid (hL8.pick (G' := [(V5, ⟨l0, l1, l2⟩), (V4, ⟨s0, s1, s2⟩)]) (by simp) (by have := hL8.nodup; simp at this ⊢; omega))
            have hB9 := Lib.hid (show Book [⟨ann2, 2, ⟨l0, l1, l2⟩, ⟨s0, s1, s2⟩⟩] ⟨s0, s1, s2⟩ ⟨l0, l1, l2⟩ from Or.inr rfl)
            clear hL8
            go_wp2_with fail
            go_roundw
            case rel => exact ⟨k + 1, _, _, _, by go_num, hlt, hL9.out, huok', hlok', hB9⟩
            case measure => simp [intOf]; omega
        · have hE' : (onE L ann2 2 (fun s => takeR s ⟨x0, x1, x2⟩) == 0) = false := by simpa using hE
          replace hBk2 := Lib.hid hBk2
          have hlok' := hlok
          have huok' := huok
          clear hBk hL hL7 hE
          go_wp2_with fail
          refine con.mono ?_
          rintro r w2 ⟨rfl, hL2⟩; dsimp only
          clear con j0 j3 j4 j5
          go_wp2_with fail
          refine (one_Rows hL2).mono ?_
          rintro r w8 ⟨⟨A8, c8, rfl, hsh, -⟩, hL8⟩; dsimp only
          rcases hBk2.out with ⟨hl0, hz⟩ | hl1
          · injection hz with z0 z1 z2
            rw [hl0] at hsh hL8
            rw [hl0]
            have b5 := (hL8.blk (g := V5) (v := ⟨l0, l1, l2⟩) (by simp)).facts
            have b4 := (hL8.blk (g := V4) (v := ⟨u0, u1, u2⟩) (by simp)).facts
            rw [z0, z1, z2] at b4
            dsimp only [vcs] at b4 b5
            obtain ⟨b5c, b5f, b5l⟩ := b5
            obtain ⟨b4c, b4f, b4l⟩ := b4
            clear hsh
            go_wp2_with fail
            refine wp_region_ext (by kernel_rfl) (by kernel_rfl) ?_
            repeat (go_big_quiet_step (fail))
            refine wpQuiet_nil ?_
            rintro w9 ⟨x9, hx9⟩
            have hb9 : Below w8.heap.size w8 w9 := hx9 ▸ extn_below _ x9
            clear hx9 b5c b5f b5l b4c b4f b4l
            replace hL8 := hL8.past hb9
            clear hb9
            have hL9 := Lib.hid (hL8.pick (G' := [(V5, ⟨l0, l1, l2⟩), (V4, ⟨u0, u1, u2⟩)]) (by simp) (by have := hL8.nodup; simp at this ⊢; omega))
            have hB9 := Lib.hid (show Book ([] : List Share) ⟨u0, u1, u2⟩ ⟨l0, l1, l2⟩ from Or.inl ⟨rfl, by rw [z0, z1, z2]; rfl⟩)
            clear hL8
            go_wp2_with fail
            go_roundw
            case rel => exact ⟨k + 1, [], _, _, by go_num, hlt, hL9.out, huok', hlok', hB9⟩
            case measure => simp [intOf]; omega
          · rw [hl1] at hsh hL8
            rw [hl1]
            have b5 := (hL8.blk (g := V5) (v := ⟨l0, l1, l2⟩) (by simp)).facts
            have b4 := (hL8.blk (g := V4) (v := ⟨u0, u1, u2⟩) (by simp)).facts
            dsimp only [vcs] at b4 b5
            obtain ⟨b5c, b5f, b5l⟩ := b5
            obtain ⟨b4c, b4f, b4l⟩ := b4
            obtain ⟨g8, off8, rfl, hglt, hcell8⟩ := hsh (by simp)
            obtain ⟨s0, s1, s2, s3, s4, s5, s6, s7⟩ := hcell8 0 (by simp)
            simp only [Nat.zero_mul, Nat.add_zero, List.getElem_cons_zero] at s0 s1 s2 s3 s4 s5 s6 s7
            clear hsh hcell8
            go_wp2_with fail
            refine wp_region_ext (by kernel_rfl) (by kernel_rfl) ?_
            repeat (go_big_quiet_step (fail))
            refine wpQuiet_nil ?_
            rintro w9 ⟨x9, hx9⟩
            have hb9 : Below w8.heap.size w8 w9 := hx9 ▸ extn_below _ x9
            clear hx9 b5c b5f b5l b4c b4f b4l s0 s1 s2 s3 s4 s5 s6 s7 hglt
            replace hL8 := hL8.past hb9
            clear hb9
            have hL9 := Lib.hid (hL8.pick (G' := [(V5, ⟨l0, l1, l2⟩), (V4, ⟨u0, u1, u2⟩)]) (by simp) (by have := hL8.nodup; simp at this ⊢; omega))
            have hB9 := Lib.hid (show Book [⟨ann2, 2, ⟨l0, l1, l2⟩, ⟨u0, u1, u2⟩⟩] ⟨u0, u1, u2⟩ ⟨l0, l1, l2⟩ from Or.inr rfl)
            clear hL8
            go_wp2_with fail
            go_roundw
            case rel => exact ⟨k + 1, _, _, _, by go_num, hlt, hL9.out, huok', hlok', hB9⟩
            case measure => simp [intOf]; omega
      · have t0 : (xd.tmod 3 == 0) = false := by rw [hrem]; rfl
        have t1 : (xd.tmod 3 == 1) = false := by rw [hrem]; rfl
        have t2 : (xd.tmod 3 == 2) = true := by rw [hrem]; rfl
        clear hrem
        have con := one_Give hL7 ann2 2 ⟨x0, x1, x2⟩ (by decide) (by decide) xo4
        rcases hBk.out.give huok (v := ⟨x0, x1, x2⟩) with ⟨hE, hA0, hF, hBk2⟩ | ⟨hE, hBk2⟩
        · rw [hE] at con
          have ca := vec_Sub ⟨u0, u1, u2⟩ ⟨x0, x1, x2⟩ huok xo4
          rw [hA0] at ca
          have huok' := eachV_ok hA0
          have hlok' := hlok
          replace hBk2 := Lib.hid hBk2
          change (subV ⟨u0, u1, u2⟩ ⟨x0, x1, x2⟩).1.ok at huok'
          generalize (subV ⟨u0, u1, u2⟩ ⟨x0, x1, x2⟩).1 = s at *
          obtain ⟨s0, s1, s2⟩ := s
          clear hBk hL hL7 hE hA0
          go_wp2_with fail
          refine con.mono ?_
          rintro r w2 ⟨rfl, hL2⟩; dsimp only
          clear con j0 j3 j4 j5
          have b7 := ((hL2).blk (g := V7) (v := ⟨x0, x1, x2⟩) (by simp)).facts
          have b4 := ((hL2).blk (g := V4) (v := ⟨u0, u1, u2⟩) (by simp)).facts
          dsimp only [vcs] at b7 b4
          rw [hV7] at b7
          obtain ⟨b7c, b7f, b7l⟩ := b7
          obtain ⟨b4c, b4f, b4l⟩ := b4
          go_wp2_with fail
          refine (ca _).mono ?_
          rintro r w3 ⟨rfl, hb3⟩; dsimp only [Vec.v]
          have hL3 := hL2.past hb3
          have hL4 := hL3.more ⟨s0, s1, s2⟩
          dsimp only [vcs] at hL4
          obtain ⟨V8, hV8⟩ : ∃ V8, V8 = w3.heap.size := ⟨_, rfl⟩
          rw [← hV8] at hL4
          clear b7c b7f b7l b4c b4f b4l hb3 hL2 ca
          have b5 := (hL3.blk (g := V5) (v := ⟨l0, l1, l2⟩) (by simp)).facts
          have b7 := (hL3.blk (g := V7) (v := ⟨x0, x1, x2⟩) (by simp)).facts
          dsimp only [vcs] at b5 b7
          rw [hV7] at b7
          obtain ⟨b5c, b5f, b5l⟩ := b5
          obtain ⟨b7c, b7f, b7l⟩ := b7
          go_wp2_with fail
          have c1 := vec_Fits zeroV ⟨s0, s1, s2⟩
          rw [hF] at c1
          refine (c1 _).mono ?_
          rintro r w4 ⟨rfl, hb4⟩; dsimp only
          have hL6 := hL4.past hb4
          clear c1 b5c b5f b5l b7c b7f b7l hL3 hb4 hL4
          have b8 := (hL6.blk (g := V8) (v := ⟨s0, s1, s2⟩) (by simp)).facts
          have b4 := (hL6.blk (g := V4) (v := ⟨u0, u1, u2⟩) (by simp)).facts
          dsimp only [vcs] at b8 b4
          rw [hV8] at b8
          obtain ⟨b8c, b8f, b8l⟩ := b8
          obtain ⟨b4c, b4f, b4l⟩ := b4
          have hL9' := (hL6.pick (G' := [(V4, ⟨u0, u1, u2⟩), (V8, ⟨s0, s1, s2⟩), (V7, ⟨x0, x1, x2⟩), (V5, ⟨l0, l1, l2⟩)]) (by simp) (by have := hL6.nodup; simp at this ⊢; omega)).put (v := ⟨s0, s1, s2⟩)
          clear hL6
          go_wp2_with fail
          clear b8c b8f b8l b4c b4f b4l
          refine (one_Rows hL9').mono ?_
          rintro r w8 ⟨⟨A8, c8, rfl, hsh, -⟩, hL8⟩; dsimp only
          rcases hBk2.out with ⟨hl0, hz⟩ | hl1
          · injection hz with z0 z1 z2
            rw [hl0] at hsh hL8
            rw [hl0]
            have b5 := (hL8.blk (g := V5) (v := ⟨l0, l1, l2⟩) (by simp)).facts
            have b4 := (hL8.blk (g := V4) (v := ⟨s0, s1, s2⟩) (by simp)).facts
            rw [z0, z1, z2] at b4
            dsimp only [vcs] at b4 b5
            obtain ⟨b5c, b5f, b5l⟩ := b5
            obtain ⟨b4c, b4f, b4l⟩ := b4
            clear hsh
            go_wp2_with fail
            refine wp_region_ext (by kernel_rfl) (by kernel_rfl) ?_
            repeat (go_big_quiet_step (fail))
            refine wpQuiet_nil ?_
            rintro w9 ⟨x9, hx9⟩
            have hb9 : Below w8.heap.size w8 w9 := hx9 ▸ extn_below _ x9
            clear hx9 b5c b5f b5l b4c b4f b4l
            replace hL8 := hL8.past hb9
            clear hb9
            have hL9 := Lib.hid (hL8.pick (G' := [(V5, ⟨l0, l1, l2⟩), (V4, ⟨s0, s1, s2⟩)]) (by simp) (by have := hL8.nodup; simp at this ⊢; omega))
            have hB9 := Lib.hid (show Book ([] : List Share) ⟨s0, s1, s2⟩ ⟨l0, l1, l2⟩ from Or.inl ⟨rfl, by rw [z0, z1, z2]; rfl⟩)
            clear hL8
            go_wp2_with fail
            go_roundw
            case rel => exact ⟨k + 1, [], _, _, by go_num, hlt, hL9.out, huok', hlok', hB9⟩
            case measure => simp [intOf]; omega
          · rw [hl1] at hsh hL8
            rw [hl1]
            have b5 := (hL8.blk (g := V5) (v := ⟨l0, l1, l2⟩) (by simp)).facts
            have b4 := (hL8.blk (g := V4) (v := ⟨s0, s1, s2⟩) (by simp)).facts
            dsimp only [vcs] at b4 b5
            obtain ⟨b5c, b5f, b5l⟩ := b5
            obtain ⟨b4c, b4f, b4l⟩ := b4
            obtain ⟨g8, off8, rfl, hglt, hcell8⟩ := hsh (by simp)
            obtain ⟨s0, s1, s2, s3, s4, s5, s6, s7⟩ := hcell8 0 (by simp)
            simp only [Nat.zero_mul, Nat.add_zero, List.getElem_cons_zero] at s0 s1 s2 s3 s4 s5 s6 s7
            clear hsh hcell8
            go_wp2_with fail
            refine wp_region_ext (by kernel_rfl) (by kernel_rfl) ?_
            repeat (go_big_quiet_step (fail))
            refine wpQuiet_nil ?_
            rintro w9 ⟨x9, hx9⟩
            have hb9 : Below w8.heap.size w8 w9 := hx9 ▸ extn_below _ x9
            clear hx9 b5c b5f b5l b4c b4f b4l s0 s1 s2 s3 s4 s5 s6 s7 hglt
            replace hL8 := hL8.past hb9
            clear hb9
            have hL9 := Lib.hid (hL8.pick (G' := [(V5, ⟨l0, l1, l2⟩), (V4, ⟨s0, s1, s2⟩)]) (by simp) (by have := hL8.nodup; simp at this ⊢; omega))
            have hB9 := Lib.hid (show Book [⟨ann2, 2, ⟨l0, l1, l2⟩, ⟨s0, s1, s2⟩⟩] ⟨s0, s1, s2⟩ ⟨l0, l1, l2⟩ from Or.inr rfl)
            clear hL8
            go_wp2_with fail
            go_roundw
            case rel => exact ⟨k + 1, _, _, _, by go_num, hlt, hL9.out, huok', hlok', hB9⟩
            case measure => simp [intOf]; omega
        · have hE' : (onE L ann2 2 (fun s => giveR s ⟨x0, x1, x2⟩) == 0) = false := by simpa using hE
          replace hBk2 := Lib.hid hBk2
          have hlok' := hlok
          have huok' := huok
          clear hBk hL hL7 hE
          go_wp2_with fail
          refine con.mono ?_
          rintro r w2 ⟨rfl, hL2⟩; dsimp only
          clear con j0 j3 j4 j5
          go_wp2_with fail
          refine (one_Rows hL2).mono ?_
          rintro r w8 ⟨⟨A8, c8, rfl, hsh, -⟩, hL8⟩; dsimp only
          rcases hBk2.out with ⟨hl0, hz⟩ | hl1
          · injection hz with z0 z1 z2
            rw [hl0] at hsh hL8
            rw [hl0]
            have b5 := (hL8.blk (g := V5) (v := ⟨l0, l1, l2⟩) (by simp)).facts
            have b4 := (hL8.blk (g := V4) (v := ⟨u0, u1, u2⟩) (by simp)).facts
            rw [z0, z1, z2] at b4
            dsimp only [vcs] at b4 b5
            obtain ⟨b5c, b5f, b5l⟩ := b5
            obtain ⟨b4c, b4f, b4l⟩ := b4
            clear hsh
            go_wp2_with fail
            refine wp_region_ext (by kernel_rfl) (by kernel_rfl) ?_
            repeat (go_big_quiet_step (fail))
            refine wpQuiet_nil ?_
            rintro w9 ⟨x9, hx9⟩
            have hb9 : Below w8.heap.size w8 w9 := hx9 ▸ extn_below _ x9
            clear hx9 b5c b5f b5l b4c b4f b4l
            replace hL8 := hL8.past hb9
            clear hb9
            have hL9 := Lib.hid (hL8.pick (G' := [(V5, ⟨l0, l1, l2⟩), (V4, ⟨u0, u1, u2⟩)]) (by simp) (by have := hL8.nodup; simp at this ⊢; omega))
            have hB9 := Lib.hid (show Book ([] : List Share) ⟨u0, u1, u2⟩ ⟨l0, l1, l2⟩ from Or.inl ⟨rfl, by rw [z0, z1, z2]; rfl⟩)
            clear hL8
            go_wp2_with fail
            go_roundw
            case rel => exact ⟨k + 1, [], _, _, by go_num, hlt, hL9.out, huok', hlok', hB9⟩
            case measure => simp [intOf]; omega
          · rw [hl1] at hsh hL8
            rw [hl1]
            have b5 := (hL8.blk (g := V5) (v := ⟨l0, l1, l2⟩) (by simp)).facts
            have b4 := (hL8.blk (g := V4) (v := ⟨u0, u1, u2⟩) (by simp)).facts
            dsimp only [vcs] at b4 b5
            obtain ⟨b5c, b5f, b5l⟩ := b5
            obtain ⟨b4c, b4f, b4l⟩ := b4
            obtain ⟨g8, off8, rfl, hglt, hcell8⟩ := hsh (by simp)
            obtain ⟨s0, s1, s2, s3, s4, s5, s6, s7⟩ := hcell8 0 (by simp)
            simp only [Nat.zero_mul, Nat.add_zero, List.getElem_cons_zero] at s0 s1 s2 s3 s4 s5 s6 s7
            clear hsh hcell8
            go_wp2_with fail
            refine wp_region_ext (by kernel_rfl) (by kernel_rfl) ?_
            repeat (go_big_quiet_step (fail))
            refine wpQuiet_nil ?_
            rintro w9 ⟨x9, hx9⟩
            have hb9 : Below w8.heap.size w8 w9 := hx9 ▸ extn_below _ x9
            clear hx9 b5c b5f b5l b4c b4f b4l s0 s1 s2 s3 s4 s5 s6 s7 hglt
            replace hL8 := hL8.past hb9
            clear hb9
            have hL9 := Lib.hid (hL8.pick (G' := [(V5, ⟨l0, l1, l2⟩), (V4, ⟨u0, u1, u2⟩)]) (by simp) (by have := hL8.nodup; simp at this ⊢; omega))
            have hB9 := Lib.hid (show Book [⟨ann2, 2, ⟨l0, l1, l2⟩, ⟨u0, u1, u2⟩⟩] ⟨u0, u1, u2⟩ ⟨l0, l1, l2⟩ from Or.inr rfl)
            clear hL8
            go_wp2_with fail
            go_roundw
            case rel => exact ⟨k + 1, _, _, _, by go_num, hlt, hL9.out, huok', hlok', hB9⟩
            case measure => simp [intOf]; omega
    · have hBW := Lib.hid hL.below
      clear hL
      go_wp2_with fail
      refine (al.out _).mono ?_
      rintro r w5 ⟨rfl, hb1⟩; dsimp only
      have hB6 := Lib.hid (below_to hBW.out hb1)
      clear hb1
      go_wp2_with fail
      go_ret
      exact ⟨rfl, hB6.out⟩
end Go.Proofs.Ytcjgblopcfcakaa
