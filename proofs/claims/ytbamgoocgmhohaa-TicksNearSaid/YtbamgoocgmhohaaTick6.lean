/- The law TicksNear of reevelaw09, walked. Conditions: the numbers are of their kinds. -/
import Derived.Test.YtbamgoocgmhohaaTick5
import Derived.Test.YtbamgoocgmhohaaTick6p
namespace Go.Proofs.Ytbamgoocgmhohaa
open Go.RowKit

/-- Where the copy goes on: so many are new, the rest is as before. -/
theorem mixed_set (L ts : List Int) (j : Nat) (h : j < L.length) (hl : L.length = ts.length) : ((L.take j ++ ts.drop j).set j L[j]) = L.take (j + 1) ++ ts.drop (j + 1) := by
  apply List.ext_getElem
  · simp; omega
  · intro i h1 h2
    simp only [List.getElem_set, List.getElem_append, List.length_take, List.getElem_take, List.getElem_drop]
    grind
theorem apart_new {N : Nat} (h : 0 < N) : apartL (List.replicate N 0) = 0 := by
  have hb : ∀ y ∈ List.replicate N (0 : Int), 0 ≤ y ∧ y ≤ 0 := fun y hy => by rw [List.eq_of_mem_replicate hy]; omega
  have h0 : (List.replicate N (0 : Int)).headD 0 = 0 := by cases N <;> rfl
  have h1 := mx_bd 0 _ 0 0 (by omega) hb
  have h2 := mn_bd 0 _ 0 0 (by omega) hb
  unfold apartL
  rw [h0]
  omega
set_option maxRecDepth 100000 in
set_option maxHeartbeats 8000000 in
theorem TicksNear_walk (n : Int) (_hn : I64 n) (bound : Int) (_hbo : I64 bound) (A : Option Addr) (m cp : Nat) (xs : List TStep) (hx : xs.length = m) (_hm : m * 16 ≤ 140737488351232) (_hok : ∀ x ∈ xs, x.ok) {w : World} (hr : TStepsIn w A xs) :
    Calls Try.prog 8 #[.int .i64 n, .int .i64 bound, .slice A m cp] w fun e w' => e = .returned (.bool true) ∧ Below w.heap.size w w' := by
  have al := Lib.hid works09
  subst hx
  by_cases hbig : 300 < xs.length
  · clear hr
    go_enter Try.func8, Try.ntmps8
    go_wp2_with fail
    refine (al.out _).mono ?_
    rintro r w1 ⟨rfl, hb1⟩; dsimp only
    go_wp2_with fail
    go_ret
    exact ⟨rfl, hb1⟩
  cases hmay : mayT n bound with
  | false =>
    have C1 := Lib.hid (tk_New_bad n bound w hmay)
    clear hmay hr
    go_enter Try.func8, Try.ntmps8
    go_wp2_with fail
    refine (C1.out).mono ?_
    rintro r w1 ⟨rfl, hB⟩; dsimp only
    go_wp2_with fail
    refine (al.out _).mono ?_
    rintro r w2 ⟨rfl, hb⟩; dsimp only
    replace hB := below_to hB hb
    go_wp2_with fail
    go_ret
    exact ⟨rfl, hB⟩
  | true =>
    obtain ⟨h1, h2, h3, h4⟩ := mayT_true hmay
    obtain ⟨N, rfl⟩ : ∃ N : Nat, n = N := ⟨n.toNat, by omega⟩
    have C1 := Lib.hid (tk_New N bound w hmay)
    clear hmay
    have mk : ∀ W : World, (Instr.makeSlice 55 (.int .i64 N) (.int .i64 N)).run Try.prog W = .ok (.slice (some ⟨W.heap.size, 0, none⟩) N N) (W.alloc (.cells (ints (List.replicate N 0)) 2)) := by
      intro W
      rw [← ints_made]
      exact run_make_row' 55 2 (.int .i64 0) 8 Try.underlying55 (by kernel_rfl) rfl .i64 .i64 N (by omega) (by omega) W
    have HR := Lib.hid hr
    clear hr
    go_enter Try.func8, Try.ntmps8
    go_wp2_with fail
    refine (C1.out).mono ?_
    rintro r w1 ⟨P, T, hPT, hP, hT, rfl, hc, hB⟩; dsimp only
    have C2 := Lib.hid (tk_Len P T _ _ _ w1 hc)
    rw [List.length_replicate] at C2
    go_wp2_with fail
    refine (C2.out).mono ?_
    rintro r w2 ⟨rfl, rfl⟩; dsimp only
    go_wp2_with fail
    refine (C2.out).mono ?_
    rintro r w2 ⟨rfl, rfl⟩; dsimp only
    go_wp2_with fail
    refine (C2.out).mono ?_
    rintro r w2 ⟨rfl, rfl⟩; dsimp only
    go_wp2_with fail
    have hS0 := Blk.new w1 2 (ints (List.replicate N 0))
    have hC := hc.past (w' := w1.alloc (.cells (ints (List.replicate N 0)) 2)) (by go_grown)
    have hB2 := below_own hB (.cells (ints (List.replicate N 0)) 2)
    have hSP : w1.heap.size ≠ P := Nat.ne_of_gt hc.1.lt
    have hST : w1.heap.size ≠ T := Nat.ne_of_gt hc.2.lt
    have hS : w.heap.size ≤ w1.heap.size := hB.size
    clear hc hB mk
    revert hC hS0 hB2
    generalize w1.alloc (.cells (ints (List.replicate N 0)) 2) = W
    clear C2
    generalize w1.heap.size = S at *
    clear w1
    intro hS0 hC hB2
    go_loopw [10, 11] (fun was i wr => ∃ (k : Nat) (ts : List Int) (far : Bool), k ≤ xs.length ∧ i = .int .i64 k ∧ was = .bool (!far) ∧ Times ts ∧ ts.length = N ∧ Hid (far = false → apartL ts ≤ bound) ∧ Clk wr P T ts bound far ∧ Blk wr S 2 (ints ts) ∧ Below w.heap.size w wr) (fun _ i _ => xs.length - (intOf i).toNat)
    case atStart => exact ⟨0, List.replicate N 0, false, Nat.zero_le _, rfl, rfl, times_new (by omega) (by omega), List.length_replicate, Lib.hid (fun _ => by rw [apart_new (by omega)]; exact h3), hC, hS0, hB2⟩
    case round =>
      clear hC hS0 hB2 W
      obtain ⟨k, ts, far, hk, rfl, rfl, hts, hlen, hnear, hc, hs, hB⟩ := hrel
      by_cases hlt : k < xs.length
      · obtain ⟨b, off, rfl, hbA, hcell⟩ := HR.out (by intro e; rw [e] at hlt; simp at hlt)
        obtain ⟨k0, k1⟩ := hcell k hlt
        have j0 := (hB.cell (p := ⟨b, off + k * 2, none⟩) hbA).trans k0
        have j1 := (hB.cell (p := ⟨b, off + k * 2 + 1, none⟩) hbA).trans k1
        have K0 := Lib.hid k0
        have K1 := Lib.hid k1
        clear k0 k1 hcell
        have hbr : b < wr.heap.size := Nat.lt_of_lt_of_le hbA hB.size
        generalize xs[k] = q at *
        obtain ⟨nd, y⟩ := q
        dsimp only at j0 j1 K0 K1
        have t1 := tk_Tick P T ts bound far nd y wr.drew hc hPT hts
        have hL := tick_times nd y hts
        have hLn : (tickL ts nd y).length = N := (tick_len ts nd y).trans hlen
        have hstep := near_step ts nd y bound far hnear.out
        have HS := Lib.hid hs
        obtain ⟨E, hE⟩ : ∃ E, tickE ts nd y = E := ⟨_, rfl⟩
        obtain ⟨L, hLL⟩ : ∃ L, tickL ts nd y = L := ⟨_, rfl⟩
        obtain ⟨far', hF⟩ : ∃ f, tickF ts nd y bound far = f := ⟨_, rfl⟩
        rw [hE, hLL, hF] at t1
        rw [hLL] at hL hLn
        rw [hLL, hF] at hstep
        have hmore : ∀ j (h : j < L.length) (h' : j < ts.length), ts[j] ≤ L[j] := by subst hLL; exact tick_more ts nd y
        clear hE hLL hF hs
        have T1 := Lib.hid t1
        have HM := Lib.hid hmore
        have HST := Lib.hid hstep
        have HT := Lib.hid hts
        have HL := Lib.hid hL
        clear t1 hmore hstep hts hL hc hnear
        go_wp2_with fail
        refine wp_region_held_drew (S := fun w' => w'.cell? ⟨b, off + k * 2, none⟩ = some (.int .i64 nd) ∧ w'.cell? ⟨b, off + k * 2 + 1, none⟩ = some (.int .i64 y)) (by kernel_rfl) ⟨j0, j1⟩ (fun hHeld => ?_)
        refine wpAnyH_take (i := 0) (v := ?_) rfl (by kernel_rfl) (by kernel_rfl) (by kernel_rfl) (fun _ _ _ h => h) (Or.inl ⟨by rfl, ?hy⟩) hHeld ?_
        case hy =>
          intro w hSw
          (try dsimp only at hSw)
          go_simp
          (try with_reducible rfl)
        try simp only [Act.put, List.getElem_toArray, List.getElem_cons_succ, List.getElem_cons_zero, List.setIfInBounds_toArray, List.set_cons_zero, List.set_cons_succ]
        refine wpAnyH_take (i := 1) (v := ?_) rfl (by kernel_rfl) (by kernel_rfl) (by kernel_rfl) (fun _ _ _ h => h) (Or.inl ⟨by rfl, ?hy⟩) hHeld ?_
        case hy =>
          intro w hSw
          (try dsimp only at hSw)
          go_simp
          (try with_reducible rfl)
        try simp only [Act.put, List.getElem_toArray, List.getElem_cons_succ, List.getElem_cons_zero, List.setIfInBounds_toArray, List.set_cons_zero, List.set_cons_succ]
        refine wpAnyH_take (i := 2) (v := ?_) rfl (by kernel_rfl) (by kernel_rfl) (by kernel_rfl) (fun _ _ _ h => h) (Or.inl ⟨by rfl, ?hy⟩) hHeld ?_
        case hy =>
          intro w hSw
          (try dsimp only at hSw)
          go_simp
          (try with_reducible rfl)
        try simp only [Act.put, List.getElem_toArray, List.getElem_cons_succ, List.getElem_cons_zero, List.setIfInBounds_toArray, List.set_cons_zero, List.set_cons_succ]
        refine wpAnyH_take (i := 3) (v := ?_) rfl (by kernel_rfl) (by kernel_rfl) (by kernel_rfl) (fun _ _ _ h => h) (Or.inl ⟨by rfl, ?hy⟩) hHeld ?_
        case hy =>
          intro w hSw
          (try dsimp only at hSw)
          go_simp
          (try with_reducible rfl)
        try simp only [Act.put, List.getElem_toArray, List.getElem_cons_succ, List.getElem_cons_zero, List.setIfInBounds_toArray, List.set_cons_zero, List.set_cons_succ]
        refine wpAnyH_take (i := 4) (v := ?_) rfl (by kernel_rfl) (by kernel_rfl) (by kernel_rfl) (fun _ _ _ h => h) (Or.inl ⟨by rfl, ?hy⟩) hHeld ?_
        case hy =>
          intro w hSw
          (try dsimp only at hSw)
          go_simp
          (try with_reducible rfl)
        try simp only [Act.put, List.getElem_toArray, List.getElem_cons_succ, List.getElem_cons_zero, List.setIfInBounds_toArray, List.set_cons_zero, List.set_cons_succ]
        refine wpAnyH_take (i := 5) (v := ?_) rfl (by kernel_rfl) (by kernel_rfl) (by kernel_rfl) (fun _ _ _ h => h) (Or.inl ⟨by rfl, ?hy⟩) hHeld ?_
        case hy =>
          intro w hSw
          (try dsimp only at hSw)
          go_simp
          (try with_reducible rfl)
        try simp only [Act.put, List.getElem_toArray, List.getElem_cons_succ, List.getElem_cons_zero, List.setIfInBounds_toArray, List.set_cons_zero, List.set_cons_succ]
        refine wpAnyH_take (i := 6) (v := ?_) rfl (by kernel_rfl) (by kernel_rfl) (by kernel_rfl) (fun _ _ _ h => h) (Or.inl ⟨by rfl, ?hy⟩) hHeld ?_
        case hy =>
          intro w hSw
          (try dsimp only at hSw)
          go_simp
          (try with_reducible rfl)
        try simp only [Act.put, List.getElem_toArray, List.getElem_cons_succ, List.getElem_cons_zero, List.setIfInBounds_toArray, List.set_cons_zero, List.set_cons_succ]
        refine wpAnyH_take (i := 7) (v := ?_) rfl (by kernel_rfl) (by kernel_rfl) (by kernel_rfl) (fun _ _ _ h => h) (Or.inl ⟨by rfl, ?hy⟩) hHeld ?_
        case hy =>
          intro w hSw
          (try dsimp only at hSw)
          go_simp
          (try with_reducible rfl)
        try simp only [Act.put, List.getElem_toArray, List.getElem_cons_succ, List.getElem_cons_zero, List.setIfInBounds_toArray, List.set_cons_zero, List.set_cons_succ]
        refine wpAnyH_take (i := 8) (v := ?_) rfl (by kernel_rfl) (by kernel_rfl) (by kernel_rfl) (fun _ _ _ h => h) (Or.inl ⟨by rfl, ?hy⟩) hHeld ?_
        case hy =>
          intro w hSw
          (try dsimp only at hSw)
          go_simp
          (try with_reducible rfl)
        try simp only [Act.put, List.getElem_toArray, List.getElem_cons_succ, List.getElem_cons_zero, List.setIfInBounds_toArray, List.set_cons_zero, List.set_cons_succ]
        refine wpAnyH_take (i := 9) (v := ?_) rfl (by kernel_rfl) (by kernel_rfl) (by kernel_rfl) (fun _ _ _ h => h) (Or.inl ⟨by rfl, ?hy⟩) hHeld ?_
        case hy =>
          intro w hSw
          (try dsimp only at hSw)
          go_simp
          (try with_reducible rfl)
        try simp only [Act.put, List.getElem_toArray, List.getElem_cons_succ, List.getElem_cons_zero, List.setIfInBounds_toArray, List.set_cons_zero, List.set_cons_succ]
        refine wpAnyH_take (i := 10) (v := ?_) rfl (by kernel_rfl) (by kernel_rfl) (by kernel_rfl) (fun _ _ _ h => h) (Or.inl ⟨by rfl, ?hy⟩) hHeld ?_
        case hy =>
          intro w hSw
          (try dsimp only at hSw)
          go_simp
          (try with_reducible rfl)
        try simp only [Act.put, List.getElem_toArray, List.getElem_cons_succ, List.getElem_cons_zero, List.setIfInBounds_toArray, List.set_cons_zero, List.set_cons_succ]
        refine wpAnyH_ready (rs := [11]) (by kernel_rfl) (by simp) ?_
        refine AllReadyH.cons rfl (fun K hK => ?_) AllReadyH.nil
        have hOld := hHeld
        clear hHeld
        go_simp
        refine (T1.out).mono ?_
        rintro r w2 ⟨rfl, hc2, hk2⟩
        dsimp only
        have hB2 : Below w.heap.size w w2 := Keeps.below hk2 hB.drew hP hT
        have hs2 : Blk w2 S 2 (ints ts) := hk2.2 _ _ _ hSP hST HS.out
        refine hK.out _ _ (⟨(hB2.cell (p := ⟨b, off + k * 2, none⟩) hbA).trans K0.out, (hB2.cell (p := ⟨b, off + k * 2 + 1, none⟩) hbA).trans K1.out⟩) (fun hHeld => ?_)
        clear hK K hOld
        try simp only [Act.put, List.getElem_toArray, List.getElem_cons_succ, List.getElem_cons_zero, List.setIfInBounds_toArray, List.set_cons_zero, List.set_cons_succ]
        refine wpAnyH_done (by kernel_rfl) ?_ _
        clear hHeld j0 j1 K0 K1 T1 hk2 hB HS
        go_wp2_with fail
        have HA := Lib.hid (fun q hq => tk_At P T L bound far' q hq HL.out)
        have X0 : Hid (mn 4611686018427387904 (L.take 0) = 4611686018427387904) := Lib.hid rfl
        have X1 : Hid (mx (-1) (L.take 0) = -1) := Lib.hid rfl
        have X2 : Hid (L.take 0 ++ ts.drop 0 = ts) := Lib.hid (by simp)
        go_loopw [12, 13, 14] (fun least most kk wz => ∃ j : Nat, j ≤ N ∧ kk = .int .i64 j ∧ least = .int .i64 (mn 4611686018427387904 (L.take j)) ∧ most = .int .i64 (mx (-1) (L.take j)) ∧ Clk wz P T L bound far' ∧ Blk wz S 2 (ints (L.take j ++ ts.drop j)) ∧ Below w.heap.size w wz) (fun _ _ kk _ => N - (intOf kk).toNat)
        case atStart => exact ⟨0, Nat.zero_le _, rfl, by rw [X0.out], by rw [X1.out], hc2, by rw [X2.out]; exact hs2, hB2⟩
        case round =>
          clear hc2 hs2 hB2 X0 X1 X2
          obtain ⟨j, hj, rfl, rfl, rfl, hc3, hs3, hB3⟩ := hrel
          by_cases hjl : j < N
          · have hjL : j < L.length := by omega
            have hjt : j < ts.length := by omega
            have c := HA.out j hjL _ hc3
            have hb := (HM.out j hjL hjt)
            have hLj := HL.out.2 L[j] (List.getElem_mem hjL)
            have htj := HT.out.2 ts[j] (List.getElem_mem hjt)
            have hcell : wr.cell? ⟨S, j, none⟩ = some (.int .i64 ts[j]) := (ints_cell hs3 j (by simp; omega)).trans (by
              congr 2
              rw [List.getElem_append_right (by simp; omega)]
              simp only [List.length_take, List.getElem_drop]
              congr 1
              omega)
            have hfro := hs3.frozen j
            have hSl := hs3.lt
            have hset := Lib.hid (mixed_set L ts j hjL (by omega))
            have hmxs := Lib.hid (mx_snoc (-1) L j hjL)
            have hmns := Lib.hid (mn_snoc 4611686018427387904 L j hjL)
            have H3 := Lib.hid hc3
            have G3 := Lib.hid hs3
            clear hc3 hs3
            generalize L[j] = x at *
            generalize ts[j] = x0 at *
            generalize mx (-1) (L.take j) = q at *
            generalize mn 4611686018427387904 (L.take j) = p at *
            obtain ⟨q', hq⟩ : ∃ m, m = max q x := ⟨_, rfl⟩
            obtain ⟨p', hp⟩ : ∃ m, m = min p x := ⟨_, rfl⟩
            have kq : ∀ ats ty, Builtin.max_ ats ty #[.int .i64 q, .int .i64 x] = pure (.int .i64 q') := fun ats ty => by rw [kmax_two, kmax2, hq]; rfl
            have kp : ∀ ats ty, Builtin.min_ ats ty #[.int .i64 p, .int .i64 x] = pure (.int .i64 p') := fun ats ty => by rw [kmin_two, kmin2, hp]; rfl
            rw [← hq] at hmxs
            rw [← hp] at hmns
            clear hq hp
            have C := Lib.hid c
            clear c
            go_wp2_with fail
            refine (C.out).mono ?_
            rintro r w4 ⟨rfl, rfl⟩; dsimp only
            go_wp2_with fail
            go_roundw
            case rel => exact ⟨j + 1, by omega, by go_num, by rw [hmns.out], by rw [hmxs.out], ⟨H3.out.1.far (p := ⟨S, j, none⟩) hSP.symm _, H3.out.2.far (p := ⟨S, j, none⟩) hST.symm _⟩, G3.out.put j _ ((ints_set _ j x).trans (by rw [hset.out])), hB3.setCell (p := ⟨S, j, none⟩) hS _⟩
            case measure => simp [intOf]; omega
          · obtain rfl : j = N := by omega
            have hLN : L.take j = L := List.take_of_length_le (by omega)
            have htN : ts.drop j = [] := List.drop_eq_nil_of_le (by omega)
            rw [hLN, htN, List.append_nil] at hs3
            rw [hLN]
            have C1 := tk_Apart P T L bound far' _ hc3 HL.out
            have hap := apart_from HL.out
            have hst := HST.out
            rw [← hap] at C1 hst
            have hbx := mx_bd (-1) L (-1) 17592186044416 (by omega) (fun y hy => by have := HL.out.2 y hy; omega)
            have hbn := mn_bd 4611686018427387904 L 0 4611686018427387904 (by omega) (fun y hy => by have := HL.out.2 y hy; omega)
            have HN := Lib.hid hap
            clear hLN htN hap
            generalize mx (-1) L = q at *
            generalize mn 4611686018427387904 L = p at *
            have C2 := Lib.hid (tk_Within P T L bound far' _ hc3)
            replace C1 := Lib.hid C1
            have H3 := Lib.hid hc3
            have G3 := Lib.hid hs3
            have g1 : (q - p != q - p) = false := bne_self_eq_false ..
            clear hc3 hs3 HA HM HST
            obtain ⟨hst1, hst2⟩ := hst
            rcases (show (far' = false ∧ far = false ∧ q - p ≤ bound) ∨ (far' = true ∧ far = false ∧ bound < q - p) ∨ (far' = true ∧ far = true) by
              cases far' with
              | false => have := hst1 rfl; exact .inl ⟨rfl, this⟩
              | true =>
                cases far with
                | false => exact .inr (.inl ⟨rfl, rfl, hst2 rfl rfl⟩)
                | true => exact .inr (.inr ⟨rfl, rfl⟩)) with ⟨rfl, rfl, hle⟩ | ⟨rfl, rfl, hlt2⟩ | ⟨rfl, rfl⟩
            · clear hst1 hst2
              have hle' : ¬ bound < q - p := by omega
              go_wp2_with fail
              refine (C1.out).mono ?_
              rintro r w4 ⟨rfl, rfl⟩; dsimp only
              go_wp2_with fail
              refine (C2.out).mono ?_
              rintro r ww ⟨rfl, rfl⟩; dsimp only
              go_wp2_with fail
              refine (C2.out).mono ?_
              rintro r ww ⟨rfl, rfl⟩; dsimp only
              go_wp2_with fail
              refine (C2.out).mono ?_
              rintro r ww ⟨rfl, rfl⟩; dsimp only
              go_wp2_with fail
              refine (C2.out).mono ?_
              rintro r ww ⟨rfl, rfl⟩; dsimp only
              go_wp2_with fail
              go_roundw
              case rel => exact ⟨k + 1, L, false, by omega, by go_num, rfl, HL.out, hLn, Lib.hid (fun _ => by rw [← HN.out]; exact hle), H3.out, G3.out, hB3⟩
              case measure => simp [intOf]; omega
            · clear hst1 hst2
              have hle' : ¬ q - p ≤ bound := by omega
              go_wp2_with fail
              refine (C1.out).mono ?_
              rintro r w4 ⟨rfl, rfl⟩; dsimp only
              go_wp2_with fail
              refine (C2.out).mono ?_
              rintro r ww ⟨rfl, rfl⟩; dsimp only
              go_wp2_with fail
              refine (C2.out).mono ?_
              rintro r ww ⟨rfl, rfl⟩; dsimp only
              go_wp2_with fail
              refine (C2.out).mono ?_
              rintro r ww ⟨rfl, rfl⟩; dsimp only
              go_wp2_with fail
              refine (C2.out).mono ?_
              rintro r ww ⟨rfl, rfl⟩; dsimp only
              go_wp2_with fail
              go_roundw
              case rel => exact ⟨k + 1, L, true, by omega, by go_num, rfl, HL.out, hLn, Lib.hid (fun h => by cases h), H3.out, G3.out, hB3⟩
              case measure => simp [intOf]; omega
            · clear hst1 hst2
              go_wp2_with fail
              refine (C1.out).mono ?_
              rintro r w4 ⟨rfl, rfl⟩; dsimp only
              go_wp2_with fail
              refine (C2.out).mono ?_
              rintro r ww ⟨rfl, rfl⟩; dsimp only
              go_wp2_with fail
              refine (C2.out).mono ?_
              rintro r ww ⟨rfl, rfl⟩; dsimp only
              go_wp2_with fail
              refine (C2.out).mono ?_
              rintro r ww ⟨rfl, rfl⟩; dsimp only
              go_wp2_with fail
              go_roundw
              case rel => exact ⟨k + 1, L, true, by omega, by go_num, rfl, HL.out, hLn, Lib.hid (fun h => by cases h), H3.out, G3.out, hB3⟩
              case measure => simp [intOf]; omega
      · obtain rfl : k = xs.length := by omega
        clear HR
        go_wp2_with fail
        refine (al.out _).mono ?_
        rintro r w2 ⟨rfl, hb⟩; dsimp only
        replace hB := below_to hB hb
        go_wp2_with fail
        go_ret
        exact ⟨rfl, hB⟩
end Go.Proofs.Ytbamgoocgmhohaa
