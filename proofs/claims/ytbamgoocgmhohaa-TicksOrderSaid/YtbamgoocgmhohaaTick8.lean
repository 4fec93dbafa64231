/- The law TicksOrder of reevelaw09, walked. Conditions: the numbers are of their kinds. -/
import Derived.Test.YtbamgoocgmhohaaTick7
namespace Go.Proofs.Ytbamgoocgmhohaa
open Go.RowKit

set_option maxRecDepth 100000 in
set_option maxHeartbeats 8000000 in
theorem TicksOrder_walk (n : Int) (_hn : I64 n) (A : Option Addr) (m cp : Nat) (xs : List TStep) (hx : xs.length = m) (_hm : m * 16 ≤ 140737488351232) (_hok : ∀ x ∈ xs, x.ok) {w : World} (hr : TStepsIn w A xs) :
    Calls Try.prog 10 #[.int .i64 n, .slice A m cp] w fun e w' => e = .returned (.bool true) ∧ Below w.heap.size w w' := by
  have al := Lib.hid works09
  subst hx
  by_cases hbig : 200 < xs.length
  · clear hr
    go_enter Try.func10, Try.ntmps10
    go_wp2_with fail
    refine (al.out _).mono ?_
    rintro r w1 ⟨rfl, hb1⟩; dsimp only
    go_wp2_with fail
    go_ret
    exact ⟨rfl, hb1⟩
  cases hmay : mayT n 0 with
  | false =>
    have C1 := Lib.hid (fun w => tk_New_bad n 0 w hmay)
    have hB := below_self w
    clear hmay hr
    go_enter Try.func10, Try.ntmps10
    go_wp2_with fail
    refine (C1.out _).mono ?_
    rintro r ww ⟨rfl, hb⟩; dsimp only
    replace hB := below_to hB hb
    clear hb
    go_wp2_with fail
    refine (C1.out _).mono ?_
    rintro r ww ⟨rfl, hb⟩; dsimp only
    replace hB := below_to hB hb
    clear hb
    go_wp2_with fail
    refine (al.out _).mono ?_
    rintro r ww ⟨rfl, hb⟩; dsimp only
    replace hB := below_to hB hb
    clear hb
    go_wp2_with fail
    go_ret
    exact ⟨rfl, hB⟩
  | true =>
    obtain ⟨h1, h2, _, _⟩ := mayT_true hmay
    obtain ⟨N, rfl⟩ : ∃ N : Nat, n = N := ⟨n.toNat, by omega⟩
    have h1' : 1 ≤ N := by omega
    have h2' : N ≤ 128 := by omega
    have C1 := Lib.hid (fun w => tk_New N 0 w hmay)
    clear hmay
    have mk : ∀ W : World, (Instr.makeSlice 55 (.int .i64 N) (.int .i64 N)).run Try.prog W = .ok (.slice (some ⟨W.heap.size, 0, none⟩) N N) (W.alloc (.cells (ints (List.replicate N 0)) 2)) := by
      intro W
      rw [← ints_made]
      exact run_make_row' 55 2 (.int .i64 0) 8 Try.underlying55 (by kernel_rfl) rfl .i64 .i64 N (by omega) (by omega) W
    have HR := Lib.hid hr
    clear hr
    go_enter Try.func10, Try.ntmps10
    go_wp2_with fail
    refine (C1.out _).mono ?_
    rintro r w1 ⟨P, T, hPT, hP, hT, rfl, hc, hB⟩; dsimp only
    go_wp2_with fail
    refine (C1.out _).mono ?_
    rintro r w2 ⟨Q, U, hQU, hQ, hU, rfl, hd, hb⟩; dsimp only
    have hPl := hc.1.lt
    have hTl := hc.2.lt
    replace hc := hc.past hb
    have hB1 := hB.size
    replace hB := below_to hB hb
    clear hb C1
    go_wp2_with fail
    have hS0 := Blk.new w2 2 (ints (List.replicate N 0))
    have hC := hc.past (w' := w2.alloc (.cells (ints (List.replicate N 0)) 2)) (by go_grown)
    have hD := hd.past (w' := w2.alloc (.cells (ints (List.replicate N 0)) 2)) (by go_grown)
    have hB2 := below_own hB (.cells (ints (List.replicate N 0)) 2)
    have hSP : w2.heap.size ≠ P := Nat.ne_of_gt hc.1.lt
    have hST : w2.heap.size ≠ T := Nat.ne_of_gt hc.2.lt
    have hSQ : w2.heap.size ≠ Q := Nat.ne_of_gt hd.1.lt
    have hSU : w2.heap.size ≠ U := Nat.ne_of_gt hd.2.lt
    have hPQ : P ≠ Q := by omega
    have hPU : P ≠ U := by omega
    have hTQ : T ≠ Q := by omega
    have hTU : T ≠ U := by omega
    have hS : w.heap.size ≤ w2.heap.size := hB.size
    have hQ' : w.heap.size ≤ Q := by omega
    have hU' : w.heap.size ≤ U := by omega
    clear hc hd hB mk hQ hU hB1 hPl hTl
    revert hC hD hS0 hB2
    generalize w2.alloc (.cells (ints (List.replicate N 0)) 2) = W
    generalize w2.heap.size = S at *
    clear w1 w2
    intro hS0 hC hD hB2
    go_loopw [10] (fun i wr => ∃ (k : Nat) (ts : List Int) (far : Bool), k ≤ xs.length ∧ i = .int .i64 k ∧ Hid (∀ x ∈ ts, 0 ≤ x ∧ x ≤ (k : Int) * 65535) ∧ ts.length = N ∧ Clk wr P T ts 0 far ∧ Blk wr S 2 (ints ts) ∧ Clk wr Q U (List.replicate N 0) 0 false ∧ Below w.heap.size w wr) (fun i _ => xs.length - (intOf i).toNat)
    case atStart => exact ⟨0, List.replicate N 0, false, Nat.zero_le _, rfl, Lib.hid (fun x hx => by rw [List.eq_of_mem_replicate hx]; omega), List.length_replicate, hC, hS0, hD, hB2⟩
    case round =>
      clear hC hS0 hD hB2 W
      obtain ⟨k, ts, far, hk, rfl, hbd, hlen, hc, hs, hd, hB⟩ := hrel
      by_cases hlt : k < xs.length
      · obtain ⟨b, off, rfl, hbA, hcell⟩ := HR.out (by intro e; rw [e] at hlt; simp at hlt)
        obtain ⟨k0, k1⟩ := hcell k hlt
        have j0 := (hB.cell (p := ⟨b, off + k * 2, none⟩) hbA).trans k0
        have j1 := (hB.cell (p := ⟨b, off + k * 2 + 1, none⟩) hbA).trans k1
        clear k0 k1 hcell
        have hbr : b < wr.heap.size := Nat.lt_of_lt_of_le hbA hB.size
        generalize xs[k] = q at *
        obtain ⟨nd, y⟩ := q
        dsimp only at j0 j1
        have hvb := and16_bd y
        obtain ⟨v, hv⟩ : ∃ v, bits .and .i64 y 65535 = v := ⟨_, rfl⟩
        rw [hv] at hvb
        obtain ⟨hv0, hv1⟩ := hvb
        have hbd' : Hid (∀ x ∈ ts, 0 ≤ x ∧ x ≤ ((k + 1 : Nat) : Int) * 65535) := Lib.hid (fun x hx => by have := hbd.out x hx; omega)
        have C := Lib.hid hc
        have D := Lib.hid hd
        have G := Lib.hid hs
        clear hc hd hs
        by_cases hneg : nd < 0
        · go_wp2_with fail
          go_roundw
          case rel => exact ⟨k + 1, ts, far, by omega, by go_num, hbd', hlen, C.out, G.out, D.out, hB⟩
          case measure => simp [intOf]; omega
        by_cases hge : (N : Int) ≤ nd
        · go_wp2_with fail
          go_roundw
          case rel => exact ⟨k + 1, ts, far, by omega, by go_num, hbd', hlen, C.out, G.out, D.out, hB⟩
          case measure => simp [intOf]; omega
        obtain ⟨kk, rfl⟩ : ∃ kk : Nat, nd = kk := ⟨nd.toNat, by omega⟩
        have hkN : kk < N := by omega
        have hkt : kk < ts.length := by omega
        have hz := hbd.out ts[kk] (List.getElem_mem hkt)
        have hcz := ints_cell G.out kk hkt
        have hfz := G.out.frozen kk
        have hSl := G.out.lt
        have hset := Lib.hid (ints_set ts kk (ts[kk] + v))
        have hbd2 : Hid (∀ x ∈ ts.set kk (ts[kk] + v), 0 ≤ x ∧ x ≤ ((k + 1 : Nat) : Int) * 65535) := Lib.hid (set_bd hbd.out kk _ (by omega) (by omega) (by omega))
        have hlen2 : (ts.set kk (ts[kk] + v)).length = N := by rw [List.length_set]; exact hlen
        have hx1 : Times ts := times_of h1' h2' hlen (m := (k : Int) * 65535) (by omega) hbd.out
        have hx2 : Times (ts.set kk (ts[kk] + v)) := times_of h1' h2' hlen2 (m := ((k + 1 : Nat) : Int) * 65535) (by omega) hbd2.out
        have T1 := Lib.hid (tk_Tick_ok P T ts 0 far kk v (wr.setCell ⟨S, kk, none⟩ (.int .i64 (ts[kk] + v))) ⟨C.out.1.far (p := ⟨S, kk, none⟩) hSP.symm _, C.out.2.far (p := ⟨S, kk, none⟩) hST.symm _⟩ hPT hkt hx1 hv0 (by omega) (by omega) hx2)
        have HX := Lib.hid hx2
        clear hx1 hx2
        generalize (far || decide ((0 : Int) < apartL (ts.set kk (ts[kk] + v)))) = far' at *
        generalize ts[kk] = z at *
        go_wp2_with fail
        refine (T1.out).mono ?_
        rintro r w2 ⟨rfl, hc2, hk2⟩; dsimp only
        have hs2 := hk2.2 _ _ _ hSP hST (G.out.put kk (.int .i64 (z + v)) hset.out)
        have hd2 : Clk w2 Q U (List.replicate N 0) 0 false := Clk.keeps (w := wr.setCell ⟨S, kk, none⟩ (.int .i64 (z + v))) ⟨D.out.1.far (p := ⟨S, kk, none⟩) hSQ.symm _, D.out.2.far (p := ⟨S, kk, none⟩) hSU.symm _⟩ hk2 hPQ.symm hTQ.symm hPU.symm hTU.symm
        have hB2 := hk2.below (hB.setCell (p := ⟨S, kk, none⟩) hS (.int .i64 (z + v))) hP hT
        clear hk2 T1
        go_wp2_with fail
        go_roundw
        case rel => exact ⟨k + 1, ts.set kk (z + v), far', by omega, by go_num, hbd2, hlen2, hc2, hs2, hd2, hB2⟩
        case measure => simp [intOf]; omega
      · obtain rfl : k = xs.length := by omega
        clear HR
        have hx1 : Times ts := times_of h1' h2' hlen (m := (xs.length : Int) * 65535) (by omega) hbd.out
        have hz0 : 0 ≤ (xs.length : Int) * 65535 := by omega
        have hz1 : (xs.length : Int) * 65535 ≤ 17592186044416 := by omega
        have HZ := Lib.hid hbd.out
        have HX := Lib.hid hx1
        clear hx1 hbd
        have hl0 : laid ts N = List.replicate N 0 := by rw [← hlen]; exact laid_all ts
        rw [← hl0] at hd
        clear hl0
        go_wp2_with fail
        go_loopw [13] (fun q wr => ∃ (q' : Int) (j : Nat) (far2 : Bool), q' = (j : Int) - 1 ∧ j ≤ N ∧ q = .int .i64 q' ∧ Clk wr P T ts 0 far ∧ Blk wr S 2 (ints ts) ∧ Clk wr Q U (laid ts j) 0 far2 ∧ Below w.heap.size w wr) (fun q _ => (intOf q + 1).toNat)
        case atStart => exact ⟨_, N, false, rfl, Nat.le_refl _, rfl, hc, hs, hd, hB⟩
        case round =>
          clear hc hs hd hB
          obtain ⟨q', j, far2, hq, hj, rfl, hc, hs, hd, hB⟩ := hrel
          cases j with
          | zero =>
            obtain rfl : q' = -1 := by omega
            clear hq
            rw [laid_none] at hd
            go_wp2_with fail
            have A1 := Lib.hid (fun q hq => tk_At P T ts 0 far q hq HX.out _ hc)
            have A2 := Lib.hid (fun q hq => tk_At Q U ts 0 far2 q hq HX.out _ hd)
            have A3 := Lib.hid (tk_Apart P T ts 0 far _ hc HX.out)
            have A4 := Lib.hid (tk_Apart Q U ts 0 far2 _ hd HX.out)
            have SC := Lib.hid (ints_cell hs)
            have SL := hs.lt
            clear hc hs hd
            go_loop [14] (fun i => ∃ j : Nat, j ≤ N ∧ i = .int .i64 j) (fun i => N - (intOf i).toNat)
            case atStart => exact ⟨0, Nat.zero_le _, rfl⟩
            case round =>
              obtain ⟨j, hj, rfl⟩ := hrel
              by_cases hjN : j < N
              · have c1 := A1.out j (by omega)
                have c2 := A2.out j (by omega)
                have cs := SC.out j (by omega)
                generalize ts[j] = x at *
                have g1 : (x != x) = false := bne_self_eq_false ..
                replace c1 := Lib.hid c1
                replace c2 := Lib.hid c2
                go_wp2_with fail
                refine (c1.out).mono ?_
                rintro r ww ⟨rfl, rfl⟩; dsimp only
                go_wp2_with fail
                refine (c2.out).mono ?_
                rintro r ww ⟨rfl, rfl⟩; dsimp only
                go_wp2_with fail
                go_round
                case rel => exact ⟨j + 1, by omega, by go_num⟩
                case measure => simp [intOf]; omega
              · obtain rfl : j = N := by omega
                generalize apartL ts = z at *
                go_wp2_with fail
                refine (A3.out).mono ?_
                rintro r ww ⟨rfl, rfl⟩; dsimp only
                go_wp2_with fail
                refine (A4.out).mono ?_
                rintro r ww ⟨rfl, rfl⟩; dsimp only
                go_wp2_with fail
                refine (al.out _).mono ?_
                rintro r ww ⟨rfl, hb⟩; dsimp only
                replace hB := below_to hB hb
                clear hb
                go_wp2_with fail
                go_ret
                exact ⟨rfl, hB⟩
          | succ j =>
            obtain rfl : q' = (j : Int) := by omega
            clear hq
            have hjt : j < ts.length := by omega
            have hz := HZ.out ts[j] (List.getElem_mem hjt)
            have hcz := ints_cell hs j hjt
            have hSl := hs.lt
            have hll := laid_len ts (j + 1) (by omega)
            have h0 := laid_at ts j (by omega) (by omega)
            have e1 : (laid ts (j + 1)).set j ((laid ts (j + 1))[j] + ts[j]) = laid ts j := by rw [h0]; exact laid_set ts j (by omega)
            have hxj : Times (laid ts (j + 1)) := times_of h1' h2' (hll.trans hlen) hz1 (laid_bd hz0 HZ.out _)
            have hxj2 : Times (laid ts j) := times_of h1' h2' ((laid_len ts j (by omega)).trans hlen) hz1 (laid_bd hz0 HZ.out _)
            have T1 := tk_Tick_ok Q U (laid ts (j + 1)) 0 far2 j ts[j] wr hd hQU (by omega) hxj hz.1 (by omega) (by rw [h0]; omega) (by rw [e1]; exact hxj2)
            rw [e1] at T1
            replace T1 := Lib.hid T1
            have C := Lib.hid hc
            have G := Lib.hid hs
            clear hd h0 e1 hxj hxj2 hc hs hll
            generalize (far2 || decide ((0 : Int) < apartL (laid ts j))) = far3 at *
            generalize ts[j] = x at *
            go_wp2_with fail
            refine (T1.out).mono ?_
            rintro r w2 ⟨rfl, hd2, hk2⟩; dsimp only
            have hs2 := hk2.2 _ _ _ hSQ hSU G.out
            have hc2 := C.out.keeps hk2 hPQ hPU hTQ hTU
            have hB2 := hk2.below hB hQ' hU'
            clear hk2 T1
            go_wp2_with fail
            go_roundw
            case rel => exact ⟨_, j, far3, rfl, by omega, by go_num, hc2, hs2, hd2, hB2⟩
            case measure => simp [intOf]
end Go.Proofs.Ytbamgoocgmhohaa
