/- The law FrameBack, walked. Conditions: none. -/
import Derived.Test.YthlninijnbmjfaaFr10
import Derived.Test.YthlninijnbmjfaaFr9
namespace Go.Proofs.Ythlninijnbmjfaa
open Go.RowKit Go.Shelf

theorem info_int : (Try.prog.info? 3).map (fun i => (i.zero, i.size, i.bytes)) = some (some (.int .i64 0), 1, 8) := by kernel_rfl
/-- Where the frames end, as numbers in memory. -/
def endsV (ts : List (List UInt8)) (i : Nat) : List Value := (List.range i).map fun j => .int .i64 (endL ts (j + 1) : Nat)
theorem endsV_snoc (ts : List (List UInt8)) (i : Nat) : endsV ts (i + 1) = endsV ts i ++ [.int .i64 (endL ts (i + 1) : Nat)] := by simp [endsV, List.range_succ]
theorem endsV_get (ts : List (List UInt8)) (n i : Nat) (h : i < n) : (endsV ts n)[i]? = some (.int .i64 (endL ts (i + 1) : Nat)) := by simp [endsV, h]
theorem Strs.cell {w : World} {v : Value} {l : List (List UInt8)} (h : Strs w v l) : ∃ A n c, v = .slice A n c ∧ n = l.length ∧ ∀ i (hi : i < l.length), ∃ b off, A = some ⟨b, off, none⟩ ∧ w.cell? ⟨b, off + i, none⟩ = some (.string (bs l[i])) := by
  obtain ⟨A, n, c, hv, hn, hc⟩ := h
  refine ⟨A, n, c, hv, hn, fun i hi => ?_⟩
  obtain ⟨b, off, hA, _, hx⟩ := hc (by rintro rfl; simp at hi)
  exact ⟨b, off, hA, hx i hi⟩
theorem Strs.take {w : World} {A : Option Addr} {n c : Nat} {l : List (List UInt8)} (h : Strs w (.slice A n c) l) (m : Nat) (hm : m ≤ l.length) : Strs w (.slice A m c) (l.take m) := by
  obtain ⟨A', n', c', hv, hn, hc⟩ := h
  cases hv
  refine ⟨A, m, c, rfl, by rw [List.length_take]; omega, fun hne => ?_⟩
  obtain ⟨b, off, hA, hb, hx⟩ := hc (by rintro rfl; simp at hne)
  refine ⟨b, off, hA, hb, fun i hi => ?_⟩
  rw [List.length_take] at hi
  rw [hx i (by omega), List.getElem_take]
set_option maxRecDepth 100000 in
set_option maxHeartbeats 8000000 in
theorem FrameBack_walk {W : World} (A : Option Addr) (n c : Nat) (ts : List (List UInt8)) (hl : ts.length = n) (hbd : n * 16 ≤ 140737488351232) (ho : ∀ x ∈ ts, x.length ≤ 140737488351232) (hr : Strs W (.slice A n c) ts ∧ ((A = none ∧ n = 0 ∧ c = 0) ∨ ∃ a, A = some a ∧ n ≤ c)) (at_ : Int) (ha : U16 at_) :
    Calls Try.prog 5 #[.slice A n c, .int .u16 at_] W fun e w' => e = .returned (.bool true) ∧ Below W.heap.size W w' := by
  obtain ⟨hst, hA⟩ := hr
  obtain ⟨i0, hi, hz0, hz1, hz2⟩ := info_parts info_int
  have CA := Lib.hid alive04
  obtain ⟨a0, a1⟩ := ha
  obtain ⟨Q, rfl⟩ : ∃ N : Nat, at_ = N := ⟨at_.toNat, by omega⟩
  subst hl
  have HS := Lib.hid hst
  replace ho := Lib.hid ho
  clear hst
  replace hA := Lib.hid hA
  go_enter Try.func5, Try.ntmps5
  go_wp2_with fail
  go_loopw [5, 6, 7, 8, 9] (fun s' v' i' _ _ wr => ∃ (k : Nat) (s : ByteArray) (v : Value), k ≤ ts.length ∧ i' = .int .i64 k ∧ s' = .string s ∧ v = v' ∧ s.size ≤ 9000 ∧ k * 8 ≤ s.size ∧ Hid (s = bs (framesL (ts.take k)) ∧ s.size = endL ts k ∧ ∀ t ∈ ts.take k, t.length ≤ 65536) ∧ wr.ownsRow W.heap.size 3 1 v k (endsV ts k) ∧ Below W.heap.size W wr) (fun _ _ i' _ _ _ => ts.length - (intOf i').toNat)
  case atStart => exact ⟨0, ⟨#[]⟩, _, Nat.zero_le _, rfl, rfl, rfl, by decide, by decide, Lib.hid ⟨by simp [framesL]; rfl, by rw [endL_zero]; rfl, by simp⟩, World.ownsRow_nil _ _ _ _, Below.refl _ _⟩
  case round =>
    obtain ⟨k, s, v, hk, rfl, rfl, rfl, hsz, hk8, HK, hown, hB⟩ := hrel
    by_cases hlt : k < ts.length
    · obtain ⟨b, off, rfl, hx⟩ : ∃ b off, A = some ⟨b, off, none⟩ ∧ wr.cell? ⟨b, off + k, none⟩ = some (.string (bs ts[k])) := by
        obtain ⟨A', n', c', hv, hn, hc⟩ := HS.out
        cases hv
        obtain ⟨b, off, hA, hb, hx⟩ := hc (by rintro rfl; simp at hlt)
        exact ⟨b, off, hA, (hB.cell (p := ⟨b, off + k, none⟩) hb).trans (hx k hlt)⟩
      have htz : (bs ts[k]).size = ts[k].length := bs_size _
      have htl := ho.out ts[k] (List.getElem_mem hlt)
      have HE := Lib.hid (endL_succ ts k hlt)
      have HF := Lib.hid (framesL_snoc ts k hlt)
      have hmem : Hid (ts[k].length ≤ 65536 → ∀ t ∈ ts.take (k + 1), t.length ≤ 65536) := Lib.hid (fun h t ht => by
        rw [List.take_succ_eq_append_getElem hlt] at ht
        rcases List.mem_append.1 ht with ht | ht
        · exact HK.out.2.2 t ht
        · rw [List.mem_singleton.1 ht]; exact h)
      generalize ts[k] = t at *
      by_cases hbig : 8192 < s.size + t.length
      · go_wp2_with fail
        refine (CA.out _).mono ?_
        rintro r w1 ⟨rfl, hb1⟩; dsimp only
        go_wp2_with fail
        go_ret
        exact ⟨rfl, below_to hB hb1⟩
      · have c0 := fun w => fr_Frame (bs t) (by omega) w
        rw [if_neg (by omega), bs_list] at c0
        have C0 := Lib.hid c0
        have hFz : (bs (frameL t)).size = t.length + 8 := by rw [bs_size, frameL_len]
        have HF2 : Hid (bs (framesL (ts.take (k + 1))) = s ++ bs (frameL t)) := Lib.hid (by rw [HF.out, HK.out.1, bs_append])
        clear c0 HF
        generalize bs (frameL t) = F at *
        go_wp2_with fail
        refine (C0.out _).mono ?_
        rintro r w1 ⟨rfl, hb1⟩; dsimp only
        have hown1 : w1.ownsRow W.heap.size 3 1 v k (endsV ts k) := ownsRow_past hown hb1
        have hB1 := below_to hB hb1
        have hSF : (s ++ F).size = s.size + (t.length + 8) := by rw [ByteArray.size_append, hFz]
        clear hb1 hown
        go_wp2_with (at_builtin; refine wpList_append_own _ rfl _ _ 44 rfl W.heap.size 3 i0 (.int .i64 0) 1 8 Try.underlying44 hi hz0 hz1 hz2 rfl (by decide) _ _ _ rfl (hown1.alloc _) ⟨w1.heap.size, 0, none⟩ 1 1 [Value.int .i64 ((s ++ F).size : Nat)] rfl rfl ?c1 ?c2 ?c3 ?c4 ?c5 ?_)
        case c1 =>
          intro j u hj
          match j, hj with
          | 0, hj => simp at hj; subst hj; simp [Addr.add]; omega
        case c2 => intro u hu; simp at hu; subst hu; rfl
        case c3 => unfold maxLen; omega
        case c4 => omega
        case c5 => have := hB1.size; simp; omega
        intro v' w2 hown' hgrow _
        have hB2 : Below W.heap.size W w2 := (hB1.alloc (by have := hB1.size; omega) _).grown hgrow (by have := hB1.size; simp; omega) (fun k hk => (hown1.lt k hk).1)
        go_wp2
        go_roundw
        case rel =>
          refine ⟨k + 1, s ++ F, v', by omega, by go_num, rfl, rfl, by omega, by omega, Lib.hid ⟨HF2.out.symm, by rw [HE.out, ← HK.out.2.1]; exact hSF, hmem.out (by omega)⟩, ?_, hB2⟩
          rw [endsV_snoc, HE.out, ← HK.out.2.1]
          have e : ((s.size + (t.length + 8) : Nat) : Int) = (s.size : Int) + ((t.length : Int) + 8) := by omega
          rw [e]
          exact hown'
        case measure => simp [intOf]; omega
    · obtain rfl : k = ts.length := by omega
      have hall : Hid (∀ t ∈ ts, t.length ≤ 65536) := Lib.hid (fun t ht => HK.out.2.2 t (by rw [List.take_length]; exact ht))
      have hsL : s.data.toList = framesL ts := by rw [HK.out.1, List.take_length, bs_list]
      have HsL := Lib.hid hsL
      have hsE : Hid (s.size = (framesL ts).length) := Lib.hid (by rw [← hsL, size_list])
      have hN : Hid (ts.length ≤ 1000000) := Lib.hid (by omega)
      have c1 := fun w => fr_Scan s (by omega) w
      unfold ScanPost at c1
      rw [hsL, scan_whole ts hall.out, ← hsE.out] at c1
      obtain ⟨P, cap, rfl, hP⟩ : ∃ P cap, v = .slice P ts.length cap ∧ ∀ j, j < ts.length → ∃ g, P = some ⟨g, 0, none⟩ ∧ g < wr.heap.size ∧ wr.cell? ⟨g, j, none⟩ = some (.int .i64 (endL ts (j + 1) : Nat)) := by
        rcases hown.2 with ⟨h1, hn⟩ | ⟨g, cap, cur, rfl, hb, hg, _⟩
        · have hn0 : ts.length = 0 := by simpa using hn
          exact ⟨none, 0, by rw [h1, hn0], fun j hj => by omega⟩
        · refine ⟨_, _, rfl, fun j hj => ⟨g, rfl, (Array.getElem?_eq_some_iff.1 hg).1, ?_⟩⟩
          have := hown.cells (g := g) rfl j _ (endsV_get ts ts.length j hj)
          rw [addr_add] at this; simpa using this
      have HP := Lib.hid hP
      have hst := Lib.hid (HS.out.past (w' := wr) ⟨hB.os, hB.tape, hB.output, hB.size, hB.block⟩)
      have C1 := Lib.hid c1
      clear c1 hP hsL hown HK HS
      go_wp2_with fail
      refine (C1.out _).mono ?_
      rintro r w1 ⟨u1, rfl, ho1, hb1⟩; dsimp only
      have hB1 := below_to hB hb1
      have hst1 := Lib.hid (hst.out.past hb1)
      have hs1 := Lib.hid (Strs.own ho1)
      clear ho1
      go_wp2_with fail
      refine (same04 _ _ _ _ _ hs1.out hst1.out hN.out hN.out).mono ?_
      rintro r w2 ⟨rfl, hb2⟩; dsimp only
      have hB2 := below_to hB1 hb2
      have hst2 := Lib.hid (hst1.out.past hb2)
      have HP2 : Hid (∀ j, j < ts.length → ∃ g, P = some ⟨g, 0, none⟩ ∧ w2.cell? ⟨g, j, none⟩ = some (.int .i64 (endL ts (j + 1) : Nat))) := Lib.hid (fun j hj => by
        obtain ⟨g, hg, hlt, hc⟩ := HP.out j hj
        exact ⟨g, hg, ((below_to hb1 hb2).cell (p := ⟨g, j, none⟩) hlt).trans hc⟩)
      rw [decide_eq_true rfl]
      clear HP hs1 hst hst1 hb1 hb2 hB hB1 C1
      obtain ⟨cut, hcut⟩ : ∃ cut : Nat, cut = Q % (s.size + 1) := ⟨_, rfl⟩
      have hq : (Q : Int) % ((s.size : Int) + 1) = (cut : Int) := by rw [hcut]; simp
      have hc0 : cut ≤ s.size := by rw [hcut]; have := Nat.mod_lt Q (show 0 < s.size + 1 by omega); omega
      clear hcut
      go_wp2_with fail
      go_loop [14, 15, 16] (fun wh gd i => ∃ k : Nat, k ≤ ts.length ∧ i = .int .i64 k ∧ wh = .int .i64 (wholeL ts cut k : Nat) ∧ gd = .int .i64 (endL ts (wholeL ts cut k) : Nat)) (fun _ _ i => ts.length - (intOf i).toNat)
      case atStart => exact ⟨0, Nat.zero_le _, rfl, rfl, by rw [show wholeL ts cut 0 = 0 from rfl, endL_zero]; rfl⟩
      case round =>
        obtain ⟨k, hk, rfl, rfl, rfl⟩ := hrel
        by_cases hlt : k < ts.length
        · obtain ⟨g, rfl, hc⟩ := HP2.out k hlt
          have hstep : Hid (wholeL ts cut (k + 1) = if endL ts (k + 1) ≤ cut then k + 1 else wholeL ts cut k) := Lib.hid rfl
          by_cases hle : endL ts (k + 1) ≤ cut
          · go_wp2_with fail
            go_round
            case rel => exact ⟨k + 1, by omega, by go_num, by rw [hstep.out, if_pos hle]; go_num, by rw [hstep.out, if_pos hle]⟩
            case measure => simp [intOf]; omega
          · go_wp2_with fail
            go_round
            case rel => exact ⟨k + 1, by omega, by go_num, by rw [hstep.out, if_neg hle], by rw [hstep.out, if_neg hle]⟩
            case measure => simp [intOf]; omega
        · obtain rfl : k = ts.length := by omega
          have c2 := fun w => fr_Scan (s.extract 0 cut) (by simp; omega) w
          unfold ScanPost at c2
          rw [extract_take, HsL.out, scan_cut ts hall.out cut (by rw [← hsE.out]; exact hc0)] at c2
          have hm0 := (whole_spec ts cut ts.length).1
          have hz2 : (s.extract 0 cut).size = cut := by simp; omega
          generalize wholeL ts cut ts.length = m at *
          have hmz : Hid ((ts.take m).length ≤ 1000000) := Lib.hid (by rw [List.length_take]; have := hN.out; omega)
          generalize endL ts m = gd at *
          clear HP2 hsE HsL hall
          rcases hA.out with ⟨rfl, hn0, rfl⟩ | ⟨a, rfl, hnc⟩
          · obtain rfl : ts = [] := List.eq_nil_of_length_eq_zero hn0
            obtain rfl : m = 0 := by simpa using hm0
            by_cases hg : gd = cut
            · subst hg
              rw [if_pos rfl] at c2
              have C2 := Lib.hid c2
              clear c2
              go_wp2_with fail
              refine (C2.out _).mono ?_
              rintro r w3 ⟨u2, rfl, ho2, hb3⟩; dsimp only
              have hB3 := below_to hB2 hb3
              have hst3 := Lib.hid ((hst2.out.past hb3).take 0 hm0)
              have hs3 := Lib.hid (Strs.own ho2)
              clear ho2 C2
              go_wp2_with fail
              refine (same04 _ _ _ _ _ hs3.out hst3.out hmz.out hmz.out).mono ?_
              rintro r w4 ⟨rfl, hb4⟩; dsimp only
              have hB4 := below_to hB3 hb4
              rw [decide_eq_true rfl]
              clear hs3 hst3
              go_wp2_with fail
              refine (CA.out _).mono ?_
              rintro r w5 ⟨rfl, hb5⟩; dsimp only
              have hB5 := below_to hB4 hb5
              go_wp2_with fail
              go_ret
              exact ⟨rfl, hB5⟩
            · rw [if_neg hg] at c2
              have hg1 : ((gd : Int) == (cut : Int)) = false := by rw [beq_eq_false_iff_ne]; omega
              have C2 := Lib.hid c2
              clear c2
              go_wp2_with fail
              refine (C2.out _).mono ?_
              rintro r w3 ⟨u2, rfl, ho2, hb3⟩; dsimp only
              have hB3 := below_to hB2 hb3
              have hst3 := Lib.hid ((hst2.out.past hb3).take 0 hm0)
              have hs3 := Lib.hid (Strs.own ho2)
              clear ho2 C2
              go_wp2_with fail
              refine (same04 _ _ _ _ _ hs3.out hst3.out hmz.out hmz.out).mono ?_
              rintro r w4 ⟨rfl, hb4⟩; dsimp only
              have hB4 := below_to hB3 hb4
              rw [decide_eq_true rfl]
              clear hs3 hst3
              go_wp2_with fail
              refine (CA.out _).mono ?_
              rintro r w5 ⟨rfl, hb5⟩; dsimp only
              have hB5 := below_to hB4 hb5
              go_wp2_with fail
              go_ret
              exact ⟨rfl, hB5⟩
          · by_cases hg : gd = cut
            · subst hg
              rw [if_pos rfl] at c2
              have C2 := Lib.hid c2
              clear c2
              go_wp2_with fail
              refine (C2.out _).mono ?_
              rintro r w3 ⟨u2, rfl, ho2, hb3⟩; dsimp only
              have hB3 := below_to hB2 hb3
              have hst3 := Lib.hid ((hst2.out.past hb3).take m hm0)
              have hs3 := Lib.hid (Strs.own ho2)
              clear ho2 C2
              go_wp2_with fail
              refine (same04 _ _ _ _ _ hs3.out hst3.out hmz.out hmz.out).mono ?_
              rintro r w4 ⟨rfl, hb4⟩; dsimp only
              have hB4 := below_to hB3 hb4
              rw [decide_eq_true rfl]
              clear hs3 hst3
              go_wp2_with fail
              refine (CA.out _).mono ?_
              rintro r w5 ⟨rfl, hb5⟩; dsimp only
              have hB5 := below_to hB4 hb5
              go_wp2_with fail
              go_ret
              exact ⟨rfl, hB5⟩
            · rw [if_neg hg] at c2
              have hg1 : ((gd : Int) == (cut : Int)) = false := by rw [beq_eq_false_iff_ne]; omega
              have C2 := Lib.hid c2
              clear c2
              go_wp2_with fail
              refine (C2.out _).mono ?_
              rintro r w3 ⟨u2, rfl, ho2, hb3⟩; dsimp only
              have hB3 := below_to hB2 hb3
              have hst3 := Lib.hid ((hst2.out.past hb3).take m hm0)
              have hs3 := Lib.hid (Strs.own ho2)
              clear ho2 C2
              go_wp2_with fail
              refine (same04 _ _ _ _ _ hs3.out hst3.out hmz.out hmz.out).mono ?_
              rintro r w4 ⟨rfl, hb4⟩; dsimp only
              have hB4 := below_to hB3 hb4
              rw [decide_eq_true rfl]
              clear hs3 hst3
              go_wp2_with fail
              refine (CA.out _).mono ?_
              rintro r w5 ⟨rfl, hb5⟩; dsimp only
              have hB5 := below_to hB4 hb5
              go_wp2_with fail
              go_ret
              exact ⟨rfl, hB5⟩
end Go.Proofs.Ythlninijnbmjfaa
