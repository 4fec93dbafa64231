/- The reference's clocks. Conditions: the times are from 0 to MaxTime. -/
import Derived.Test.YtbamgoocgmhohaaTick2
import Derived.Test.YtbamgoocgmhohaaK
namespace Go.Proofs.Ytbamgoocgmhohaa
open Go.RowKit

def RClk (w : World) (P T : Nat) (xs : List Int) (bound most : Int) : Prop := Blk w P 57 #[.slice (some ⟨T, 0, none⟩) xs.length xs.length, .int .i64 bound, .int .i64 most] ∧ Blk w T 2 (ints xs)
theorem RClk.past {w w' : World} {P T : Nat} {xs : List Int} {bound most : Int} (h : RClk w P T xs bound most) (hb : Below w.heap.size w w') : RClk w' P T xs bound most := ⟨h.1.past hb, h.2.past hb⟩
theorem RClk.keeps {w w' : World} {P T P' T' : Nat} {xs : List Int} {bound most : Int} (h : RClk w P T xs bound most) (hk : Keeps P' T' w w') (h1 : P ≠ P') (h2 : P ≠ T') (h3 : T ≠ P') (h4 : T ≠ T') : RClk w' P T xs bound most := ⟨hk.2 _ _ _ h1 h2 h.1, hk.2 _ _ _ h3 h4 h.2⟩
def tickM (xs : List Int) (node by_ most : Int) : Int := if tickE xs node by_ = 0 then max most (apartL (tickL xs node by_)) else most
set_option maxHeartbeats 1000000 in
theorem tr_May (n bound : Int) (w : World) : Calls Try.prog 28 #[.int .i64 n, .int .i64 bound] w fun e w' => e = .returned (.bool (mayT n bound)) ∧ w = w' := by
  unfold mayT
  go_enter Try.func28, Try.ntmps28
  go_wp2
  all_goals
    go_returns
    exact ⟨by first | (simp [*]; done) | (simp [*]; intros; omega), rfl⟩
set_option maxHeartbeats 2000000 in
theorem tr_Apart (P T : Nat) (xs : List Int) (bound most : Int) (w : World) (h : RClk w P T xs bound most) (hx : Times xs) :
    Calls Try.prog 33 #[.pointer (some ⟨P, 0, none⟩)] w fun e w' => e = .returned (.int .i64 (apartL xs)) ∧ ∃ x, w' = extn w x := by
  have hbd := apart_bd hx
  obtain ⟨⟨hx0, hx1⟩, hx2⟩ := hx
  have hc0 := ints_cell h.2 0 hx0
  have H := Lib.hid h
  have hS := Lib.hid (mx_snoc xs[0] xs)
  have hR := Lib.hid (mn_snoc xs[0] xs)
  unfold apartL
  rw [headD_eq xs hx0] at *
  have hm0 : Hid (mx xs[0] (xs.take 0) = xs[0]) := Lib.hid rfl
  have hn0 : Hid (mn xs[0] (xs.take 0) = xs[0]) := Lib.hid rfl
  generalize xs[0] = x0 at *
  obtain ⟨Pc, Pf, Pl⟩ := h.1.facts
  have Tl := h.2.lt
  clear h hx2
  go_enter Try.func33, Try.ntmps33
  go_wp2_with fail
  refine wp_region_ext (by kernel_rfl) (by kernel_rfl) ?_
  repeat (go_big_quiet_step ((fail)))
  refine wpQuiet_nil ?_
  intro w1 hx
  obtain ⟨x, rfl⟩ := hx
  have HC : Hid (∀ k (hk : k < xs.length), (extn w x).cell? ⟨T, k, none⟩ = some (.int .i64 xs[k])) := Lib.hid (ints_cell (H.out.2.past (extn_below _ x)))
  have hP := H.out.1.past (extn_below _ x)
  clear Pc Pf Pl
  obtain ⟨Pc, Pf, Pl⟩ := hP.facts
  have Tl' : T < (extn w x).heap.size := (H.out.2.past (extn_below _ x)).lt
  clear hP hc0
  go_wp2_with fail
  go_loop [3, 4, 5] (fun a b i => ∃ k : Nat, k ≤ xs.length ∧ i = .int .i64 k ∧ a = .int .i64 (mn x0 (xs.take k)) ∧ b = .int .i64 (mx x0 (xs.take k))) (fun _ _ i => xs.length - (intOf i).toNat)
  case atStart => exact ⟨0, Nat.zero_le _, rfl, by rw [hn0.out], by rw [hm0.out]⟩
  case round =>
    obtain ⟨k, hk, rfl, rfl, rfl⟩ := hrel
    by_cases hlt : k < xs.length
    · have hcell := HC.out k hlt
      have hsn := Lib.hid (hS.out k hlt)
      have hrn := Lib.hid (hR.out k hlt)
      clear hS hR
      generalize xs[k] = y at *
      generalize mx x0 (xs.take k) = q at *
      generalize mn x0 (xs.take k) = p at *
      obtain ⟨m, hm⟩ : ∃ m, m = max q y := ⟨_, rfl⟩
      obtain ⟨m', hm'⟩ : ∃ m, m = min p y := ⟨_, rfl⟩
      have kq : ∀ ats ty, Builtin.max_ ats ty #[.int .i64 q, .int .i64 y] = pure (.int .i64 m) := fun ats ty => by rw [kmax_two, kmax2, hm]; rfl
      have kp : ∀ ats ty, Builtin.min_ ats ty #[.int .i64 p, .int .i64 y] = pure (.int .i64 m') := fun ats ty => by rw [kmin_two, kmin2, hm']; rfl
      rw [← hm] at hsn
      rw [← hm'] at hrn
      clear hm hm'
      go_wp2
      go_round
      case rel => exact ⟨k + 1, by omega, by go_num, by rw [hrn.out], by rw [hsn.out]⟩
      case measure => simp [intOf]; omega
    · obtain rfl : k = xs.length := by omega
      rw [List.take_length]
      clear hS hR
      obtain ⟨q, hq⟩ : ∃ q, mx x0 xs = q := ⟨_, rfl⟩
      obtain ⟨p, hp⟩ : ∃ p, mn x0 xs = p := ⟨_, rfl⟩
      rw [hq, hp] at hbd ⊢
      have HQ := Lib.hid hq
      have HP := Lib.hid hp
      clear hq hp
      go_wp2
      go_ret
      exact ⟨by rw [HQ.out, HP.out]; go_num, x, rfl⟩
set_option maxHeartbeats 1000000 in
theorem tr_Tick_none (P T : Nat) (xs : List Int) (bound most : Int) (k y : Int) (w : World) (h : RClk w P T xs bound most) (hk : k < 0 ∨ xs.length ≤ k) :
    Calls Try.prog 31 #[.pointer (some ⟨P, 0, none⟩), .int .i64 k, .int .i64 y] w fun e w' => e = .returned (.int .i64 5) ∧ Below w.heap.size w w' := by
  obtain ⟨Pc, Pf, Pl⟩ := h.1.facts
  clear h
  go_enter Try.func31, Try.ntmps31
  go_wp2
  all_goals
    go_ret
    exact ⟨rfl, by go_grown⟩
set_option maxHeartbeats 1000000 in
theorem tr_Tick_arg (P T : Nat) (xs : List Int) (bound most : Int) (k y : Int) (w : World) (h : RClk w P T xs bound most) (hk : ¬ k < 0) (hk1 : ¬ xs.length ≤ k) (hy : y < 0 ∨ 17592186044416 < y) :
    Calls Try.prog 31 #[.pointer (some ⟨P, 0, none⟩), .int .i64 k, .int .i64 y] w fun e w' => e = .returned (.int .i64 2) ∧ Below w.heap.size w w' := by
  obtain ⟨Pc, Pf, Pl⟩ := h.1.facts
  clear h
  go_enter Try.func31, Try.ntmps31
  go_wp2
  all_goals
    go_ret
    exact ⟨rfl, by go_grown⟩
set_option maxHeartbeats 1000000 in
theorem tr_Tick_over (P T : Nat) (xs : List Int) (bound most : Int) (k : Nat) (y : Int) (w : World) (h : RClk w P T xs bound most) (hk : k < xs.length) (hx : Times xs) (hy : 0 ≤ y) (hy1 : y ≤ 17592186044416) (hz : 17592186044416 < xs[k] + y) :
    Calls Try.prog 31 #[.pointer (some ⟨P, 0, none⟩), .int .i64 k, .int .i64 y] w fun e w' => e = .returned (.int .i64 9) ∧ Below w.heap.size w w' := by
  have hc := ints_cell h.2 k hk
  have hxk := hx.2 xs[k] (List.getElem_mem hk)
  have hl := hx.1.2
  obtain ⟨Pc, Pf, Pl⟩ := h.1.facts
  have Tl := h.2.lt
  clear h hx
  generalize xs[k] = x at *
  go_enter Try.func31, Try.ntmps31
  go_wp2
  all_goals
    go_ret
    exact ⟨rfl, by go_grown⟩
set_option maxHeartbeats 2000000 in
theorem tr_Tick_ok (P T : Nat) (xs : List Int) (bound most : Int) (k : Nat) (y : Int) (w : World) (h : RClk w P T xs bound most) (hPT : P ≠ T) (hk : k < xs.length) (hx : Times xs) (hy : 0 ≤ y) (hy1 : y ≤ 17592186044416) (hz : xs[k] + y ≤ 17592186044416) (hx' : Times (xs.set k (xs[k] + y))) :
    Calls Try.prog 31 #[.pointer (some ⟨P, 0, none⟩), .int .i64 k, .int .i64 y] w fun e w' => e = .returned (.int .i64 0) ∧ RClk w' P T (xs.set k (xs[k] + y)) bound (max most (apartL (xs.set k (xs[k] + y)))) ∧ Keeps P T w w' := by
  have hc := ints_cell h.2 k hk
  have hxk := hx.2 xs[k] (List.getElem_mem hk)
  have hl := hx.1.2
  obtain ⟨Pc, Pf, Pl⟩ := h.1.facts
  have Tl := h.2.lt
  have Tf := h.2.frozen
  have HX := Lib.hid hx'
  have H := Lib.hid h
  clear h hx hx'
  generalize hv : xs[k] = x at *
  go_enter Try.func31, Try.ntmps31
  go_wp2_with fail
  refine wp_region_ext_tail 15 (by kernel_rfl) (by kernel_rfl) ?_
  simp only [List.take_succ_cons, List.take_zero, List.drop_succ_cons, List.drop_zero]
  repeat (go_big_quiet_step ((fail)))
  refine wpQuiet_nil ?_
  intro w1 hx
  obtain ⟨X, rfl⟩ := hx
  have hc' := ints_cell (H.out.2.past (extn_below _ X)) k hk
  rw [hv] at hc'
  have h := H.out.past (extn_below _ X)
  have Tf' := h.2.frozen
  have Tl' := h.2.lt
  clear Pc Pf Pl Tl Tf hc
  obtain ⟨Pc, Pf, Pl⟩ := h.1.facts
  have hK : Keeps P T w (extn w X) := Keeps.of (extn_below _ X)
  generalize extn w X = w1 at *
  have H := Lib.hid h
  clear h
  go_wp2_with fail
  have hP := H.out.1.far (p := ⟨T, k, none⟩) hPT (.int .i64 (x + y))
  have hT := H.out.2.put k (.int .i64 (x + y)) (ints_set xs k (x + y))
  replace hK : Keeps P T w (w1.setCell ⟨T, k, none⟩ (.int .i64 (x + y))) := hK.trans (Keeps.setT k _)
  obtain ⟨W, hW⟩ : ∃ W, W = (w1.setCell ⟨T, k, none⟩ (.int .i64 (x + y))) := ⟨_, rfl⟩
  rw [← hW] at hP hT hK ⊢
  clear hW Pc Pf Pl Tl' Tf' hc' H
  have hCk : RClk W P T (xs.set k (x + y)) bound most := ⟨by rw [List.length_set]; exact hP, hT⟩
  have C : Hid (∀ X : Beyond W, Calls Try.prog 33 #[.pointer (some ⟨P, 0, none⟩)] (extn W X) fun e w' => e = .returned (.int .i64 (apartL (xs.set k (x + y)))) ∧ Below (extn W X).heap.size (extn W X) w') :=
    Lib.hid (fun X => by
      refine (tr_Apart P T _ bound most _ (hCk.past (extn_below _ X)) HX.out).mono ?_
      rintro r w' ⟨hr, x', rfl⟩
      exact ⟨hr, extn_below _ x'⟩)
  obtain ⟨Pc, Pf, Pl⟩ := hP.facts
  generalize hL : xs.set k (x + y) = L at *
  have hn : xs.length = L.length := by rw [← hL, List.length_set]
  have HN := Lib.hid hn
  have HL := Lib.hid hL
  clear hn hL hT HX
  have HK := Lib.hid hCk
  clear hCk
  obtain ⟨z, hzz⟩ : ∃ z, apartL L = z := ⟨_, rfl⟩
  rw [hzz] at C
  have HZ := Lib.hid hzz
  clear hzz
  obtain ⟨m, hm⟩ : ∃ m, m = max most z := ⟨_, rfl⟩
  have kq : ∀ ats ty, Builtin.max_ ats ty #[.int .i64 most, .int .i64 z] = pure (.int .i64 m) := fun ats ty => by rw [kmax_two, kmax2, hm]; rfl
  have HM := Lib.hid hm
  clear hm
  go_wp2_with fail
  refine wp_region_ext_tail 10 (by kernel_rfl) (by kernel_rfl) ?_
  simp only [List.take_succ_cons, List.take_zero, List.drop_succ_cons, List.drop_zero]
  repeat (go_big_quiet_step ((go_at_call 33; exact ext_of (C.out _))))
  refine wpQuiet_nil ?_
  intro w2 hx
  obtain ⟨X', rfl⟩ := hx
  go_wp2_with fail
  go_ret
  rw [HL.out, HZ.out, ← HM.out]
  refine ⟨rfl, ⟨?_, ?_⟩, ?_⟩
  · exact (HK.out.1.past (extn_below _ X')).put 2 _ rfl
  · exact (HK.out.2.past (extn_below _ X')).far (p := ⟨P, 2, none⟩) hPT.symm _
  · exact hK.trans ((Keeps.of (extn_below _ X')).trans (Keeps.setP 2 _))
theorem tr_Tick (P T : Nat) (xs : List Int) (bound most : Int) (node y : Int) (w : World) (h : RClk w P T xs bound most) (hPT : P ≠ T) (hx : Times xs) :
    Calls Try.prog 31 #[.pointer (some ⟨P, 0, none⟩), .int .i64 node, .int .i64 y] w fun e w' => e = .returned (.int .i64 (tickE xs node y)) ∧ RClk w' P T (tickL xs node y) bound (tickM xs node y most) ∧ Keeps P T w w' := by
  rcases tick_cases xs node y hx with ⟨h1, he⟩ | ⟨h1, h2, he⟩ | ⟨k, hk, rfl, hy, hy1, ⟨hz, he⟩ | ⟨hz, he, hl, ht⟩⟩
  · have hL : tickL xs node y = xs := by unfold tickL; rw [he, if_neg (by decide)]
    have hF : tickM xs node y most = most := by unfold tickM; rw [he, if_neg (by decide)]
    rw [he, hL, hF]
    refine (tr_Tick_none P T xs bound most node y w h h1).mono ?_
    rintro r w' ⟨hr, hb⟩
    exact ⟨hr, h.past hb, Keeps.of hb⟩
  · have hL : tickL xs node y = xs := by unfold tickL; rw [he, if_neg (by decide)]
    have hF : tickM xs node y most = most := by unfold tickM; rw [he, if_neg (by decide)]
    rw [he, hL, hF]
    refine (tr_Tick_arg P T xs bound most node y w h h1.1 h1.2 h2).mono ?_
    rintro r w' ⟨hr, hb⟩
    exact ⟨hr, h.past hb, Keeps.of hb⟩
  · have hL : tickL xs k y = xs := by unfold tickL; rw [he, if_neg (by decide)]
    have hF : tickM xs k y most = most := by unfold tickM; rw [he, if_neg (by decide)]
    rw [he, hL, hF]
    refine (tr_Tick_over P T xs bound most k y w h hk hx hy hy1 hz).mono ?_
    rintro r w' ⟨hr, hb⟩
    exact ⟨hr, h.past hb, Keeps.of hb⟩
  · have hF : tickM xs k y most = max most (apartL (xs.set k (xs[k] + y))) := by unfold tickM; rw [he, if_pos rfl, hl]
    rw [he, hl, hF]
    exact tr_Tick_ok P T xs bound most k y w h hPT hk hx hy hy1 hz ht
end Go.Proofs.Ytbamgoocgmhohaa
