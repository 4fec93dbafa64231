/- Ledgers, walked: what is none, bands, what is plain; what is done with a share; Take, Give, Left. Conditions: what comes in is of its kind. -/
import Derived.Test.YtcjgblopcfcakaaQt2
import Derived.Test.YtcjgblopcfcakaaK5
import Derived.Test.YtcjgblopcfcakaaK7
import Derived.Test.YtcjgblopcfcakaaK17
import Derived.Test.YtcjgblopcfcakaaVec2
import Derived.Test.YtcjgblopcfcakaaRef1b
import Derived.Carry
namespace Go.Proofs.Ytcjgblopcfcakaa
open Go.RowKit Go.MapKept

def bandB (b : Int) : Bool := decide (b = 1) || decide (b = 2)
theorem q_banded (b : Int) (w : World) : Calls Try.prog 25 #[.int .u8 b] w fun e w' => e = .returned (.bool (bandB b)) ∧ w = w' := by
  unfold bandB
  by_cases h1 : b = 1
  · subst h1
    go_enter Try.func25, Try.ntmps25
    go_wp2
    go_ret
    exact ⟨rfl, rfl⟩
  · have h1' : (b == 1) = false := by simpa using h1
    go_enter Try.func25, Try.ntmps25
    go_wp2
    go_ret
    exact ⟨by simp [h1]; rfl, rfl⟩
set_option maxHeartbeats 400000 in
theorem q_plain (v : Vec) (w : World) : Calls Try.prog 29 #[v.v] w fun e w' => e = .returned (.bool (fitsV zeroV v)) ∧ Below w.heap.size w w' := by
  obtain ⟨v0, v1, v2⟩ := v
  have c : ∀ w, Calls Try.prog 13 #[.agg #[.int .i64 0, .int .i64 0, .int .i64 0], .agg #[.int .i64 v0, .int .i64 v1, .int .i64 v2]] w fun e w' => e = .returned (.bool (fitsV zeroV ⟨v0, v1, v2⟩)) ∧ Below w.heap.size w w' := fun w => vec_Fits zeroV ⟨v0, v1, v2⟩ w
  generalize fitsV zeroV ⟨v0, v1, v2⟩ = f at *
  have C := Lib.hid c
  clear c
  go_enter Try.func29, Try.ntmps29
  go_wp2_with fail
  refine (C.out _).mono ?_
  rintro e w1 ⟨rfl, hb1⟩; dsimp only
  have hB : Below w.heap.size w w1 := below_to (by go_grown) hb1
  clear hb1 C
  go_wp2_with fail
  go_ret
  exact ⟨rfl, hB⟩
theorem q_none_nil (w : World) : Calls Try.prog 23 #[.pointer none] w fun e w' => e = .returned (.bool true) ∧ w = w' := by
  go_enter Try.func23, Try.ntmps23
  go_wp2
  go_ret
  exact ⟨rfl, rfl⟩
theorem eql_map (M : Nat) (w : World) : (binOp .eql 53 (.map (some M)) (.map none)).run Try.prog w = .ok (.bool false) w := by
  kernel_rfl
theorem q_none_led (P M : Nat) (w : World) (h : Blk w P 55 #[.map (some M)]) : Calls Try.prog 23 #[ptrV P] w fun e w' => e = .returned (.bool false) ∧ w = w' := by
  obtain ⟨Pc, Pf, Pl⟩ := h.facts
  have e1 := eql_map M
  go_enter Try.func23, Try.ntmps23
  go_wp2
  go_ret
  exact ⟨rfl, rfl⟩
theorem on_none (g : Nat) (x : Value) (P M : Nat) (u : ByteArray) (b : Int) (w : World) (hP : Blk w P 55 #[.map (some M)])
    (hl : (Instr.lookup 53 (.map (some M)) (keyV u b) false).run Try.prog w = .ok (.pointer none) w) :
    Calls Try.prog 27 #[ptrV P, .string u, .int .u8 b, .func (.func g) #[] #[x]] w fun e w' => e = .returned (.int .i64 5) ∧ w = w' := by
  have N := Lib.hid (q_none_led P M w hP)
  obtain ⟨Pc, Pf, Pl⟩ := hP.facts
  clear hP
  go_enter Try.func27, Try.ntmps27
  go_wp2_with fail
  refine (N.out).mono ?_
  rintro r ww ⟨rfl, rfl⟩; dsimp only
  go_wp2_with fail
  go_ret
  exact ⟨rfl, rfl⟩
theorem on_nil (g : Nat) (x : Value) (u : ByteArray) (b : Int) (w : World) :
    Calls Try.prog 27 #[.pointer none, .string u, .int .u8 b, .func (.func g) #[] #[x]] w fun e w' => e = .returned (.int .i64 1) ∧ w = w' := by
  have N := Lib.hid (q_none_nil w)
  go_enter Try.func27, Try.ntmps27
  go_wp2_with fail
  refine (N.out).mono ?_
  rintro r ww ⟨rfl, rfl⟩; dsimp only
  go_wp2_with fail
  go_ret
  exact ⟨rfl, rfl⟩
theorem on_Take (P M : Nat) (u : ByteArray) (b : Int) (B : Nat) (x : Value) (w : World) (hP : Blk w P 55 #[.map (some M)])
      (hl : (Instr.lookup 53 (.map (some M)) (keyV u b) false).run Try.prog w = .ok (ptrV B) w) (r : Int) (Q : World → Prop)
      (hc : Calls Try.prog 28 #[ptrV B, x] w fun e w' => e = .returned (.int .i64 r) ∧ Q w') :
      Calls Try.prog 27 #[ptrV P, .string u, .int .u8 b, .func (.func 28) #[] #[x]] w fun e w' => e = .returned (.int .i64 r) ∧ Q w' := by
    have N := Lib.hid (q_none_led P M w hP)
    have C := Lib.hid hc
    obtain ⟨Pc, Pf, Pl⟩ := hP.facts
    clear hP hc
    go_enter Try.func27, Try.ntmps27
    go_wp2_with fail
    refine (N.out).mono ?_
    rintro r ww ⟨rfl, rfl⟩; dsimp only
    go_wp2_with fail
    refine (C.out).mono ?_
    rintro e w' ⟨rfl, hQ⟩; dsimp only
    replace hQ := Lib.hid hQ
    go_wp2_with fail
    go_ret
    exact ⟨rfl, hQ.out⟩
theorem on_Give (P M : Nat) (u : ByteArray) (b : Int) (B : Nat) (x : Value) (w : World) (hP : Blk w P 55 #[.map (some M)])
        (hl : (Instr.lookup 53 (.map (some M)) (keyV u b) false).run Try.prog w = .ok (ptrV B) w) (r : Int) (Q : World → Prop)
        (hc : Calls Try.prog 32 #[ptrV B, x] w fun e w' => e = .returned (.int .i64 r) ∧ Q w') :
        Calls Try.prog 27 #[ptrV P, .string u, .int .u8 b, .func (.func 32) #[] #[x]] w fun e w' => e = .returned (.int .i64 r) ∧ Q w' := by
      have N := Lib.hid (q_none_led P M w hP)
      have C := Lib.hid hc
      obtain ⟨Pc, Pf, Pl⟩ := hP.facts
      clear hP hc
      go_enter Try.func27, Try.ntmps27
      go_wp2_with fail
      refine (N.out).mono ?_
      rintro r ww ⟨rfl, rfl⟩; dsimp only
      go_wp2_with fail
      refine (C.out).mono ?_
      rintro e w' ⟨rfl, hQ⟩; dsimp only
      replace hQ := Lib.hid hQ
      go_wp2_with fail
      go_ret
      exact ⟨rfl, hQ.out⟩
theorem on_Left (P M : Nat) (u : ByteArray) (b : Int) (B : Nat) (x : Value) (w : World) (hP : Blk w P 55 #[.map (some M)])
          (hl : (Instr.lookup 53 (.map (some M)) (keyV u b) false).run Try.prog w = .ok (ptrV B) w) (r : Int) (Q : World → Prop)
          (hc : Calls Try.prog 36 #[ptrV B, x] w fun e w' => e = .returned (.int .i64 r) ∧ Q w') :
          Calls Try.prog 27 #[ptrV P, .string u, .int .u8 b, .func (.func 36) #[] #[x]] w fun e w' => e = .returned (.int .i64 r) ∧ Q w' := by
        have N := Lib.hid (q_none_led P M w hP)
        have C := Lib.hid hc
        obtain ⟨Pc, Pf, Pl⟩ := hP.facts
        clear hP hc
        go_enter Try.func27, Try.ntmps27
        go_wp2_with fail
        refine (N.out).mono ?_
        rintro r ww ⟨rfl, rfl⟩; dsimp only
        go_wp2_with fail
        refine (C.out).mono ?_
        rintro e w' ⟨rfl, hQ⟩; dsimp only
        replace hQ := Lib.hid hQ
        go_wp2_with fail
        go_ret
        exact ⟨rfl, hQ.out⟩

/-! ### What is taken -/
def takeR (s : Share) (v : Vec) : Int := if fitsV zeroV v = true then (if (addV s.used v).2 = 0 then (if fitsV (addV s.used v).1 s.quota = true then 0 else 220) else (addV s.used v).2) else 2
def takeS (s : Share) (v : Vec) : Share := if takeR s v = 0 then { s with used := (addV s.used v).1 } else s
theorem add_err (a b : Vec) : (addV a b).2 = 0 ∨ (addV a b).2 = 9 := by unfold addV eachV; split <;> simp
set_option maxHeartbeats 1000000 in
theorem take_clo (s : Share) (v : Vec) (B V : Nat) (w : World) (hs : s.ok) (hv : v.ok) (hB : Blk w B 39 s.cs) (hV : Blk w V 28 #[.int .i64 v.cpu, .int .i64 v.mem, .int .i64 v.disk]) (hBV : B ≠ V) :
    Calls Try.prog 28 #[ptrV B, ptrV V] w fun e w' => e = .returned (.int .i64 (takeR s v)) ∧ Blk w' B 39 (takeS s v).cs ∧ w.grownBy w' (some B) := by
  have ae := add_err s.used v
  have c1 := vec_Add s.used v hs.2.2.2 hv
  have c2 := q_plain v
  have c3 := vec_Fits (addV s.used v).1 s.quota
  unfold takeS takeR
  obtain ⟨u, b, ⟨q0, q1, q2⟩, ⟨u0, u1, u2⟩⟩ := s
  obtain ⟨v0, v1, v2⟩ := v
  dsimp only [Share.cs, Vec.v] at *
  generalize addV ⟨u0, u1, u2⟩ ⟨v0, v1, v2⟩ = r at *
  obtain ⟨⟨r0, r1, r2⟩, re⟩ := r
  dsimp only at *
  generalize fitsV zeroV ⟨v0, v1, v2⟩ = f1 at *
  generalize fitsV ⟨r0, r1, r2⟩ ⟨q0, q1, q2⟩ = f2 at *
  have C1 := Lib.hid c1
  have C2 := Lib.hid c2
  have C3 := Lib.hid c3
  clear c1 c2 c3 hs hv
  obtain ⟨Bc, Bf, Bl⟩ := hB.facts
  obtain ⟨Vc, Vf, Vl⟩ := hV.facts
  go_enter Try.func28, Try.ntmps28
  go_wp2_with fail
  apply wp_region_stored 9 28 #[.int .i64 0, .int .i64 0, .int .i64 0] #[.int .i64 r0, .int .i64 r1, .int .i64 r2]
  case hm => kernel_rfl
  case hB => kernel_rfl
  case hmk => exact ⟨_, rfl, rfl, fun a W => by kernel_rfl⟩
  case hq =>
    intro R hR x
    simp only [List.take_succ_cons, List.take_zero]
    repeat (go_big_quiet_step ((go_at_call 12; with_reducible exact later_of (C1.out _))))
    exact wpQuiet_nil hR
  case hst =>
    intro b
    refine ⟨_, rfl, rfl, rfl, fun W hX => ⟨putAll b W 0 [.int .i64 r0, .int .i64 r1, .int .i64 r2], ?_, putAll_all _ hX rfl, fun B w0 h hb => putAll_below h _ _ _ hb⟩⟩
    obtain ⟨Xc, Xf, Xl⟩ := hX.facts
    simp [go_sem, putAll, execOp, Act.put, Act.eval, Xc, Xf, Xl]
  simp only [List.drop_succ_cons, List.drop_zero, List.getElem?_toArray, List.getElem?_cons_succ, List.getElem?_cons_zero, Option.bind_some, Act.put, List.setIfInBounds_toArray, List.set_cons_succ, List.set_cons_zero]
  intro g W hBB hs hX
  have hgB : B ≠ g := by intro e; subst e; omega
  clear Bc Bf Bl Vc Vf Vl C1
  replace hB := hB.past hBB
  replace hV := hV.past hBB
  have hG := grown_of (some B) hBB
  clear hBB hs
  obtain ⟨Bc, Bf, Bl⟩ := hB.facts
  obtain ⟨Vc, Vf, Vl⟩ := hV.facts
  obtain ⟨Xc, Xf, Xl⟩ := hX.facts
  cases f1
  · go_wp2_with fail
    refine (C2.out _).mono ?_
    rintro e w1 ⟨rfl, hb1⟩; dsimp only
    replace hB := Lib.hid (hB.past hb1)
    replace hG := Lib.hid (grown_trans hG (grown_of (some B) hb1))
    clear Bc Bf Bl Vc Vf Vl Xc Xf Xl hb1 hX hV
    go_wp2_with fail
    go_ret
    exact ⟨rfl, hB.out, hG.out⟩
  · go_wp2_with fail
    refine (C2.out _).mono ?_
    rintro e w1 ⟨rfl, hb1⟩; dsimp only
    replace hB := hB.past hb1
    replace hX := hX.past hb1
    replace hG := Lib.hid (grown_trans hG (grown_of (some B) hb1))
    clear Bc Bf Bl Vc Vf Vl Xc Xf Xl hb1 hV
    obtain ⟨Bc, Bf, Bl⟩ := hB.facts
    obtain ⟨Xc, Xf, Xl⟩ := hX.facts
    rcases ae with rfl | rfl
    · replace hB := Lib.hid hB
      replace hX := Lib.hid hX
      cases f2
      · go_wp2_with fail
        refine wp_region_ext (by kernel_rfl) (by kernel_rfl) ?_
        repeat (go_big_quiet_step ((go_at_call 13; with_reducible exact ext_of (C3.out _))))
        refine wpQuiet_nil ?_
        rintro w2 ⟨x, rfl⟩
        go_wp2_with fail
        go_ret
        exact ⟨rfl, hB.out.past (extn_below _ x), grown_trans hG.out (grown_of (some B) (extn_below _ x))⟩
      · go_wp2_with fail
        refine wp_region_ext (by kernel_rfl) (by kernel_rfl) ?_
        repeat (go_big_quiet_step ((go_at_call 13; with_reducible exact ext_of (C3.out _))))
        refine wpQuiet_nil ?_
        rintro w2 ⟨x, rfl⟩
        go_wp2_with fail
        go_ret
        refine ⟨rfl, ?_, ?_⟩
        · exact (((hB.out.past (extn_below _ x)).put 5 _ rfl).put 6 _ rfl).put 7 _ rfl
        · exact grown_trans (grown_trans hG.out (grown_of (some B) (extn_below _ x))) (grown_trans (grown_trans (grown_set _ B 5 _) (grown_set _ B 6 _)) (grown_set _ B 7 _))
    · replace hB := Lib.hid hB
      go_wp2_with fail
      go_ret
      exact ⟨rfl, hB.out, hG.out⟩

/-! ### What is given back -/
def giveR (s : Share) (v : Vec) : Int := if fitsV zeroV v = true then (if fitsV v s.used = true then 0 else 2) else 2
def giveS (s : Share) (v : Vec) : Share := if giveR s v = 0 then { s with used := (subV s.used v).1 } else s
set_option maxHeartbeats 1000000 in
theorem give_clo (s : Share) (v : Vec) (B V : Nat) (w : World) (hs : s.ok) (hv : v.ok) (hB : Blk w B 39 s.cs) (hV : Blk w V 28 #[.int .i64 v.cpu, .int .i64 v.mem, .int .i64 v.disk]) :
    Calls Try.prog 32 #[ptrV B, ptrV V] w fun e w' => e = .returned (.int .i64 (giveR s v)) ∧ Blk w' B 39 (giveS s v).cs ∧ w.grownBy w' (some B) := by
  have c1 := vec_Sub s.used v hs.2.2.2 hv
  have c2 := q_plain v
  have c3 := vec_Fits v s.used
  unfold giveS giveR
  obtain ⟨u, b, ⟨q0, q1, q2⟩, ⟨u0, u1, u2⟩⟩ := s
  obtain ⟨v0, v1, v2⟩ := v
  dsimp only [Share.cs, Vec.v] at *
  generalize subV ⟨u0, u1, u2⟩ ⟨v0, v1, v2⟩ = r at *
  obtain ⟨⟨r0, r1, r2⟩, re⟩ := r
  dsimp only at *
  generalize fitsV zeroV ⟨v0, v1, v2⟩ = f1 at *
  generalize fitsV ⟨v0, v1, v2⟩ ⟨u0, u1, u2⟩ = f2 at *
  have C1 := Lib.hid c1
  have C2 := Lib.hid c2
  have C3 := Lib.hid c3
  clear c1 c2 c3 hs hv
  obtain ⟨Bc, Bf, Bl⟩ := hB.facts
  obtain ⟨Vc, Vf, Vl⟩ := hV.facts
  have hBl := Lib.hid hB
  have hVl := Lib.hid hV
  clear hB hV
  cases f1
  · go_enter Try.func32, Try.ntmps32
    go_wp2_with fail
    refine wp_region_ext (by kernel_rfl) (by kernel_rfl) ?_
    repeat (go_big_quiet_step ((first | (go_at_call 29; with_reducible exact ext_of (C2.out _)) | (go_at_call 13; with_reducible exact ext_of (C3.out _)))))
    refine wpQuiet_nil ?_
    rintro w2 ⟨x, rfl⟩
    go_wp2_with fail
    go_ret
    exact ⟨rfl, hBl.out.past (extn_below _ x), grown_of (some B) (extn_below _ x)⟩
  · cases f2
    · go_enter Try.func32, Try.ntmps32
      go_wp2_with fail
      refine wp_region_ext (by kernel_rfl) (by kernel_rfl) ?_
      repeat (go_big_quiet_step ((first | (go_at_call 29; with_reducible exact ext_of (C2.out _)) | (go_at_call 13; with_reducible exact ext_of (C3.out _)))))
      refine wpQuiet_nil ?_
      rintro w2 ⟨x, rfl⟩
      go_wp2_with fail
      go_ret
      exact ⟨rfl, hBl.out.past (extn_below _ x), grown_of (some B) (extn_below _ x)⟩
    · go_enter Try.func32, Try.ntmps32
      go_wp2_with fail
      refine wp_region_ext (by kernel_rfl) (by kernel_rfl) ?_
      repeat (go_big_quiet_step ((first | (go_at_call 29; with_reducible exact ext_of (C2.out _)) | (go_at_call 13; with_reducible exact ext_of (C3.out _)))))
      refine wpQuiet_nil ?_
      rintro w2 ⟨x, hx⟩
      have hb2 := hx ▸ extn_below _ x
      clear hx
      replace hBl := hBl.out.past hb2
      replace hVl := hVl.out.past hb2
      have hG := Lib.hid (grown_of (some B) hb2)
      clear Bc Bf Bl Vc Vf Vl hb2
      obtain ⟨Bc, Bf, Bl⟩ := hBl.facts
      obtain ⟨Vc, Vf, Vl⟩ := hVl.facts
      replace hBl := Lib.hid hBl
      go_wp2_with fail
      refine wp_region_left0 (S := fun l w' => Left 12 l → (w'.cell? ⟨B, 5, none⟩ = some (.int .i64 u0) ∧ w'.cell? ⟨B, 6, none⟩ = some (.int .i64 u1) ∧ w'.cell? ⟨B, 7, none⟩ = some (.int .i64 u2) ∧ w'.cell? ⟨V, 0, none⟩ = some (.int .i64 v0) ∧ w'.cell? ⟨V, 1, none⟩ = some (.int .i64 v1) ∧ w'.cell? ⟨V, 2, none⟩ = some (.int .i64 v2))) (by kernel_rfl) (fun _ => ⟨Bc 5, Bc 6, Bc 7, Vc 0, Vc 1, Vc 2⟩) (fun hHeld => ?_)
      refine wpAnyL_takeN (i := 0) (v := ?_) rfl (by kernel_rfl) (by kernel_rfl) (by kernel_rfl) (fun _ _ _ h => h) ?hS (Or.inl ⟨by rfl, ?hy⟩) hHeld ?_
      case hS => intro l w; (try dsimp only); simp (config := { decide := true }) only [left_set, ne_eq]
      case hy =>
        intro w hSw
        go_simp
        (try with_reducible rfl)
      clear hHeld
      intro hHeld
      try simp only [Act.put, List.getElem_toArray, List.getElem_cons_succ, List.getElem_cons_zero, List.setIfInBounds_toArray, List.set_cons_zero, List.set_cons_succ]
      refine wpAnyL_takeN (i := 1) (v := ?_) rfl (by kernel_rfl) (by kernel_rfl) (by kernel_rfl) (fun _ _ _ h => h) ?hS (Or.inl ⟨by rfl, ?hy⟩) hHeld ?_
      case hS => intro l w; (try dsimp only); simp (config := { decide := true }) only [left_set, ne_eq]
      case hy =>
        intro w hSw
        go_simp
        (try with_reducible rfl)
      clear hHeld
      intro hHeld
      try simp only [Act.put, List.getElem_toArray, List.getElem_cons_succ, List.getElem_cons_zero, List.setIfInBounds_toArray, List.set_cons_zero, List.set_cons_succ]
      refine wpAnyL_takeN (i := 2) (v := ?_) rfl (by kernel_rfl) (by kernel_rfl) (by kernel_rfl) (fun _ _ _ h => h) ?hS (Or.inl ⟨by rfl, ?hy⟩) hHeld ?_
      case hS => intro l w; (try dsimp only); simp (config := { decide := true }) only [left_set, ne_eq]
      case hy =>
        intro w hSw
        go_simp
        (try with_reducible rfl)
      clear hHeld
      intro hHeld
      try simp only [Act.put, List.getElem_toArray, List.getElem_cons_succ, List.getElem_cons_zero, List.setIfInBounds_toArray, List.set_cons_zero, List.set_cons_succ]
      refine wpAnyL_takeN (i := 3) (v := ?_) rfl (by kernel_rfl) (by kernel_rfl) (by kernel_rfl) (fun _ _ _ h => h) ?hS (Or.inl ⟨by rfl, ?hy⟩) hHeld ?_
      case hS => intro l w; (try dsimp only); simp (config := { decide := true }) only [left_set, ne_eq]
      case hy =>
        intro w hSw
        go_simp
        (try with_reducible rfl)
      clear hHeld
      intro hHeld
      try simp only [Act.put, List.getElem_toArray, List.getElem_cons_succ, List.getElem_cons_zero, List.setIfInBounds_toArray, List.set_cons_zero, List.set_cons_succ]
      refine wpAnyL_take (i := 4) (b := 12) (v := ?_) rfl (by kernel_rfl) (by kernel_rfl) (by kernel_rfl) (fun _ _ _ h => h) (by decide) (by kernel_rfl) ?hS (Or.inl ⟨by rfl, ?hy⟩) hHeld (by unfold Left; kernel_rfl) ?_
      case hS => intro l w; (try dsimp only); simp (config := { decide := true }) only [left_set, ne_eq]
      case hy =>
        rintro w ⟨l, hSw, hLw⟩
        (try dsimp only at hSw)
        (try simp only [hLw, true_implies] at hSw)
        go_simp
        (try with_reducible rfl)
      clear hHeld
      intro hHeld
      try simp only [Act.put, List.getElem_toArray, List.getElem_cons_succ, List.getElem_cons_zero, List.setIfInBounds_toArray, List.set_cons_zero, List.set_cons_succ]
      refine wpAnyL_take (i := 5) (b := 12) (v := ?_) rfl (by kernel_rfl) (by kernel_rfl) (by kernel_rfl) (fun _ _ _ h => h) (by decide) (by kernel_rfl) ?hS (Or.inl ⟨by rfl, ?hy⟩) hHeld (by unfold Left; kernel_rfl) ?_
      case hS => intro l w; (try dsimp only); simp (config := { decide := true }) only [left_set, ne_eq]
      case hy =>
        rintro w ⟨l, hSw, hLw⟩
        (try dsimp only at hSw)
        (try simp only [hLw, true_implies] at hSw)
        go_simp
        (try with_reducible rfl)
      clear hHeld
      intro hHeld
      try simp only [Act.put, List.getElem_toArray, List.getElem_cons_succ, List.getElem_cons_zero, List.setIfInBounds_toArray, List.set_cons_zero, List.set_cons_succ]
      refine wpAnyL_one 6 (by kernel_rfl) rfl (fun K hK => ?_)
      clear hHeld
      go_simp
      refine (C1.out _).mono ?_
      rintro r w3 ⟨rfl, hb2⟩; dsimp only
      replace hBl := (hBl.out.drew).past hb2
      have hVl2 := hVl.drew.past hb2
      replace hG := Lib.hid (grown_trans hG.out (grown_of (some B) (below_to (Below.refl _ _).drew hb2)))
      clear Bc Bf Bl Vc Vf Vl hb2 hVl
      refine hK.out _ _ (fun _ => ⟨hBl.cell 5, hBl.cell 6, hBl.cell 7, hVl2.cell 0, hVl2.cell 1, hVl2.cell 2⟩) (fun hHeld => ?_)
      clear hK K
      try simp only [Act.put, List.getElem_toArray, List.getElem_cons_succ, List.getElem_cons_zero, List.setIfInBounds_toArray, List.set_cons_zero, List.set_cons_succ]
      obtain ⟨Bc, Bf, Bl⟩ := hBl.facts
      replace hBl := Lib.hid hBl
      refine wpAnyL_takeN (i := 7) (v := ?_) rfl (by kernel_rfl) (by kernel_rfl) (by kernel_rfl) (fun _ _ _ h => h) ?hS (Or.inl ⟨by rfl, ?hy⟩) hHeld ?_
      case hS => intro l w; (try dsimp only); simp (config := { decide := true }) only [left_set, ne_eq]
      case hy =>
        intro w hSw
        go_simp
        (try with_reducible rfl)
      clear hHeld
      intro hHeld
      try simp only [Act.put, List.getElem_toArray, List.getElem_cons_succ, List.getElem_cons_zero, List.setIfInBounds_toArray, List.set_cons_zero, List.set_cons_succ]
      refine wpAnyL_takeN (i := 8) (v := ?_) rfl (by kernel_rfl) (by kernel_rfl) (by kernel_rfl) (fun _ _ _ h => h) ?hS (Or.inl ⟨by rfl, ?hy⟩) hHeld ?_
      case hS => intro l w; (try dsimp only); simp (config := { decide := true }) only [left_set, ne_eq]
      case hy =>
        intro w hSw
        go_simp
        (try with_reducible rfl)
      clear hHeld
      intro hHeld
      try simp only [Act.put, List.getElem_toArray, List.getElem_cons_succ, List.getElem_cons_zero, List.setIfInBounds_toArray, List.set_cons_zero, List.set_cons_succ]
      refine wpAnyL_takeN (i := 9) (v := ?_) rfl (by kernel_rfl) (by kernel_rfl) (by kernel_rfl) (fun _ _ _ h => h) ?hS (Or.inl ⟨by rfl, ?hy⟩) hHeld ?_
      case hS => intro l w; (try dsimp only); simp (config := { decide := true }) only [left_set, ne_eq]
      case hy =>
        intro w hSw
        go_simp
        (try with_reducible rfl)
      clear hHeld
      intro hHeld
      try simp only [Act.put, List.getElem_toArray, List.getElem_cons_succ, List.getElem_cons_zero, List.setIfInBounds_toArray, List.set_cons_zero, List.set_cons_succ]
      refine wpAnyL_takeN (i := 10) (v := ?_) rfl (by kernel_rfl) (by kernel_rfl) (by kernel_rfl) (fun _ _ _ h => h) ?hS (Or.inl ⟨by rfl, ?hy⟩) hHeld ?_
      case hS => intro l w; (try dsimp only); simp (config := { decide := true }) only [left_set, ne_eq]
      case hy =>
        intro w hSw
        go_simp
        (try with_reducible rfl)
      clear hHeld
      intro hHeld
      try simp only [Act.put, List.getElem_toArray, List.getElem_cons_succ, List.getElem_cons_zero, List.setIfInBounds_toArray, List.set_cons_zero, List.set_cons_succ]
      refine wpAnyL_takeN (i := 11) (v := ?_) rfl (by kernel_rfl) (by kernel_rfl) (by kernel_rfl) (fun _ _ _ h => h) ?hS (Or.inl ⟨by rfl, ?hy⟩) hHeld ?_
      case hS => intro l w; (try dsimp only); simp (config := { decide := true }) only [left_set, ne_eq]
      case hy =>
        intro w hSw
        go_simp
        (try with_reducible rfl)
      clear hHeld
      intro hHeld
      try simp only [Act.put, List.getElem_toArray, List.getElem_cons_succ, List.getElem_cons_zero, List.setIfInBounds_toArray, List.set_cons_zero, List.set_cons_succ]
      refine wpAnyL_one 12 (by kernel_rfl) rfl (fun K hK => ?_)
      clear hHeld
      go_simp
      refine hK.out _ _ (Left.gone (by kernel_rfl)) (fun hHeld => ?_)
      clear hK K
      try simp only [Act.put, List.getElem_toArray, List.getElem_cons_succ, List.getElem_cons_zero, List.setIfInBounds_toArray, List.set_cons_zero, List.set_cons_succ]
      refine wpAnyL_done (by kernel_rfl) ?_ _
      simp only [Exit.then]
      go_wp2_with fail
      go_ret
      refine ⟨rfl, ?_, ?_⟩
      · exact ((hBl.out.put 5 _ rfl).put 6 _ rfl).put 7 _ rfl
      · exact grown_trans hG.out (grown_trans (grown_trans (grown_set _ B 5 _) (grown_set _ B 6 _)) (grown_set _ B 7 _))

/-! ### What is left -/
def leftV (s : Share) : Vec := (subV s.quota (minV s.quota s.used)).1
set_option maxHeartbeats 1000000 in
theorem left_clo (s : Share) (B V : Nat) (cs : Array Value) (w : World) (hs : s.ok) (hB : Blk w B 39 s.cs) (hV : Blk w V 28 cs) (hcs : cs.size = 3) :
    Calls Try.prog 36 #[ptrV B, ptrV V] w fun e w' => e = .returned (.int .i64 0) ∧ Blk w' V 28 #[.int .i64 (leftV s).cpu, .int .i64 (leftV s).mem, .int .i64 (leftV s).disk] ∧ w.grownBy w' (some V) := by
  have hmin : (minV s.quota s.used).ok := by
    obtain ⟨_, _, ⟨⟨_, _⟩, ⟨_, _⟩, ⟨_, _⟩⟩, ⟨⟨_, _⟩, ⟨_, _⟩, ⟨_, _⟩⟩⟩ := hs
    unfold minV pickV
    refine ⟨⟨?_, ?_⟩, ⟨?_, ?_⟩, ⟨?_, ?_⟩⟩ <;> dsimp only <;> omega
  have c1 := vec_Min s.quota s.used hs.2.2.1 hs.2.2.2
  have c2 := vec_Sub s.quota (minV s.quota s.used) hs.2.2.1 hmin
  unfold leftV
  obtain ⟨u, b, ⟨q0, q1, q2⟩, ⟨u0, u1, u2⟩⟩ := s
  dsimp only [Share.cs, Vec.v] at *
  generalize minV ⟨q0, q1, q2⟩ ⟨u0, u1, u2⟩ = m at *
  obtain ⟨m0, m1, m2⟩ := m
  dsimp only at *
  generalize subV ⟨q0, q1, q2⟩ ⟨m0, m1, m2⟩ = r at *
  obtain ⟨⟨r0, r1, r2⟩, re⟩ := r
  dsimp only at *
  obtain ⟨x0, x1, x2, rfl⟩ : ∃ x0 x1 x2, cs = #[x0, x1, x2] := by
    obtain ⟨l⟩ := cs
    match l, hcs with
    | [a, b, c], _ => exact ⟨a, b, c, rfl⟩
  clear hcs
  have C1 := Lib.hid c1
  have C2 := Lib.hid c2
  clear c1 c2 hs hmin
  obtain ⟨Bc, Bf, Bl⟩ := hB.facts
  obtain ⟨Vc, Vf, Vl⟩ := hV.facts
  have hVl := Lib.hid hV
  clear hV
  go_enter Try.func36, Try.ntmps36
  go_wp2_with fail
  refine wp_region_left0 (S := fun l w' => Left 17 l → (w'.cell? ⟨B, 2, none⟩ = some (.int .i64 q0) ∧ w'.cell? ⟨B, 3, none⟩ = some (.int .i64 q1) ∧ w'.cell? ⟨B, 4, none⟩ = some (.int .i64 q2) ∧ w'.cell? ⟨B, 5, none⟩ = some (.int .i64 u0) ∧ w'.cell? ⟨B, 6, none⟩ = some (.int .i64 u1) ∧ w'.cell? ⟨B, 7, none⟩ = some (.int .i64 u2))) (by kernel_rfl) (fun _ => ⟨Bc 2, Bc 3, Bc 4, Bc 5, Bc 6, Bc 7⟩) (fun hHeld => ?_)
  refine wpAnyL_takeN (i := 0) (v := ?_) rfl (by kernel_rfl) (by kernel_rfl) (by kernel_rfl) (fun _ _ _ h => h) ?hS (Or.inl ⟨by rfl, ?hy⟩) hHeld ?_
  case hS => intro l w; (try dsimp only); simp (config := { decide := true }) only [left_set, ne_eq]
  case hy =>
    intro w hSw
    go_simp
    (try with_reducible rfl)
  clear hHeld
  intro hHeld
  try simp only [Act.put, List.getElem_toArray, List.getElem_cons_succ, List.getElem_cons_zero, List.setIfInBounds_toArray, List.set_cons_zero, List.set_cons_succ]
  refine wpAnyL_takeN (i := 1) (v := ?_) rfl (by kernel_rfl) (by kernel_rfl) (by kernel_rfl) (fun _ _ _ h => h) ?hS (Or.inl ⟨by rfl, ?hy⟩) hHeld ?_
  case hS => intro l w; (try dsimp only); simp (config := { decide := true }) only [left_set, ne_eq]
  case hy =>
    intro w hSw
    go_simp
    (try with_reducible rfl)
  clear hHeld
  intro hHeld
  try simp only [Act.put, List.getElem_toArray, List.getElem_cons_succ, List.getElem_cons_zero, List.setIfInBounds_toArray, List.set_cons_zero, List.set_cons_succ]
  refine wpAnyL_takeN (i := 2) (v := ?_) rfl (by kernel_rfl) (by kernel_rfl) (by kernel_rfl) (fun _ _ _ h => h) ?hS (Or.inl ⟨by rfl, ?hy⟩) hHeld ?_
  case hS => intro l w; (try dsimp only); simp (config := { decide := true }) only [left_set, ne_eq]
  case hy =>
    intro w hSw
    go_simp
    (try with_reducible rfl)
  clear hHeld
  intro hHeld
  try simp only [Act.put, List.getElem_toArray, List.getElem_cons_succ, List.getElem_cons_zero, List.setIfInBounds_toArray, List.set_cons_zero, List.set_cons_succ]
  refine wpAnyL_take (i := 3) (b := 17) (v := ?_) rfl (by kernel_rfl) (by kernel_rfl) (by kernel_rfl) (fun _ _ _ h => h) (by decide) (by kernel_rfl) ?hS (Or.inl ⟨by rfl, ?hy⟩) hHeld (by unfold Left; kernel_rfl) ?_
  case hS => intro l w; (try dsimp only); simp (config := { decide := true }) only [left_set, ne_eq]
  case hy =>
    rintro w ⟨l, hSw, hLw⟩
    (try dsimp only at hSw)
    (try simp only [hLw, true_implies] at hSw)
    go_simp
    (try with_reducible rfl)
  clear hHeld
  intro hHeld
  try simp only [Act.put, List.getElem_toArray, List.getElem_cons_succ, List.getElem_cons_zero, List.setIfInBounds_toArray, List.set_cons_zero, List.set_cons_succ]
  refine wpAnyL_takeN (i := 4) (v := ?_) rfl (by kernel_rfl) (by kernel_rfl) (by kernel_rfl) (fun _ _ _ h => h) ?hS (Or.inl ⟨by rfl, ?hy⟩) hHeld ?_
  case hS => intro l w; (try dsimp only); simp (config := { decide := true }) only [left_set, ne_eq]
  case hy =>
    intro w hSw
    go_simp
    (try with_reducible rfl)
  clear hHeld
  intro hHeld
  try simp only [Act.put, List.getElem_toArray, List.getElem_cons_succ, List.getElem_cons_zero, List.setIfInBounds_toArray, List.set_cons_zero, List.set_cons_succ]
  refine wpAnyL_takeN (i := 5) (v := ?_) rfl (by kernel_rfl) (by kernel_rfl) (by kernel_rfl) (fun _ _ _ h => h) ?hS (Or.inl ⟨by rfl, ?hy⟩) hHeld ?_
  case hS => intro l w; (try dsimp only); simp (config := { decide := true }) only [left_set, ne_eq]
  case hy =>
    intro w hSw
    go_simp
    (try with_reducible rfl)
  clear hHeld
  intro hHeld
  try simp only [Act.put, List.getElem_toArray, List.getElem_cons_succ, List.getElem_cons_zero, List.setIfInBounds_toArray, List.set_cons_zero, List.set_cons_succ]
  refine wpAnyL_takeN (i := 6) (v := ?_) rfl (by kernel_rfl) (by kernel_rfl) (by kernel_rfl) (fun _ _ _ h => h) ?hS (Or.inl ⟨by rfl, ?hy⟩) hHeld ?_
  case hS => intro l w; (try dsimp only); simp (config := { decide := true }) only [left_set, ne_eq]
  case hy =>
    intro w hSw
    go_simp
    (try with_reducible rfl)
  clear hHeld
  intro hHeld
  try simp only [Act.put, List.getElem_toArray, List.getElem_cons_succ, List.getElem_cons_zero, List.setIfInBounds_toArray, List.set_cons_zero, List.set_cons_succ]
  refine wpAnyL_take (i := 7) (b := 17) (v := ?_) rfl (by kernel_rfl) (by kernel_rfl) (by kernel_rfl) (fun _ _ _ h => h) (by decide) (by kernel_rfl) ?hS (Or.inl ⟨by rfl, ?hy⟩) hHeld (by unfold Left; kernel_rfl) ?_
  case hS => intro l w; (try dsimp only); simp (config := { decide := true }) only [left_set, ne_eq]
  case hy =>
    rintro w ⟨l, hSw, hLw⟩
    (try dsimp only at hSw)
    (try simp only [hLw, true_implies] at hSw)
    go_simp
    (try with_reducible rfl)
  clear hHeld
  intro hHeld
  try simp only [Act.put, List.getElem_toArray, List.getElem_cons_succ, List.getElem_cons_zero, List.setIfInBounds_toArray, List.set_cons_zero, List.set_cons_succ]
  refine wpAnyL_takeN (i := 8) (v := ?_) rfl (by kernel_rfl) (by kernel_rfl) (by kernel_rfl) (fun _ _ _ h => h) ?hS (Or.inl ⟨by rfl, ?hy⟩) hHeld ?_
  case hS => intro l w; (try dsimp only); simp (config := { decide := true }) only [left_set, ne_eq]
  case hy =>
    intro w hSw
    go_simp
    (try with_reducible rfl)
  clear hHeld
  intro hHeld
  try simp only [Act.put, List.getElem_toArray, List.getElem_cons_succ, List.getElem_cons_zero, List.setIfInBounds_toArray, List.set_cons_zero, List.set_cons_succ]
  refine wpAnyL_takeN (i := 9) (v := ?_) rfl (by kernel_rfl) (by kernel_rfl) (by kernel_rfl) (fun _ _ _ h => h) ?hS (Or.inl ⟨by rfl, ?hy⟩) hHeld ?_
  case hS => intro l w; (try dsimp only); simp (config := { decide := true }) only [left_set, ne_eq]
  case hy =>
    intro w hSw
    go_simp
    (try with_reducible rfl)
  clear hHeld
  intro hHeld
  try simp only [Act.put, List.getElem_toArray, List.getElem_cons_succ, List.getElem_cons_zero, List.setIfInBounds_toArray, List.set_cons_zero, List.set_cons_succ]
  refine wpAnyL_takeN (i := 10) (v := ?_) rfl (by kernel_rfl) (by kernel_rfl) (by kernel_rfl) (fun _ _ _ h => h) ?hS (Or.inl ⟨by rfl, ?hy⟩) hHeld ?_
  case hS => intro l w; (try dsimp only); simp (config := { decide := true }) only [left_set, ne_eq]
  case hy =>
    intro w hSw
    go_simp
    (try with_reducible rfl)
  clear hHeld
  intro hHeld
  try simp only [Act.put, List.getElem_toArray, List.getElem_cons_succ, List.getElem_cons_zero, List.setIfInBounds_toArray, List.set_cons_zero, List.set_cons_succ]
  refine wpAnyL_take (i := 11) (b := 17) (v := ?_) rfl (by kernel_rfl) (by kernel_rfl) (by kernel_rfl) (fun _ _ _ h => h) (by decide) (by kernel_rfl) ?hS (Or.inl ⟨by rfl, ?hy⟩) hHeld (by unfold Left; kernel_rfl) ?_
  case hS => intro l w; (try dsimp only); simp (config := { decide := true }) only [left_set, ne_eq]
  case hy =>
    rintro w ⟨l, hSw, hLw⟩
    (try dsimp only at hSw)
    (try simp only [hLw, true_implies] at hSw)
    go_simp
    (try with_reducible rfl)
  clear hHeld
  intro hHeld
  try simp only [Act.put, List.getElem_toArray, List.getElem_cons_succ, List.getElem_cons_zero, List.setIfInBounds_toArray, List.set_cons_zero, List.set_cons_succ]
  refine wpAnyL_one 12 (by kernel_rfl) rfl (fun K hK => ?_)
  clear hHeld
  go_simp
  refine (C1.out _).mono ?_
  rintro r w2 ⟨rfl, hb2⟩; dsimp only
  have hB2 := hB.drew.past hb2
  replace hVl := hVl.out.drew.past hb2
  have hG := Lib.hid (grown_of (some V) (below_to (Below.refl _ _).drew hb2))
  clear Bc Bf Bl Vc Vf Vl hb2 hB
  refine hK.out _ _ (fun _ => ⟨hB2.cell 2, hB2.cell 3, hB2.cell 4, hB2.cell 5, hB2.cell 6, hB2.cell 7⟩) (fun hHeld => ?_)
  clear hK K
  try simp only [Act.put, List.getElem_toArray, List.getElem_cons_succ, List.getElem_cons_zero, List.setIfInBounds_toArray, List.set_cons_zero, List.set_cons_succ]
  refine wpAnyL_one 13 (by kernel_rfl) rfl (fun K hK => ?_)
  clear hHeld
  go_simp
  refine (C2.out _).mono ?_
  rintro r w3 ⟨rfl, hb2⟩; dsimp only
  replace hB2 := hB2.past hb2
  replace hVl := hVl.past hb2
  replace hG := Lib.hid (grown_trans hG.out (grown_of (some V) hb2))
  clear hb2
  refine hK.out _ _ (fun _ => ⟨hB2.cell 2, hB2.cell 3, hB2.cell 4, hB2.cell 5, hB2.cell 6, hB2.cell 7⟩) (fun hHeld => ?_)
  clear hK K
  try simp only [Act.put, List.getElem_toArray, List.getElem_cons_succ, List.getElem_cons_zero, List.setIfInBounds_toArray, List.set_cons_zero, List.set_cons_succ]
  obtain ⟨Vc, Vf, Vl⟩ := hVl.facts
  replace hVl := Lib.hid hVl
  refine wpAnyL_takeN (i := 14) (v := ?_) rfl (by kernel_rfl) (by kernel_rfl) (by kernel_rfl) (fun _ _ _ h => h) ?hS (Or.inl ⟨by rfl, ?hy⟩) hHeld ?_
  case hS => intro l w; (try dsimp only); simp (config := { decide := true }) only [left_set, ne_eq]
  case hy =>
    intro w hSw
    go_simp
    (try with_reducible rfl)
  clear hHeld
  intro hHeld
  try simp only [Act.put, List.getElem_toArray, List.getElem_cons_succ, List.getElem_cons_zero, List.setIfInBounds_toArray, List.set_cons_zero, List.set_cons_succ]
  refine wpAnyL_takeN (i := 15) (v := ?_) rfl (by kernel_rfl) (by kernel_rfl) (by kernel_rfl) (fun _ _ _ h => h) ?hS (Or.inl ⟨by rfl, ?hy⟩) hHeld ?_
  case hS => intro l w; (try dsimp only); simp (config := { decide := true }) only [left_set, ne_eq]
  case hy =>
    intro w hSw
    go_simp
    (try with_reducible rfl)
  clear hHeld
  intro hHeld
  try simp only [Act.put, List.getElem_toArray, List.getElem_cons_succ, List.getElem_cons_zero, List.setIfInBounds_toArray, List.set_cons_zero, List.set_cons_succ]
  refine wpAnyL_takeN (i := 16) (v := ?_) rfl (by kernel_rfl) (by kernel_rfl) (by kernel_rfl) (fun _ _ _ h => h) ?hS (Or.inl ⟨by rfl, ?hy⟩) hHeld ?_
  case hS => intro l w; (try dsimp only); simp (config := { decide := true }) only [left_set, ne_eq]
  case hy =>
    intro w hSw
    go_simp
    (try with_reducible rfl)
  clear hHeld
  intro hHeld
  try simp only [Act.put, List.getElem_toArray, List.getElem_cons_succ, List.getElem_cons_zero, List.setIfInBounds_toArray, List.set_cons_zero, List.set_cons_succ]
  refine wpAnyL_one 17 (by kernel_rfl) rfl (fun K hK => ?_)
  clear hHeld
  go_simp
  refine hK.out _ _ (Left.gone (by kernel_rfl)) (fun hHeld => ?_)
  clear hK K
  try simp only [Act.put, List.getElem_toArray, List.getElem_cons_succ, List.getElem_cons_zero, List.setIfInBounds_toArray, List.set_cons_zero, List.set_cons_succ]
  refine wpAnyL_done (by kernel_rfl) ?_ _
  simp only [Exit.then]
  go_wp2_with fail
  go_ret
  refine ⟨rfl, ?_, ?_⟩
  · exact ((hVl.out.put 0 _ rfl).put 1 _ rfl).put 2 _ rfl
  · exact grown_trans hG.out (grown_trans (grown_trans (grown_set _ V 0 _) (grown_set _ V 1 _)) (grown_set _ V 2 _))
end Go.Proofs.Ytcjgblopcfcakaa
