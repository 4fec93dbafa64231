/- Ledgers, walked: Set. Conditions: what comes in is of its kind. -/
import Derived.Test.YtcjgblopcfcakaaQt4
import Derived.Test.YtcjgblopcfcakaaK17
namespace Go.Proofs.Ytcjgblopcfcakaa
open Go.RowKit Go.MapKept
open Go.ChangeMaps (setBlock)

theorem run_lenmap {w : World} {M : Nat} {es : Array MapEntry} {clock : Nat} (h : w.heap[M]? = some (.map es clock)) (ty : TypeId) : (Builtin.len_ #[53] ty #[.map (some M)]).run Try.prog w = .ok (.int .i64 es.size) w := by
  simp [Builtin.len_, run_underlying Try.underlying53, MapKept.run_getObj_map h, Result.andThen]; rfl
theorem only_push {w w4 : World} {M : Nat} {o o2 : Obj} {es : Array MapEntry} {c : Nat} {S : Nat → Prop} (hb : Below w.heap.size w w4) (hM : (w4.drew.alloc o).heap[M]? = some (.map es c)) (hS : S M) : OnlyS S w (setBlock (w4.drew.alloc o) M o2) :=
  ⟨hb.os, hb.tape, hb.output, by have := hb.size; simp [setBlock]; show w.heap.size ≤ w4.heap.size + 1; omega, fun k hk hn => (Go.ChangeMaps.heap_setBlock_other hM _ (fun e => hn (by rw [e]; exact hS))).trans ((Below.heap_alloc _ _ k (Nat.lt_of_lt_of_le hk hb.size)).trans (hb.block k hk))⟩
theorem blk_push {w4 : World} {M : Nat} {o o2 : Obj} {es : Array MapEntry} {c : Nat} {g : Nat} {t : TypeId} {cs : Array Value} (hM : (w4.drew.alloc o).heap[M]? = some (.map es c)) (h : Blk w4 g t cs) (hne : g ≠ M) : Blk (setBlock (w4.drew.alloc o) M o2) g t cs :=
  (Go.ChangeMaps.heap_setBlock_other hM _ hne).trans (h.drew.alloc o)
theorem upd_put {L : List Share} {u : ByteArray} {b : Int} {s : Share} (f : Share → Share) (hf : ∀ s, (f s).user = s.user ∧ (f s).band = s.band) (hk : isK u b s = true) (hg : getS L u b = none) : updS (putS s L) u b f = putS (f s) L := by
  induction L with
  | nil => simp [putS, updS, hk]
  | cons x L ih =>
    have hx : isK u b x = false := by have := List.find?_eq_none.1 hg x (by simp); simpa using this
    have hg' : getS L u b = none := List.find?_eq_none.2 (fun y hy => List.find?_eq_none.1 hg y (by simp [hy]))
    have hL : updS L u b f = L := by
      unfold updS
      conv => rhs; rw [← List.map_id L]
      refine List.map_congr_left fun y hy => ?_
      have := List.find?_eq_none.1 hg' y hy
      rw [if_neg this]; rfl
    unfold putS
    rw [(hf s).1, (hf s).2]
    split
    · show (if isK u b s = true then f s else s) :: (if isK u b x = true then f x else x) :: updS L u b f = _
      rw [if_pos hk, if_neg (by rw [hx]; decide), hL]
    · show (if isK u b x = true then f x else x) :: updS (putS s L) u b f = _
      rw [if_neg (by rw [hx]; decide), ih hg']
set_option maxHeartbeats 2000000 in
theorem q_Set (w : World) (P : Nat) (S : Nat → Prop) (L : List Share) (h : Led w P S L) (u : ByteArray) (b : Int) (v : Vec) (hu : u.size ≤ 9223372036854775807) (hb : U8 b) (hv : v.ok) :
    Calls Try.prog 10 #[ptrV P, .string u, .int .u8 b, v.v] w fun e w' => e = .returned (.int .i64 (setE L u b v)) ∧ ∃ S', Led w' P S' (setL L u b v) ∧ (∀ c, S' c → S c ∨ w.heap.size ≤ c) ∧ OnlyS S w w' := by
  have h0 := Lib.hid h
  obtain ⟨M, es, clock, bx, hM, hp, hr, hS⟩ := h
  have hltM := hM.ltM
  have c1 := spec_Name u
  have c2 := q_banded b
  have c3 := vec_May v
  have N := Lib.hid (fun W h => q_none_led P M W h)
  obtain ⟨v0, v1, v2⟩ := v
  unfold setE setL
  unfold setE
  generalize nameB u = f1 at *
  generalize bandB b = f2 at *
  generalize mayV ⟨v0, v1, v2⟩ = f3 at *
  have C1 := Lib.hid c1
  have C2 := Lib.hid c2
  have C3 := Lib.hid c3
  clear c1 c2 c3
  go_enter Try.func10, Try.ntmps10
  go_wp2_with fail
  refine at_world (F := fun W => Below w.heap.size w W ∧ LedM W P M es clock bx ∧ Blk W w.heap.size 28 #[.int .i64 v0, .int .i64 v1, .int .i64 v2] ∧ Blk W (w.heap.size + 1) 57 #[.string u, .int .u8 b]) ⟨by go_grown, hM.past (by go_grown), (Blk.new w _ _).alloc _, Blk.new1 w _ _ _⟩ ?_
  clear hM
  rintro W ⟨hW, hM, hV, hY⟩
  refine (N.out W hM.top).mono ?_
  rintro r ww ⟨rfl, rfl⟩; dsimp only
  clear N
  cases f1
  · go_wp2_with fail
    refine (C1.out _).mono ?_
    rintro r w1 ⟨rfl, hb1⟩; dsimp only
    replace hW := Lib.hid (below_to hW hb1)
    clear hb1
    go_wp2_with fail
    go_ret
    exact ⟨rfl, S, h0.out.past hW.out, fun _ h => Or.inl h, OnlyS.below hW.out⟩
  go_wp2_with fail
  refine (C1.out _).mono ?_
  rintro r w1 ⟨rfl, hb1⟩; dsimp only
  replace hW := below_to hW hb1
  replace hM := hM.past hb1
  replace hV := hV.past hb1
  replace hY := hY.past hb1
  clear hb1
  go_wp2_with fail
  refine (C2.out _).mono ?_
  rintro r ww ⟨rfl, rfl⟩; dsimp only
  cases f2
  · replace hW := Lib.hid hW
    go_wp2_with fail
    go_ret
    exact ⟨rfl, S, h0.out.past hW.out, fun _ h => Or.inl h, OnlyS.below hW.out⟩
  obtain ⟨Pc, Pf, Pl⟩ := hM.top.facts
  obtain ⟨Vc, Vf, Vl⟩ := hV.facts
  obtain ⟨Yc, Yf, Yl⟩ := hY.facts
  go_wp2_with fail
  refine (C3.out _).mono ?_
  rintro r w2 ⟨rfl, hb1⟩; dsimp only
  clear Pc Pf Pl Vc Vf Vl Yc Yf Yl
  replace hW := below_to hW hb1
  replace hM := hM.past hb1
  replace hV := hV.past hb1
  replace hY := hY.past hb1
  clear hb1
  clear C1 C2 C3
  cases f3
  · replace hW := Lib.hid hW
    go_wp2_with fail
    go_ret
    exact ⟨rfl, S, h0.out.past hW.out, fun _ h => Or.inl h, OnlyS.below hW.out⟩
  cases hg : getS L u b with
  | some s =>
    obtain ⟨hk, B, hx⟩ := get_some hp hg
    have q1 := hM.look_yesX hu hb hx hk
    obtain ⟨Pc, Pf, Pl⟩ := hM.top.facts
    obtain ⟨Vc, Vf, Vl⟩ := hV.facts
    obtain ⟨Yc, Yf, Yl⟩ := hY.facts
    go_wp2_with fail
    refine wp_region_ext (by kernel_rfl) (by kernel_rfl) ?_
    repeat (go_big_quiet_step (fail))
    refine wpQuiet_nil ?_
    rintro w3 ⟨x, hx3⟩
    have hb1 : Below w2.heap.size w2 w3 := hx3 ▸ extn_below _ x
    clear hx3 q1
    clear Pc Pf Pl Vc Vf Vl Yc Yf Yl
    replace hW := below_to hW hb1
    replace hM := hM.past hb1
    replace hV := hV.past hb1
    replace hY := hY.past hb1
    clear hb1
    have q1 := hM.look_yesX hu hb hx hk
    obtain ⟨Pc, Pf, Pl⟩ := hM.top.facts
    obtain ⟨Vc, Vf, Vl⟩ := hV.facts
    obtain ⟨Yc, Yf, Yl⟩ := hY.facts
    go_wp2_with fail
    refine wp_region_ext (by kernel_rfl) (by kernel_rfl) ?_
    repeat (go_big_quiet_step (fail))
    refine wpQuiet_nil ?_
    rintro w4 ⟨x, hx3⟩
    have hb1 : Below w3.heap.size w3 w4 := hx3 ▸ extn_below _ x
    clear hx3 q1
    clear Pc Pf Pl Vc Vf Vl Yc Yf Yl
    replace hW := below_to hW hb1
    replace hM := hM.past hb1
    replace hV := hV.past hb1
    replace hY := hY.past hb1
    clear hb1
    have q1 := hM.look_yesX hu hb hx hk
    have hBx := hM.boxes _ hx
    obtain ⟨Pc, Pf, Pl⟩ := hM.top.facts
    obtain ⟨Vc, Vf, Vl⟩ := hV.facts
    obtain ⟨Yc, Yf, Yl⟩ := hY.facts
    go_wp2_with fail
    refine wp_region_ext_tail 7 (by kernel_rfl) (by kernel_rfl) ?_
    simp only [List.take_succ_cons, List.take_zero, List.drop_succ_cons, List.drop_zero]
    repeat (go_big_quiet_step (fail))
    refine wpQuiet_nil ?_
    rintro w5 ⟨x, hx3⟩
    have hb1 : Below (World.heap w4).size w4 w5 := hx3 ▸ extn_below _ x
    clear hx3 q1
    clear Pc Pf Pl Vc Vf Vl Yc Yf Yl
    replace hW := below_to hW hb1
    replace hM := hM.past hb1
    replace hV := hV.past hb1
    replace hY := hY.past hb1
    clear hb1
    replace hBx := hM.boxes _ hx
    obtain ⟨Bc, Bf, Bl⟩ := hBx.facts
    go_wp2_with fail
    go_ret
    have hB2 := ((hBx.put 2 (.int .i64 v0) rfl).put 3 (.int .i64 v1) rfl).put 4 (.int .i64 v2) rfl
    have hG := grown_trans (grown_trans (grown_set w5 B 2 (.int .i64 v0)) (grown_set _ B 3 (.int .i64 v1))) (grown_set _ B 4 (.int .i64 v2))
    obtain ⟨z1, z2⟩ := Led.turned hW hM hp hr hS hx hk (setS ⟨v0, v1, v2⟩) (fun s => ⟨rfl, rfl⟩) ⟨(hM.oks _ hx).1, (hM.oks _ hx).2.1, hv, (hM.oks _ hx).2.2.2⟩ hB2 hG
    simp only [hg, if_true]
    exact ⟨rfl, S, z1, fun _ h => Or.inl h, z2⟩
  | none =>
    have hno := get_none hp hg
    have hlen : es.size = L.length := by rw [hM.len, ← hp.length_eq, List.length_map]
    have q1 := hM.look_noX hu hb hno
    have q2 := fun ty x => run_lenmap (hM.mapX x) ty
    by_cases hfull : 64 ≤ L.length
    · have d1 : decide ((64 : Int) ≤ (es.size : Int)) = true := decide_eq_true (by omega)
      obtain ⟨Pc, Pf, Pl⟩ := hM.top.facts
      obtain ⟨Vc, Vf, Vl⟩ := hV.facts
      obtain ⟨Yc, Yf, Yl⟩ := hY.facts
      go_wp2_with fail
      refine wp_region_ext (by kernel_rfl) (by kernel_rfl) ?_
      repeat (go_big_quiet_step (fail))
      refine wpQuiet_nil ?_
      rintro w3 ⟨x, hx3⟩
      have hb1 : Below w2.heap.size w2 w3 := hx3 ▸ extn_below _ x
      replace hW := Lib.hid (below_to hW hb1)
      clear hx3 q1 q2 hM hV hY hb1 hr hp hS
      clear Pc Pf Pl Vc Vf Vl Yc Yf Yl
      go_wp2_with fail
      go_ret
      simp only [hg, if_true, if_pos hfull]
      exact ⟨rfl, S, h0.out.past hW.out, fun _ h => Or.inl h, OnlyS.below hW.out⟩
    · have d1 : decide ((64 : Int) ≤ (es.size : Int)) = false := decide_eq_false (by omega)
      obtain ⟨Pc, Pf, Pl⟩ := hM.top.facts
      obtain ⟨Vc, Vf, Vl⟩ := hV.facts
      obtain ⟨Yc, Yf, Yl⟩ := hY.facts
      go_wp2_with fail
      refine wp_region_ext (by kernel_rfl) (by kernel_rfl) ?_
      repeat (go_big_quiet_step (fail))
      refine wpQuiet_nil ?_
      rintro w3 ⟨x, hx3⟩
      have hb1 : Below w2.heap.size w2 w3 := hx3 ▸ extn_below _ x
      clear hx3 q1 q2 d1
      clear Pc Pf Pl Vc Vf Vl Yc Yf Yl
      replace hW := below_to hW hb1
      replace hM := hM.past hb1
      replace hV := hV.past hb1
      replace hY := hY.past hb1
      clear hb1
      have q1 := hM.look_noX hu hb hno
      obtain ⟨Pc, Pf, Pl⟩ := hM.top.facts
      obtain ⟨Vc, Vf, Vl⟩ := hV.facts
      obtain ⟨Yc, Yf, Yl⟩ := hY.facts
      go_wp2_with fail
      refine wp_region_ext (by kernel_rfl) (by kernel_rfl) ?_
      repeat (go_big_quiet_step (fail))
      refine wpQuiet_nil ?_
      rintro w4 ⟨x, hx3⟩
      have hb1 : Below w3.heap.size w3 w4 := hx3 ▸ extn_below _ x
      clear hx3 q1
      clear Pc Pf Pl Vc Vf Vl Yc Yf Yl
      replace hW := below_to hW hb1
      replace hM := hM.past hb1
      replace hV := hV.past hb1
      replace hY := hY.past hb1
      clear hb1
      have hk : isK u b ⟨u, b, ⟨0, 0, 0⟩, ⟨0, 0, 0⟩⟩ = true := isK_iff.2 ⟨rfl, rfl⟩
      have hn2 : ∀ x ∈ bx, x.1.kv ≠ (⟨u, b, ⟨0, 0, 0⟩, ⟨0, 0, 0⟩⟩ : Share).kv := fun x hx => none_kv hk hg x.1 (hp.mem_iff.1 (List.mem_map_of_mem (f := Prod.fst) hx))
      have hok : (⟨u, b, ⟨0, 0, 0⟩, ⟨0, 0, 0⟩⟩ : Share).ok := ⟨hu, hb, by show (zeroV).ok; decide, by show (zeroV).ok; decide⟩
      have hfew : bx.length < 64 := by have := hp.length_eq; rw [List.length_map] at this; omega
      have hD : Below w4.heap.size w4 w4.drew := (Below.refl _ _).drew
      have hP := hM.push hn2 hok hfew hD
      obtain ⟨kl, hkl⟩ := key_of u b hu hb
      have hst := store_absent (val := ptrV w4.heap.size) (w := w4.drew.alloc (.cells #[.string u, .int .u8 b, .int .i64 0, .int .i64 0, .int .i64 0, .int .i64 0, .int .i64 0, .int .i64 0] 39)) key_law Try.underlying53 (((hM.past (w' := w4.drew) hD).past (below_own (below_self _) _)).map) hM.fit hkl (fun x hx e => by
        have : x.key ∈ bx.map (fun x => x.1.kv) := hM.kvs ▸ List.mem_map_of_mem (f := (·.key)) hx
        obtain ⟨y, hy, e'⟩ := List.mem_map.1 this
        exact hn2 y hy (e'.trans e))
      obtain ⟨Pc, Pf, Pl⟩ := hM.top.facts
      obtain ⟨Vc, Vf, Vl⟩ := hV.facts
      obtain ⟨Yc, Yf, Yl⟩ := hY.facts
      go_wp2_with fail
      refine wp_region_held_drew (S := (fun w' => w'.cell? ⟨P, 0, none⟩ = some (.map (some M)) ∧ w'.cell? ⟨w.heap.size + 1, 0, none⟩ = some (.string u) ∧ w'.cell? ⟨w.heap.size + 1, 1, none⟩ = some (.int .u8 b))) (by kernel_rfl) ⟨Pc 0, Yc 0, Yc 1⟩ (fun hHeld => ?_)
      refine wpAnyH_take (i := 0) (v := ?_) rfl (by kernel_rfl) (by kernel_rfl) (by kernel_rfl) (fun _ _ _ h => h) (Or.inl ⟨by rfl, ?hy⟩) hHeld ?_
      case hy =>
        intro w hSw
        (try dsimp only at hSw)
        go_simp
        (try with_reducible rfl)
      try simp only [Act.put, List.getElem_toArray, List.getElem_cons_zero, List.setIfInBounds_toArray, List.set_cons_zero, List.set_cons_succ]
      refine wpAnyH_take (i := 1) (v := ?_) rfl (by kernel_rfl) (by kernel_rfl) (by kernel_rfl) (fun _ _ _ h => h) (Or.inl ⟨by rfl, ?hy⟩) hHeld ?_
      case hy =>
        intro w hSw
        (try dsimp only at hSw)
        go_simp
        (try with_reducible rfl)
      try simp only [Act.put, List.getElem_toArray, List.getElem_cons_succ, List.getElem_cons_zero, List.setIfInBounds_toArray, List.set_cons_zero, List.set_cons_succ]
      refine wpAnyH_take (i := 2) (v := ?_) rfl (by kernel_rfl) (by kernel_rfl) (by kernel_rfl) (fun _ _ _ h => h) (Or.inl ⟨by rfl, ?hy⟩) hHeld ?_
      case hy =>
        intro w hSw
        (try dsimp only at hSw)
        go_simp
        (try with_reducible rfl)
      try simp only [Act.put, List.getElem_toArray, List.getElem_cons_succ, List.getElem_cons_zero, List.setIfInBounds_toArray, List.set_cons_zero, List.set_cons_succ]
      refine wpAnyH_take (i := 3) (v := ?_) rfl (by kernel_rfl) (by kernel_rfl) (by kernel_rfl) (fun _ _ _ h => h) (Or.inl ⟨by rfl, ?hy⟩) hHeld ?_
      case hy =>
        intro w hSw
        (try dsimp only at hSw)
        go_simp
        (try with_reducible rfl)
      try simp only [Act.put, List.getElem_toArray, List.getElem_cons_succ, List.getElem_cons_zero, List.setIfInBounds_toArray, List.set_cons_zero, List.set_cons_succ]
      refine wpAnyH_take (i := 4) (v := ?_) rfl (by kernel_rfl) (by kernel_rfl) (by kernel_rfl) (fun _ _ _ h => h) (Or.inl ⟨by rfl, ?hy⟩) hHeld ?_
      case hy =>
        intro w hSw
        (try dsimp only at hSw)
        go_simp
        (try with_reducible rfl)
      try simp only [Act.put, List.getElem_toArray, List.getElem_cons_succ, List.getElem_cons_zero, List.setIfInBounds_toArray, List.set_cons_zero, List.set_cons_succ]
      refine wpAnyH_take (i := 5) (v := ?_) rfl (by kernel_rfl) (by kernel_rfl) (by kernel_rfl) (fun _ _ _ h => h) (Or.inl ⟨by rfl, ?hy⟩) hHeld ?_
      case hy =>
        intro w hSw
        (try dsimp only at hSw)
        go_simp
        (try with_reducible rfl)
      try simp only [Act.put, List.getElem_toArray, List.getElem_cons_succ, List.getElem_cons_zero, List.setIfInBounds_toArray, List.set_cons_zero, List.set_cons_succ]
      refine wpAnyH_take (i := 6) (v := ?_) rfl (by kernel_rfl) (by kernel_rfl) (by kernel_rfl) (fun _ _ _ h => h) (Or.inl ⟨by rfl, ?hy⟩) hHeld ?_
      case hy =>
        intro w hSw
        (try dsimp only at hSw)
        go_simp
        (try with_reducible rfl)
      try simp only [Act.put, List.getElem_toArray, List.getElem_cons_succ, List.getElem_cons_zero, List.setIfInBounds_toArray, List.set_cons_zero, List.set_cons_succ]
      refine wpAnyH_take (i := 7) (v := ?_) rfl (by kernel_rfl) (by kernel_rfl) (by kernel_rfl) (fun _ _ _ h => h) (Or.inl ⟨by rfl, ?hy⟩) hHeld ?_
      case hy =>
        intro w hSw
        (try dsimp only at hSw)
        go_simp
        (try with_reducible rfl)
      try simp only [Act.put, List.getElem_toArray, List.getElem_cons_succ, List.getElem_cons_zero, List.setIfInBounds_toArray, List.set_cons_zero, List.set_cons_succ]
      refine wpAnyH_ready (rs := [8]) (by kernel_rfl) (by simp) ?_
      refine AllReadyH.cons rfl (fun K hK => ?_) AllReadyH.nil
      have hOld := hHeld
      clear hHeld
      go_simp
      refine hK.out _ _ (⟨by go_simp, by go_simp, by go_simp⟩) (fun hHeld => ?_)
      clear hK K hOld
      try simp only [Act.put, List.getElem_toArray, List.getElem_cons_succ, List.getElem_cons_zero, List.setIfInBounds_toArray, List.set_cons_zero, List.set_cons_succ]
      refine wpAnyH_ready (rs := [9]) (by kernel_rfl) (by simp) ?_
      refine AllReadyH.cons rfl (fun K hK => ?_) AllReadyH.nil
      have hOld := hHeld
      clear hHeld
      go_simp
      rw [show (w4.alloc (.cells #[.string u, .int .u8 b, .int .i64 0, .int .i64 0, .int .i64 0, .int .i64 0, .int .i64 0, .int .i64 0] 39)).drew = w4.drew.alloc (.cells #[.string u, .int .u8 b, .int .i64 0, .int .i64 0, .int .i64 0, .int .i64 0, .int .i64 0, .int .i64 0] 39) from rfl, hst]
      simp only [Result.andThen_ok]
      have hMm := ((hM.past (w' := w4.drew) hD).past (below_own (below_self _) (.cells #[.string u, .int .u8 b, .int .i64 0, .int .i64 0, .int .i64 0, .int .i64 0, .int .i64 0, .int .i64 0] 39))).map
      have hgr := only_push (o2 := .map (es.push ⟨keyV u b, ptrV w4.heap.size, clock⟩) (clock + 1)) hW hMm (hS M (by simp))
      have hV2 := blk_push (o2 := .map (es.push ⟨keyV u b, ptrV w4.heap.size, clock⟩) (clock + 1)) hMm hV (Nat.ne_of_gt hltM)
      have hY2 := blk_push (o2 := .map (es.push ⟨keyV u b, ptrV w4.heap.size, clock⟩) (clock + 1)) hMm hY (by omega)
      clear hMm
      replace hP : LedM (setBlock (w4.drew.alloc (.cells #[.string u, .int .u8 b, .int .i64 0, .int .i64 0, .int .i64 0, .int .i64 0, .int .i64 0, .int .i64 0] 39)) M (.map (es.push ⟨keyV u b, ptrV w4.heap.size, clock⟩) (clock + 1))) P M (es.push ⟨keyV u b, ptrV w4.heap.size, clock⟩) (clock + 1) (bx ++ [(⟨u, b, ⟨0, 0, 0⟩, ⟨0, 0, 0⟩⟩, w4.heap.size)]) := hP
      clear Pc Pf Pl Vc Vf Vl Yc Yf Yl
      clear hst hM hD hY hV
      generalize setBlock (w4.drew.alloc (.cells #[.string u, .int .u8 b, .int .i64 0, .int .i64 0, .int .i64 0, .int .i64 0, .int .i64 0, .int .i64 0] 39)) M (.map (es.push ⟨keyV u b, ptrV w4.heap.size, clock⟩) (clock + 1)) = w5 at *
      go_simp
      refine hK.out _ _ (⟨hP.top.cell 0, hY2.cell 0, hY2.cell 1⟩) (fun hHeld => ?_)
      clear hK K hOld
      try simp only [Act.put, List.getElem_toArray, List.getElem_cons_succ, List.getElem_cons_zero, List.setIfInBounds_toArray, List.set_cons_zero, List.set_cons_succ]
      refine wpAnyH_done (by kernel_rfl) ?_ _
      simp only [Exit.inBlock, Exit.then]
      clear hHeld
      have hM := hP
      clear hP
      obtain ⟨es2, hes2⟩ : ∃ es2, es2 = es.push ⟨keyV u b, ptrV w4.heap.size, clock⟩ := ⟨_, rfl⟩
      rw [← hes2] at hM
      clear hes2
      obtain ⟨B, hBe⟩ : ∃ B, B = w4.heap.size := ⟨_, rfl⟩
      rw [← hBe] at hM
      have hVb : RowKit.Hid (w.heap.size ≤ B) := Lib.hid (hBe ▸ hW.size)
      clear hBe hW
      have hx : ((⟨u, b, ⟨0, 0, 0⟩, ⟨0, 0, 0⟩⟩ : Share), B) ∈ bx ++ [(⟨u, b, ⟨0, 0, 0⟩, ⟨0, 0, 0⟩⟩, B)] := by simp
      obtain ⟨bx2, hbx2⟩ : ∃ bx2, bx2 = bx ++ [((⟨u, b, ⟨0, 0, 0⟩, ⟨0, 0, 0⟩⟩ : Share), B)] := ⟨_, rfl⟩
      rw [← hbx2] at hM hx
      have hp2 : RowKit.Hid ((bx2.map Prod.fst).Perm (putS ⟨u, b, ⟨0, 0, 0⟩, ⟨0, 0, 0⟩⟩ L)) := Lib.hid (by
        rw [hbx2, List.map_append, List.map_singleton]
        exact ((List.perm_append_singleton _ _).trans (hp.cons _)).trans (put_perm _ L).symm)
      have hS2 : RowKit.Hid (∀ c ∈ P :: M :: bx2.map Prod.snd, S c ∨ w.heap.size ≤ c) := Lib.hid (by
        intro c hc
        rw [hbx2, List.map_append, List.map_singleton] at hc
        rcases List.mem_append.1 (show c ∈ (P :: M :: bx.map Prod.snd) ++ [B] from hc) with hc | hc
        · exact Or.inl (hS c hc)
        · simp at hc
          exact Or.inr (hc ▸ hVb.out))
      have hr3 := Lib.hid hr
      have hr2 : RowKit.Hid (Rising (putS ⟨u, b, ⟨0, 0, 0⟩, ⟨0, 0, 0⟩⟩ L)) := Lib.hid (rising_put hr (none_kv hk hg))
      clear hbx2 hp hS hr hn2 hok hfew hno hlen hkl
      have q1 := hM.look_yesX hu hb hx hk
      obtain ⟨Pc, Pf, Pl⟩ := hM.top.facts
      obtain ⟨Vc, Vf, Vl⟩ := hV2.facts
      obtain ⟨Yc, Yf, Yl⟩ := hY2.facts
      go_wp2_with fail
      refine wp_region_ext_tail 7 (by kernel_rfl) (by kernel_rfl) ?_
      simp only [List.take_succ_cons, List.take_zero, List.drop_succ_cons, List.drop_zero]
      repeat (go_big_quiet_step (fail))
      refine wpQuiet_nil ?_
      rintro w6 ⟨x, hx3⟩
      have hb1 : Below w5.heap.size w5 w6 := hx3 ▸ extn_below _ x
      clear hx3 q1
      clear Pc Pf Pl Vc Vf Vl Yc Yf Yl
      replace hgr := Lib.hid (hgr.trans (OnlyS.below (S := S) hb1) (fun _ h => Or.inl h))
      replace hM := hM.past hb1
      clear hb1 hV2 hY2
      have hBx := hM.boxes _ hx
      obtain ⟨Bc, Bf, Bl⟩ := hBx.facts
      go_wp2_with fail
      go_ret
      have hB2 := ((hBx.put 2 (.int .i64 v0) rfl).put 3 (.int .i64 v1) rfl).put 4 (.int .i64 v2) rfl
      have hG := grown_trans (grown_trans (grown_set w6 B 2 (.int .i64 v0)) (grown_set _ B 3 (.int .i64 v1))) (grown_set _ B 4 (.int .i64 v2))
      have hT := hM.turn (s' := setS ⟨v0, v1, v2⟩ ⟨u, b, ⟨0, 0, 0⟩, ⟨0, 0, 0⟩⟩) hx rfl ⟨hu, hb, hv, by show (zeroV).ok; decide⟩ hG hB2
      simp only [hg, if_true, if_neg hfull]
      refine ⟨rfl, fun c => S c ∨ w.heap.size ≤ c, ⟨M, es2, _, _, hT, ?_, ?_, ?_⟩, fun _ h => h, hgr.out.trans (OnlyS.grown (S := fun c => c = B) hG rfl) (fun c hc => Or.inr (hc ▸ hVb.out))⟩
      · have := turn_perm hM hp2.out hr2.out hx hk (setS ⟨v0, v1, v2⟩)
        rw [upd_put (setS ⟨v0, v1, v2⟩) (fun s => ⟨rfl, rfl⟩) hk hg] at this
        exact this
      · exact rising_put hr3.out (none_kv (isK_iff.2 ⟨rfl, rfl⟩) hg)
      · rw [turn_snd]
        exact hS2.out
end Go.Proofs.Ytcjgblopcfcakaa
