/- Load, walked. Conditions: what comes in is of its kind. -/
import Derived.Test.YtcjgblopcfcakaaQt19
import Derived.Test.YtcjgblopcfcakaaQt5
namespace Go.Proofs.Ytcjgblopcfcakaa
open Go.RowKit Go.MapKept
open Go.ChangeMaps (setBlock heap_setBlock_same heap_setBlock_other)

theorem LedM.ltAll {w : World} {P M : Nat} {es : Array MapEntry} {clock : Nat} {bx : List (Share × Nat)} (h : LedM w P M es clock bx) : ∀ b ∈ P :: M :: bx.map Prod.snd, b < w.heap.size := by
  intro b hb
  rcases List.mem_cons.1 hb with rfl | hb
  · exact h.top.lt
  · rcases List.mem_cons.1 hb with rfl | hb
    · exact h.ltM
    · obtain ⟨x, hx, rfl⟩ := List.mem_map.1 hb
      exact (h.boxes x hx).lt
theorem LedM.push2 {w : World} {P M : Nat} {es : Array MapEntry} {clock : Nat} {bx : List (Share × Nat)} (h : LedM w P M es clock bx) {s : Share} {X : Nat} (hno : ∀ x ∈ bx, x.1.kv ≠ s.kv) (hok : s.ok) (hfew : bx.length < 64) (hX : Blk w X 39 s.cs) (hXn : X ∉ P :: M :: bx.map Prod.snd) :
    LedM (setBlock w M (.map (es.push ⟨s.kv, ptrV X, clock⟩) (clock + 1))) P M (es.push ⟨s.kv, ptrV X, clock⟩) (clock + 1) (bx ++ [(s, X)]) := by
  obtain ⟨h1, h2⟩ := List.nodup_cons.1 h.apart
  obtain ⟨h3, h4⟩ := List.nodup_cons.1 h2
  have hkeep : ∀ {g : Nat} {t : TypeId} {cs : Array Value} (o : Obj), g ≠ M → Blk w g t cs → Blk (setBlock w M o) g t cs := fun o hne hB => (heap_setBlock_other h.map o hne).trans hB
  refine ⟨?_, heap_setBlock_same h.map _, stamped_push h.stamped ?_, ?_, ?_, ?_, ?_, by simp; omega⟩
  · exact hkeep _ (fun e => h1 (by simp [e])) h.top
  · intro x hx e
    have : x.key ∈ bx.map (fun x => x.1.kv) := h.kvs ▸ List.mem_map_of_mem (f := (·.key)) hx
    obtain ⟨y, hy, e'⟩ := List.mem_map.1 this
    exact hno y hy (e'.trans e)
  · simp [h.ents]
  · rw [List.map_append, List.map_singleton]
    show (P :: M :: (bx.map Prod.snd ++ [X])).Nodup
    rw [show P :: M :: (bx.map Prod.snd ++ [X]) = (P :: M :: bx.map Prod.snd) ++ [X] from rfl, List.nodup_append]
    refine ⟨h.apart, by simp, fun a ha b hb e => ?_⟩
    simp at hb
    subst hb
    exact hXn (e ▸ ha)
  · intro x hx
    rcases List.mem_append.1 hx with hx | hx
    · exact hkeep _ (fun e => h3 (e ▸ List.mem_map_of_mem (f := Prod.snd) hx)) (h.boxes x hx)
    · simp at hx
      subst hx
      exact hkeep _ (fun e => hXn (by rw [← e]; simp)) hX
  · intro x hx
    rcases List.mem_append.1 hx with hx | hx
    · exact h.oks x hx
    · simp at hx
      subst hx
      exact hok
theorem below_block {B : Nat} {w w4 : World} {M : Nat} {o : Obj} {es : Array MapEntry} {c : Nat} (hb : Below B w w4) (hM : w4.heap[M]? = some (.map es c)) (hB : B ≤ M) : Below B w (setBlock w4 M o) :=
  ⟨hb.os, hb.tape, hb.output, by have := hb.size; simpa [setBlock] using this, fun k hk => (heap_setBlock_other hM _ (by omega)).trans (hb.block k hk)⟩
theorem q_banded_below (b : Int) (w : World) : Calls Try.prog 25 #[.int .u8 b] w fun e w' => e = .returned (.bool (bandB b)) ∧ Below w.heap.size w w' :=
  (q_banded b w).mono fun _ _ ⟨he, hw⟩ => ⟨he, hw ▸ Below.refl _ _⟩
theorem cmpS_geq (x y : Share) : decide ((0 : Int) ≤ cmpS x y) = !ltK x.user x.band y := by
  rw [← cmpS_neg]
  by_cases h : cmpS x y < 0
  · rw [decide_eq_true h, decide_eq_false (by omega)]; rfl
  · rw [decide_eq_false h, decide_eq_true (by omega)]; rfl
theorem good_long {ls : List Share} (h : 64 < ls.length) : goodB ls = false := goodB_false fun hg => by have := hg.2; omega
theorem take_rising {xs : List Share} {k : Nat} (h : ∀ j (h : j < xs.length), j < k → 0 < j → ∀ h' : j - 1 < xs.length, ltK xs[j - 1].user xs[j - 1].band xs[j] = true) : Rising (xs.take k) := rising_of_chain fun j hj h0 h' => by
  simp only [List.length_take] at hj h'
  have := h j (by omega) (by omega) h0 (by omega)
  simpa [List.getElem_take] using this
theorem take_new {xs : List Share} {k : Nat} (hk : k < xs.length) (h : ∀ j (h : j < xs.length), j < k + 1 → 0 < j → ∀ h' : j - 1 < xs.length, ltK xs[j - 1].user xs[j - 1].band xs[j] = true) : ∀ x ∈ xs.take k, x.kv ≠ xs[k].kv := fun x hx => by
  have hr := rising_keys (take_rising h)
  rw [← List.take_append_getElem hk, List.pairwise_append] at hr
  exact hr.2.2 x hx _ (by simp)
set_option maxRecDepth 100000 in
set_option maxHeartbeats 8000000 in
theorem q_Load (A : Option Addr) (c : Nat) (xs : List Share) (w : World) (hn : xs.length ≤ 1000000) (hoks : ∀ x ∈ xs, x.ok) (hA : SharesIn w A xs) :
    Calls Try.prog 18 #[.slice A xs.length c] w fun e w' => ((goodB xs = true ∧ e = .returned (.tuple #[ptrV (w.heap.size + 1), .int .i64 0]) ∧ Led w' (w.heap.size + 1) (fun b => w.heap.size ≤ b) xs) ∨ (goodB xs = false ∧ e = .returned (.tuple #[.pointer none, .int .i64 2]))) ∧ Below w.heap.size w w' := by
  have HA := Lib.hid hA
  obtain ⟨G, hG⟩ : ∃ G, G = goodB xs := ⟨_, rfl⟩
  rw [← hG]
  replace hG := Lib.hid hG
  clear hA
  go_enter Try.func18, Try.ntmps18
  go_wp2_with fail
  refine (q_New w).mono ?_
  rintro r w1 ⟨rfl, hL, hB1⟩; dsimp only
  obtain ⟨M, es, clock, bx, hM, hp, -, hS⟩ := hL
  have hbx : bx = [] := by
    have := hp.length_eq
    simp at this
    exact this
  subst hbx
  have hSz : Hid (w.heap.size ≤ w.heap.size + 1 ∧ w.heap.size ≤ M) := Lib.hid ⟨by omega, hS M (by simp)⟩
  have hSP : Hid (∀ W : World, Below w.heap.size w W → True) := Lib.hid (fun _ _ => trivial)
  generalize hP : w.heap.size + 1 = P at *
  replace hP := Lib.hid hP
  clear hp hS hSP
  go_wp2_with fail
  go_loopw [10] (fun i wr => ∃ (k : Nat) (es : Array MapEntry) (clock : Nat) (bx : List (Share × Nat)), i = .int .i64 k ∧ k ≤ xs.length ∧ LedM wr P M es clock bx ∧ Hid (bx.map Prod.fst = xs.take k ∧ (∀ b ∈ P :: M :: bx.map Prod.snd, w.heap.size ≤ b) ∧ k ≤ 64 ∧ (∀ j (h : j < xs.length), j < k → okS xs[j] = true ∧ (0 < j → ∀ h' : j - 1 < xs.length, ltK xs[j - 1].user xs[j - 1].band xs[j] = true))) ∧ Below w.heap.size w wr) (fun i _ => xs.length - (intOf i).toNat)
  case atStart => exact ⟨0, es, clock, [], rfl, Nat.zero_le _, hM, Lib.hid ⟨by simp, by simpa using hSz.out, by omega, fun j _ h => absurd h (by omega)⟩, hB1⟩
  case round =>
    clear hM hB1
    obtain ⟨k, es, clock, bx, rfl, hk, hM, hI, hB⟩ := hrel
    by_cases hlt : k < xs.length
    · obtain ⟨g, off, rfl, hg, hcell⟩ := HA.out (by intro e; rw [e] at hlt; simp at hlt)
      obtain ⟨k0, k1, k2, k3, k4, k5, k6, k7⟩ := hcell k hlt
      have j0 := (hB.cell (p := ⟨g, off + k * 8, none⟩) hg).trans k0
      have j1 := (hB.cell (p := ⟨g, off + k * 8 + 1, none⟩) hg).trans k1
      have j2 := (hB.cell (p := ⟨g, off + k * 8 + 2, none⟩) hg).trans k2
      have j3 := (hB.cell (p := ⟨g, off + k * 8 + 3, none⟩) hg).trans k3
      have j4 := (hB.cell (p := ⟨g, off + k * 8 + 4, none⟩) hg).trans k4
      have j5 := (hB.cell (p := ⟨g, off + k * 8 + 5, none⟩) hg).trans k5
      have j6 := (hB.cell (p := ⟨g, off + k * 8 + 6, none⟩) hg).trans k6
      have j7 := (hB.cell (p := ⟨g, off + k * 8 + 7, none⟩) hg).trans k7
      clear k0 k1 k2 k3 k4 k5 k6 k7
      have hprev : Hid (0 < k → ∃ (p : Share), p.ok ∧ (∃ h' : k - 1 < xs.length, p = xs[k - 1]) ∧ ∀ W, Below w.heap.size w W → W.cell? ⟨g, off + (k - 1) * 8, none⟩ = some (.string p.user) ∧ W.cell? ⟨g, off + (k - 1) * 8 + 1, none⟩ = some (.int .u8 p.band) ∧ W.cell? ⟨g, off + (k - 1) * 8 + 2, none⟩ = some (.int .i64 p.quota.cpu) ∧ W.cell? ⟨g, off + (k - 1) * 8 + 3, none⟩ = some (.int .i64 p.quota.mem) ∧ W.cell? ⟨g, off + (k - 1) * 8 + 4, none⟩ = some (.int .i64 p.quota.disk) ∧ W.cell? ⟨g, off + (k - 1) * 8 + 5, none⟩ = some (.int .i64 p.used.cpu) ∧ W.cell? ⟨g, off + (k - 1) * 8 + 6, none⟩ = some (.int .i64 p.used.mem) ∧ W.cell? ⟨g, off + (k - 1) * 8 + 7, none⟩ = some (.int .i64 p.used.disk)) := Lib.hid (fun h0 => by
        have h' : k - 1 < xs.length := by omega
        obtain ⟨z0, z1, z2, z3, z4, z5, z6, z7⟩ := hcell (k - 1) h'
        exact ⟨xs[k - 1], hoks _ (List.getElem_mem h'), ⟨h', rfl⟩, fun W hW => ⟨(hW.cell (p := ⟨g, off + (k - 1) * 8, none⟩) hg).trans z0, (hW.cell (p := ⟨g, off + (k - 1) * 8 + 1, none⟩) hg).trans z1, (hW.cell (p := ⟨g, off + (k - 1) * 8 + 2, none⟩) hg).trans z2, (hW.cell (p := ⟨g, off + (k - 1) * 8 + 3, none⟩) hg).trans z3, (hW.cell (p := ⟨g, off + (k - 1) * 8 + 4, none⟩) hg).trans z4, (hW.cell (p := ⟨g, off + (k - 1) * 8 + 5, none⟩) hg).trans z5, (hW.cell (p := ⟨g, off + (k - 1) * 8 + 6, none⟩) hg).trans z6, (hW.cell (p := ⟨g, off + (k - 1) * 8 + 7, none⟩) hg).trans z7⟩⟩)
      have hgh := Lib.hid hg
      clear hcell hg
      have hso := hoks xs[k] (List.getElem_mem hlt)
      have hbad : Hid (okS xs[k] = false → goodB xs = false) := Lib.hid (fun h => good_bad hlt h)
      have hfall : Hid (∀ h0 : 0 < k, ∀ h' : k - 1 < xs.length, ltK xs[k - 1].user xs[k - 1].band xs[k] = false → goodB xs = false) := Lib.hid (fun h0 h' h => good_fall hlt h0 h' h)
      have hoke : Hid (okS xs[k] = (nameB xs[k].user && (bandB xs[k].band && (mayV xs[k].quota && fitsV zeroV xs[k].used)))) := Lib.hid rfl
      obtain ⟨s, hs⟩ : ∃ s, s = xs[k] := ⟨_, rfl⟩
      simp only [← hs] at hso hbad hoke hfall j0 j1 j2 j3 j4 j5 j6 j7
      replace hs := Lib.hid hs
      obtain ⟨su, sb, ⟨q0, q1, q2⟩, ⟨u0, u1, u2⟩⟩ := s
      dsimp only at hoke j0 j1 j2 j3 j4 j5 j6 j7
      have hltM := Lib.hid hM
      have hX := Blk.new wr 39 #[.string su, .int .u8 sb, .int .i64 q0, .int .i64 q1, .int .i64 q2, .int .i64 u0, .int .i64 u1, .int .i64 u2]
      have hBx : Below w.heap.size w (wr.alloc (.cells #[.string su, .int .u8 sb, .int .i64 q0, .int .i64 q1, .int .i64 q2, .int .i64 u0, .int .i64 u1, .int .i64 u2] 39)) := below_own hB _
      replace hM := hM.past (below_own (below_self wr) (.cells #[.string su, .int .u8 sb, .int .i64 q0, .int .i64 q1, .int .i64 q2, .int .i64 u0, .int .i64 u1, .int .i64 u2] 39))
      have hXn : Hid (wr.heap.size ∉ P :: M :: bx.map Prod.snd) := Lib.hid (fun h => by
        have := hltM.out.ltAll _ h
        omega)
      have hXb : Hid (w.heap.size ≤ wr.heap.size) := Lib.hid hB.size
      have hlxs : Hid (∀ h' : k - 1 < xs.length, k - 1 < xs.length) := Lib.hid (fun h => h)
      go_wp2_with fail
      refine wp_world (F := fun W => Below w.heap.size w W ∧ LedM W P M es clock bx ∧ Blk W wr.heap.size 39 #[.string su, .int .u8 sb, .int .i64 q0, .int .i64 q1, .int .i64 q2, .int .i64 u0, .int .i64 u1, .int .i64 u2]) ⟨hBx, hM, hX⟩ ?_
      clear hBx hM hX hB hltM j0 j1 j2 j3 j4 j5 j6 j7
      generalize wr.heap.size = X at *
      rintro W ⟨hBx, hM, hX⟩
      obtain ⟨Xc, Xf, Xl⟩ := hX.facts
      have c1 := spec_Name su
      have c2 := q_banded_below sb
      have c3 := vec_May ⟨q0, q1, q2⟩
      have c4 := q_plain ⟨u0, u1, u2⟩
      obtain ⟨f1, hf1⟩ : ∃ f, f = nameB su := ⟨_, rfl⟩
      obtain ⟨f2, hf2⟩ : ∃ f, f = bandB sb := ⟨_, rfl⟩
      obtain ⟨f3, hf3⟩ : ∃ f, f = mayV ⟨q0, q1, q2⟩ := ⟨_, rfl⟩
      obtain ⟨f4, hf4⟩ : ∃ f, f = fitsV zeroV ⟨u0, u1, u2⟩ := ⟨_, rfl⟩
      rw [← hf1] at c1
      rw [← hf2] at c2
      rw [← hf3] at c3
      rw [← hf4] at c4
      replace hoke : Hid (okS ⟨su, sb, ⟨q0, q1, q2⟩, ⟨u0, u1, u2⟩⟩ = (f1 && (f2 && (f3 && f4)))) := Lib.hid (by rw [hoke.out, hf1, hf2, hf3, hf4])
      clear hf1 hf2 hf3 hf4
      have C1 := Lib.hid c1
      have C2 := Lib.hid c2
      have C3 := Lib.hid c3
      have C4 := Lib.hid c4
      have C5 := Lib.hid c1
      clear c1 c2 c3 c4
      cases f1
      ·
        replace hBx := Lib.hid hBx
        have hgx := Lib.hid (hG.out.trans (hbad.out (by rw [hoke.out]; simp)))
        go_wp2_with fail
        refine wp_region_ext (by kernel_rfl) (by kernel_rfl) ?_
        repeat (go_big_quiet_step ((first | (go_at_call 24; exact ext_of (C1.out _)) | (go_at_call 25; exact ext_of (C2.out _)) | (go_at_call 26; exact ext_of (C3.out _)) | (go_at_call 29; exact ext_of (C4.out _)) | (go_at_call 35; exact ext_of (C5.out _)))))
        refine wpQuiet_nil ?_
        rintro w2 ⟨x, hx⟩
        have hB3 := Lib.hid (below_to hBx.out (hx ▸ extn_below _ x))
        clear hx Xc Xf Xl hX hM
        go_wp2_with fail
        go_returns
        exact ⟨Or.inr ⟨hgx.out, rfl⟩, hB3.out⟩
      cases f2
      ·
        replace hBx := Lib.hid hBx
        have hgx := Lib.hid (hG.out.trans (hbad.out (by rw [hoke.out]; simp)))
        go_wp2_with fail
        refine wp_region_ext (by kernel_rfl) (by kernel_rfl) ?_
        repeat (go_big_quiet_step ((first | (go_at_call 24; exact ext_of (C1.out _)) | (go_at_call 25; exact ext_of (C2.out _)) | (go_at_call 26; exact ext_of (C3.out _)) | (go_at_call 29; exact ext_of (C4.out _)) | (go_at_call 35; exact ext_of (C5.out _)))))
        refine wpQuiet_nil ?_
        rintro w2 ⟨x, hx⟩
        have hB3 := Lib.hid (below_to hBx.out (hx ▸ extn_below _ x))
        clear hx Xc Xf Xl hX hM
        go_wp2_with fail
        go_returns
        exact ⟨Or.inr ⟨hgx.out, rfl⟩, hB3.out⟩
      cases f3
      ·
        replace hBx := Lib.hid hBx
        have hgx := Lib.hid (hG.out.trans (hbad.out (by rw [hoke.out]; simp)))
        go_wp2_with fail
        refine wp_region_ext (by kernel_rfl) (by kernel_rfl) ?_
        repeat (go_big_quiet_step ((first | (go_at_call 24; exact ext_of (C1.out _)) | (go_at_call 25; exact ext_of (C2.out _)) | (go_at_call 26; exact ext_of (C3.out _)) | (go_at_call 29; exact ext_of (C4.out _)) | (go_at_call 35; exact ext_of (C5.out _)))))
        refine wpQuiet_nil ?_
        rintro w2 ⟨x, hx⟩
        have hB3 := Lib.hid (below_to hBx.out (hx ▸ extn_below _ x))
        clear hx Xc Xf Xl hX hM
        go_wp2_with fail
        go_returns
        exact ⟨Or.inr ⟨hgx.out, rfl⟩, hB3.out⟩
      cases f4
      ·
        replace hBx := Lib.hid hBx
        have hgx := Lib.hid (hG.out.trans (hbad.out (by rw [hoke.out]; simp)))
        go_wp2_with fail
        refine wp_region_ext (by kernel_rfl) (by kernel_rfl) ?_
        repeat (go_big_quiet_step ((first | (go_at_call 24; exact ext_of (C1.out _)) | (go_at_call 25; exact ext_of (C2.out _)) | (go_at_call 26; exact ext_of (C3.out _)) | (go_at_call 29; exact ext_of (C4.out _)) | (go_at_call 35; exact ext_of (C5.out _)))))
        refine wpQuiet_nil ?_
        rintro w2 ⟨x, hx⟩
        have hB3 := Lib.hid (below_to hBx.out (hx ▸ extn_below _ x))
        clear hx Xc Xf Xl hX hM
        go_wp2_with fail
        go_returns
        exact ⟨Or.inr ⟨hgx.out, rfl⟩, hB3.out⟩
      clear C5 hbad
      have hnext : Hid ((0 < k → ∀ h' : k - 1 < xs.length, ltK xs[k - 1].user xs[k - 1].band xs[k] = true) → ∀ j (h : j < xs.length), j < k + 1 → okS xs[j] = true ∧ (0 < j → ∀ h' : j - 1 < xs.length, ltK xs[j - 1].user xs[j - 1].band xs[j] = true)) := Lib.hid (fun h2 j hj hjk => by
        by_cases e : j < k
        · exact hI.out.2.2.2 j hj e
        · have : j = k := by omega
          subst this
          refine ⟨?_, h2⟩
          rw [← hs.out, hoke.out]; rfl)
      rcases Nat.eq_zero_or_pos k with hk0 | hk0
      · have hd0 : decide ((0 : Int) < (k : Int)) = false := decide_eq_false (by omega)
        have hd64 : decide ((64 : Int) ≤ (k : Int)) = false := decide_eq_false (by omega)
        have hk64 : ¬ 64 ≤ k := by omega
        have hI2 := Lib.hid (hnext.out (fun h => absurd h (by omega)))
        clear hfall hprev hnext
        have C5 := Lib.hid C1
        go_wp2_with fail
        refine wp_region_ext (by kernel_rfl) (by kernel_rfl) ?_
        repeat (go_big_quiet_step ((first | (go_at_call 24; exact ext_of (C1.out _)) | (go_at_call 25; exact ext_of (C2.out _)) | (go_at_call 26; exact ext_of (C3.out _)) | (go_at_call 29; exact ext_of (C4.out _)) | (go_at_call 35; exact ext_of (C5.out _)))))
        refine wpQuiet_nil ?_
        rintro w2 ⟨x, hx⟩
        have hB3 := below_to hBx (hx ▸ extn_below _ x)
        replace hM := hM.past (hx ▸ extn_below _ x)
        replace hX := hX.past (hx ▸ extn_below _ x)
        clear hx Xc Xf Xl hBx C1 C2 C3 C4 C5
        have hlenk : bx.length = k := by
          have := congrArg List.length hI.out.1
          simp at this
          omega
        have hn2 : ∀ x ∈ bx, x.1.kv ≠ (⟨su, sb, ⟨q0, q1, q2⟩, ⟨u0, u1, u2⟩⟩ : Share).kv := fun x hx => by
          rw [hs.out]
          exact take_new hlt (fun j hj hjk h0 h' => (hI2.out j hj hjk).2 h0 h') x.1 (hI.out.1 ▸ List.mem_map_of_mem (f := Prod.fst) hx)
        obtain ⟨kl, hkl⟩ := key_of su sb hso.1 hso.2.1
        have hMd := hM.past (w' := w2.drew) (Below.refl _ _).drew
        have hst := store_absent (val := ptrV X) (w := w2.drew) key_law Try.underlying53 hMd.map hM.fit hkl (fun x hx e => by
          have : x.key ∈ bx.map (fun x => x.1.kv) := hM.kvs ▸ List.mem_map_of_mem (f := (·.key)) hx
          obtain ⟨y, hy, e'⟩ := List.mem_map.1 this
          exact hn2 y hy (e'.trans e))
        obtain ⟨Pc, Pf, Pl⟩ := hM.top.facts
        obtain ⟨Xc, Xf, Xl⟩ := hX.facts
        have hP5 := Lib.hid (hMd.push2 hn2 hso (by omega) hX.drew hXn.out)
        have hB5 := Lib.hid (below_block (o := .map (es.push ⟨keyV su sb, ptrV X, clock⟩) (clock + 1)) (below_to hB3 (Below.refl _ _).drew) hMd.map hSz.out.2)
        clear hMd hn2
        go_wp2_with fail
        refine wp_region_held_drew (S := (fun w' => w'.cell? ⟨P, 0, none⟩ = some (.map (some M)) ∧ w'.cell? ⟨X, 0, none⟩ = some (.string su) ∧ w'.cell? ⟨X, 1, none⟩ = some (.int .u8 sb))) (by kernel_rfl) ⟨Pc 0, Xc 0, Xc 1⟩ (fun hHeld => ?_)
        refine wpAnyH_take (i := 0) (v := ?_) rfl (by kernel_rfl) (by kernel_rfl) (by kernel_rfl) (fun _ _ _ h => h) (Or.inl ⟨by rfl, ?hy⟩) hHeld ?_
        case hy =>
          intro w hSw
          (try dsimp only at hSw)
          go_simp
          (try with_reducible rfl)
        try simp only [Act.put, List.getElem_toArray, List.getElem_cons_zero, List.setIfInBounds_toArray, List.set_cons_zero, List.set_cons_succ]
        refine wpAnyH_take (i := 1) (v := ?_) rfl (by kernel_rfl) (by kernel_rfl) (by kernel_rfl) (fun _ _ _ h => h) (Or.inl ⟨by rfl, ?hy⟩) hHeld ?_
        case hy =>
          intro w hSw
          (try dsimp only at hSw)
          go_simp
          (try with_reducible rfl)
        try simp only [Act.put, List.getElem_toArray, List.getElem_cons_succ, List.getElem_cons_zero, List.setIfInBounds_toArray, List.set_cons_zero, List.set_cons_succ]
        refine wpAnyH_take (i := 2) (v := ?_) rfl (by kernel_rfl) (by kernel_rfl) (by kernel_rfl) (fun _ _ _ h => h) (Or.inl ⟨by rfl, ?hy⟩) hHeld ?_
        case hy =>
          intro w hSw
          (try dsimp only at hSw)
          go_simp
          (try with_reducible rfl)
        try simp only [Act.put, List.getElem_toArray, List.getElem_cons_succ, List.getElem_cons_zero, List.setIfInBounds_toArray, List.set_cons_zero, List.set_cons_succ]
        refine wpAnyH_take (i := 3) (v := ?_) rfl (by kernel_rfl) (by kernel_rfl) (by kernel_rfl) (fun _ _ _ h => h) (Or.inl ⟨by rfl, ?hy⟩) hHeld ?_
        case hy =>
          intro w hSw
          (try dsimp only at hSw)
          go_simp
          (try with_reducible rfl)
        try simp only [Act.put, List.getElem_toArray, List.getElem_cons_succ, List.getElem_cons_zero, List.setIfInBounds_toArray, List.set_cons_zero, List.set_cons_succ]
        refine wpAnyH_take (i := 4) (v := ?_) rfl (by kernel_rfl) (by kernel_rfl) (by kernel_rfl) (fun _ _ _ h => h) (Or.inl ⟨by rfl, ?hy⟩) hHeld ?_
        case hy =>
          intro w hSw
          (try dsimp only at hSw)
          go_simp
          (try with_reducible rfl)
        try simp only [Act.put, List.getElem_toArray, List.getElem_cons_succ, List.getElem_cons_zero, List.setIfInBounds_toArray, List.set_cons_zero, List.set_cons_succ]
        refine wpAnyH_take (i := 5) (v := ?_) rfl (by kernel_rfl) (by kernel_rfl) (by kernel_rfl) (fun _ _ _ h => h) (Or.inl ⟨by rfl, ?hy⟩) hHeld ?_
        case hy =>
          intro w hSw
          (try dsimp only at hSw)
          go_simp
          (try with_reducible rfl)
        try simp only [Act.put, List.getElem_toArray, List.getElem_cons_succ, List.getElem_cons_zero, List.setIfInBounds_toArray, List.set_cons_zero, List.set_cons_succ]
        refine wpAnyH_take (i := 6) (v := ?_) rfl (by kernel_rfl) (by kernel_rfl) (by kernel_rfl) (fun _ _ _ h => h) (Or.inl ⟨by rfl, ?hy⟩) hHeld ?_
        case hy =>
          intro w hSw
          (try dsimp only at hSw)
          go_simp
          (try with_reducible rfl)
        try simp only [Act.put, List.getElem_toArray, List.getElem_cons_succ, List.getElem_cons_zero, List.setIfInBounds_toArray, List.set_cons_zero, List.set_cons_succ]
        refine wpAnyH_take (i := 7) (v := ?_) rfl (by kernel_rfl) (by kernel_rfl) (by kernel_rfl) (fun _ _ _ h => h) (Or.inl ⟨by rfl, ?hy⟩) hHeld ?_
        case hy =>
          intro w hSw
          (try dsimp only at hSw)
          go_simp
          (try with_reducible rfl)
        try simp only [Act.put, List.getElem_toArray, List.getElem_cons_succ, List.getElem_cons_zero, List.setIfInBounds_toArray, List.set_cons_zero, List.set_cons_succ]
        refine wpAnyH_take (i := 8) (v := ?_) rfl (by kernel_rfl) (by kernel_rfl) (by kernel_rfl) (fun _ _ _ h => h) (Or.inl ⟨by rfl, ?hy⟩) hHeld ?_
        case hy =>
          intro w hSw
          (try dsimp only at hSw)
          go_simp
          (try with_reducible rfl)
        try simp only [Act.put, List.getElem_toArray, List.getElem_cons_succ, List.getElem_cons_zero, List.setIfInBounds_toArray, List.set_cons_zero, List.set_cons_succ]
        refine wpAnyH_ready (rs := [9]) (by kernel_rfl) (by simp) ?_
        refine AllReadyH.cons rfl (fun K hK => ?_) AllReadyH.nil
        have hOld := hHeld
        clear hHeld
        go_simp
        (try rw [hst])
        (try simp only [Result.andThen_ok])
        replace hP5 : Hid (LedM (setBlock w2.drew M (.map (es.push ⟨keyV su sb, ptrV X, clock⟩) (clock + 1))) P M (es.push ⟨keyV su sb, ptrV X, clock⟩) (clock + 1) (bx ++ [(⟨su, sb, ⟨q0, q1, q2⟩, ⟨u0, u1, u2⟩⟩, X)])) := hP5
        have hX5 : Blk (setBlock w2.drew M (.map (es.push ⟨keyV su sb, ptrV X, clock⟩) (clock + 1))) X 39 #[.string su, .int .u8 sb, .int .i64 q0, .int .i64 q1, .int .i64 q2, .int .i64 u0, .int .i64 u1, .int .i64 u2] := hP5.out.boxes _ (List.mem_append_right _ (List.mem_singleton.2 rfl))
        clear hst Pc Pf Pl Xc Xf Xl hM hX hkl
        generalize setBlock w2.drew M (.map (es.push ⟨keyV su sb, ptrV X, clock⟩) (clock + 1)) = w5 at *
        refine hK.out _ _ (⟨hP5.out.top.cell 0, hX5.cell 0, hX5.cell 1⟩) (fun hHeld => ?_)
        clear hK K hOld
        try simp only [Act.put, List.getElem_toArray, List.getElem_cons_succ, List.getElem_cons_zero, List.setIfInBounds_toArray, List.set_cons_zero, List.set_cons_succ]
        refine wpAnyH_done (by kernel_rfl) ?_ _
        simp only [Exit.inBlock, Exit.then]
        clear hHeld hX5
        obtain ⟨es2, hes2⟩ : ∃ es2, es2 = es.push ⟨keyV su sb, ptrV X, clock⟩ := ⟨_, rfl⟩
        rw [← hes2] at hP5
        clear hes2
        have hI3 : Hid ((bx ++ [((⟨su, sb, ⟨q0, q1, q2⟩, ⟨u0, u1, u2⟩⟩ : Share), X)]).map Prod.fst = xs.take (k + 1) ∧ (∀ b ∈ P :: M :: (bx ++ [((⟨su, sb, ⟨q0, q1, q2⟩, ⟨u0, u1, u2⟩⟩ : Share), X)]).map Prod.snd, w.heap.size ≤ b) ∧ k + 1 ≤ 64) := Lib.hid ⟨by
            rw [List.map_append, hI.out.1, ← List.take_append_getElem hlt, ← hs.out]; rfl, by
            intro b hb
            rw [List.map_append, List.map_singleton] at hb
            rcases List.mem_append.1 (show b ∈ (P :: M :: bx.map Prod.snd) ++ [X] from hb) with hb | hb
            · exact hI.out.2.1 b hb
            · simp at hb
              rw [hb]; exact hXb.out, by omega⟩
        generalize hbx2 : bx ++ [((⟨su, sb, ⟨q0, q1, q2⟩, ⟨u0, u1, u2⟩⟩ : Share), X)] = bx2 at *
        clear hbx2
        go_wp2_with fail
        go_roundw
        case rel => exact ⟨k + 1, es2, clock + 1, bx2, by go_num, hlt, hP5.out, Lib.hid ⟨hI3.out.1, hI3.out.2.1, hI3.out.2.2, hI2.out⟩, hB5.out⟩
        case measure => simp [intOf]; omega
      · obtain ⟨p, hpo, ⟨h', hpe⟩, hpc⟩ := hprev.out hk0
        replace hfall : ltK p.user p.band ⟨su, sb, ⟨q0, q1, q2⟩, ⟨u0, u1, u2⟩⟩ = false → goodB xs = false := fun h => hfall.out hk0 h' (by rw [← hpe]; exact h)
        replace hnext : ltK p.user p.band ⟨su, sb, ⟨q0, q1, q2⟩, ⟨u0, u1, u2⟩⟩ = true → ∀ j (h : j < xs.length), j < k + 1 → okS xs[j] = true ∧ (0 < j → ∀ h' : j - 1 < xs.length, ltK xs[j - 1].user xs[j - 1].band xs[j] = true) := fun h => hnext.out (fun _ _ => by rw [← hpe, ← hs.out]; exact h)
        obtain ⟨m, hm⟩ : ∃ m, m = k - 1 := ⟨_, rfl⟩
        rw [← hm] at hpc
        obtain ⟨p0, p1, p2, p3, p4, p5, p6, p7⟩ := hpc W hBx
        have hgW : g < W.heap.size := Nat.lt_of_lt_of_le hgh.out hBx.size
        have ek : ((k : Int) - 1) = (m : Int) := by omega
        have em : m < xs.length := by omega
        have ew : IntKind.i64.wrap (m : Int) = (m : Int) := IntWalk.i64_in _ (by omega)
        have eb : (m : Int) < (xs.length : Int) := by omega
        have hd0 : decide ((0 : Int) < (k : Int)) = true := decide_eq_true (by omega)
        have c5 := q_order_below p ⟨su, sb, ⟨q0, q1, q2⟩, ⟨u0, u1, u2⟩⟩
        have hgq := cmpS_geq p ⟨su, sb, ⟨q0, q1, q2⟩, ⟨u0, u1, u2⟩⟩
        generalize cmpS p ⟨su, sb, ⟨q0, q1, q2⟩, ⟨u0, u1, u2⟩⟩ = r at *
        generalize ltK p.user p.band ⟨su, sb, ⟨q0, q1, q2⟩, ⟨u0, u1, u2⟩⟩ = lk at *
        obtain ⟨pu, pb, ⟨pq0, pq1, pq2⟩, ⟨pu0, pu1, pu2⟩⟩ := p
        dsimp only at p0 p1 p2 p3 p4 p5 p6 p7
        have C5 := Lib.hid c5
        clear c5 hpe hpc hpo hm hprev
        replace hfall := Lib.hid hfall
        replace hnext := Lib.hid hnext
        cases lk
        · have hgq : decide ((0 : Int) ≤ r) = true := hgq
          replace hBx := Lib.hid hBx
          have hgx := Lib.hid (hG.out.trans (hfall.out rfl))
          go_wp2_with fail
          refine wp_region_ext (by kernel_rfl) (by kernel_rfl) ?_
          repeat (go_big_quiet_step ((first | (go_at_call 24; exact ext_of (C1.out _)) | (go_at_call 25; exact ext_of (C2.out _)) | (go_at_call 26; exact ext_of (C3.out _)) | (go_at_call 29; exact ext_of (C4.out _)) | (go_at_call 35; exact ext_of (C5.out _)))))
          refine wpQuiet_nil ?_
          rintro w2 ⟨x, hx⟩
          have hB3 := Lib.hid (below_to hBx.out (hx ▸ extn_below _ x))
          clear hx Xc Xf Xl hX hM
          go_wp2_with fail
          go_returns
          exact ⟨Or.inr ⟨hgx.out, rfl⟩, hB3.out⟩
        · replace hgq : decide ((0 : Int) ≤ r) = false := hgq
          by_cases hk64 : 64 ≤ k
          · have hd64 : decide ((64 : Int) ≤ (k : Int)) = true := decide_eq_true (by omega)
            replace hBx := Lib.hid hBx
            have hgx := Lib.hid (hG.out.trans (good_long (by omega)))
            go_wp2_with fail
            refine wp_region_ext (by kernel_rfl) (by kernel_rfl) ?_
            repeat (go_big_quiet_step ((first | (go_at_call 24; exact ext_of (C1.out _)) | (go_at_call 25; exact ext_of (C2.out _)) | (go_at_call 26; exact ext_of (C3.out _)) | (go_at_call 29; exact ext_of (C4.out _)) | (go_at_call 35; exact ext_of (C5.out _)))))
            refine wpQuiet_nil ?_
            rintro w2 ⟨x, hx⟩
            have hB3 := Lib.hid (below_to hBx.out (hx ▸ extn_below _ x))
            clear hx Xc Xf Xl hX hM
            go_wp2_with fail
            go_returns
            exact ⟨Or.inr ⟨hgx.out, rfl⟩, hB3.out⟩
          · have hd64 : decide ((64 : Int) ≤ (k : Int)) = false := decide_eq_false (by omega)
            have hI2 := Lib.hid (hnext.out rfl)
            clear hfall hnext
            go_wp2_with fail
            refine wp_region_ext (by kernel_rfl) (by kernel_rfl) ?_
            repeat (go_big_quiet_step ((first | (go_at_call 24; exact ext_of (C1.out _)) | (go_at_call 25; exact ext_of (C2.out _)) | (go_at_call 26; exact ext_of (C3.out _)) | (go_at_call 29; exact ext_of (C4.out _)) | (go_at_call 35; exact ext_of (C5.out _)))))
            refine wpQuiet_nil ?_
            rintro w2 ⟨x, hx⟩
            clear p0 p1 p2 p3 p4 p5 p6 p7 hgW
            have hB3 := below_to hBx (hx ▸ extn_below _ x)
            replace hM := hM.past (hx ▸ extn_below _ x)
            replace hX := hX.past (hx ▸ extn_below _ x)
            clear hx Xc Xf Xl hBx C1 C2 C3 C4 C5
            have hlenk : bx.length = k := by
              have := congrArg List.length hI.out.1
              simp at this
              omega
            have hn2 : ∀ x ∈ bx, x.1.kv ≠ (⟨su, sb, ⟨q0, q1, q2⟩, ⟨u0, u1, u2⟩⟩ : Share).kv := fun x hx => by
              rw [hs.out]
              exact take_new hlt (fun j hj hjk h0 h' => (hI2.out j hj hjk).2 h0 h') x.1 (hI.out.1 ▸ List.mem_map_of_mem (f := Prod.fst) hx)
            obtain ⟨kl, hkl⟩ := key_of su sb hso.1 hso.2.1
            have hMd := hM.past (w' := w2.drew) (Below.refl _ _).drew
            have hst := store_absent (val := ptrV X) (w := w2.drew) key_law Try.underlying53 hMd.map hM.fit hkl (fun x hx e => by
              have : x.key ∈ bx.map (fun x => x.1.kv) := hM.kvs ▸ List.mem_map_of_mem (f := (·.key)) hx
              obtain ⟨y, hy, e'⟩ := List.mem_map.1 this
              exact hn2 y hy (e'.trans e))
            obtain ⟨Pc, Pf, Pl⟩ := hM.top.facts
            obtain ⟨Xc, Xf, Xl⟩ := hX.facts
            have hP5 := Lib.hid (hMd.push2 hn2 hso (by omega) hX.drew hXn.out)
            have hB5 := Lib.hid (below_block (o := .map (es.push ⟨keyV su sb, ptrV X, clock⟩) (clock + 1)) (below_to hB3 (Below.refl _ _).drew) hMd.map hSz.out.2)
            clear hMd hn2
            go_wp2_with fail
            refine wp_region_held_drew (S := (fun w' => w'.cell? ⟨P, 0, none⟩ = some (.map (some M)) ∧ w'.cell? ⟨X, 0, none⟩ = some (.string su) ∧ w'.cell? ⟨X, 1, none⟩ = some (.int .u8 sb))) (by kernel_rfl) ⟨Pc 0, Xc 0, Xc 1⟩ (fun hHeld => ?_)
            refine wpAnyH_take (i := 0) (v := ?_) rfl (by kernel_rfl) (by kernel_rfl) (by kernel_rfl) (fun _ _ _ h => h) (Or.inl ⟨by rfl, ?hy⟩) hHeld ?_
            case hy =>
              intro w hSw
              (try dsimp only at hSw)
              go_simp
              (try with_reducible rfl)
            try simp only [Act.put, List.getElem_toArray, List.getElem_cons_zero, List.setIfInBounds_toArray, List.set_cons_zero, List.set_cons_succ]
            refine wpAnyH_take (i := 1) (v := ?_) rfl (by kernel_rfl) (by kernel_rfl) (by kernel_rfl) (fun _ _ _ h => h) (Or.inl ⟨by rfl, ?hy⟩) hHeld ?_
            case hy =>
              intro w hSw
              (try dsimp only at hSw)
              go_simp
              (try with_reducible rfl)
            try simp only [Act.put, List.getElem_toArray, List.getElem_cons_succ, List.getElem_cons_zero, List.setIfInBounds_toArray, List.set_cons_zero, List.set_cons_succ]
            refine wpAnyH_take (i := 2) (v := ?_) rfl (by kernel_rfl) (by kernel_rfl) (by kernel_rfl) (fun _ _ _ h => h) (Or.inl ⟨by rfl, ?hy⟩) hHeld ?_
            case hy =>
              intro w hSw
              (try dsimp only at hSw)
              go_simp
              (try with_reducible rfl)
            try simp only [Act.put, List.getElem_toArray, List.getElem_cons_succ, List.getElem_cons_zero, List.setIfInBounds_toArray, List.set_cons_zero, List.set_cons_succ]
            refine wpAnyH_take (i := 3) (v := ?_) rfl (by kernel_rfl) (by kernel_rfl) (by kernel_rfl) (fun _ _ _ h => h) (Or.inl ⟨by rfl, ?hy⟩) hHeld ?_
            case hy =>
              intro w hSw
              (try dsimp only at hSw)
              go_simp
              (try with_reducible rfl)
            try simp only [Act.put, List.getElem_toArray, List.getElem_cons_succ, List.getElem_cons_zero, List.setIfInBounds_toArray, List.set_cons_zero, List.set_cons_succ]
            refine wpAnyH_take (i := 4) (v := ?_) rfl (by kernel_rfl) (by kernel_rfl) (by kernel_rfl) (fun _ _ _ h => h) (Or.inl ⟨by rfl, ?hy⟩) hHeld ?_
            case hy =>
              intro w hSw
              (try dsimp only at hSw)
              go_simp
              (try with_reducible rfl)
            try simp only [Act.put, List.getElem_toArray, List.getElem_cons_succ, List.getElem_cons_zero, List.setIfInBounds_toArray, List.set_cons_zero, List.set_cons_succ]
            refine wpAnyH_take (i := 5) (v := ?_) rfl (by kernel_rfl) (by kernel_rfl) (by kernel_rfl) (fun _ _ _ h => h) (Or.inl ⟨by rfl, ?hy⟩) hHeld ?_
            case hy =>
              intro w hSw
              (try dsimp only at hSw)
              go_simp
              (try with_reducible rfl)
            try simp only [Act.put, List.getElem_toArray, List.getElem_cons_succ, List.getElem_cons_zero, List.setIfInBounds_toArray, List.set_cons_zero, List.set_cons_succ]
            refine wpAnyH_take (i := 6) (v := ?_) rfl (by kernel_rfl) (by kernel_rfl) (by kernel_rfl) (fun _ _ _ h => h) (Or.inl ⟨by rfl, ?hy⟩) hHeld ?_
            case hy =>
              intro w hSw
              (try dsimp only at hSw)
              go_simp
              (try with_reducible rfl)
            try simp only [Act.put, List.getElem_toArray, List.getElem_cons_succ, List.getElem_cons_zero, List.setIfInBounds_toArray, List.set_cons_zero, List.set_cons_succ]
            refine wpAnyH_take (i := 7) (v := ?_) rfl (by kernel_rfl) (by kernel_rfl) (by kernel_rfl) (fun _ _ _ h => h) (Or.inl ⟨by rfl, ?hy⟩) hHeld ?_
            case hy =>
              intro w hSw
              (try dsimp only at hSw)
              go_simp
              (try with_reducible rfl)
            try simp only [Act.put, List.getElem_toArray, List.getElem_cons_succ, List.getElem_cons_zero, List.setIfInBounds_toArray, List.set_cons_zero, List.set_cons_succ]
            refine wpAnyH_take (i := 8) (v := ?_) rfl (by kernel_rfl) (by kernel_rfl) (by kernel_rfl) (fun _ _ _ h => h) (Or.inl ⟨by rfl, ?hy⟩) hHeld ?_
            case hy =>
              intro w hSw
              (try dsimp only at hSw)
              go_simp
              (try with_reducible rfl)
            try simp only [Act.put, List.getElem_toArray, List.getElem_cons_succ, List.getElem_cons_zero, List.setIfInBounds_toArray, List.set_cons_zero, List.set_cons_succ]
            refine wpAnyH_ready (rs := [9]) (by kernel_rfl) (by simp) ?_
            refine AllReadyH.cons rfl (fun K hK => ?_) AllReadyH.nil
            have hOld := hHeld
            clear hHeld
            go_simp
            (try rw [hst])
            (try simp only [Result.andThen_ok])
            replace hP5 : Hid (LedM (setBlock w2.drew M (.map (es.push ⟨keyV su sb, ptrV X, clock⟩) (clock + 1))) P M (es.push ⟨keyV su sb, ptrV X, clock⟩) (clock + 1) (bx ++ [(⟨su, sb, ⟨q0, q1, q2⟩, ⟨u0, u1, u2⟩⟩, X)])) := hP5
            have hX5 : Blk (setBlock w2.drew M (.map (es.push ⟨keyV su sb, ptrV X, clock⟩) (clock + 1))) X 39 #[.string su, .int .u8 sb, .int .i64 q0, .int .i64 q1, .int .i64 q2, .int .i64 u0, .int .i64 u1, .int .i64 u2] := hP5.out.boxes _ (List.mem_append_right _ (List.mem_singleton.2 rfl))
            clear hst Pc Pf Pl Xc Xf Xl hM hX hkl
            generalize setBlock w2.drew M (.map (es.push ⟨keyV su sb, ptrV X, clock⟩) (clock + 1)) = w5 at *
            refine hK.out _ _ (⟨hP5.out.top.cell 0, hX5.cell 0, hX5.cell 1⟩) (fun hHeld => ?_)
            clear hK K hOld
            try simp only [Act.put, List.getElem_toArray, List.getElem_cons_succ, List.getElem_cons_zero, List.setIfInBounds_toArray, List.set_cons_zero, List.set_cons_succ]
            refine wpAnyH_done (by kernel_rfl) ?_ _
            simp only [Exit.inBlock, Exit.then]
            clear hHeld hX5
            obtain ⟨es2, hes2⟩ : ∃ es2, es2 = es.push ⟨keyV su sb, ptrV X, clock⟩ := ⟨_, rfl⟩
            rw [← hes2] at hP5
            clear hes2
            have hI3 : Hid ((bx ++ [((⟨su, sb, ⟨q0, q1, q2⟩, ⟨u0, u1, u2⟩⟩ : Share), X)]).map Prod.fst = xs.take (k + 1) ∧ (∀ b ∈ P :: M :: (bx ++ [((⟨su, sb, ⟨q0, q1, q2⟩, ⟨u0, u1, u2⟩⟩ : Share), X)]).map Prod.snd, w.heap.size ≤ b) ∧ k + 1 ≤ 64) := Lib.hid ⟨by
                rw [List.map_append, hI.out.1, ← List.take_append_getElem hlt, ← hs.out]; rfl, by
                intro b hb
                rw [List.map_append, List.map_singleton] at hb
                rcases List.mem_append.1 (show b ∈ (P :: M :: bx.map Prod.snd) ++ [X] from hb) with hb | hb
                · exact hI.out.2.1 b hb
                · simp at hb
                  rw [hb]; exact hXb.out, by omega⟩
            generalize hbx2 : bx ++ [((⟨su, sb, ⟨q0, q1, q2⟩, ⟨u0, u1, u2⟩⟩ : Share), X)] = bx2 at *
            clear hbx2
            go_wp2_with fail
            go_roundw
            case rel => exact ⟨k + 1, es2, clock + 1, bx2, by go_num, hlt, hP5.out, Lib.hid ⟨hI3.out.1, hI3.out.2.1, hI3.out.2.2, hI2.out⟩, hB5.out⟩
            case measure => simp [intOf]; omega
    · have hk' : k = xs.length := by omega
      have hgood : Good xs := ⟨fun j hj => hI.out.2.2.2 j hj (by omega), by have := hI.out.2.2.1; omega⟩
      have hL : Led wr P (fun b => w.heap.size ≤ b) xs := ⟨M, es, clock, bx, hM, by rw [hI.out.1, hk', List.take_length], hgood.rising, hI.out.2.1⟩
      have hgx := Lib.hid (hG.out.trans (goodB_true hgood))
      replace hL := Lib.hid hL
      clear hI hgood hM
      subst hk'
      go_wp2_with fail
      go_ret2
      exact ⟨Or.inl ⟨hgx.out, by rw [hP.out]; rfl, by rw [hP.out]; exact hL.out⟩, hB⟩
end Go.Proofs.Ytcjgblopcfcakaa
