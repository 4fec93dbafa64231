/- Ledgers, walked: a new one; Set, Take, Give, Left as what they make of the list of shares. Conditions: what comes in is of its kind. -/
import Derived.Test.YtcjgblopcfcakaaQt3
import Derived.Test.YtcjgblopcfcakaaSpec1
namespace Go.Proofs.Ytcjgblopcfcakaa
open Go.RowKit Go.MapKept
open Go.ChangeMaps (setBlock)

section
variable {w : World} {P M : Nat} {es : Array MapEntry} {clock : Nat} {bx : List (Share × Nat)}
theorem LedM.ltM (h : LedM w P M es clock bx) : M < w.heap.size := by
  rcases Nat.lt_or_ge M w.heap.size with q | q
  · exact q
  · have := h.map; rw [Array.getElem?_eq_none q] at this; cases this
theorem LedM.mapX (h : LedM w P M es clock bx) (x : Beyond w) : (extn w x).heap[M]? = some (.map es clock) := ((extn_below w x).block M h.ltM).trans h.map
theorem LedM.look_noX (h : LedM w P M es clock bx) {u : ByteArray} {b : Int} (hu : u.size ≤ 9223372036854775807) (hb : U8 b) (hno : ∀ x ∈ bx, isK u b x.1 = false) (x : Beyond w) :
    (Instr.lookup 53 (.map (some M)) (keyV u b) false).run Try.prog (extn w x) = .ok (.pointer none) (extn w x) := h.look_no (h.mapX x) hu hb hno
theorem LedM.look_yesX (h : LedM w P M es clock bx) {u : ByteArray} {b : Int} (hu : u.size ≤ 9223372036854775807) (hb : U8 b) {s : Share} {B : Nat} (hx : (s, B) ∈ bx) (hk : isK u b s = true) (x : Beyond w) :
    (Instr.lookup 53 (.map (some M)) (keyV u b) false).run Try.prog (extn w x) = .ok (ptrV B) (extn w x) := h.look_yes (h.mapX x) hu hb hx hk
theorem LedM.past {w' : World} (h : LedM w P M es clock bx) (hb : Below w.heap.size w w') : LedM w' P M es clock bx := h.kept (fun b _ hlt => hb.block b hlt)
end

/-! ### New -/
theorem q_New (w : World) : Calls Try.prog 9 #[] w fun e w' => e = .returned (ptrV (w.heap.size + 1)) ∧ Led w' (w.heap.size + 1) (fun b => w.heap.size ≤ b) [] ∧ Below w.heap.size w w' := by
  have hmm := @run_makeMap Try.prog
  go_enter Try.func9, Try.ntmps9
  go_wp2
  go_ret
  refine ⟨rfl, ⟨w.heap.size, #[], 0, [], ⟨Blk.new1 w _ _ _, ?_, stamped_empty 0, rfl, by simp, by simp, by simp, by simp⟩, List.Perm.refl _, List.Pairwise.nil, by simp⟩, by go_grown⟩
  rw [Below.heap_alloc _ _ w.heap.size (by simp)]
  exact heap_alloc_new w _

/-! ### What the calls make of the shares -/
def onE (L : List Share) (u : ByteArray) (b : Int) (f : Share → Int) : Int := match getS L u b with | none => 5 | some s => f s
def onL (L : List Share) (u : ByteArray) (b : Int) (f : Share → Share) : List Share := match getS L u b with | none => L | some _ => updS L u b f
def setE (L : List Share) (u : ByteArray) (b : Int) (v : Vec) : Int :=
  if nameB u = true then (if bandB b = true then (if mayV v = true then (match getS L u b with | some _ => 0 | none => if 64 ≤ L.length then 6 else 0) else 163) else 161) else 160
def setS (v : Vec) (s : Share) : Share := { s with quota := v }
def setL (L : List Share) (u : ByteArray) (b : Int) (v : Vec) : List Share :=
  if setE L u b v = 0 then (match getS L u b with | some _ => updS L u b (setS v) | none => putS ⟨u, b, v, zeroV⟩ L) else L

theorem takeS_ok {s : Share} {v : Vec} (hs : s.ok) : (takeS s v).ok ∧ (takeS s v).kv = s.kv ∧ (takeS s v).user = s.user ∧ (takeS s v).band = s.band := by
  unfold takeS
  split
  · refine ⟨⟨hs.1, hs.2.1, hs.2.2.1, ?_⟩, rfl, rfl, rfl⟩
    show (addV s.used v).1.ok
    unfold addV eachV
    split
    · rename_i h
      simp only [Bool.and_eq_true, fits, decide_eq_true_eq] at h
      exact ⟨h.1.1, h.1.2, h.2⟩
    · decide
  · exact ⟨hs, rfl, rfl, rfl⟩
theorem giveS_ok {s : Share} {v : Vec} (hs : s.ok) : (giveS s v).ok ∧ (giveS s v).kv = s.kv ∧ (giveS s v).user = s.user ∧ (giveS s v).band = s.band := by
  unfold giveS
  split
  · refine ⟨⟨hs.1, hs.2.1, hs.2.2.1, ?_⟩, rfl, rfl, rfl⟩
    show (subV s.used v).1.ok
    unfold subV eachV
    split
    · rename_i h
      simp only [Bool.and_eq_true, fits, decide_eq_true_eq] at h
      exact ⟨h.1.1, h.1.2, h.2⟩
    · decide
  · exact ⟨hs, rfl, rfl, rfl⟩

/-- A share that turned, in the ledger. -/
theorem Led.turned {w0 w1 w' : World} {P M : Nat} {es : Array MapEntry} {clock : Nat} {bx : List (Share × Nat)} {S : Nat → Prop} {L : List Share} {u : ByteArray} {b : Int} {s : Share} {B : Nat} (hb : Below w0.heap.size w0 w1) (hM : LedM w1 P M es clock bx) (hp : (bx.map Prod.fst).Perm L) (hr : Rising L)
    (hS : ∀ b ∈ P :: M :: bx.map Prod.snd, S b) (hx : (s, B) ∈ bx) (hk : isK u b s = true) (f : Share → Share) (hf : ∀ s, (f s).user = s.user ∧ (f s).band = s.band) (hok : (f s).ok) (hB : Blk w' B 39 (f s).cs) (hg : w1.grownBy w' (some B)) :
    Led w' P S (updS L u b f) ∧ OnlyS S w0 w' := by
  have hSB : S B := hS B (by have := List.mem_map_of_mem (f := Prod.snd) hx; simp only [List.mem_cons]; exact Or.inr (Or.inr this))
  refine ⟨⟨M, es, clock, turnB bx B (f s), hM.turn hx (by unfold Share.kv; rw [(hf s).1, (hf s).2]) hok hg hB, turn_perm hM hp hr hx hk f, rising_upd hr u b f hf, ?_⟩, (OnlyS.below hb).trans (OnlyS.grown hg hSB) (fun _ h => Or.inl h)⟩
  rw [turn_snd]
  exact hS
theorem takeS_key (v : Vec) (s : Share) : (takeS s v).user = s.user ∧ (takeS s v).band = s.band := by unfold takeS; split <;> exact ⟨rfl, rfl⟩
theorem giveS_key (v : Vec) (s : Share) : (giveS s v).user = s.user ∧ (giveS s v).band = s.band := by unfold giveS; split <;> exact ⟨rfl, rfl⟩
set_option maxHeartbeats 1000000 in
theorem q_Take (w : World) (P : Nat) (S : Nat → Prop) (L : List Share) (h : Led w P S L) (u : ByteArray) (b : Int) (v : Vec) (hu : u.size ≤ 9223372036854775807) (hb : U8 b) (hv : v.ok) :
    Calls Try.prog 11 #[ptrV P, .string u, .int .u8 b, v.v] w fun e w' => e = .returned (.int .i64 (onE L u b (fun s => takeR s v))) ∧ Led w' P S (onL L u b (fun s => takeS s v)) ∧ OnlyS S w w' := by
  obtain ⟨M, es, clock, bx, hM, hp, hr, hS⟩ := h
  unfold onE onL
  have hA : Below w.heap.size w (w.alloc (.cells #[.int .i64 v.cpu, .int .i64 v.mem, .int .i64 v.disk] 28)) := below_own (below_self w) _
  have hM1 := hM.past hA
  have hV := Blk.new w 28 #[.int .i64 v.cpu, .int .i64 v.mem, .int .i64 v.disk]
  cases hg : getS L u b with
  | none =>
    have C := Lib.hid (on_none 28 (ptrV w.heap.size) P M u b _ hM1.top (hM1.look_no hM1.map hu hb (get_none hp hg)))
    have hL : RowKit.Hid (Led _ P S L) := Lib.hid ⟨M, es, clock, bx, hM1, hp, hr, hS⟩
    replace hA := Lib.hid hA
    clear hM1 hM hV hp hg hS hr
    obtain ⟨v0, v1, v2⟩ := v
    dsimp only at *
    go_enter Try.func11, Try.ntmps11
    go_wp2_with fail
    refine (C.out).mono ?_
    rintro r ww ⟨rfl, rfl⟩; dsimp only
    go_wp2_with fail
    go_ret
    exact ⟨rfl, hL.out, OnlyS.below hA.out⟩
  | some s =>
    obtain ⟨hk, B, hx⟩ := get_some hp hg
    have hs := hM.oks _ hx
    have hne : B ≠ w.heap.size := Nat.ne_of_lt (hM.boxes _ hx).lt
    have C := Lib.hid (on_Take P M u b B (ptrV w.heap.size) _ hM1.top (hM1.look_yes hM1.map hu hb hx hk) (takeR s v) _ (take_clo s v B w.heap.size _ hs hv (hM1.boxes _ hx) hV hne))
    have hT : RowKit.Hid (∀ w', Blk w' B 39 (takeS s v).cs ∧ (w.alloc (.cells #[.int .i64 v.cpu, .int .i64 v.mem, .int .i64 v.disk] 28)).grownBy w' (some B) → Led w' P S (updS L u b (fun s => takeS s v)) ∧ OnlyS S w w') :=
      Lib.hid (fun w' hw => Led.turned hA hM1 hp hr hS hx hk (fun s => takeS s v) (fun s => by unfold takeS; split <;> exact ⟨rfl, rfl⟩) (by first | exact (takeS_ok hs).1 | exact (giveS_ok hs).1) hw.1 hw.2)
    clear hM1 hM hV hp hg hS hr hA hx hs hk hne
    obtain ⟨v0, v1, v2⟩ := v
    dsimp only at *
    generalize takeR s ⟨v0, v1, v2⟩ = r at *
    go_enter Try.func11, Try.ntmps11
    go_wp2_with fail
    refine (C.out).mono ?_
    rintro r ww ⟨rfl, hw⟩; dsimp only
    replace hT := Lib.hid (hT.out _ hw)
    clear hw C
    go_wp2_with fail
    go_ret
    exact ⟨rfl, hT.out⟩
set_option maxHeartbeats 1000000 in
    theorem q_Give (w : World) (P : Nat) (S : Nat → Prop) (L : List Share) (h : Led w P S L) (u : ByteArray) (b : Int) (v : Vec) (hu : u.size ≤ 9223372036854775807) (hb : U8 b) (hv : v.ok) :
        Calls Try.prog 14 #[ptrV P, .string u, .int .u8 b, v.v] w fun e w' => e = .returned (.int .i64 (onE L u b (fun s => giveR s v))) ∧ Led w' P S (onL L u b (fun s => giveS s v)) ∧ OnlyS S w w' := by
      obtain ⟨M, es, clock, bx, hM, hp, hr, hS⟩ := h
      unfold onE onL
      have hA : Below w.heap.size w (w.alloc (.cells #[.int .i64 v.cpu, .int .i64 v.mem, .int .i64 v.disk] 28)) := below_own (below_self w) _
      have hM1 := hM.past hA
      have hV := Blk.new w 28 #[.int .i64 v.cpu, .int .i64 v.mem, .int .i64 v.disk]
      cases hg : getS L u b with
      | none =>
        have C := Lib.hid (on_none 32 (ptrV w.heap.size) P M u b _ hM1.top (hM1.look_no hM1.map hu hb (get_none hp hg)))
        have hL : RowKit.Hid (Led _ P S L) := Lib.hid ⟨M, es, clock, bx, hM1, hp, hr, hS⟩
        replace hA := Lib.hid hA
        clear hM1 hM hV hp hg hS hr
        obtain ⟨v0, v1, v2⟩ := v
        dsimp only at *
        go_enter Try.func14, Try.ntmps14
        go_wp2_with fail
        refine (C.out).mono ?_
        rintro r ww ⟨rfl, rfl⟩; dsimp only
        go_wp2_with fail
        go_ret
        exact ⟨rfl, hL.out, OnlyS.below hA.out⟩
      | some s =>
        obtain ⟨hk, B, hx⟩ := get_some hp hg
        have hs := hM.oks _ hx
        have hne : B ≠ w.heap.size := Nat.ne_of_lt (hM.boxes _ hx).lt
        have C := Lib.hid (on_Give P M u b B (ptrV w.heap.size) _ hM1.top (hM1.look_yes hM1.map hu hb hx hk) (giveR s v) _ (give_clo s v B w.heap.size _ hs hv (hM1.boxes _ hx) hV))
        have hT : RowKit.Hid (∀ w', Blk w' B 39 (giveS s v).cs ∧ (w.alloc (.cells #[.int .i64 v.cpu, .int .i64 v.mem, .int .i64 v.disk] 28)).grownBy w' (some B) → Led w' P S (updS L u b (fun s => giveS s v)) ∧ OnlyS S w w') :=
          Lib.hid (fun w' hw => Led.turned hA hM1 hp hr hS hx hk (fun s => giveS s v) (fun s => by unfold giveS; split <;> exact ⟨rfl, rfl⟩) (by first | exact (takeS_ok hs).1 | exact (giveS_ok hs).1) hw.1 hw.2)
        clear hM1 hM hV hp hg hS hr hA hx hs hk hne
        obtain ⟨v0, v1, v2⟩ := v
        dsimp only at *
        generalize giveR s ⟨v0, v1, v2⟩ = r at *
        go_enter Try.func14, Try.ntmps14
        go_wp2_with fail
        refine (C.out).mono ?_
        rintro r ww ⟨rfl, hw⟩; dsimp only
        replace hT := Lib.hid (hT.out _ hw)
        clear hw C
        go_wp2_with fail
        go_ret
        exact ⟨rfl, hT.out⟩
theorem below_grown {w w1 w2 : World} {V : Nat} (hb : Below w.heap.size w w1) (hg : w1.grownBy w2 (some V)) (hV : w.heap.size ≤ V) : Below w.heap.size w w2 :=
  ⟨hg.os.trans hb.os, hg.tape.trans hb.tape, hg.output.trans hb.output, Nat.le_trans hb.size hg.size, fun k hk => (hg.block k (Nat.lt_of_lt_of_le hk hb.size) (by simp; omega)).trans (hb.block k hk)⟩
def leftL (L : List Share) (u : ByteArray) (b : Int) : Vec := match getS L u b with | none => zeroV | some s => leftV s
def leftE (L : List Share) (u : ByteArray) (b : Int) : Int := match getS L u b with | none => 5 | some _ => 0
set_option maxHeartbeats 1000000 in
theorem q_Left (w : World) (P : Nat) (S : Nat → Prop) (L : List Share) (h : Led w P S L) (u : ByteArray) (b : Int) (hu : u.size ≤ 9223372036854775807) (hb : U8 b) :
    Calls Try.prog 17 #[ptrV P, .string u, .int .u8 b] w fun e w' => e = .returned (.tuple #[(leftL L u b).v, .int .i64 (leftE L u b)]) ∧ Below w.heap.size w w' := by
  obtain ⟨M, es, clock, bx, hM, hp, hr, hS⟩ := h
  unfold leftL leftE
  have hA : Below w.heap.size w (w.alloc (.cells #[.int .i64 0, .int .i64 0, .int .i64 0] 28)) := below_own (below_self w) _
  have hM1 := hM.past hA
  have hV := Blk.new w 28 #[.int .i64 0, .int .i64 0, .int .i64 0]
  cases hg : getS L u b with
  | none =>
    have C := Lib.hid (on_none 36 (ptrV w.heap.size) P M u b _ hM1.top (hM1.look_no hM1.map hu hb (get_none hp hg)))
    clear hM1 hM hp hg hS hr
    dsimp only [zeroV] at *
    obtain ⟨Vc, Vf, Vl⟩ := hV.facts
    go_enter Try.func17, Try.ntmps17
    go_wp2_with fail
    refine (C.out).mono ?_
    rintro r ww ⟨rfl, rfl⟩; dsimp only
    go_wp2_with fail
    go_returns
    exact ⟨rfl, by go_grown⟩
  | some s =>
    obtain ⟨hk, B, hx⟩ := get_some hp hg
    have hs := hM.oks _ hx
    have C := Lib.hid (on_Left P M u b B (ptrV w.heap.size) _ hM1.top (hM1.look_yes hM1.map hu hb hx hk) 0 _ (left_clo s B w.heap.size _ _ hs (hM1.boxes _ hx) hV rfl))
    clear hM1 hM hp hg hS hr hx hs hk hV
    dsimp only at *
    generalize leftV s = r at *
    obtain ⟨r0, r1, r2⟩ := r
    dsimp only at *
    go_enter Try.func17, Try.ntmps17
    go_wp2_with fail
    refine (C.out).mono ?_
    rintro r ww ⟨rfl, hV, hG⟩; dsimp only
    replace hA := Lib.hid (below_grown hA hG (Nat.le_refl _))
    clear hG C
    have hV2 := Lib.hid hV
    obtain ⟨Vc, Vf, Vl⟩ := hV.facts
    clear hV
    go_wp2_with fail
    have hV3 := ((hV2.out.put 0 (.int .i64 r0) rfl).put 1 (.int .i64 r1) rfl).put 2 (.int .i64 r2) rfl
    obtain ⟨Wc, Wf, Wl⟩ := hV3.facts
    have hA3 := Lib.hid (((hA.out.setCell (p := ⟨w.heap.size, 0, none⟩) (Nat.le_refl _) (.int .i64 r0)).setCell (p := ⟨w.heap.size, 1, none⟩) (Nat.le_refl _) (.int .i64 r1)).setCell (p := ⟨w.heap.size, 2, none⟩) (Nat.le_refl _) (.int .i64 r2))
    clear Vc Vf Vl hV2 hV3 hA
    generalize ((ww.setCell ⟨w.heap.size, 0, none⟩ (.int .i64 r0)).setCell ⟨w.heap.size, 1, none⟩ (.int .i64 r1)).setCell ⟨w.heap.size, 2, none⟩ (.int .i64 r2) = W3 at *
    refine bodyPost_ret (v := .tuple #[.agg #[.int .i64 r0, .int .i64 r1, .int .i64 r2], .int .i64 0]) (by simp [results, Try.results17, go_sem, Wc]) rfl ?_
    exact ⟨rfl, hA3.out⟩

/-! ### No ledger -/
theorem q_nil_Take (u : ByteArray) (b : Int) (v : Vec) (w : World) : Calls Try.prog 11 #[.pointer none, .string u, .int .u8 b, v.v] w fun e w' => e = .returned (.int .i64 1) ∧ Below w.heap.size w w' := by
  have C := Lib.hid (on_nil 28 (ptrV w.heap.size) u b (w.alloc (.cells #[.int .i64 v.cpu, .int .i64 v.mem, .int .i64 v.disk] 28)))
  obtain ⟨v0, v1, v2⟩ := v
  dsimp only at *
  go_enter Try.func11, Try.ntmps11
  go_wp2_with fail
  refine (C.out).mono ?_
  rintro r ww ⟨rfl, rfl⟩; dsimp only
  go_wp2_with fail
  go_ret
  exact ⟨rfl, by go_grown⟩
theorem q_nil_Give (u : ByteArray) (b : Int) (v : Vec) (w : World) : Calls Try.prog 14 #[.pointer none, .string u, .int .u8 b, v.v] w fun e w' => e = .returned (.int .i64 1) ∧ Below w.heap.size w w' := by
    have C := Lib.hid (on_nil 32 (ptrV w.heap.size) u b (w.alloc (.cells #[.int .i64 v.cpu, .int .i64 v.mem, .int .i64 v.disk] 28)))
    obtain ⟨v0, v1, v2⟩ := v
    dsimp only at *
    go_enter Try.func14, Try.ntmps14
    go_wp2_with fail
    refine (C.out).mono ?_
    rintro r ww ⟨rfl, rfl⟩; dsimp only
    go_wp2_with fail
    go_ret
    exact ⟨rfl, by go_grown⟩
theorem q_nil_Left (u : ByteArray) (b : Int) (w : World) : Calls Try.prog 17 #[.pointer none, .string u, .int .u8 b] w fun e w' => e = .returned (.tuple #[.agg #[.int .i64 0, .int .i64 0, .int .i64 0], .int .i64 1]) ∧ Below w.heap.size w w' := by
  have C := Lib.hid (on_nil 36 (ptrV w.heap.size) u b (w.alloc (.cells #[.int .i64 0, .int .i64 0, .int .i64 0] 28)))
  obtain ⟨Vc, Vf, Vl⟩ := (Blk.new w 28 #[.int .i64 0, .int .i64 0, .int .i64 0]).facts
  go_enter Try.func17, Try.ntmps17
  go_wp2_with fail
  refine (C.out).mono ?_
  rintro r ww ⟨rfl, rfl⟩; dsimp only
  go_wp2_with fail
  go_returns
  exact ⟨rfl, by go_grown⟩
theorem q_nil_Set (u : ByteArray) (b : Int) (v : Vec) (w : World) : Calls Try.prog 10 #[.pointer none, .string u, .int .u8 b, v.v] w fun e w' => e = .returned (.int .i64 1) ∧ Below w.heap.size w w' := by
  have C := Lib.hid (fun w => q_none_nil w)
  obtain ⟨v0, v1, v2⟩ := v
  go_enter Try.func10, Try.ntmps10
  go_wp2_with fail
  refine (C.out _).mono ?_
  rintro r ww ⟨rfl, rfl⟩; dsimp only
  go_wp2_with fail
  go_ret
  exact ⟨rfl, by go_grown⟩
end Go.Proofs.Ytcjgblopcfcakaa
