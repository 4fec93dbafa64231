/- A ledger in memory: what its map and its shares are, and how they turn. Conditions: none. -/
import Derived.Test.YtcjgblopcfcakaaQt1
namespace Go.Proofs.Ytcjgblopcfcakaa
open Go.RowKit Go.MapKept
open Go.ChangeMaps (setBlock heap_setBlock_same heap_setBlock_other)

/-- The ledger at block P: its map in block M, of these entries, each share in a block of its own. -/
structure LedM (w : World) (P M : Nat) (es : Array MapEntry) (clock : Nat) (bx : List (Share × Nat)) : Prop where
  top : Blk w P 55 #[.map (some M)]
  map : w.heap[M]? = some (.map es clock)
  stamped : Stamped es clock
  ents : es.toList.map (fun e => (e.key, e.val)) = bx.map (fun x => (x.1.kv, ptrV x.2))
  apart : (P :: M :: bx.map Prod.snd).Nodup
  boxes : ∀ x ∈ bx, Blk w x.2 39 x.1.cs
  oks : ∀ x ∈ bx, x.1.ok
  few : bx.length ≤ 64
/-- The ledger at block P knows the shares L, rising; all that it has lies in blocks of S. -/
def Led (w : World) (P : Nat) (S : Nat → Prop) (L : List Share) : Prop :=
  ∃ M es clock bx, LedM w P M es clock bx ∧ (bx.map Prod.fst).Perm L ∧ Rising L ∧ ∀ b ∈ P :: M :: bx.map Prod.snd, S b

section
variable {w w' : World} {P M : Nat} {es : Array MapEntry} {clock : Nat} {bx : List (Share × Nat)} {L : List Share}
theorem LedM.len (h : LedM w P M es clock bx) : es.size = bx.length := by
  have := congrArg List.length h.ents
  simpa using this
theorem LedM.keys (h : LedM w P M es clock bx) : ∀ x ∈ es.toList, ∃ l, keyOf Try.prog 57 x.key = some l := by
  intro x hx
  have : (x.key, x.val) ∈ bx.map (fun x => (x.1.kv, ptrV x.2)) := h.ents ▸ List.mem_map_of_mem (f := fun e : MapEntry => (e.key, e.val)) hx
  obtain ⟨y, hy, e⟩ := List.mem_map.1 this
  obtain ⟨e1, e2⟩ := Prod.mk.inj e
  rw [← e1]
  exact key_of _ _ (h.oks y hy).1 (h.oks y hy).2.1
theorem LedM.fit (h : LedM w P M es clock bx) : Go.WideElems.Fit Try.prog 57 anyR es clock :=
  fit_any (by rw [h.len]; have := h.few; unfold maxLen; omega) h.stamped h.keys
theorem LedM.kvs (h : LedM w P M es clock bx) : es.toList.map (·.key) = bx.map (fun x => x.1.kv) := by
  have := congrArg (List.map Prod.fst) h.ents
  rw [List.map_map, List.map_map] at this
  exact this
theorem LedM.look_no (h : LedM w P M es clock bx) {W : World} (hm : W.heap[M]? = some (.map es clock)) {u : ByteArray} {b : Int} (hu : u.size ≤ 9223372036854775807) (hb : U8 b) (hno : ∀ x ∈ bx, isK u b x.1 = false) :
    (Instr.lookup 53 (.map (some M)) (keyV u b) false).run Try.prog W = .ok (.pointer none) W := by
  obtain ⟨l, hl⟩ := key_of u b hu hb
  refine look_absent key_law Try.underlying53 (zero_ptr W) hm h.fit hl (fun x hx e => ?_)
  have : x.key ∈ bx.map (fun x => x.1.kv) := h.kvs ▸ List.mem_map_of_mem (f := (·.key)) hx
  obtain ⟨y, hy, e'⟩ := List.mem_map.1 this
  have := isK_kv.2 (e'.trans e)
  rw [hno y hy] at this
  cases this
theorem LedM.look_yes (h : LedM w P M es clock bx) {W : World} (hm : W.heap[M]? = some (.map es clock)) {u : ByteArray} {b : Int} (hu : u.size ≤ 9223372036854775807) (hb : U8 b) {s : Share} {B : Nat} (hx : (s, B) ∈ bx) (hk : isK u b s = true) :
    (Instr.lookup 53 (.map (some M)) (keyV u b) false).run Try.prog W = .ok (ptrV B) W := by
  obtain ⟨l, hl⟩ := key_of u b hu hb
  have : (s.kv, ptrV B) ∈ es.toList.map (fun e => (e.key, e.val)) := h.ents ▸ List.mem_map_of_mem (f := fun x : Share × Nat => (x.1.kv, ptrV x.2)) hx
  obtain ⟨x, hx', e⟩ := List.mem_map.1 this
  obtain ⟨e1, e2⟩ := Prod.mk.inj e
  rw [← e2]
  exact look_there key_law Try.underlying53 (zero_ptr W) hm h.fit hl hx' (e1.trans (isK_kv.1 hk))
theorem get_none (hp : (bx.map Prod.fst).Perm L) {u : ByteArray} {b : Int} (hg : getS L u b = none) : ∀ x ∈ bx, isK u b x.1 = false := fun x hx => by
  have := List.find?_eq_none.1 hg x.1 (hp.mem_iff.1 (List.mem_map_of_mem (f := Prod.fst) hx))
  simpa using this
theorem get_some (hp : (bx.map Prod.fst).Perm L) {u : ByteArray} {b : Int} {s : Share} (hg : getS L u b = some s) : isK u b s = true ∧ ∃ B, (s, B) ∈ bx := by
  refine ⟨List.find?_some hg, ?_⟩
  obtain ⟨x, hx, rfl⟩ := List.mem_map.1 (hp.mem_iff.2 (List.mem_of_find?_eq_some hg))
  exact ⟨x.2, hx⟩

/-! ### A share turns -/
def turnB (bx : List (Share × Nat)) (B : Nat) (s' : Share) : List (Share × Nat) := bx.map fun y => if y.2 = B then (s', B) else y
theorem turn_snd (bx : List (Share × Nat)) (B : Nat) (s' : Share) : (turnB bx B s').map Prod.snd = bx.map Prod.snd := by
  unfold turnB
  rw [List.map_map]
  refine List.map_congr_left fun y _ => ?_
  show (if y.2 = B then (s', B) else y).2 = y.2
  split
  · rename_i h; exact h.symm
  · rfl
theorem LedM.snds (h : LedM w P M es clock bx) : (bx.map Prod.snd).Nodup := (List.nodup_cons.1 (List.nodup_cons.1 h.apart).2).2
theorem LedM.same (h : LedM w P M es clock bx) {x y : Share × Nat} (hx : x ∈ bx) (hy : y ∈ bx) (e : x.2 = y.2) : x = y := nodup_same Prod.snd h.snds hx hy e
theorem LedM.turn (h : LedM w P M es clock bx) {s s' : Share} {B : Nat} (hx : (s, B) ∈ bx) (hk : s'.kv = s.kv) (hok : s'.ok) (hg : w.grownBy w' (some B)) (hb : Blk w' B 39 s'.cs) : LedM w' P M es clock (turnB bx B s') := by
  have hBm : B ∈ bx.map Prod.snd := List.mem_map_of_mem (f := Prod.snd) hx
  obtain ⟨h1, h2⟩ := List.nodup_cons.1 h.apart
  obtain ⟨h3, h4⟩ := List.nodup_cons.1 h2
  have hPB : P ≠ B := fun e => h1 (List.mem_cons_of_mem _ (e ▸ hBm))
  have hMB : M ≠ B := fun e => h3 (e ▸ hBm)
  refine ⟨h.top.grown hg (by simpa using hPB), ?_, h.stamped, ?_, ?_, ?_, ?_, by simpa [turnB] using h.few⟩
  · rw [hg.block M (by rcases Nat.lt_or_ge M w.heap.size with q | q; exact q; have := h.map; rw [Array.getElem?_eq_none q] at this; cases this) (by simpa using hMB)]
    exact h.map
  · rw [h.ents, turnB, List.map_map]
    refine List.map_congr_left fun y hy => ?_
    show _ = ((if y.2 = B then (s', B) else y).1.kv, ptrV (if y.2 = B then (s', B) else y).2)
    split
    · rename_i e
      have := h.same hy hx e
      subst this
      rw [hk]
    · rfl
  · rw [turn_snd]; exact h.apart
  · intro x hx'
    obtain ⟨y, hy, rfl⟩ := List.mem_map.1 hx'
    show Blk w' (if y.2 = B then (s', B) else y).2 _ (if y.2 = B then (s', B) else y).1.cs
    split
    · exact hb
    · rename_i e
      exact (h.boxes y hy).grown hg (by simpa using e)
  · intro x hx'
    obtain ⟨y, hy, rfl⟩ := List.mem_map.1 hx'
    show (if y.2 = B then (s', B) else y).1.ok
    split
    · exact hok
    · exact h.oks y hy
theorem turn_perm (h : LedM w P M es clock bx) (hp : (bx.map Prod.fst).Perm L) (hr : Rising L) {u : ByteArray} {b : Int} {s : Share} {B : Nat} (hx : (s, B) ∈ bx) (hk : isK u b s = true) (f : Share → Share) : ((turnB bx B (f s)).map Prod.fst).Perm (updS L u b f) := by
  have e : (turnB bx B (f s)).map Prod.fst = (bx.map Prod.fst).map fun s => if isK u b s = true then f s else s := by
    unfold turnB
    rw [List.map_map, List.map_map]
    refine List.map_congr_left fun y hy => ?_
    show (if y.2 = B then (f s, B) else y).1 = if isK u b y.1 = true then f y.1 else y.1
    by_cases hy2 : y.2 = B
    · have := h.same hy hx hy2
      subst this
      rw [if_pos rfl, if_pos hk]
    · rw [if_neg hy2, if_neg]
      intro hk'
      have : y.1 = s := kv_inj hr (hp.mem_iff.1 (List.mem_map_of_mem (f := Prod.fst) hy)) (hp.mem_iff.1 (List.mem_map_of_mem (f := Prod.fst) hx)) ((isK_kv.1 hk').trans (isK_kv.1 hk).symm)
      have e2 : y.1.kv = s.kv := by rw [this]
      have hn := h.stamped.2.2
      rw [h.kvs] at hn
      exact hy2 (congrArg Prod.snd (nodup_same (fun x : Share × Nat => x.1.kv) hn hy hx e2))
  rw [e]
  exact hp.map _
theorem rising_upd (hr : Rising L) (u : ByteArray) (b : Int) (f : Share → Share) (hf : ∀ s, (f s).user = s.user ∧ (f s).band = s.band) : Rising (updS L u b f) := by
  unfold Rising updS
  rw [List.pairwise_map]
  refine hr.imp fun {x y} h => ?_
  have e : ∀ s : Share, (if isK u b s = true then f s else s).user = s.user ∧ (if isK u b s = true then f s else s).band = s.band := fun s => by split <;> simp [hf]
  unfold ltK at h ⊢
  rw [(e x).1, (e x).2, (e y).1, (e y).2]
  exact h

/-! ### A share comes -/
theorem LedM.push (h : LedM w P M es clock bx) {s : Share} (hno : ∀ x ∈ bx, x.1.kv ≠ s.kv) (hok : s.ok) (hfew : bx.length < 64) (hg : Below w.heap.size w w') :
    LedM (setBlock (w'.alloc (.cells s.cs 39)) M (.map (es.push ⟨s.kv, ptrV w'.heap.size, clock⟩) (clock + 1))) P M (es.push ⟨s.kv, ptrV w'.heap.size, clock⟩) (clock + 1) (bx ++ [(s, w'.heap.size)]) := by
  have hlt : ∀ {b : Nat}, b ∈ P :: M :: bx.map Prod.snd → b < w.heap.size := by
    intro b hb
    rcases List.mem_cons.1 hb with rfl | hb
    · exact h.top.lt
    · rcases List.mem_cons.1 hb with rfl | hb
      · rcases Nat.lt_or_ge b w.heap.size with q | q
        · exact q
        · have := h.map; rw [Array.getElem?_eq_none q] at this; cases this
      · obtain ⟨x, hx, rfl⟩ := List.mem_map.1 hb
        exact (h.boxes x hx).lt
  have hM : M < w.heap.size := hlt (by simp)
  obtain ⟨h1, h2⟩ := List.nodup_cons.1 h.apart
  obtain ⟨h3, h4⟩ := List.nodup_cons.1 h2
  have hMw : (w'.alloc (.cells s.cs 39)).heap[M]? = some (.map es clock) := by
    rw [Below.heap_alloc w' _ M (Nat.lt_of_lt_of_le hM hg.size), hg.block M hM]
    exact h.map
  have hkeep : ∀ {g : Nat} {t : TypeId} {cs : Array Value} (o : Obj), g ≠ M → Blk (w'.alloc (.cells s.cs 39)) g t cs → Blk (setBlock (w'.alloc (.cells s.cs 39)) M o) g t cs := fun o hne hB => (heap_setBlock_other hMw o hne).trans hB
  refine ⟨?_, heap_setBlock_same hMw _, stamped_push h.stamped ?_, ?_, ?_, ?_, ?_, by simp; omega⟩
  · exact hkeep _ (fun e => h1 (by simp [e])) ((h.top.past hg).alloc _)
  · intro x hx e
    have : x.key ∈ bx.map (fun x => x.1.kv) := h.kvs ▸ List.mem_map_of_mem (f := (·.key)) hx
    obtain ⟨y, hy, e'⟩ := List.mem_map.1 this
    exact hno y hy (e'.trans e)
  · simp [h.ents]
  · rw [List.map_append, List.map_singleton]
    have e : P :: M :: (bx.map Prod.snd ++ [w'.heap.size]) = (P :: M :: bx.map Prod.snd) ++ [w'.heap.size] := rfl
    show (P :: M :: (bx.map Prod.snd ++ [w'.heap.size])).Nodup
    rw [e, List.nodup_append]
    refine ⟨h.apart, by simp, fun a ha b hb => ?_⟩
    have := hlt ha
    have := hg.size
    simp at hb
    omega
  · intro x hx
    rcases List.mem_append.1 hx with hx | hx
    · exact hkeep _ (fun e => h3 (e ▸ List.mem_map_of_mem (f := Prod.snd) hx)) (((h.boxes x hx).past hg).alloc _)
    · simp at hx
      subst hx
      exact hkeep _ (by have := hg.size; show w'.heap.size ≠ M; omega) (Blk.new w' _ _)
  · intro x hx
    rcases List.mem_append.1 hx with hx | hx
    · exact h.oks x hx
    · simp at hx
      subst hx
      exact hok
theorem put_perm (s : Share) : ∀ L : List Share, (putS s L).Perm (s :: L)
  | [] => List.Perm.refl _
  | x :: L => by
    unfold putS
    split
    · exact List.Perm.refl _
    · exact ((put_perm s L).cons x).trans (List.Perm.swap s x L)
theorem rising_put {s : Share} : ∀ {L : List Share}, Rising L → (∀ x ∈ L, x.kv ≠ s.kv) → Rising (putS s L)
  | [], _, _ => by simp [putS, Rising]
  | x :: L, h, hno => by
    unfold Rising at h
    obtain ⟨h1, h2⟩ := List.pairwise_cons.1 h
    unfold putS
    split
    · rename_i hl
      refine List.pairwise_cons.2 ⟨fun y hy => ?_, h⟩
      rcases List.mem_cons.1 hy with rfl | hy
      · exact hl
      · exact ltK_trans hl (h1 y hy)
    · rename_i hl
      refine List.pairwise_cons.2 ⟨fun y hy => ?_, rising_put h2 (fun y hy => hno y (by simp [hy]))⟩
      rcases List.mem_cons.1 ((put_perm s L).mem_iff.1 hy) with rfl | hy
      · cases hxs : ltK x.user x.band y with
        | true => rfl
        | false =>
          obtain ⟨e1, e2⟩ := ltK_total hxs (by simpa using hl)
          exact absurd (by simp [Share.kv, e1, e2]) (hno x (by simp))
      · exact h1 y hy
theorem none_kv {u : ByteArray} {b : Int} {s : Share} (hk : isK u b s = true) (hg : getS L u b = none) : ∀ x ∈ L, x.kv ≠ s.kv := fun x hx e => by
  have := List.find?_eq_none.1 hg x hx
  exact this (isK_kv.2 (e.trans (isK_kv.1 hk)))
end

section
variable {w w' : World} {P : Nat} {S S' : Nat → Prop} {L : List Share}
theorem Led.mono (h : Led w P S L) (hs : ∀ b, S b → S' b) : Led w P S' L := by
  obtain ⟨M, es, clock, bx, hM, hp, hr, hS⟩ := h
  exact ⟨M, es, clock, bx, hM, hp, hr, fun b hb => hs b (hS b hb)⟩
theorem Led.lt (h : Led w P S L) : P < w.heap.size := by
  obtain ⟨M, es, clock, bx, hM, _⟩ := h
  exact hM.top.lt
theorem Led.at_ (h : Led w P S L) : S P := by
  obtain ⟨M, es, clock, bx, hM, hp, hr, hS⟩ := h
  exact hS P (by simp)
theorem Led.rising (h : Led w P S L) : Rising L := by
  obtain ⟨M, es, clock, bx, hM, hp, hr, hS⟩ := h
  exact hr
theorem Led.oks (h : Led w P S L) : ∀ s ∈ L, s.ok := by
  obtain ⟨M, es, clock, bx, hM, hp, hr, hS⟩ := h
  intro s hs
  obtain ⟨x, hx, rfl⟩ := List.mem_map.1 (hp.mem_iff.2 hs)
  exact hM.oks x hx
theorem Led.few (h : Led w P S L) : L.length ≤ 64 := by
  obtain ⟨M, es, clock, bx, hM, hp, hr, hS⟩ := h
  rw [← hp.length_eq, List.length_map]
  exact hM.few
/-- What turns nothing of it leaves it. -/
theorem LedM.kept {M : Nat} {es : Array MapEntry} {clock : Nat} {bx : List (Share × Nat)} (h : LedM w P M es clock bx) (hk : ∀ b ∈ P :: M :: bx.map Prod.snd, b < w.heap.size → w'.heap[b]? = w.heap[b]?) : LedM w' P M es clock bx := by
  have hM : M < w.heap.size := by
    rcases Nat.lt_or_ge M w.heap.size with q | q
    · exact q
    · have := h.map; rw [Array.getElem?_eq_none q] at this; cases this
  exact ⟨(hk P (by simp) h.top.lt).trans h.top, (hk M (by simp) hM).trans h.map, h.stamped, h.ents, h.apart, fun x hx => (hk x.2 (by have := List.mem_map_of_mem (f := Prod.snd) hx; simp only [List.mem_cons]; exact Or.inr (Or.inr this)) (h.boxes x hx).lt).trans (h.boxes x hx), h.oks, h.few⟩
theorem Led.kept (h : Led w P S L) (hk : OnlyS S' w w') (hd : ∀ b, S b → ¬ S' b) : Led w' P S L := by
  obtain ⟨M, es, clock, bx, hM, hp, hr, hS⟩ := h
  exact ⟨M, es, clock, bx, hM.kept (fun b hb hlt => hk.block b hlt (hd b (hS b hb))), hp, hr, hS⟩
theorem Led.past (h : Led w P S L) (hb : Below w.heap.size w w') : Led w' P S L := by
  obtain ⟨M, es, clock, bx, hM, hp, hr, hS⟩ := h
  exact ⟨M, es, clock, bx, hM.kept (fun b _ hlt => hb.block b hlt), hp, hr, hS⟩
end
end Go.Proofs.Ytcjgblopcfcakaa
