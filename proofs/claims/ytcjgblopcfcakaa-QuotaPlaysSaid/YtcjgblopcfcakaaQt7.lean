/- Lists of shares in memory; what a range over a map has taken; lists that are sorted. Conditions: none. -/
import Derived.Test.YtcjgblopcfcakaaQt6
import Derived.Shelf.SlSortCmp.NoneTotal
import Derived.Maps.RangeWalk
namespace Go.Proofs.Ytcjgblopcfcakaa
open Go.RowKit Go.MapKept

instance : Inhabited Share := ⟨⟨⟨#[]⟩, 0, zeroV, zeroV⟩⟩
def shRow (s : Share) : List Value := [.string s.user, .int .u8 s.band, .int .i64 s.quota.cpu, .int .i64 s.quota.mem, .int .i64 s.quota.disk, .int .i64 s.used.cpu, .int .i64 s.used.mem, .int .i64 s.used.disk]
def flatS (xs : List Share) : List Value := xs.flatMap shRow
theorem shRow_len (s : Share) : (shRow s).length = 8 := rfl
theorem shRow_cell {s : Share} {v : Value} (h : v ∈ shRow s) : v.oneCell' = true := by
  simp [shRow] at h
  rcases h with rfl | rfl | rfl | rfl | rfl | rfl | rfl | rfl <;> rfl
theorem flatS_snoc (xs : List Share) (x : Share) : flatS (xs ++ [x]) = flatS xs ++ shRow x := by simp [flatS]
theorem flatS_len : ∀ xs : List Share, (flatS xs).length = xs.length * 8
  | [] => rfl
  | x :: xs => by
    have := flatS_len xs
    unfold flatS at *
    rw [List.flatMap_cons, List.length_append, this, shRow_len, List.length_cons]
    omega
theorem flatS_get : ∀ (xs : List Share) (k j : Nat) (h : k < xs.length), j < 8 → (flatS xs)[k * 8 + j]? = (shRow xs[k])[j]?
  | [], k, _, h, _ => by simp at h
  | x :: xs, 0, j, h, hj => by
    unfold flatS
    rw [List.flatMap_cons, Nat.zero_mul, Nat.zero_add, List.getElem?_append_left (by rw [shRow_len]; exact hj)]
    rfl
  | x :: xs, k + 1, j, h, hj => by
    have := flatS_get xs k j (by simpa using h) hj
    unfold flatS at *
    rw [List.flatMap_cons, List.getElem?_append_right (by rw [shRow_len]; omega), shRow_len, show (k + 1) * 8 + j - 8 = k * 8 + j by omega, this]
    rfl
theorem shareInfo : (Try.prog.info? 39).map (fun i => (i.zero, i.size, i.bytes)) = some (some (.agg #[.string ⟨#[]⟩, .int .u8 0, .int .i64 0, .int .i64 0, .int .i64 0, .int .i64 0, .int .i64 0, .int .i64 0]), 8, 72) := by kernel_rfl
/-- A block whose cells begin with these shares is a list of them. -/
theorem shares_of {w : World} {g : Nat} {cur : Array Value} {e : TypeId} {xs : List Share} (hb : w.heap[g]? = some (.cells cur e (0, 0))) (ht : cur.toList.take (xs.length * 8) = flatS xs) : SharesIn w (some ⟨g, 0, none⟩) xs := fun _ => by
  refine ⟨g, 0, rfl, ?_, fun i hi => ?_⟩
  · rcases Nat.lt_or_ge g w.heap.size with h | h
    · exact h
    · rw [Array.getElem?_eq_none h] at hb; cases hb
  · have hb' : Blk w g e cur := hb
    have q : ∀ j, j < 8 → w.cell? ⟨g, i * 8 + j, none⟩ = (shRow xs[i])[j]? := fun j hj => by
      rw [hb'.cell, ← flatS_get xs i j hi hj, ← ht, List.getElem?_take_of_lt (by omega), Array.getElem?_toList]
    simp only [Nat.zero_add]
    exact ⟨q 0 (by decide), q 1 (by decide), q 2 (by decide), q 3 (by decide), q 4 (by decide), q 5 (by decide), q 6 (by decide), q 7 (by decide)⟩

/-! ### What a range has taken -/
theorem contains_push (seen : Array Nat) (a b : Nat) : (seen.push b).contains a = (seen.contains a || a == b) := by
  rw [Bool.eq_iff_iff]
  simp
theorem filter_more {α : Type} (f : α → Nat) (seen : Array Nat) {p : α} (hs : seen.contains (f p) = false) : ∀ {l : List α}, (l.map f).Nodup → p ∈ l →
    (l.filter (fun q => (seen.push (f p)).contains (f q))).Perm (p :: l.filter (fun q => seen.contains (f q)))
  | [], _, h => by cases h
  | x :: l, hn, h => by
    rw [List.map_cons, List.nodup_cons] at hn
    rcases List.mem_cons.1 h with rfl | h
    · have e : l.filter (fun q => (seen.push (f p)).contains (f q)) = l.filter (fun q => seen.contains (f q)) := by
        refine List.filter_congr fun q hq => ?_
        rw [contains_push]
        have : f q ≠ f p := fun e => hn.1 (e ▸ List.mem_map_of_mem (f := f) hq)
        simp [this]
      rw [List.filter_cons, List.filter_cons, contains_push, hs, e]
      simp
    · have ih := filter_more f seen hs hn.2 h
      have hne : f x ≠ f p := fun e => hn.1 (e ▸ List.mem_map_of_mem (f := f) h)
      rw [List.filter_cons, List.filter_cons, contains_push, show (f x == f p) = false by simpa using hne, Bool.or_false]
      split
      · exact (ih.cons x).trans (List.Perm.swap _ _ _)
      · exact ih
/-- The shares of the entries that a range has taken. -/
def taken (es : Array MapEntry) (bx : List (Share × Nat)) (seen : Array Nat) : List Share := ((es.toList.zip bx).filter fun p => seen.contains p.1.born).map fun p => p.2.1
section
variable {w : World} {P M : Nat} {es : Array MapEntry} {clock : Nat} {bx : List (Share × Nat)}
theorem LedM.zip_fst (h : LedM w P M es clock bx) : (es.toList.zip bx).map Prod.fst = es.toList := List.map_fst_zip (by have := h.len; simp; omega)
theorem LedM.zip_snd (h : LedM w P M es clock bx) : (es.toList.zip bx).map Prod.snd = bx := List.map_snd_zip (by have := h.len; simp; omega)
theorem LedM.entry (h : LedM w P M es clock bx) {e : MapEntry} (he : e ∈ es.toList) : ∃ x ∈ bx, (e, x) ∈ es.toList.zip bx ∧ e.val = ptrV x.2 := by
  obtain ⟨i, hi, rfl⟩ := List.getElem_of_mem he
  have hi' : i < bx.length := by rw [← h.len]; simpa using hi
  refine ⟨bx[i], List.getElem_mem hi', ?_, ?_⟩
  · have := List.getElem_mem (l := es.toList.zip bx) (n := i) (h := by have := h.len; simp; omega)
    simpa using this
  · have h1 : (es.toList.map (fun e => (e.key, e.val)))[i]? = (bx.map (fun x => (x.1.kv, ptrV x.2)))[i]? := by rw [h.ents]
    rw [List.getElem?_map, List.getElem?_map, List.getElem?_eq_getElem hi, List.getElem?_eq_getElem hi'] at h1
    exact congrArg Prod.snd (Option.some.inj h1)
theorem LedM.taken_more (h : LedM w P M es clock bx) {seen : Array Nat} {e : MapEntry} {x : Share × Nat} (hz : (e, x) ∈ es.toList.zip bx) (hs : seen.contains e.born = false) : (taken es bx (seen.push e.born)).Perm (x.1 :: taken es bx seen) := by
  have hn : ((es.toList.zip bx).map fun p => p.1.born).Nodup := by
    have : (es.toList.zip bx).map (fun p => p.1.born) = ((es.toList.zip bx).map Prod.fst).map (·.born) := by rw [List.map_map]; rfl
    rw [this, h.zip_fst]
    exact h.stamped.2.1
  exact (filter_more (fun p : MapEntry × (Share × Nat) => p.1.born) seen (p := (e, x)) hs hn hz).map fun p => p.2.1
theorem LedM.taken_all (h : LedM w P M es clock bx) {seen : Array Nat} (h0 : (leftOf es seen).size = 0) : taken es bx seen = bx.map Prod.fst := by
  have hall : ∀ e ∈ es.toList, seen.contains e.born = true := by
    intro e he
    have : leftOf es seen = #[] := Array.eq_empty_of_size_eq_zero h0
    unfold leftOf at this
    rw [Array.filter_eq_empty_iff] at this
    have := this e (by simpa using he)
    simpa using this
  unfold taken
  rw [List.filter_eq_self.2 (fun p hp => hall p.1 (List.of_mem_zip hp).1)]
  have : (es.toList.zip bx).map (fun p => p.2.1) = ((es.toList.zip bx).map Prod.snd).map Prod.fst := by rw [List.map_map]; rfl
  rw [this, h.zip_snd]
end
theorem left_mem {es : Array MapEntry} {seen : Array Nat} {e : MapEntry} (h : e ∈ (leftOf es seen).toList) : e ∈ es.toList ∧ seen.contains e.born = false := by
  unfold leftOf at h
  simp at h
  refine ⟨by simpa using h.1, ?_⟩
  simpa using h.2
theorem left_push {es : Array MapEntry} {seen : Array Nat} {e : MapEntry} (h : e ∈ (leftOf es seen).toList) : (leftOf es (seen.push e.born)).size < (leftOf es seen).size := by
  have e1 : leftOf es (seen.push e.born) = (leftOf es seen).filter fun x => !(x.born == e.born) := by
    unfold leftOf
    rw [Array.filter_filter]
    congr 1
    funext x
    rw [contains_push]
    cases seen.contains x.born <;> cases x.born == e.born <;> rfl
  rw [e1]
  have h1 : e ∈ leftOf es seen := by simpa using h
  rcases Nat.lt_or_ge (((leftOf es seen).filter fun x => !(x.born == e.born)).size) (leftOf es seen).size with h2 | h2
  · exact h2
  · have h3 : (leftOf es seen).filter (fun x => !(x.born == e.born)) = leftOf es seen := by
      apply Array.toList_inj.1
      rw [Array.toList_filter]
      exact (List.filter_sublist).eq_of_length_le (by rw [← Array.toList_filter, Array.length_toList, Array.length_toList]; exact h2)
    have := Array.filter_eq_self.1 h3 e h1
    simp at this

/-! ### Lists that are sorted -/
theorem perm_sorted_eq {α : Type} {R : α → α → Prop} : ∀ {l m : List α}, l.Perm m → l.Pairwise R → m.Pairwise R → (∀ x ∈ m, ∀ y ∈ m, R x y → R y x → x = y) → l = m
  | [], m, hp, _, _, _ => (List.nil_perm.1 hp).symm
  | a :: l, [], hp, _, _, _ => by have := hp.length_eq; simp at this
  | a :: l, b :: m, hp, hl, hm, ha => by
    obtain ⟨l1, l2⟩ := List.pairwise_cons.1 hl
    obtain ⟨m1, m2⟩ := List.pairwise_cons.1 hm
    have e : a = b := by
      have h1 : a ∈ b :: m := hp.mem_iff.1 (by simp)
      have h2 : b ∈ a :: l := hp.mem_iff.2 (by simp)
      rcases List.mem_cons.1 h1 with h1 | h1
      · exact h1
      · rcases List.mem_cons.1 h2 with h2 | h2
        · exact h2.symm
        · exact ha a (by simp [h1]) b (by simp) (l1 b h2) (m1 a h1)
    subst e
    rw [perm_sorted_eq ((List.perm_cons a).1 hp) l2 m2 (fun x hx y hy => ha x (by simp [hx]) y (by simp [hy]))]
end Go.Proofs.Ytcjgblopcfcakaa
