/- Ledgers, walked: lists of shares that are sorted by the library; Rows. Conditions: none. -/
import Derived.Test.YtcjgblopcfcakaaQt7
import Derived.Test.YtcjgblopcfcakaaQt4
import Derived.Test.YtcjgblopcfcakaaShelf2
import Derived.Shelf.SlSortCmp.NoneTotal
namespace Go.Proofs.Ytcjgblopcfcakaa
open Go.RowKit Go.MapKept
open Go.ChangeMaps (setBlock heap_setBlock_same heap_setBlock_other)

theorem ltOf_order : Sort.SWO (Go.Proofs.ltOf cmpS) := by
  have e : ∀ x y, Go.Proofs.ltOf cmpS x y = ltK x.user x.band y := fun x y => cmpS_neg x y
  refine ⟨fun x => by rw [e]; exact ltK_irrefl x, fun x y z h k => ?_, fun x y z h k => ?_⟩
  · rw [e] at *
    exact ltK_trans h k
  · rw [e] at *
    cases hxz : ltK x.user x.band z with
    | false => rfl
    | true =>
      cases hyx : ltK y.user y.band x with
      | true => rw [ltK_trans hyx hxz] at k; cases k
      | false =>
        obtain ⟨e1, e2⟩ := ltK_total h hyx
        rw [e1, e2, k] at hxz
        cases hxz
theorem flatK_get {xs : List Share} {t : Nat} (h : t < xs.length * 8) : (flatS xs)[t]? = some ((Sort.flatK shRow 8 xs.toArray)[t]!) := by
  have h1 : t / 8 < xs.length := by omega
  have h2 : t % 8 < 8 := by omega
  have := flatS_get xs (t / 8) (t % 8) h1 h2
  rw [show t / 8 * 8 + t % 8 = t by omega] at this
  rw [this, Sort.get_flatK shRow 8 xs.toArray t (by simpa using h)]
  have e : (xs.toArray)[t / 8]! = xs[t / 8] := by rw [getElem!_pos _ _ (by simpa using h1)]; simp
  rw [e, List.getElem?_eq_getElem (by rw [shRow_len]; exact h2), getElem!_pos _ _ (by rw [shRow_len]; exact h2)]
set_option maxHeartbeats 1000000 in
theorem sort_rows (g cap : Nat) (cur : Array Value) (xs L : List Share) (w : World) (hb : w.heap[g]? = some (.cells cur 39 (0, 0))) (hcap : xs.length ≤ cap) (hs : cur.size = cap * 8) (ht : cur.toList.take (xs.length * 8) = flatS xs)
    (hp : xs.Perm L) (hr : Rising L) (hn : xs.length ≤ 64) :
    Calls Try.prog 34 #[.slice (some ⟨g, 0, none⟩) xs.length cap, .func (.func 35) #[] #[]] w fun e w' => e = .returned (.tuple #[]) ∧ SharesIn w' (some ⟨g, 0, none⟩) L ∧ w.grownBy w' (some g) := by
  have hglt : g < w.heap.size := by
    rcases Nat.lt_or_ge g w.heap.size with h | h
    · exact h
    · rw [Array.getElem?_eq_none h] at hb; cases hb
  have hB : Blk w g 39 cur := hb
  have hH : Sort.HoldsK shRow 8 w g 0 xs.toArray := fun j hj => by
    rw [Sort.size_flatK] at hj
    have hj' : j < xs.length * 8 := by simpa using hj
    refine ⟨?_, hB.frozen _⟩
    rw [hB.cell, Nat.zero_add, ← Array.getElem?_toList, ← List.getElem?_take_of_lt hj', ht]
    exact flatK_get hj'
  have eg : ∀ args w, (callFunc 35 args).run Try.prog w = .ok (.enter 35 args) w := enters_of Try.func35 (by kernel_rfl) rfl
  have hC : Go.Proofs.CmpLays Try.prog 35 #[] shRow 8 cmpS g 0 xs.toArray.size w := fun m os dk _ x y => by
    have := q_order x y (Go.Proofs.sortWorldK shRow 8 w g 0 m dk os)
    simpa [shRow] using this
  have hsz : xs.toArray.size = xs.length := by simp
  have := Go.Proofs.AnyQ.slices_SortFunc Go.Proofs.Try.sortShare 8 (fun w => by kernel_rfl) (fun w => by kernel_rfl) shRow (fun _ => rfl) (fun _ _ h => shRow_cell h) cmpS ltOf_order 35 #[] g 0 cap xs.toArray w eg hC hH hglt (by rw [hsz]; omega)
  rw [hsz] at this
  refine (show Calls Try.prog 34 _ _ _ from this).mono ?_
  rintro e w' ⟨rfl, d', n, os, hperm, hsorted, rfl⟩
  obtain ⟨p1, _, p3⟩ := hperm
  rw [hsz] at p1
  have hd : d'.toList = L := by
    have hp2 : d'.toList.Perm L := by
      have e1 : d'.extract 0 xs.length = d' := by rw [← p1]; simp
      have e2 : xs.toArray.extract 0 xs.length = xs.toArray := by rw [← hsz]; simp
      rw [e1, e2] at p3
      exact p3.trans (by simpa using hp)
    refine perm_sorted_eq (R := fun x y => ltK y.user y.band x = false) hp2 ?_ ?_ ?_
    · rw [List.pairwise_iff_getElem]
      intro i j hi hj hij
      have hi' : i < d'.size := by simpa using hi
      have hj' : j < d'.size := by simpa using hj
      have := hsorted i j (Nat.zero_le _) hij (by rw [← p1]; exact hj')
      rw [getElem!_pos _ i hi', getElem!_pos _ j hj'] at this
      have e : Go.Proofs.ltOf cmpS d'[j] d'[i] = ltK d'[j].user d'[j].band d'[i] := cmpS_neg _ _
      rw [e] at this
      simpa using this
    · refine hr.imp fun {x y} h => ?_
      cases h2 : ltK y.user y.band x with
      | false => rfl
      | true => have := ltK_trans h h2; rw [ltK_irrefl] at this; cases this
    · intro x hx y hy h1 h2
      obtain ⟨e1, e2⟩ := ltK_total h2 h1
      exact kv_inj hr hx hy (by simp [Share.kv, e1, e2])
  have hLl : L.length = xs.length := hp.length_eq.symm
  have hheap : (Go.Proofs.sortWorldK shRow 8 w g 0 n d' os).heap[g]? = some (.cells (Sort.putCells id 0 (Sort.flatK shRow 8 d') cur) 39 (0, 0)) := by
    unfold Go.Proofs.sortWorldK Sort.putRowK
    rw [Sort.heap_grow_old _ _ (by simpa [Sort.putRow, Sort.mapBlock, Sort.ahead] using hglt)]
    simp [Sort.putRow, Sort.mapBlock, Sort.ahead, Array.getElem?_modify, hb, Sort.onCells]
  refine ⟨rfl, ?_, ?_⟩
  · refine shares_of hheap ?_
    rw [hLl]
    apply List.ext_getElem?
    intro j
    by_cases hj : j < xs.length * 8
    · rw [List.getElem?_take_of_lt hj, Array.getElem?_toList, flatK_get (by rw [hLl]; exact hj), ← hd]
      have : j < cur.size := by rw [hs]; omega
      simp [Sort.putCells, this, p1, hj]
    · rw [List.getElem?_take_eq_none (by omega), List.getElem?_eq_none (by rw [flatS_len, hLl]; omega)]
  · unfold Go.Proofs.sortWorldK Sort.putRowK
    refine ⟨rfl, rfl, rfl, by simp [Sort.putRow, Sort.mapBlock, Sort.ahead, Sort.grow], fun k hk hne => ?_⟩
    rw [Sort.heap_grow_old _ _ (by simpa [Sort.putRow, Sort.mapBlock, Sort.ahead] using hk)]
    have : g ≠ k := fun e => hne (by rw [e])
    simp [Sort.putRow, Sort.mapBlock, Sort.ahead, Array.getElem?_modify, this]
end Go.Proofs.Ytcjgblopcfcakaa
