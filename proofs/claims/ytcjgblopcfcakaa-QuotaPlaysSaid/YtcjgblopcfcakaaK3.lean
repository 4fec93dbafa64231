/- Words of this session, the third part: arguments that are read out of memory: slices of whatever elements. Conditions: none. -/
import Derived.Test.YtcjgblopcfcakaaK2
import Derived.Deep.Slices
import Derived.ChangeOld
import Derived.WideShapes
import Derived.SizedLaws
namespace Go.Proofs.Ytcjgblopcfcakaa
open Go.RowKit Go.Deep

theorem addr_add (b off j : Nat) : (⟨b, off, none⟩ : Addr).add j = ⟨b, off + j, none⟩ := by unfold Addr.add; split <;> simp_all
theorem addr_spot {a : Addr} {w : World} {v : Value} (h : w.cell? a = some v) : ∃ b off, a = ⟨b, off, none⟩ := by
  obtain ⟨b, off, s⟩ := a
  cases s with
  | none => exact ⟨b, off, rfl⟩
  | some s =>
    exfalso
    unfold World.cell? at h
    split at h
    · simp at h
    · cases h
theorem slice_rows {H : Type} {enc : TypeId × Value → H} {P : Program} {w : World} {spare : Nat → Bool} {held : Bool} {t e : TypeId} {c : Nat} {α : Type} {Pf : List Value → α → Prop}
    (ht : P.underlying t = some (.slice e)) (hc : P.cellsOf e = c) (hpos : 0 < c)
    (hcell : ∀ {fuel : Nat} {cs : List Value} {x : DataW H × List MemPlace}, DataW.trod enc P w 0 spare held fuel e cs = some x → ∃ t : α, Pf cs t)
    {A : Option Addr} {n k : Nat} {d : DataW H} {p : List MemPlace} (h : DataW.Trod enc P w 0 spare held t (.slice A n k) d p) :
    ∃ xs : List α, xs.length = n ∧ (∀ x ∈ xs, ∃ cs, Pf cs x) ∧ (xs ≠ [] → ∃ b off, A = some ⟨b, off, none⟩ ∧ b < w.heap.size ∧ ∀ i (h : i < xs.length), ∃ cs, cs.length = c ∧ Pf cs xs[i] ∧ ∀ j, j < c → w.cell? ⟨b, off + i * c + j, none⟩ = cs[j]?) := by
  obtain ⟨fuel, hf⟩ := h
  rcases open_slice ht hf with ⟨hcs, _⟩ | ⟨a, len, cap, m, n', D, Pl, hcs, hb, hl, hm, hmm, hx, hi⟩
  · simp [Value.cells] at hcs
    obtain ⟨rfl, rfl, rfl⟩ := hcs
    exact ⟨[], rfl, by simp, by simp⟩
  · simp [Value.cells] at hcs
    obtain ⟨rfl, rfl, rfl⟩ := hcs
    have hlm : n ≤ m := by rw [hmm]; split <;> omega
    have hex : ∀ i, ∃ t : Option α, i < n → ∃ t' cs', t = some t' ∧ cs'.length = c ∧ Pf cs' t' ∧ ∀ j, j < c → w.cell? ((a.add (i * c)).add j) = cs'[j]? := by
      intro i
      by_cases hlt : i < n
      · obtain ⟨cs', hcs', htr⟩ := hi i (by omega)
        rw [hc] at hcs'
        obtain ⟨_, hlen, hat⟩ := World.cells?_some hcs'
        obtain ⟨t', ht'⟩ := hcell htr
        exact ⟨some t', fun _ => ⟨t', cs', rfl, hlen, ht', hat⟩⟩
      · exact ⟨none, fun h => absurd h hlt⟩
    obtain ⟨f, hfc⟩ : ∃ f : Nat → Option α, ∀ i, i < n → ∃ t' cs', f i = some t' ∧ cs'.length = c ∧ Pf cs' t' ∧ ∀ j, j < c → w.cell? ((a.add (i * c)).add j) = cs'[j]? := ⟨fun i => (hex i).choose, fun i => (hex i).choose_spec⟩
    have hlen : ((List.range n).filterMap f).length = n ∧ ∀ i, i < n → ((List.range n).filterMap f)[i]? = f i := by
      have : ∀ k, k ≤ n → ((List.range k).filterMap f).length = k ∧ ∀ i, i < k → ((List.range k).filterMap f)[i]? = f i := by
        intro k
        induction k with
        | zero => intro _; exact ⟨rfl, fun i h => absurd h (by omega)⟩
        | succ k ih =>
          intro hk
          obtain ⟨h1, h2⟩ := ih (by omega)
          obtain ⟨t', _, ht', _⟩ := hfc k (by omega)
          rw [List.range_succ, List.filterMap_append]
          have e : List.filterMap f [k] = [t'] := by simp [ht']
          rw [e]
          refine ⟨by simp [h1], fun i hi' => ?_⟩
          by_cases hik : i < k
          · rw [List.getElem?_append_left (by omega)]; exact h2 i hik
          · have : i = k := by omega
            subst this
            rw [List.getElem?_append_right (by omega), h1, Nat.sub_self, ht']
            rfl
      exact this n (Nat.le_refl _)
    obtain ⟨hlen, hget⟩ := hlen
    have hval : ∀ i (h : i < ((List.range n).filterMap f).length), f i = some ((List.range n).filterMap f)[i] := by
      intro i h
      rw [← hget i (by omega), List.getElem?_eq_getElem h]
    refine ⟨(List.range n).filterMap f, hlen, ?_, ?_⟩
    · intro x hx
      obtain ⟨i, hi', rfl⟩ := List.getElem_of_mem hx
      obtain ⟨t', cs', h1, _, h3, _⟩ := hfc i (by omega)
      rw [hval i hi'] at h1
      cases h1
      exact ⟨cs', h3⟩
    · intro hne
      have hpos' : 0 < n := by
        rcases Nat.eq_zero_or_pos n with h0 | h0
        · subst h0; exact absurd rfl hne
        · exact h0
      obtain ⟨t0, cs0, _, hl0, _, ha0⟩ := hfc 0 hpos'
      have h00 := ha0 0 hpos
      rw [List.getElem?_eq_getElem (by omega)] at h00
      have hsp : ∃ b off, a = ⟨b, off, none⟩ := by
        have h1 : ((a.add (0 * c)).add 0) = a := by unfold Addr.add; simp
        rw [h1] at h00
        exact addr_spot h00
      obtain ⟨b, off, rfl⟩ := hsp
      refine ⟨b, off, rfl, ?_, fun i hi' => ?_⟩
      · rw [addr_add, addr_add] at h00
        exact World.block_lt_of_cell? w _ h00
      · obtain ⟨t', cs', h1, h2, h3, h4⟩ := hfc i (by omega)
        rw [hval i hi'] at h1
        cases h1
        refine ⟨cs', h2, h3, fun j hj => ?_⟩
        have := h4 j hj
        rw [addr_add, addr_add] at this
        exact this
end Go.Proofs.Ytcjgblopcfcakaa
