/- A list of texts, as it comes in. Conditions: none. -/
import Derived.Test.YthlninijnbmjfaaK14
import Derived.Test.YthlninijnbmjfaaFr7
namespace Go.Proofs.Ythlninijnbmjfaa
open Go.RowKit Go.Deep Go.WideShapes

theorem Strings_open {H : Type} {enc : TypeId × Value → H} {w : World} {spare : Nat → Bool} {held : Bool} {A : Option Addr} {n k : Nat} {d : DataW H} {p : List MemPlace} (h : DataW.Trod enc Try.prog w 0 spare held 32 (.slice A n k) d p) (hw : ∀ n ∈ d.weights Try.prog 32, n ≤ reachBytes) :
    ∃ xs : List (List UInt8), xs.length = n ∧ (∀ x ∈ xs, x.length ≤ 140737488351232) ∧ Strs w (.slice A n k) xs ∧ ((A = none ∧ n = 0 ∧ k = 0) ∨ ∃ a, A = some a ∧ n ≤ k) := by
  obtain ⟨xs, hl, ho, hr⟩ := slice_rows_sized (α := List UInt8) (Pf := fun cs t => cs = [.string (bs t)] ∧ t.length ≤ 140737488351232) Try.underlying32 (show Try.prog.cellsOf 9 = 1 by kernel_rfl) (by decide) (fun {fuel cs x} hx hw => by
    obtain ⟨s, e, e2, hs⟩ := DataW.trod_string Try.underlying9 hx
    exact ⟨s.data.toList, by rw [e, bs_data], hw _ (by rw [e2]; simp [DataW.weights])⟩) h hw
  refine ⟨xs, hl, fun x hx => ?_, ⟨A, n, k, rfl, hl.symm, fun hne => ?_⟩, ?_⟩
  · obtain ⟨_, _, h⟩ := ho x hx; exact h
  · obtain ⟨b, off, hA, hb, hc⟩ := hr hne
    refine ⟨b, off, hA, hb, fun i hi => ?_⟩
    obtain ⟨cs, _, ⟨e, _⟩, hj⟩ := hc i hi
    have := hj 0 (by decide)
    rw [e] at this
    simpa using this
  · obtain ⟨fuel, hf⟩ := h
    rcases open_slice Try.underlying32 hf with ⟨hcs, _⟩ | ⟨a, len, cap, m, n', D, Pl, hcs, hb, hl, hm, hmm, hx, hi⟩
    · simp [Value.cells] at hcs; exact .inl hcs
    · simp [Value.cells] at hcs
      obtain ⟨rfl, rfl, rfl⟩ := hcs
      exact .inr ⟨_, rfl, hl⟩
end Go.Proofs.Ythlninijnbmjfaa
