/- The law of layer 17: what is used is what was taken, and not given back. Conditions: what comes in is within the reach. -/
import Derived.Test.YtcjgblopcfcakaaQt12
import Derived.Test.YtcjgblopcfcakaaQt12h
namespace Go.Proofs.Ytcjgblopcfcakaa
open Go.RowKit Go.MapKept

abbrev vcs (v : Vec) : Array Value := #[.int .i64 v.cpu, .int .i64 v.mem, .int .i64 v.disk]
/-- A ledger, and vecs that lie beside it. -/
def Led1 (w0 w : World) (P : Nat) (L : List Share) (G : List (Nat × Vec)) : Prop :=
  ∃ S : Nat → Prop, Led w P S L ∧ (∀ g ∈ G, ¬ S g.1 ∧ Blk w g.1 28 (vcs g.2) ∧ w0.heap.size ≤ g.1) ∧ (∀ c, S c → w0.heap.size ≤ c ∧ c < w.heap.size) ∧ (G.map Prod.fst).Nodup ∧ Below w0.heap.size w0 w
section
variable {w0 w w' : World} {P : Nat} {L : List Share} {G : List (Nat × Vec)}
theorem Led1.below (h : Led1 w0 w P L G) : Below w0.heap.size w0 w := by
  obtain ⟨S, h1, h2, h3, h4, h5⟩ := h
  exact h5
theorem Led1.past (h : Led1 w0 w P L G) (hb : Below w.heap.size w w') : Led1 w0 w' P L G := by
  obtain ⟨S, h1, h2, h3, h4, h5⟩ := h
  exact ⟨S, h1.past hb, fun g hg => ⟨(h2 g hg).1, (h2 g hg).2.1.past hb, (h2 g hg).2.2⟩, fun c hc => ⟨(h3 c hc).1, Nat.lt_of_lt_of_le (h3 c hc).2 hb.size⟩, h4, below_to h5 hb⟩
theorem Led1.more (h : Led1 w0 w P L G) (v : Vec) : Led1 w0 (w.alloc (.cells (vcs v) 28)) P L ((w.heap.size, v) :: G) := by
  have h' := h.past (below_own (below_self w) (.cells (vcs v) 28))
  obtain ⟨S, h1, h2, h3, h4, h5⟩ := h
  obtain ⟨S', k1, k2, k3, k4, k5⟩ := h'
  have hb := below_own (below_self w) (.cells (vcs v) 28)
  refine ⟨S, h1.past hb, ?_, fun c hc => ⟨(h3 c hc).1, Nat.lt_of_lt_of_le (h3 c hc).2 hb.size⟩, ?_, k5⟩
  · intro g hg
    rcases List.mem_cons.1 hg with rfl | hg
    · exact ⟨fun hs => by have := (h3 _ hs).2; omega, Blk.new w _ _, h5.size⟩
    · exact ⟨(h2 g hg).1, (h2 g hg).2.1.past hb, (h2 g hg).2.2⟩
  · rw [List.map_cons, List.nodup_cons]
    refine ⟨fun hm => ?_, h4⟩
    obtain ⟨g, hg, e⟩ := List.mem_map.1 hm
    have := (h2 g hg).2.1.lt
    omega
theorem Led1.nodup (h : Led1 w0 w P L G) : (G.map Prod.fst).Nodup := by
  obtain ⟨S, h1, h2, h3, h4, h5⟩ := h
  exact h4
theorem Led1.pick {G' : List (Nat × Vec)} (h : Led1 w0 w P L G) (hs : ∀ g ∈ G', g ∈ G) (hn : (G'.map Prod.fst).Nodup) : Led1 w0 w P L G' := by
  obtain ⟨S, h1, h2, h3, h4, h5⟩ := h
  exact ⟨S, h1, fun g hg => h2 g (hs g hg), h3, hn, h5⟩
theorem Led1.blk {g : Nat} {v : Vec} (h : Led1 w0 w P L G) (hg : (g, v) ∈ G) : Blk w g 28 (vcs v) := by
  obtain ⟨S, h1, h2, h3, h4, h5⟩ := h
  exact (h2 _ hg).2.1
theorem Led1.put {V : Nat} {old v : Vec} (h : Led1 w0 w P L ((V, old) :: G)) : Led1 w0 (((w.setCell ⟨V, 0, none⟩ (.int .i64 v.cpu)).setCell ⟨V, 1, none⟩ (.int .i64 v.mem)).setCell ⟨V, 2, none⟩ (.int .i64 v.disk)) P L ((V, v) :: G) := by
  obtain ⟨S, h1, h2, h3, h4, h5⟩ := h
  have hG := grown_trans (grown_trans (grown_set w V 0 (.int .i64 v.cpu)) (grown_set _ V 1 (.int .i64 v.mem))) (grown_set _ V 2 (.int .i64 v.disk))
  have hV := h2 (V, old) (by simp)
  have hsz := hG.size
  refine ⟨S, h1.kept (S' := fun c => c = V) (OnlyS.grown hG rfl) (fun c hc e => hV.1 (e ▸ hc)), ?_, fun c hc => ⟨(h3 c hc).1, Nat.lt_of_lt_of_le (h3 c hc).2 hsz⟩, h4, ?_⟩
  · intro g hg
    rcases List.mem_cons.1 hg with rfl | hg'
    · exact ⟨hV.1, ((hV.2.1.put 0 (.int .i64 v.cpu) rfl).put 1 (.int .i64 v.mem) rfl).put 2 (.int .i64 v.disk) rfl, hV.2.2⟩
    · have hne : g.1 ≠ V := fun e => by
        rw [List.map_cons, List.nodup_cons] at h4
        exact h4.1 (List.mem_map.2 ⟨g, hg', e⟩)
      have := h2 g (by simp [hg'])
      exact ⟨this.1, this.2.1.grown hG (by simpa using hne), this.2.2⟩
  · exact h5.grown hG h5.size (by intro k hk; cases hk; exact hV.2.2)
theorem Led1.turned {S S' : Nat → Prop} {L' : List Share} (h2 : ∀ g ∈ G, ¬ S g.1 ∧ Blk w g.1 28 (vcs g.2) ∧ w0.heap.size ≤ g.1) (h3 : ∀ c, S c → w0.heap.size ≤ c ∧ c < w.heap.size) (h4 : (G.map Prod.fst).Nodup) (h5 : Below w0.heap.size w0 w)
    (k1 : Led w' P S' L') (k2 : ∀ c, S' c → S c ∨ w.heap.size ≤ c) (hO : OnlyS S w w') : Led1 w0 w' P L' G := by
  refine ⟨fun c => S' c ∧ c < w'.heap.size, k1.tight, fun g hg => ⟨fun hs => ?_, hO.blk (h2 g hg).2.1 (h2 g hg).1, (h2 g hg).2.2⟩, fun c hc => ?_, h4, h5.trans (hO.to h5.size (fun c hc => (h3 c hc).1))⟩
  · rcases k2 _ hs.1 with q | q
    · exact (h2 g hg).1 q
    · have := (h2 g hg).2.1.lt; omega
  · rcases k2 c hc.1 with q | q
    · exact ⟨(h3 c q).1, hc.2⟩
    · exact ⟨Nat.le_trans h5.size q, hc.2⟩
variable (h : Led1 w0 w P L G) (u : ByteArray) (b : Int) (v : Vec) (hu : u.size ≤ 9223372036854775807) (hb : U8 b) (hv : v.ok)
include h hu hb hv
theorem one_Set : Calls Try.prog 10 #[ptrV P, .string u, .int .u8 b, v.v] w fun e w' => e = .returned (.int .i64 (setE L u b v)) ∧ Led1 w0 w' P (setL L u b v) G := by
  obtain ⟨S, h1, h2, h3, h4, h5⟩ := h
  exact (q_Set w P S L h1 u b v hu hb hv).mono fun e w' ⟨he, S', k1, k2, hO⟩ => ⟨he, Led1.turned h2 h3 h4 h5 k1 k2 hO⟩
theorem one_Take : Calls Try.prog 11 #[ptrV P, .string u, .int .u8 b, v.v] w fun e w' => e = .returned (.int .i64 (onE L u b (fun s => takeR s v))) ∧ Led1 w0 w' P (onL L u b (fun s => takeS s v)) G := by
  obtain ⟨S, h1, h2, h3, h4, h5⟩ := h
  exact (q_Take w P S L h1 u b v hu hb hv).mono fun e w' ⟨he, k1, hO⟩ => ⟨he, Led1.turned h2 h3 h4 h5 k1 (fun c hc => Or.inl hc) hO⟩
theorem one_Give : Calls Try.prog 14 #[ptrV P, .string u, .int .u8 b, v.v] w fun e w' => e = .returned (.int .i64 (onE L u b (fun s => giveR s v))) ∧ Led1 w0 w' P (onL L u b (fun s => giveS s v)) G := by
  obtain ⟨S, h1, h2, h3, h4, h5⟩ := h
  exact (q_Give w P S L h1 u b v hu hb hv).mono fun e w' ⟨he, k1, hO⟩ => ⟨he, Led1.turned h2 h3 h4 h5 k1 (fun c hc => Or.inl hc) hO⟩
end
theorem one_Rows {w0 w : World} {P : Nat} {L : List Share} {G : List (Nat × Vec)} (h : Led1 w0 w P L G) : Calls Try.prog 16 #[ptrV P] w fun e w' => (∃ A c, e = .returned (.slice A L.length c) ∧ SharesIn w' A L ∧ ∀ p, A = some p → w.heap.size ≤ p.block) ∧ Led1 w0 w' P L G := by
  have h' := h
  obtain ⟨S, h1, h2, h3, h4, h5⟩ := h
  exact (q_Rows w P S L h1).mono fun e w' ⟨he, hb⟩ => ⟨he, h'.past hb⟩

/-! ### The books -/
abbrev ann2 : ByteArray := { data := #[97, 110, 110] }
/-- What the ledger has, beside what was reckoned. -/
def Book (L : List Share) (used limit : Vec) : Prop := (L = [] ∧ used = zeroV) ∨ L = [⟨ann2, 2, limit, used⟩]
theorem book_get {used limit : Vec} : getS [⟨ann2, 2, limit, used⟩] ann2 2 = some ⟨ann2, 2, limit, used⟩ := by
  have h : isK ann2 2 (⟨ann2, 2, limit, used⟩ : Share) = true := isK_iff.2 ⟨rfl, rfl⟩
  unfold getS
  rw [List.find?_cons_of_pos h]
theorem book_upd {used limit : Vec} (f : Share → Share) : updS [⟨ann2, 2, limit, used⟩] ann2 2 f = [f ⟨ann2, 2, limit, used⟩] := by
  have h : isK ann2 2 (⟨ann2, 2, limit, used⟩ : Share) = true := isK_iff.2 ⟨rfl, rfl⟩
  show [if isK ann2 2 (⟨ann2, 2, limit, used⟩ : Share) = true then f ⟨ann2, 2, limit, used⟩ else _] = _
  rw [if_pos h]
theorem Book.set {L : List Share} {used limit v : Vec} (h : Book L used limit) : (setE L ann2 2 v = 0 ∧ Book (setL L ann2 2 v) used v) ∨ (setE L ann2 2 v ≠ 0 ∧ Book (setL L ann2 2 v) used limit) := by
  by_cases h0 : setE L ann2 2 v = 0
  · refine Or.inl ⟨h0, ?_⟩
    unfold setL
    rw [if_pos h0]
    rcases h with ⟨rfl, rfl⟩ | rfl
    · exact Or.inr rfl
    · rw [book_get]
      exact Or.inr (book_upd _)
  · exact Or.inr ⟨h0, by rw [set_same h0]; exact h⟩
theorem Book.take {L : List Share} {used limit v : Vec} (h : Book L used limit) : (onE L ann2 2 (fun s => takeR s v) = 0 ∧ (addV used v).2 = 0 ∧ fitsV (addV used v).1 limit = true ∧ fitsV zeroV v = true ∧ Book (onL L ann2 2 (fun s => takeS s v)) (addV used v).1 limit) ∨
    (onE L ann2 2 (fun s => takeR s v) ≠ 0 ∧ Book (onL L ann2 2 (fun s => takeS s v)) used limit) := by
  rcases h with ⟨rfl, rfl⟩ | rfl
  · exact Or.inr ⟨by show (5 : Int) ≠ 0; decide, Or.inl ⟨rfl, rfl⟩⟩
  · unfold onE onL
    rw [book_get, book_upd]
    show (takeR ⟨ann2, 2, limit, used⟩ v = 0 ∧ _) ∨ (takeR ⟨ann2, 2, limit, used⟩ v ≠ 0 ∧ _)
    by_cases h0 : takeR ⟨ann2, 2, limit, used⟩ v = 0
    · have h0' := h0
      unfold takeR at h0'
      dsimp only at h0'
      by_cases f1 : fitsV zeroV v = true
      · rw [if_pos f1] at h0'
        by_cases f2 : (addV used v).2 = 0
        · rw [if_pos f2] at h0'
          by_cases f3 : fitsV (addV used v).1 limit = true
          · refine Or.inl ⟨h0, f2, f3, f1, Or.inr ?_⟩
            show [takeS ⟨ann2, 2, limit, used⟩ v] = _
            unfold takeS
            rw [if_pos h0]
          · rw [if_neg f3] at h0'; cases h0'
        · rw [if_neg f2] at h0'; exact absurd h0' f2
      · rw [if_neg f1] at h0'; cases h0'
    · refine Or.inr ⟨h0, Or.inr ?_⟩
      show [takeS ⟨ann2, 2, limit, used⟩ v] = _
      unfold takeS
      rw [if_neg h0]
theorem sub_fits {used v : Vec} (hu : used.ok) (h1 : fitsV zeroV v = true) (h2 : fitsV v used = true) : (subV used v).2 = 0 ∧ fitsV zeroV (subV used v).1 = true := by
  obtain ⟨⟨_, _⟩, ⟨_, _⟩, ⟨_, _⟩⟩ := hu
  unfold fitsV zeroV at *
  simp only [Bool.and_eq_true, decide_eq_true_eq] at *
  have hf : fits (used.cpu - v.cpu) = true ∧ fits (used.mem - v.mem) = true ∧ fits (used.disk - v.disk) = true := by
    unfold fits
    simp only [decide_eq_true_eq]
    omega
  unfold subV eachV
  rw [hf.1, hf.2.1, hf.2.2]
  simp
  omega
theorem Book.give {L : List Share} {used limit v : Vec} (hu : used.ok) (h : Book L used limit) : (onE L ann2 2 (fun s => giveR s v) = 0 ∧ (subV used v).2 = 0 ∧ fitsV zeroV (subV used v).1 = true ∧ Book (onL L ann2 2 (fun s => giveS s v)) (subV used v).1 limit) ∨
    (onE L ann2 2 (fun s => giveR s v) ≠ 0 ∧ Book (onL L ann2 2 (fun s => giveS s v)) used limit) := by
  rcases h with ⟨rfl, rfl⟩ | rfl
  · exact Or.inr ⟨by show (5 : Int) ≠ 0; decide, Or.inl ⟨rfl, rfl⟩⟩
  · unfold onE onL
    rw [book_get, book_upd]
    show (giveR ⟨ann2, 2, limit, used⟩ v = 0 ∧ _) ∨ (giveR ⟨ann2, 2, limit, used⟩ v ≠ 0 ∧ _)
    by_cases h0 : giveR ⟨ann2, 2, limit, used⟩ v = 0
    · have h0' := h0
      unfold giveR at h0'
      dsimp only at h0'
      by_cases f1 : fitsV zeroV v = true
      · rw [if_pos f1] at h0'
        by_cases f2 : fitsV v used = true
        · obtain ⟨z1, z2⟩ := sub_fits hu f1 f2
          refine Or.inl ⟨h0, z1, z2, Or.inr ?_⟩
          show [giveS ⟨ann2, 2, limit, used⟩ v] = _
          unfold giveS
          rw [if_pos h0]
        · rw [if_neg f2] at h0'; cases h0'
      · rw [if_neg f1] at h0'; cases h0'
    · refine Or.inr ⟨h0, Or.inr ?_⟩
      show [giveS ⟨ann2, 2, limit, used⟩ v] = _
      unfold giveS
      rw [if_neg h0]
end Go.Proofs.Ytcjgblopcfcakaa
