/- The laws SumParts, SumBursts of reevelaw02, walked. Conditions: the strings are within the reach. -/
import Derived.Test.YtblcaidbocnblaaSum5
import Derived.Laws.IdiomStrings
namespace Go.Proofs.Ytblcaidbocnblaa
open Go.RowKit

theorem ba_append (s t : ByteArray) : (s ++ t).data.toList = s.data.toList ++ t.data.toList := by simp
set_option maxHeartbeats 1000000 in
theorem SumParts_walk (s : ByteArray) (hs : s.size ≤ 140737488351232) (t : ByteArray) (ht : t.size ≤ 140737488351232) (w : World) :
    Calls Try.prog 7 #[.string s, .string t] w fun e w' => e = .returned (.bool true) ∧ Below w.heap.size w w' := by
  have C1 := Lib.hid (sum_Of (s ++ t) (by rw [ByteArray.size_append]; omega))
  rw [ba_append] at C1
  have C2 := Lib.hid (sum_Of s (by omega))
  have c3 := sum_More (moreB 0#32 s.data.toList) t (by omega)
  rw [more_append] at c3
  have C3 := Lib.hid c3
  have C4 := Lib.hid (sum_Of t (by omega))
  have c5 := sum_Join (moreB 0#32 s.data.toList) (moreB 0#32 t.data.toList) t.size (by omega)
  have el : t.size = t.data.toList.length := by simp
  have e5 := more_join s.data.toList t.data.toList
  rw [← el] at e5
  rw [e5] at c5
  have C5 := Lib.hid c5
  have c6 : ∀ w, Calls Try.prog 26 #[.int .u32 (u (moreB 0#32 s.data.toList)), .string ⟨#[]⟩] w fun e w' => e = .returned (.int .u32 (u (moreB 0#32 s.data.toList))) ∧ Below w.heap.size w w' := fun w => by
    have := sum_More (moreB 0#32 s.data.toList) ⟨#[]⟩ (by decide) w
    rw [show (⟨#[]⟩ : ByteArray).data.toList = [] from rfl, more_nil] at this
    exact this
  have C6 := Lib.hid c6
  clear c3 c5 c6 el e5
  have al := Lib.hid alive02
  have hB : Below w.heap.size w w := below_self w
  generalize moreB 0#32 (s.data.toList ++ t.data.toList) = z at *
  generalize moreB 0#32 s.data.toList = a at *
  generalize moreB 0#32 t.data.toList = b at *
  by_cases h : 8192 < s.size + t.size
  · go_enter Try.func7, Try.ntmps7
    go_wp2_with fail
    refine (al.out _).mono ?_
    rintro r ww ⟨rfl, hb⟩; dsimp only
    replace hB := below_to hB hb
    clear hb
    go_wp2_with fail
    go_ret
    exact ⟨rfl, hB⟩
  · go_enter Try.func7, Try.ntmps7
    go_wp2_with fail
    refine (C1.out _).mono ?_
    rintro r ww ⟨rfl, hb⟩; dsimp only
    replace hB := below_to hB hb
    clear hb
    go_wp2_with fail
    refine (C2.out _).mono ?_
    rintro r ww ⟨rfl, hb⟩; dsimp only
    replace hB := below_to hB hb
    clear hb
    go_wp2_with fail
    refine (C3.out _).mono ?_
    rintro r ww ⟨rfl, hb⟩; dsimp only
    replace hB := below_to hB hb
    clear hb
    go_wp2_with fail
    refine (C2.out _).mono ?_
    rintro r ww ⟨rfl, hb⟩; dsimp only
    replace hB := below_to hB hb
    clear hb
    go_wp2_with fail
    refine (C4.out _).mono ?_
    rintro r ww ⟨rfl, hb⟩; dsimp only
    replace hB := below_to hB hb
    clear hb
    go_wp2_with fail
    refine (C5.out _).mono ?_
    rintro r ww ⟨rfl, hb⟩; dsimp only
    replace hB := below_to hB hb
    clear hb
    go_wp2_with fail
    refine (C2.out _).mono ?_
    rintro r ww ⟨rfl, hb⟩; dsimp only
    replace hB := below_to hB hb
    clear hb
    go_wp2_with fail
    refine (C6.out _).mono ?_
    rintro r ww ⟨rfl, hb⟩; dsimp only
    replace hB := below_to hB hb
    clear hb
    go_wp2_with fail
    refine (C2.out _).mono ?_
    rintro r ww ⟨rfl, hb⟩; dsimp only
    replace hB := below_to hB hb
    clear hb
    go_wp2_with fail
    refine (al.out _).mono ?_
    rintro r ww ⟨rfl, hb⟩; dsimp only
    replace hB := below_to hB hb
    clear hb
    go_wp2_with fail
    go_ret
    exact ⟨by first | rfl | simp, hB⟩
/-- A block of bytes as a string was laid, with the mark behind its end. -/
def BytesAt (w : World) (g : Nat) (L : List UInt8) : Prop := ∃ cs m, w.heap[g]? = some (.cells cs 5 (m, m + 1)) ∧ L.length ≤ m ∧ cs.size = m ∧ ∀ j (h : j < L.length), cs[j]? = some (.int .u8 (L[j].toNat : Int))
theorem BytesAt.lt {w : World} {g : Nat} {L : List UInt8} (h : BytesAt w g L) : g < w.heap.size := by
  obtain ⟨cs, m, hh, _⟩ := h
  rcases Nat.lt_or_ge g w.heap.size with hlt | hge
  · exact hlt
  · rw [Array.getElem?_eq_none hge] at hh; cases hh
theorem BytesAt.cell {w : World} {g : Nat} {L : List UInt8} (h : BytesAt w g L) (j : Nat) (hj : j < L.length) : w.cell? ⟨g, j, none⟩ = some (.int .u8 (L[j].toNat : Int)) := by
  obtain ⟨cs, m, hh, _, _, hc⟩ := h
  rw [cell_of_row w g j cs _ _ hh, hc j hj]
theorem BytesAt.frozen {w : World} {g : Nat} {L : List UInt8} (h : BytesAt w g L) (j : Nat) (hj : j < L.length) : w.frozen? ⟨g, j, none⟩ = false := by
  obtain ⟨cs, m, hh, hl, _⟩ := h
  simp [World.frozen?, hh]
  omega
theorem BytesAt.put {w : World} {g : Nat} {L : List UInt8} (h : BytesAt w g L) (j : Nat) (x : UInt8) (hj : j < L.length) : BytesAt (w.setCell ⟨g, j, none⟩ (.int .u8 (x.toNat : Int))) g (L.set j x) := by
  obtain ⟨cs, m, hh, hl, hs, hc⟩ := h
  refine ⟨cs.setIfInBounds j (.int .u8 (x.toNat : Int)), m, ?_, by simpa using hl, by simpa using hs, fun i hi => ?_⟩
  · simp [World.setCell, Array.getElem?_modify, hh]
  · have hi' : i < L.length := by simpa using hi
    rw [Array.getElem?_setIfInBounds, List.getElem_set]
    by_cases he : j = i
    · subst he; simp; omega
    · simp [he]; exact hc i hi'
theorem bytes_new (w : World) (s : ByteArray) (cap : Nat) : BytesAt (w.alloc (.cells (bytesRow s cap) 5 ((bytesRow s cap).size, (bytesRow s cap).size + 1))) w.heap.size s.data.toList := by
  refine ⟨_, _, heap_alloc_new w _, by simp [bytesRow], rfl, fun j hj => ?_⟩
  have hj' : j < s.size := by simpa using hj
  rw [bytesRow, Array.getElem?_append_left (by simpa using hj)]
  simp [hj']
theorem xor8_bit (a : UInt8) (r : Nat) (hr : r < 8) : bits .xor .u8 (a.toNat : Int) ((2 : Int) ^ r % 256) = ((a ^^^ UInt8.ofNat (2 ^ r)).toNat : Int) := by
  have e : ∀ r, r < 8 → ((2 : Int) ^ r % 256) = ((2 ^ r : Nat) : Int) := by decide
  have e2 : ∀ r, r < 8 → (UInt8.ofNat (2 ^ r)).toNat = 2 ^ r := by decide
  have e3 : ∀ r, r < 8 → 2 ^ r < 256 := by decide
  rw [e r hr, u8_xor_nat _ _ a.toNat_lt (e3 r hr), UInt8.toNat_xor, e2 r hr]
theorem xor8_none (a : UInt8) : bits .xor .u8 (a.toNat : Int) 0 = (a.toNat : Int) := by
  have := u8_xor_nat a.toNat 0 a.toNat_lt (by decide)
  rw [Nat.xor_zero] at this
  exact this
theorem byteB_bit : ∀ r, r < 8 → byteB (UInt8.ofNat (2 ^ r)) = 1#32 <<< r := by decide
theorem lowB_one {p : B32} {k : Nat} (h : p.getLsbD k = true) : lowB p (k + 1) = lowB p k ^^^ (1#32 <<< k) := by
  show lowB p k ^^^ (if p.getLsbD k then _ else _) = _
  rw [h, if_pos rfl]
theorem lowB_none {p : B32} {k : Nat} (h : p.getLsbD k = false) : lowB p (k + 1) = lowB p k := by
  show lowB p k ^^^ (if p.getLsbD k then _ else _) = _
  rw [h, if_neg (by decide), BitVec.xor_zero]
theorem burst_more (p a0 : B32) {L M : List UInt8} {n f k j r : Nat} (c : B32) (hL : L.length = n) (hj : j < L.length) (hr : r < 8) (hk : k < 32) (hjr : 8 * j + r = f + k) (hf : f + 32 ≤ 8 * n)
    (h : crcL c L = a0 ^^^ bsteps (8 * n - f) (lowB p k)) (hb : p.getLsbD k = true) (hM : M = L.set j (L[j] ^^^ UInt8.ofNat (2 ^ r))) : crcL c M = a0 ^^^ bsteps (8 * n - f) (lowB p (k + 1)) := by
  rw [hM, crcL_turn _ _ _ hj, h, lowB_one hb, bsteps_xor, byteB_bit r hr, hL, bit_place hr hk hjr hf, BitVec.xor_assoc]
set_option maxHeartbeats 4000000 in
theorem SumBursts_walk (s : ByteArray) (hs : s.size ≤ 140737488351232) (at_ : Int) (ha : U16 at_) (x : Int) (hx : U32 x) (w : World) :
    Calls Try.prog 8 #[.string s, .int .u16 at_, .int .u32 x] w fun e w' => e = .returned (.bool true) ∧ Below w.heap.size w w' := by
  obtain ⟨p, rfl⟩ : ∃ c : B32, x = u c := ⟨BitVec.ofNat 32 x.toNat, by obtain ⟨h0, h1⟩ := hx; rw [← u_nat (by omega)]; omega⟩
  obtain ⟨a0, a1⟩ := ha
  obtain ⟨A, rfl⟩ : ∃ N : Nat, at_ = N := ⟨at_.toNat, by omega⟩
  have al := Lib.hid alive02
  have hB : Below w.heap.size w w := below_self w
  clear hx
  by_cases h : s.size < 5 ∨ 8192 < s.size ∨ p = 0#32
  · rcases h with h | h | rfl
    · go_enter Try.func8, Try.ntmps8
      go_wp2_with fail
      refine (al.out _).mono ?_
      rintro r ww ⟨rfl, hb⟩; dsimp only
      replace hB := below_to hB hb
      clear hb
      go_wp2_with fail
      go_ret
      exact ⟨rfl, hB⟩
    · by_cases h5 : s.size < 5
      · omega
      · go_enter Try.func8, Try.ntmps8
        go_wp2_with fail
        refine (al.out _).mono ?_
        rintro r ww ⟨rfl, hb⟩; dsimp only
        replace hB := below_to hB hb
        clear hb
        go_wp2_with fail
        go_ret
        exact ⟨rfl, hB⟩
    · have hu0 : u 0#32 = 0 := rfl
      by_cases h5 : s.size < 5
      · go_enter Try.func8, Try.ntmps8
        go_wp2_with fail
        refine (al.out _).mono ?_
        rintro r ww ⟨rfl, hb⟩; dsimp only
        replace hB := below_to hB hb
        clear hb
        go_wp2_with fail
        go_ret
        exact ⟨rfl, hB⟩
      · by_cases h8 : 8192 < s.size
        · go_enter Try.func8, Try.ntmps8
          go_wp2_with fail
          refine (al.out _).mono ?_
          rintro r ww ⟨rfl, hb⟩; dsimp only
          replace hB := below_to hB hb
          clear hb
          go_wp2_with fail
          go_ret
          exact ⟨rfl, hB⟩
        · go_enter Try.func8, Try.ntmps8
          go_wp2_with fail
          refine (al.out _).mono ?_
          rintro r ww ⟨rfl, hb⟩; dsimp only
          replace hB := below_to hB hb
          clear hb
          go_wp2_with fail
          go_ret
          exact ⟨rfl, hB⟩
  · have h5 : ¬ s.size < 5 := fun h' => h (.inl h')
    have h8 : ¬ 8192 < s.size := fun h' => h (.inr (.inl h'))
    have hp : p ≠ 0#32 := fun h' => h (.inr (.inr h'))
    have hp0 : (u p == 0) = false := by
      rw [beq_eq_false_iff_ne]
      intro e
      apply hp
      apply BitVec.eq_of_toNat_eq
      unfold u at e
      show p.toNat = 0
      omega
    have hconv := fun W : World => run_bytes_of_string (P := Try.prog) W 9 43 5 s Try.underlying9 Try.underlying43 Try.underlying5
    clear h
    obtain ⟨f, hf⟩ : ∃ f : Nat, f = A % (8 * s.size - 31) := ⟨_, rfl⟩
    have hf0 : f + 32 ≤ 8 * s.size := by have := Nat.mod_lt A (show 0 < 8 * s.size - 31 by omega); omega
    have hfm : (A : Int) % (8 * (s.size : Int) - 31) = (f : Int) := by rw [hf, show (8 * (s.size : Int) - 31) = ((8 * s.size - 31 : Nat) : Int) by omega, Int.natCast_emod]
    clear hf
    go_enter Try.func8, Try.ntmps8
    go_wp2_with fail
    have hM : BytesAt (w.alloc (.cells (bytesRow s (grownCap w s.size 0 5)) 5 ((bytesRow s (grownCap w s.size 0 5)).size, (bytesRow s (grownCap w s.size 0 5)).size + 1))).drew w.heap.size s.data.toList := bytes_new w s _
    replace hB : Below w.heap.size w (w.alloc (.cells (bytesRow s (grownCap w s.size 0 5)) 5 ((bytesRow s (grownCap w s.size 0 5)).size, (bytesRow s (grownCap w s.size 0 5)).size + 1))).drew := by go_grown
    refine wp_world (fun W => BytesAt W w.heap.size s.data.toList ∧ Below w.heap.size w W) ⟨hM, hB⟩ ?_
    rw [hfm]
    clear hM hB hconv hp0 hfm
    generalize grownCap w s.size 0 5 = cap
    rintro W ⟨hM, hB⟩
    go_loopw [9] (fun i wr => ∃ (k : Nat) (L : List UInt8), k ≤ 32 ∧ i = .int .i64 k ∧ L.length = s.size ∧ BytesAt wr w.heap.size L ∧ (∀ c, crcL c L = crcL c s.data.toList ^^^ bsteps (8 * s.size - f) (lowB p k)) ∧ Below w.heap.size w wr) (fun i _ => 32 - (intOf i).toNat)
    case atStart => exact ⟨0, s.data.toList, Nat.zero_le _, rfl, by simp, hM, fun c => by simp [lowB, bsteps_zero], hB⟩
    case round =>
      clear hM hB
      obtain ⟨k, L, hk, rfl, hL, hM, hcrc, hB⟩ := hrel
      have HC := Lib.hid hcrc
      have HL := Lib.hid hL
      clear hcrc hL
      by_cases hlt : k < 32
      · obtain ⟨j, r, hr, hjr⟩ : ∃ j r : Nat, r < 8 ∧ 8 * j + r = f + k := ⟨(f + k) / 8, (f + k) % 8, Nat.mod_lt _ (by decide), by omega⟩
        have hj : j < L.length := by have := HL.out; omega
        have q1 : ((f : Int) + (k : Int)) / 8 = (j : Int) := by omega
        have q2 : ((f : Int) + (k : Int)) % 8 = (r : Int) := by omega
        have hb := u_bitk p k
        have hc := hM.cell j hj
        have hfz := hM.frozen j hj
        have hN := hM.lt
        cases hbit : p.getLsbD k with
        | true =>
          rw [hbit, if_pos rfl] at hb
          obtain ⟨y, hy⟩ : ∃ y, y = L[j] ^^^ UInt8.ofNat (2 ^ r) := ⟨_, rfl⟩
          have hx := xor8_bit L[j] r hr
          rw [← hy] at hx
          have HY := Lib.hid hy
          clear hy
          go_wp2_with fail
          go_roundw
          case rel => exact ⟨k + 1, L.set j y, by omega, by go_num, by rw [List.length_set]; exact HL.out, hM.put j y hj, fun c => burst_more p _ c HL.out hj hr hlt hjr hf0 (HC.out c) hbit (by rw [HY.out]), hB.setCell (Nat.le_refl _) _⟩
          case measure => simp [intOf]; omega
        | false =>
          rw [hbit, if_neg (by decide)] at hb
          have hx := xor8_none L[j]
          have hM' : BytesAt (wr.setCell ⟨w.heap.size, j, none⟩ (.int .u8 (L[j].toNat : Int))) w.heap.size L := by
            have := hM.put j L[j] hj
            rwa [List.set_getElem_self] at this
          go_wp2_with fail
          go_roundw
          case rel => exact ⟨k + 1, L, by omega, by go_num, HL.out, hM', fun c => by rw [lowB_none hbit]; exact HC.out c, hB.setCell (Nat.le_refl _) _⟩
          case measure => simp [intOf]; omega
      · obtain rfl : k = 32 := by omega
        have hback := run_convert_bytes_back (P := Try.prog) wr 43 9 5 ⟨w.heap.size, 0, none⟩ cap L Try.underlying43 Try.underlying5 Try.underlying9 (fun j hj => by rw [addr_add, Nat.zero_add]; exact hM.cell j hj)
        rw [HL.out] at hback
        have c1 := sum_Of ⟨L.toArray⟩ (by show L.toArray.size ≤ _; have := HL.out; simp; omega)
        rw [show (⟨L.toArray⟩ : ByteArray).data.toList = L from rfl] at c1
        have c2 := sum_Of s (by omega)
        have hne : moreB 0#32 L ≠ moreB 0#32 s.data.toList := by
          unfold moreB
          intro e
          have := HC.out (~~~ 0#32)
          rw [lowB_all] at this
          have e' : crcL (~~~ 0#32) L = crcL (~~~ 0#32) s.data.toList := by
            have := congrArg (fun x => ~~~ x) e
            simpa using this
          rw [this] at e'
          exact burst hp _ _ e'
        have hne1 : (u (moreB 0#32 L) == u (moreB 0#32 s.data.toList)) = false := by
          rw [beq_eq_false_iff_ne]
          intro e
          exact hne (BitVec.eq_of_toNat_eq (by unfold u at e; omega))
        have hne2 : (u (moreB 0#32 L) != u (moreB 0#32 s.data.toList)) = true := by rw [bne, hne1]; rfl
        generalize moreB 0#32 L = a at *
        generalize moreB 0#32 s.data.toList = b at *
        have C1 := Lib.hid c1
        have C2 := Lib.hid c2
        clear c1 c2 HC hne
        go_wp2_with fail
        refine (C1.out _).mono ?_
        rintro r ww ⟨rfl, hb⟩; dsimp only
        replace hB := below_to hB hb
        clear hb
        go_wp2_with fail
        refine (C2.out _).mono ?_
        rintro r ww ⟨rfl, hb⟩; dsimp only
        replace hB := below_to hB hb
        clear hb
        go_wp2_with fail
        refine (al.out _).mono ?_
        rintro r ww ⟨rfl, hb⟩; dsimp only
        replace hB := below_to hB hb
        clear hb
        go_wp2_with fail
        go_ret
        exact ⟨by first | rfl | simp, hB⟩
end Go.Proofs.Ytblcaidbocnblaa
