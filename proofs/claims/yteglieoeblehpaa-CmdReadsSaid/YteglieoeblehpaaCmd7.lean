/- Commands: how the coder reads a text, a number, walked. Conditions: the bytes are in memory. -/
import Derived.Test.YteglieoeblehpaaCmd2
import Derived.Test.YteglieoeblehpaaWire4
namespace Go.Proofs.Yteglieoeblehpaa
open Go.RowKit

/-- A coder that reads. -/
abbrev Cr (w : World) (P R : Nat) (o : ByteArray) (bd : Bool) : Prop := Blk w P 99 #[.string o, .pointer (some ⟨R, 0, none⟩), .bool bd]
/-- Only blocks R and C are written. -/
def KeptRC (R C : Nat) (w w' : World) : Prop := (∀ B, B ≤ R → B ≤ C → B ≤ w.heap.size → Below B w w') ∧ w.heap.size ≤ w'.heap.size ∧ ∀ g t cs, g ≠ R → g ≠ C → Blk w g t cs → Blk w' g t cs
theorem KeptRC.of {R C : Nat} {w w1 : World} (h : Kept R w w1) (i : Nat) (v : Value) : KeptRC R C w (w1.setCell ⟨C, i, none⟩ v) :=
  ⟨fun B a b c => (h.1 B a c).setCell (by simpa using b) v, by simpa using h.2.1, fun g t cs a b c => (h.2.2 g t cs a c).far (by simpa using b) v⟩
theorem KeptRC.trans {R C : Nat} {w w1 w2 : World} (h : KeptRC R C w w1) (h' : KeptRC R C w1 w2) : KeptRC R C w w2 :=
  ⟨fun B a b c => (h.1 B a b c).trans (h'.1 B a b (Nat.le_trans c h.2.1)), Nat.le_trans h.2.1 h'.2.1, fun g t cs a b c => h'.2.2 g t cs a b (h.2.2 g t cs a b c)⟩
set_option maxHeartbeats 2000000 in
theorem cr_text (P R C i : Nat) (o : ByteArray) (bd : Bool) (s : ByteArray) (f : Int) (hs : s.size ≤ 140737488351232) (w : World) (hP : Cr w P R o bd) (hR : Rd w R s f) (t : TypeId) (cs : Array Value) (hC : Blk w C t cs) (hi : i < cs.size) (_n1 : P ≠ R) (_n2 : P ≠ C) (n3 : C ≠ R) :
    Calls Try.prog 74 #[.pointer (some ⟨P, 0, none⟩), .pointer (some ⟨C, i, none⟩)] w fun e w' => (∃ v, e = .returned v) ∧ Rd w' R (rdS f (qText s 64) s) (rdF f (qText s 64)) ∧ Blk w' C t (cs.setIfInBounds i (.string (rdV f (qText s 64) ByteArray.empty))) ∧ KeptRC R C w w' := by
  have C1 := Lib.hid (rd_Text R s f 64 (by decide) (by decide) w hs hR)
  obtain ⟨Pc, Pf, Pl⟩ := hP.facts
  go_enter Try.func74, Try.ntmps74
  go_wp2_with fail
  refine C1.out.mono ?_
  rintro r w1 ⟨rfl, hr, hk⟩; dsimp only
  have hC1 := hk.blk hC n3
  have hci : w1.cell? ⟨C, i, none⟩ = some cs[i] := by rw [hC1.cell]; simp [hi]
  obtain ⟨Cc, Cf, Cl⟩ := hC1.facts
  clear Pc Pf Pl C1
  go_wp2_with fail
  refine bodyPost_ret (results_none rfl _ _ _) rfl ?_
  exact ⟨⟨_, rfl⟩, Blk.far hr (by simpa using n3.symm) _, Blk.put hC1 i _ rfl, KeptRC.of hk i _⟩
set_option maxHeartbeats 2000000 in
theorem cr_great (P R C i : Nat) (o : ByteArray) (bd : Bool) (s : ByteArray) (f : Int) (hs : s.size ≤ 140737488351232) (w : World) (hP : Cr w P R o bd) (hR : Rd w R s f) (t : TypeId) (cs : Array Value) (hC : Blk w C t cs) (hi : i < cs.size) (_n1 : P ≠ R) (_n2 : P ≠ C) (n3 : C ≠ R) :
    Calls Try.prog 72 #[.pointer (some ⟨P, 0, none⟩), .pointer (some ⟨C, i, none⟩)] w fun e w' => (∃ v, e = .returned v) ∧ Rd w' R (rdS f (qUint s 18446744073709551615) s) (rdF f (qUint s 18446744073709551615)) ∧ Blk w' C t (cs.setIfInBounds i (.int .u64 (rdV f (qUint s 18446744073709551615) 0))) ∧ KeptRC R C w w' := by
  have C1 := Lib.hid (rd_Uint R s f 18446744073709551615 w hs hR)
  obtain ⟨Pc, Pf, Pl⟩ := hP.facts
  go_enter Try.func72, Try.ntmps72
  go_wp2_with fail
  refine C1.out.mono ?_
  rintro r w1 ⟨rfl, hr, hk⟩; dsimp only
  have hC1 := hk.blk hC n3
  have hci : w1.cell? ⟨C, i, none⟩ = some cs[i] := by rw [hC1.cell]; simp [hi]
  obtain ⟨Cc, Cf, Cl⟩ := hC1.facts
  clear Pc Pf Pl C1
  go_wp2_with fail
  refine bodyPost_ret (results_none rfl _ _ _) rfl ?_
  exact ⟨⟨_, rfl⟩, Blk.far hr (by simpa using n3.symm) _, Blk.put hC1 i _ rfl, KeptRC.of hk i _⟩
theorem rdU8 (f : Int) (s : ByteArray) : 0 ≤ rdV f (qUint s 255) 0 ∧ rdV f (qUint s 255) 0 ≤ 255 := by
  unfold rdV
  split
  · rename_i h
    have h2 := h.2
    unfold qUint at h2 ⊢
    split at h2 <;> (try split at h2) <;> simp_all <;> omega
  · omega
set_option maxHeartbeats 2000000 in
theorem cr_small (P R C i : Nat) (o : ByteArray) (bd : Bool) (s : ByteArray) (f : Int) (hs : s.size ≤ 140737488351232) (w : World) (hP : Cr w P R o bd) (hR : Rd w R s f) (t : TypeId) (cs : Array Value) (hC : Blk w C t cs) (hi : i < cs.size) (_n1 : P ≠ R) (_n2 : P ≠ C) (n3 : C ≠ R) :
    Calls Try.prog 71 #[.pointer (some ⟨P, 0, none⟩), .pointer (some ⟨C, i, none⟩)] w fun e w' => (∃ v, e = .returned v) ∧ Rd w' R (rdS f (qUint s 255) s) (rdF f (qUint s 255)) ∧ Blk w' C t (cs.setIfInBounds i (.int .u8 (rdV f (qUint s 255) 0))) ∧ KeptRC R C w w' := by
  have C1 := Lib.hid (rd_Uint R s f 255 w hs hR)
  have hb := rdU8 f s
  have hw : IntKind.u8.wrap (rdV f (qUint s 255) 0) = rdV f (qUint s 255) 0 := IntWalk.u8_in _ (by omega)
  obtain ⟨Pc, Pf, Pl⟩ := hP.facts
  generalize rdV f (qUint s 255) 0 = x at *
  go_enter Try.func71, Try.ntmps71
  go_wp2_with fail
  refine C1.out.mono ?_
  rintro r w1 ⟨rfl, hr, hk⟩; dsimp only
  have hC1 := hk.blk hC n3
  have hci : w1.cell? ⟨C, i, none⟩ = some cs[i] := by rw [hC1.cell]; simp [hi]
  obtain ⟨Cc, Cf, Cl⟩ := hC1.facts
  clear Pc Pf Pl C1
  go_wp2_with fail
  refine bodyPost_ret (results_none rfl _ _ _) rfl ?_
  exact ⟨⟨_, rfl⟩, Blk.far hr (by simpa using n3.symm) _, Blk.put hC1 i _ rfl, KeptRC.of hk i _⟩
/-- One number read into cell i: what is left, the fault, the cells. -/
def stepI (x : ByteArray × Int × Array Value) (i : Nat) : ByteArray × Int × Array Value :=
  (rdS x.2.1 (qInt x.1 (-9223372036854775808) 9223372036854775807) x.1, rdF x.2.1 (qInt x.1 (-9223372036854775808) 9223372036854775807), x.2.2.setIfInBounds i (.int .i64 (rdV x.2.1 (qInt x.1 (-9223372036854775808) 9223372036854775807) 0)))
theorem stepI_bd (x : ByteArray × Int × Array Value) (l : List Nat) (n : Nat) (h : x.1.size ≤ n) : (l.foldl stepI x).1.size ≤ n ∧ (l.foldl stepI x).2.2.size = x.2.2.size := by
  induction l generalizing x with
  | nil => exact ⟨h, rfl⟩
  | cons i l ih =>
    have h1 : (stepI x i).1.size ≤ n := by
      unfold stepI rdS
      dsimp only
      split
      · simp; omega
      · exact h
    obtain ⟨a, b⟩ := ih (stepI x i) h1
    exact ⟨a, by rw [List.foldl_cons, b]; simp [stepI]⟩
set_option maxHeartbeats 4000000 in
    theorem cr_numI (P R B C : Nat) (cp : Nat) (o : ByteArray) (bd : Bool) (s : ByteArray) (f : Int) (hs : s.size ≤ 140737488351232) (is : List Nat) (his : is.length ≤ 3) (w : World) (hP : Cr w P R o bd) (hR : Rd w R s f) (t : TypeId) (cs : Array Value) (hC : Blk w C t cs) (hi : ∀ i ∈ is, i < cs.size) (hB : Blk w B 129 (is.map fun i => Value.pointer (some ⟨C, i, none⟩)).toArray) (n1 : P ≠ R) (n2 : P ≠ C) (n3 : C ≠ R) (n4 : B ≠ R) (n5 : B ≠ C) :
        Calls Try.prog 80 #[.pointer (some ⟨P, 0, none⟩), .slice (some ⟨B, 0, none⟩) is.length cp] w fun e w' => (∃ v, e = .returned v) ∧ Rd w' R (is.foldl stepI (s, f, cs)).1 (is.foldl stepI (s, f, cs)).2.1 ∧ Blk w' C t (is.foldl stepI (s, f, cs)).2.2 ∧ KeptRC R C w w' := by
      replace hi := Lib.hid hi
      have hK : KeptRC R C w w := ⟨fun B _ _ _ => Below.refl B w, Nat.le_refl _, fun _ _ _ _ _ h => h⟩
      go_enter Try.func80, Try.ntmps80
      go_wp2_with fail
      go_loopw [5, 8] (fun _ i wr => ∃ k : Nat, k ≤ is.length ∧ i = .int .i64 k ∧ Rd wr R ((is.take k).foldl stepI (s, f, cs)).1 ((is.take k).foldl stepI (s, f, cs)).2.1 ∧ Blk wr C t ((is.take k).foldl stepI (s, f, cs)).2.2 ∧ KeptRC R C w wr) (fun _ i _ => is.length - (intOf i).toNat)
      case atStart => exact ⟨0, Nat.zero_le _, rfl, hR, hC, hK⟩
      case round =>
        clear hR hC hK
        obtain ⟨k, hk, rfl, hR, hC, hK⟩ := hrel
        by_cases hlt : k < is.length
        · have hmem := List.getElem_mem hlt
          have hBk := hK.2.2 _ _ _ n4 n5 hB
          have hPk := hK.2.2 _ _ _ n1 n2 hP
          have b0 : wr.cell? ⟨B, k, none⟩ = some (.pointer (some ⟨C, is[k], none⟩)) := by rw [hBk.cell]; simp [hlt]
          obtain ⟨z1, z2⟩ := stepI_bd (s, f, cs) (is.take k) s.size (Nat.le_refl _)
          have hik := hi.out _ hmem
          have htk : Hid ((is.take (k + 1)).foldl stepI (s, f, cs) = stepI ((is.take k).foldl stepI (s, f, cs)) is[k]) := Lib.hid (by rw [List.take_succ_eq_append_getElem hlt, List.foldl_append]; rfl)
          clear hBk hmem
          generalize is[k] = i at *
          generalize hx : (is.take k).foldl stepI (s, f, cs) = x at *
          replace hx := Lib.hid hx
          obtain ⟨x1, x2, x3⟩ := x
          dsimp only at hR hC z1 z2 htk
          have C1 := Lib.hid (rd_Int R x1 x2 (-9223372036854775808) 9223372036854775807 wr (by omega) hR)
          obtain ⟨Pc, Pf, Pl⟩ := hPk.facts
          go_wp2_with fail
          refine C1.out.mono ?_
          rintro r w1 ⟨rfl, hr, hk1⟩; dsimp only
          have hC1 := hk1.blk hC n3
          have hci : w1.cell? ⟨C, i, none⟩ = some (x3[i]'(by omega)) := by rw [hC1.cell]; first | (simp; done) | (simp; omega)
          obtain ⟨Cc, Cf, Cl⟩ := hC1.facts
          clear Pc Pf Pl C1 b0
          have hR2 : Rd (w1.setCell ⟨C, i, none⟩ (.int .i64 (rdV x2 (qInt x1 (-9223372036854775808) 9223372036854775807) 0))) R _ _ := Blk.far hr (by simpa using n3.symm) _
          have hC2 := Blk.put hC1 i (.int .i64 (rdV x2 (qInt x1 (-9223372036854775808) 9223372036854775807) 0)) rfl
          have hK2 := hK.trans (KeptRC.of (C := C) hk1 i (.int .i64 (rdV x2 (qInt x1 (-9223372036854775808) 9223372036854775807) 0)))
          go_wp2_with fail
          go_roundw
          case rel => exact ⟨k + 1, by omega, by first | rfl | go_num, by rw [htk.out]; exact hR2, by rw [htk.out]; exact hC2, hK2⟩
          case measure => simp [intOf]; omega
        · obtain rfl : k = is.length := by omega
          rw [List.take_length] at hR hC
          go_wp2_with fail
          go_end0
          exact ⟨⟨_, rfl⟩, hR, hC, hK⟩
set_option maxHeartbeats 4000000 in
          theorem cr_numL (P R B C : Nat) (cp : Nat) (o : ByteArray) (bd : Bool) (s : ByteArray) (f : Int) (hs : s.size ≤ 140737488351232) (is : List Nat) (his : is.length ≤ 3) (w : World) (hP : Cr w P R o bd) (hR : Rd w R s f) (t : TypeId) (cs : Array Value) (hC : Blk w C t cs) (hi : ∀ i ∈ is, i < cs.size) (hB : Blk w B 137 (is.map fun i => Value.pointer (some ⟨C, i, none⟩)).toArray) (n1 : P ≠ R) (n2 : P ≠ C) (n3 : C ≠ R) (n4 : B ≠ R) (n5 : B ≠ C) :
              Calls Try.prog 92 #[.pointer (some ⟨P, 0, none⟩), .slice (some ⟨B, 0, none⟩) is.length cp] w fun e w' => (∃ v, e = .returned v) ∧ Rd w' R (is.foldl stepI (s, f, cs)).1 (is.foldl stepI (s, f, cs)).2.1 ∧ Blk w' C t (is.foldl stepI (s, f, cs)).2.2 ∧ KeptRC R C w w' := by
            replace hi := Lib.hid hi
            have hK : KeptRC R C w w := ⟨fun B _ _ _ => Below.refl B w, Nat.le_refl _, fun _ _ _ _ _ h => h⟩
            go_enter Try.func92, Try.ntmps92
            go_wp2_with fail
            go_loopw [5, 8] (fun _ i wr => ∃ k : Nat, k ≤ is.length ∧ i = .int .i64 k ∧ Rd wr R ((is.take k).foldl stepI (s, f, cs)).1 ((is.take k).foldl stepI (s, f, cs)).2.1 ∧ Blk wr C t ((is.take k).foldl stepI (s, f, cs)).2.2 ∧ KeptRC R C w wr) (fun _ i _ => is.length - (intOf i).toNat)
            case atStart => exact ⟨0, Nat.zero_le _, rfl, hR, hC, hK⟩
            case round =>
              clear hR hC hK
              obtain ⟨k, hk, rfl, hR, hC, hK⟩ := hrel
              by_cases hlt : k < is.length
              · have hmem := List.getElem_mem hlt
                have hBk := hK.2.2 _ _ _ n4 n5 hB
                have hPk := hK.2.2 _ _ _ n1 n2 hP
                have b0 : wr.cell? ⟨B, k, none⟩ = some (.pointer (some ⟨C, is[k], none⟩)) := by rw [hBk.cell]; simp [hlt]
                obtain ⟨z1, z2⟩ := stepI_bd (s, f, cs) (is.take k) s.size (Nat.le_refl _)
                have hik := hi.out _ hmem
                have htk : Hid ((is.take (k + 1)).foldl stepI (s, f, cs) = stepI ((is.take k).foldl stepI (s, f, cs)) is[k]) := Lib.hid (by rw [List.take_succ_eq_append_getElem hlt, List.foldl_append]; rfl)
                clear hBk hmem
                generalize is[k] = i at *
                generalize hx : (is.take k).foldl stepI (s, f, cs) = x at *
                replace hx := Lib.hid hx
                obtain ⟨x1, x2, x3⟩ := x
                dsimp only at hR hC z1 z2 htk
                have C1 := Lib.hid (rd_Int R x1 x2 (-9223372036854775808) 9223372036854775807 wr (by omega) hR)
                obtain ⟨Pc, Pf, Pl⟩ := hPk.facts
                go_wp2_with fail
                refine C1.out.mono ?_
                rintro r w1 ⟨rfl, hr, hk1⟩; dsimp only
                have hC1 := hk1.blk hC n3
                have hci : w1.cell? ⟨C, i, none⟩ = some (x3[i]'(by omega)) := by rw [hC1.cell]; first | (simp; done) | (simp; omega)
                obtain ⟨Cc, Cf, Cl⟩ := hC1.facts
                clear Pc Pf Pl C1 b0
                have hR2 : Rd (w1.setCell ⟨C, i, none⟩ (.int .i64 (rdV x2 (qInt x1 (-9223372036854775808) 9223372036854775807) 0))) R _ _ := Blk.far hr (by simpa using n3.symm) _
                have hC2 := Blk.put hC1 i (.int .i64 (rdV x2 (qInt x1 (-9223372036854775808) 9223372036854775807) 0)) rfl
                have hK2 := hK.trans (KeptRC.of (C := C) hk1 i (.int .i64 (rdV x2 (qInt x1 (-9223372036854775808) 9223372036854775807) 0)))
                go_wp2_with fail
                go_roundw
                case rel => exact ⟨k + 1, by omega, by first | rfl | go_num, by rw [htk.out]; exact hR2, by rw [htk.out]; exact hC2, hK2⟩
                case measure => simp [intOf]; omega
              · obtain rfl : k = is.length := by omega
                rw [List.take_length] at hR hC
                go_wp2_with fail
                go_end0
                exact ⟨⟨_, rfl⟩, hR, hC, hK⟩
end Go.Proofs.Yteglieoeblehpaa
