/- The frames of bytes: the plain part, and the reference, walked. Conditions: the text is in memory. -/
import Derived.Test.YthlninijnbmjfaaFr3
import Derived.Deep.DeepAppendWide
import Derived.OwnWalk
import Derived.RangeFuncBox
namespace Go.Proofs.Ythlninijnbmjfaa
open Go.RowKit

theorem readN_bd {l : List UInt8} (h : readE l = 0) : 8 ≤ readN l ∧ readN l ≤ l.length := by
  obtain ⟨h1, h2, h3, h4⟩ := readE_ok h
  unfold readN; rw [if_pos h]; omega
theorem scan_fuel : ∀ (f g : Nat) (l : List UInt8), l.length < f → l.length < g → scanL f l = scanL g l
  | 0, _, l, h, _ => by omega
  | _ + 1, 0, l, _, h => by omega
  | f + 1, g + 1, l, hf, hg => by
    simp only [scanL]
    by_cases h0 : l = []
    · rw [if_pos h0, if_pos h0]
    rw [if_neg h0, if_neg h0]
    by_cases h1 : readE l = 0
    · have hb := readN_bd h1
      rw [if_pos h1, if_pos h1, scan_fuel f g (l.drop (readN l)) (by rw [List.length_drop]; omega) (by rw [List.length_drop]; omega)]
    · rw [if_neg h1, if_neg h1]
def scan (l : List UInt8) : List (List UInt8) × Nat × Int := scanL (l.length + 1) l
theorem scan_nil : scan [] = ([], 0, 0) := by simp [scan, scanL]
theorem scan_stop {l : List UInt8} (h0 : l ≠ []) (h : readE l ≠ 0) : scan l = ([], 0, readE l) := by
  unfold scan
  simp only [scanL]
  rw [if_neg h0, if_neg h]
theorem scan_go {l : List UInt8} (h : readE l = 0) : scan l = (readT l :: (scan (l.drop (readN l))).1, readN l + (scan (l.drop (readN l))).2.1, (scan (l.drop (readN l))).2.2) := by
  have hb := readN_bd h
  have h0 : l ≠ [] := by intro e; rw [e] at hb; simp at hb; omega
  unfold scan
  simp only [scanL]
  rw [if_neg h0, if_pos h, scan_fuel l.length ((l.drop (readN l)).length + 1) (l.drop (readN l)) (by rw [List.length_drop]; omega) (by omega)]
  rfl
def strs (l : List (List UInt8)) : List Value := l.map fun t => .string (bs t)
theorem strs_snoc (l : List (List UInt8)) (t : List UInt8) : strs (l ++ [t]) = strs l ++ [.string (bs t)] := by simp [strs]
theorem strs_len (l : List (List UInt8)) : (strs l).length = l.length := by simp [strs]
/-- What is scanned so far, and what is still to come. -/
def Scans (L : List UInt8) (acc : List (List UInt8)) (k : Nat) : Prop := k ≤ L.length ∧ acc.length * 8 ≤ k ∧ scan L = (acc ++ (scan (L.drop k)).1, k + (scan (L.drop k)).2.1, (scan (L.drop k)).2.2)
theorem Scans.zero (L : List UInt8) : Scans L [] 0 := ⟨Nat.zero_le _, by simp, by simp⟩
theorem Scans.next {L : List UInt8} {acc : List (List UInt8)} {k : Nat} (h : Scans L acc k) (hr : readE (L.drop k) = 0) : Scans L (acc ++ [readT (L.drop k)]) (k + readN (L.drop k)) := by
  obtain ⟨h1, h2, h3⟩ := h
  have hb := readN_bd hr
  rw [List.length_drop] at hb
  refine ⟨by omega, by rw [List.length_append, List.length_singleton]; omega, ?_⟩
  rw [h3, scan_go hr, List.drop_drop]
  simp [Nat.add_assoc]
theorem Scans.stop {L : List UInt8} {acc : List (List UInt8)} {k : Nat} (h : Scans L acc k) (hk : k < L.length) (hr : readE (L.drop k) ≠ 0) : scan L = (acc, k, readE (L.drop k)) := by
  rw [h.2.2, scan_stop (fun e => by have := congrArg List.length e; rw [List.length_drop] at this; simp at this; omega) hr]
  simp
theorem Scans.done {L : List UInt8} {acc : List (List UInt8)} {k : Nat} (h : Scans L acc k) (hk : ¬ k < L.length) : scan L = (acc, k, 0) := by
  rw [h.2.2, List.drop_eq_nil_of_le (by omega), scan_nil]
  simp
theorem ownsRow_past {w w' : World} {B : Nat} {e : TypeId} {k : Nat} {v : Value} {n : Nat} {xs : List Value} (h : w.ownsRow B e k v n xs) (hb : Below w.heap.size w w') : w'.ownsRow B e k v n xs :=
  ⟨h.1, h.2.imp id fun ⟨g, cap, cur, hv, hB, hg, r⟩ => ⟨g, cap, cur, hv, hB, (hb.block g (Array.getElem?_eq_some_iff.1 hg).1).trans hg, r⟩⟩
/-- What a scan gives. -/
def ScanPost (w : World) (L : List UInt8) (e : Ending) (w' : World) : Prop := ∃ v, e = .returned (.tuple #[v, .int .i64 (scan L).2.1, .int .i64 (scan L).2.2]) ∧ w'.ownsRow w.heap.size 9 1 v (scan L).1.length (strs (scan L).1) ∧ Below w.heap.size w w'
theorem info_str : (Try.prog.info? 9).map (fun i => (i.zero, i.size, i.bytes)) = some (some (.string ⟨#[]⟩), 1, 16) := by kernel_rfl
set_option maxRecDepth 100000 in
set_option maxHeartbeats 4000000 in
theorem rf_Scan (s : ByteArray) (hs : s.size ≤ 1000000) (w : World) : Calls Try.prog 19 #[.string s] w (ScanPost w s.data.toList) := by
  obtain ⟨i0, hi, hz0, hz1, hz2⟩ := info_parts info_str
  go_enter Try.func19, Try.ntmps19
  go_wp2_with fail
  go_loopw [5, 6] (fun vb' g wr => ∃ (vb : Value) (k : Nat) (acc : List (List UInt8)), vb = vb' ∧ g = .int .i64 k ∧ Hid (Scans s.data.toList acc k) ∧ wr.ownsRow w.heap.size 9 1 vb acc.length (strs acc) ∧ Below w.heap.size w wr) (fun _ g _ => s.size - (intOf g).toNat)
  case atStart => exact ⟨_, 0, [], rfl, rfl, Lib.hid (Scans.zero _), World.ownsRow_nil _ _ _ _, Below.refl _ _⟩
  case round =>
    obtain ⟨vb, k, acc, rfl, rfl, hsc, hown, hB⟩ := hrel
    have hk1 := hsc.out.1
    have hk2 := hsc.out.2.1
    rw [size_list] at hk1
    by_cases hlt : k < s.size
    · have c := fun w => rf_Read (s.extract k s.size) (by simp; omega) w
      rw [extract_drop] at c
      by_cases hr : readE (s.data.toList.drop k) = 0
      · have hN := Lib.hid (hsc.out.next hr)
        have hb := readN_bd hr
        rw [List.length_drop, size_list] at hb
        unfold readV at c
        rw [hr] at c
        generalize readT (s.data.toList.drop k) = t at *
        generalize readN (s.data.toList.drop k) = n at *
        have C := Lib.hid c
        clear c hsc hr
        go_wp2_with fail
        refine (C.out _).mono ?_
        rintro r w1 ⟨rfl, hb1⟩; dsimp only
        have hown1 : w1.ownsRow w.heap.size 9 1 vb acc.length (strs acc) := ownsRow_past hown hb1
        have hB1 := below_to hB hb1
        clear hb1 hown
        go_wp2_with (at_builtin; refine wpList_append_own _ rfl _ _ 32 rfl w.heap.size 9 i0 (.string ⟨#[]⟩) 1 16 Try.underlying32 hi hz0 hz1 hz2 rfl (by decide) _ _ _ rfl (hown1.alloc _) ⟨w1.heap.size, 0, none⟩ 1 1 [Value.string (bs t)] rfl rfl ?c1 ?c2 ?c3 ?c4 ?c5 ?_)
        case c1 =>
          intro j u hj
          match j, hj with
          | 0, hj => simp at hj; subst hj; simp [Addr.add]
        case c2 => intro u hu; simp at hu; subst hu; rfl
        case c3 => unfold maxLen; omega
        case c4 => omega
        case c5 => have := hB1.size; simp; omega
        intro v' w2 hown' hgrow _
        have hB2 : Below w.heap.size w w2 := (hB1.alloc (by have := hB1.size; omega) _).grown hgrow (by have := hB1.size; simp; omega) (fun k hk => (hown1.lt k hk).1)
        go_wp2
        go_roundw
        case rel => exact ⟨_, k + n, acc ++ [t], rfl, by go_num, hN, by rw [strs_snoc, List.length_append, List.length_singleton]; exact hown', hB2⟩
        case measure => simp [intOf]; omega
      · have hst := hsc.out.stop (by rw [size_list]; exact hlt) hr
        have hz : (readE (s.data.toList.drop k) == 0) = false := by simpa using hr
        have hz' : (readE (s.data.toList.drop k) != 0) = true := by simpa using hr
        unfold readV at c
        generalize readT (s.data.toList.drop k) = t at *
        generalize readN (s.data.toList.drop k) = n at *
        generalize readE (s.data.toList.drop k) = e at *
        have C := Lib.hid c
        have HS := Lib.hid hst
        clear c hst hsc hr
        go_wp2_with fail
        refine (C.out _).mono ?_
        rintro r w1 ⟨rfl, hb1⟩; dsimp only
        have hown1 : w1.ownsRow w.heap.size 9 1 vb acc.length (strs acc) := ownsRow_past hown hb1
        have hB1 := below_to hB hb1
        clear hb1 hown
        go_wp2_with fail
        refine bodyPost_ret (v := .tuple #[vb, .int .i64 k, .int .i64 e]) (by simp [results, Try.results19, go_sem]) rfl ?_
        exact ⟨vb, by rw [HS.out], by rw [HS.out]; exact hown1, hB1⟩
    · have HS := Lib.hid (hsc.out.done (by rw [size_list]; exact hlt))
      clear hsc
      go_wp2_with fail
      refine bodyPost_ret (v := .tuple #[vb, .int .i64 k, .int .i64 0]) (by simp [results, Try.results19, go_sem]) rfl ?_
      exact ⟨vb, by rw [HS.out], by rw [HS.out]; exact hown, hB⟩
end Go.Proofs.Ythlninijnbmjfaa
