/- The frames of bytes, walked. Conditions: the text is in memory. -/
import Derived.Test.YthlninijnbmjfaaK12
import Derived.Test.YthlninijnbmjfaaFr4
namespace Go.Proofs.Ythlninijnbmjfaa
open Go.RowKit Go.Shelf
attribute [local go_sem] Oper.semAt_some

/-- Where the next frame begins, behind those that were read at these places. -/
def pos (L : List UInt8) (pre : List Nat) : Nat := pre.foldl (fun _ k => k + readN (L.drop k)) 0
theorem pos_snoc (L : List UInt8) (pre : List Nat) (x : Nat) : pos L (pre ++ [x]) = x + readN (L.drop x) := by simp [pos]
def texts (L : List UInt8) (pre : List Nat) : List (List UInt8) := pre.map fun k => readT (L.drop k)
theorem texts_snoc (L : List UInt8) (pre : List Nat) (x : Nat) : texts L (pre ++ [x]) = texts L pre ++ [readT (L.drop x)] := by simp [texts]
def oneV (L : List UInt8) (x : Nat) : Array Value := #[.agg #[.string (bs (readT (L.drop x))), .int .i64 (readN (L.drop x)), .int .i64 (readE (L.drop x))]]
/-- What is handed to a round. -/
def OkAt (L : List UInt8) (pre : List Nat) (x : Nat) : Prop := x = pos L pre ∧ x < L.length ∧ Scans L (texts L pre) x
/-- All frames have come; or one that is none. -/
def AllRead (L : List UInt8) (ys : List Nat) : Prop := (¬ pos L ys < L.length ∧ Scans L (texts L ys) (pos L ys)) ∨ ∃ x ∈ ys, readE (L.drop x) ≠ 0
theorem extract_extract (s : ByteArray) (k n m : Nat) (h : m = (s.extract k s.size).size) : (s.extract k s.size).extract n m = s.extract (k + n) s.size := by
  subst h
  apply ByteArray.ext
  apply Array.ext'
  rw [extract_drop, extract_drop, extract_drop, List.drop_drop]
/-- How long the text in a box is. -/
def boxLen (W : World) (B : Nat) : Nat := match W.cell? ⟨B, 0, none⟩ with
  | some (.string s) => s.size
  | _ => 0
set_option maxRecDepth 100000 in
set_option maxHeartbeats 4000000 in
theorem fr_all1 (l B : Nat) (s : ByteArray) (hs : s.size ≤ 1000000) (J Jx : List Nat → World → Prop) (hJ : Bears B J) (hJx : Bears B Jx)
    (hY : ∀ pre x W, J pre W → OkAt s.data.toList pre x → YieldAt Fence.wide 1 Try.prog l (oneV s.data.toList x) W fun e W' =>
      (e = .returned (.bool true) ∧ J (pre ++ [x]) W' ∧ SameOn (· = B) W W') ∨ (e = .returned (.bool false) ∧ Jx (pre ++ [x]) W'))
    (W : World) (hB : Boxed W B 9 (.string s)) (h0 : J [] W) :
    CallsIn Fence.wide 2 Try.prog 76 #[.func (.yield l) #[] #[], .pointer (some ⟨B, 0, none⟩)] W fun e W' => (∃ v, e = .returned v) ∧
      ((∃ ys, AllRead s.data.toList ys ∧ J ys W') ∨ (∃ pre, True ∧ Jx pre W')) := by
  refine callsIn_of_wp Try.func76 rfl trivial ?_ rfl
  simp only [Try.ntmps76, List.size_toArray, List.length_cons, List.length_nil, Nat.reduceAdd, Nat.reduceSub, Array.replicate_succ, Array.replicate_zero, List.push_toArray, List.append_toArray, List.nil_append, List.cons_append]
  gi_wp2
  gi_loopw [4] (fun _ wr => ∃ (pre : List Nat), pos s.data.toList pre ≤ s.size ∧ Hid (Scans s.data.toList (texts s.data.toList pre) (pos s.data.toList pre)) ∧ Boxed wr B 9 (.string (s.extract (pos s.data.toList pre) s.size)) ∧ J pre wr) (fun _ wr => boxLen wr B)
  case atStart => exact ⟨[], Nat.zero_le _, Lib.hid (Scans.zero _), by rw [show s.extract (pos s.data.toList []) s.size = s from by simp [pos]]; exact hB, h0⟩
  case round =>
    clear h0 hB
    obtain ⟨pre, hp, hsc, hB, hj⟩ := hrel
    have hnx := pos_snoc s.data.toList pre (pos s.data.toList pre)
    have hty := texts_snoc s.data.toList pre (pos s.data.toList pre)
    have hbl : boxLen wr B = s.size - pos s.data.toList pre := by
      unfold boxLen; rw [hB.cell]; simp
    by_cases hlt : pos s.data.toList pre < s.size
    · have hy := fun W hj => hY pre (pos s.data.toList pre) W hj ⟨rfl, by rw [size_list]; exact hlt, hsc.out⟩
      have c := fun w => fr_Read (s.extract (pos s.data.toList pre) s.size) (by simp; omega) w
      have he := isE_no (s.extract (pos s.data.toList pre) s.size) (by simp; omega)
      rw [extract_drop] at c
      unfold readV at c
      unfold oneV at hy
      have hns : ∀ n, (s.extract (pos s.data.toList pre) s.size).extract n (s.size - pos s.data.toList pre) = s.extract (pos s.data.toList pre + n) s.size := fun n => extract_extract s _ n _ (by simp)
      have hzs : (s.extract (pos s.data.toList pre) s.size).size = s.size - pos s.data.toList pre := by simp
      by_cases hr : readE (s.data.toList.drop (pos s.data.toList pre)) = 0
      · have hN := hsc.out.next hr
        have hb := readN_bd hr
        rw [List.length_drop, size_list] at hb
        have hall := Lib.hid (hns (readN (s.data.toList.drop (pos s.data.toList pre))))
        rw [← hnx, ← hty] at hN
        rw [hr] at c hy
        clear hns hty
        generalize readT (s.data.toList.drop (pos s.data.toList pre)) = t at *
        generalize readN (s.data.toList.drop (pos s.data.toList pre)) = n at *
        generalize pos s.data.toList pre = k at *
        have HN := Lib.hid hN
        have HX := Lib.hid hnx
        have HY := Lib.hid hy
        have C := Lib.hid c
        have HBL := Lib.hid hbl
        clear c hy hN hsc hr hnx hbl
        have Bc := hB.cell
        have Bf := hB.frozen
        generalize s.extract k s.size = sk at *
        gi_wp2
        refine ⟨trivial, (callsIn_wide.2 (C.out _)).mono ?_⟩
        rintro r w1 ⟨rfl, hb1⟩; dsimp only
        have hj1 := hJ _ _ _ hj (Moved.of hb1)
        obtain ⟨fn, tmps, assign, body, hyy, hR⟩ := HY.out w1 hj1
        have hB1 : Boxed w1 B 9 (.string sk) := (hb1.block _ hB.lt).trans hB
        clear HY Bc Bf hB hj
        gi_wp2
        refine hR.mono ?_
        rintro r w2 (⟨rfl, hj2, hk2⟩ | ⟨rfl, hjx⟩)
        · dsimp only
          have hB2 : Boxed w2 B 9 (.string sk) := (hk2 B rfl).trans hB1
          have Bc := hB2.cell
          have Bf := hB2.frozen
          have hB3 := hB2.set (.string (sk.extract n (s.size - k)))
          rw [hall.out] at hB3
          have HB3 := Lib.hid hB3
          gi_wp2
          rw [hall.out]
          have hj3 := hJ _ _ _ hj2 (Moved.set_ (B := B) (W := w2) 0 (.string (s.extract (k + n) s.size)))
          refine ⟨⟨pre ++ [k], by rw [HX.out]; omega, Lib.hid HN.out, by rw [HX.out]; exact HB3.out, hj3⟩, ?_⟩
          rw [HBL.out]
          have e : boxLen (w2.setCell ⟨B, 0, none⟩ (.string (s.extract (k + n) s.size))) B = s.size - (k + n) := by unfold boxLen; rw [HB3.out.cell]; simp
          rw [e]
          omega
        · dsimp only
          gi_wp2
          refine bodyPost_ret (results_none rfl _ _ _) rfl ?_
          exact ⟨⟨_, rfl⟩, .inr ⟨pre ++ [k], trivial, hjx⟩⟩
      · have hz : (readE (s.data.toList.drop (pos s.data.toList pre)) == 0) = false := by simpa using hr
        have hz' : (readE (s.data.toList.drop (pos s.data.toList pre)) != 0) = true := by simpa using hr
        have hAll : Hid (AllRead s.data.toList (pre ++ [pos s.data.toList pre])) := Lib.hid (.inr ⟨pos s.data.toList pre, by simp, hr⟩)
        clear hns hty hnx hsc hr hbl
        generalize readT (s.data.toList.drop (pos s.data.toList pre)) = t at *
        generalize readN (s.data.toList.drop (pos s.data.toList pre)) = n at *
        generalize readE (s.data.toList.drop (pos s.data.toList pre)) = er at *
        generalize pos s.data.toList pre = k at *
        have HY := Lib.hid hy
        have C := Lib.hid c
        clear c hy
        have Bc := hB.cell
        have Bf := hB.frozen
        generalize s.extract k s.size = sk at *
        gi_wp2
        refine ⟨trivial, (callsIn_wide.2 (C.out _)).mono ?_⟩
        rintro r w1 ⟨rfl, hb1⟩; dsimp only
        have hj1 := hJ _ _ _ hj (Moved.of hb1)
        obtain ⟨fn, tmps, assign, body, hyy, hR⟩ := HY.out w1 hj1
        clear HY Bc Bf hB hj
        gi_wp2
        refine hR.mono ?_
        rintro r w2 (⟨rfl, hj2, hk2⟩ | ⟨rfl, hjx⟩)
        · dsimp only
          gi_wp2
          refine bodyPost_ret (results_none rfl _ _ _) rfl ?_
          exact ⟨⟨_, rfl⟩, .inl ⟨pre ++ [k], hAll.out, hj2⟩⟩
        · dsimp only
          gi_wp2
          refine bodyPost_ret (results_none rfl _ _ _) rfl ?_
          exact ⟨⟨_, rfl⟩, .inr ⟨pre ++ [k], trivial, hjx⟩⟩
    · have he := isE_yes (s.extract (pos s.data.toList pre) s.size) (by simp; omega)
      have hAll : Hid (AllRead s.data.toList pre) := Lib.hid (.inl ⟨by rw [size_list]; exact hlt, hsc.out⟩)
      clear hnx hty hbl
      have Bc := hB.cell
      have Bf := hB.frozen
      generalize s.extract (pos s.data.toList pre) s.size = sk at *
      gi_wp2
      go_end0
      exact ⟨⟨_, rfl⟩, .inl ⟨pre, hAll.out, hj⟩⟩
end Go.Proofs.Ythlninijnbmjfaa
