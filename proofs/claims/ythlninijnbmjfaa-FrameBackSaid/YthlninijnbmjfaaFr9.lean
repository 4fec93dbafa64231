/- The laws FrameLong, FrameTurned, walked. Conditions: none. -/
import Derived.Test.YthlninijnbmjfaaFr8
import Derived.Deep.OwnRows
import Derived.Test.YthlninijnbmjfaaSum6
namespace Go.Proofs.Ythlninijnbmjfaa
open Go.RowKit Go.Shelf

theorem rep_size (n : Nat) : (bs (List.replicate n 0)).size = n := by rw [bs_size, List.length_replicate]
theorem rep_list (n : Nat) : (bs (List.replicate n 0)).data.toList = List.replicate n 0 := bs_list _
set_option maxRecDepth 100000 in
set_option maxHeartbeats 4000000 in
theorem FrameLong_walk (over : Int) (ho : I8 over) (w : World) :
    Calls Try.prog 4 #[.int .i8 over] w fun e w' => e = .returned (.bool true) ∧ Below w.heap.size w w' := by
  have CA := Lib.hid alive04
  obtain ⟨o0, o1⟩ := ho
  obtain ⟨n, hn⟩ : ∃ n : Nat, 65536 + over = (n : Int) := ⟨(65536 + over).toNat, by omega⟩
  have hmk : ∀ W : World, (Instr.makeSlice 40 (.int .i64 (n : Int)) (.int .i64 (n : Int))).run Try.prog W = .ok (.slice (some ⟨W.heap.size, 0, none⟩) n n) (W.alloc (.cells (madeCells #[.int .u8 0] n) 5)) := fun W => by
    exact run_make_row' 40 5 (.int .u8 0) 1 Try.underlying40 (by kernel_rfl) rfl .i64 .i64 n (by omega) (by omega) W
  have hcv := run_convert_bytes_back (P := Try.prog) (w.alloc (.cells (madeCells #[.int .u8 0] n) 5)) 40 9 5 ⟨w.heap.size, 0, none⟩ n (List.replicate n 0) Try.underlying40 Try.underlying5 Try.underlying9 (fun j hj => by
    rw [List.length_replicate] at hj
    rw [addr_add, Nat.zero_add, List.getElem_replicate]
    rw [(Blk.new w 5 (madeCells #[.int .u8 0] n)).cell j, ← Array.getElem?_toList, toList_madeCells_one, List.getElem?_replicate, if_pos hj]
    rfl)
  rw [List.length_replicate] at hcv
  replace hcv : (convert 40 9 (.slice (some ⟨w.heap.size, 0, none⟩) n n)).run Try.prog (w.alloc (.cells (madeCells #[.int .u8 0] n) 5)) = .ok (.string (bs (List.replicate n 0))) _ := hcv
  have hsz := rep_size n
  have c0 := fun w => fr_Frame (bs (List.replicate n 0)) (by omega) w
  by_cases hbig : 65536 < n
  · rw [if_pos (by omega)] at c0
    have c1 : ∀ S' w, S' = bs (fourL n) ++ bs (List.replicate n 0) ++ (⟨#[49, 50, 51, 52]⟩ : ByteArray) → Calls Try.prog 16 #[.string S'] w fun e w' => e = .returned (.tuple #[.string ⟨#[]⟩, .int .i64 0, .int .i64 4]) ∧ Below w.heap.size w w' := by
      rintro S' w rfl
      have := fr_Read (bs (fourL n) ++ bs (List.replicate n 0) ++ (⟨#[49, 50, 51, 52]⟩ : ByteArray)) (by rw [ByteArray.size_append, ByteArray.size_append, bs_size, fourL_len, hsz, show (⟨#[49, 50, 51, 52]⟩ : ByteArray).size = 4 from rfl]; omega) w
      rwa [readV_bad (e := 4) ?_ (by decide)] at this
      have e1 : (bs (fourL n) ++ bs (List.replicate n 0) ++ (⟨#[49, 50, 51, 52]⟩ : ByteArray)).data.toList = fourL n ++ (List.replicate n 0 ++ [49, 50, 51, 52]) := by simp [ba_append, bs_list]
      rw [e1]
      unfold readE
      rw [numL_four _ (by omega), if_neg (by simp [fourL_len]), if_pos (by omega)]
    generalize bs (List.replicate n 0) = T at *
    have C0 := Lib.hid c0
    have C1 := Lib.hid c1
    clear c0 c1
    go_enter Try.func4, Try.ntmps4
    go_wp2_with fail
    refine (C0.out _).mono ?_
    rintro r w1 ⟨rfl, hb1⟩; dsimp only
    replace hb1 : Below w.heap.size w w1 := below_to (by go_grown) hb1
    have hc := conv_four _ _ _ _ _ _ (fourL n) (Blk.new w1 5 #[.int .u8 ((n : Int) % 256), .int .u8 ((n : Int) / 256 % 256), .int .u8 ((n : Int) / 65536), .int .u8 0]) (by
      simp only [fourL, List.map_cons, List.map_nil]
      rw [u8_nat (by omega), u8_nat (by omega), u8_nat (by omega), u8_nat (by omega)]
      congr 1; congr 1; congr 1
      · omega
      · congr 1; omega)
    have h4 : (bs (fourL n)).size = 4 := rfl
    clear hmk hcv
    have C1' := fun w => C1.out _ w rfl
    clear C1
    generalize bs (fourL n) = H at *
    have C1 := Lib.hid C1'
    clear C1'
    go_wp2_with fail
    refine (C1.out _).mono ?_
    rintro r w2 ⟨rfl, hb2⟩; dsimp only
    replace hb1 : Below w.heap.size w w2 := below_to (hb1.alloc hb1.size _) hb2
    go_wp2_with fail
    refine (CA.out _).mono ?_
    rintro r w3 ⟨rfl, hb3⟩; dsimp only
    replace hb1 := below_to hb1 hb3
    go_wp2_with fail
    go_ret
    exact ⟨rfl, hb1⟩
  · rw [if_neg (by omega), rep_list] at c0
    obtain ⟨hE, hT, hN⟩ := read_frame (List.replicate n 0) [] (by rw [List.length_replicate]; omega)
    rw [List.append_nil] at hE hT hN
    have c1 := fun w => fr_Read (bs (frameL (List.replicate n 0))) (by rw [bs_size, frameL_len, List.length_replicate]; omega) w
    unfold readV at c1
    rw [bs_list, hE, hT, hN, List.length_replicate] at c1
    generalize bs (frameL (List.replicate n 0)) = F at *
    generalize bs (List.replicate n 0) = T at *
    have C0 := Lib.hid c0
    have C1 := Lib.hid c1
    clear c0 c1 hE hT hN
    go_enter Try.func4, Try.ntmps4
    go_wp2_with fail
    refine (C0.out _).mono ?_
    rintro r w1 ⟨rfl, hb1⟩; dsimp only
    replace hb1 : Below w.heap.size w w1 := below_to (by go_grown) hb1
    go_wp2_with fail
    refine (C1.out _).mono ?_
    rintro r w2 ⟨rfl, hb2⟩; dsimp only
    replace hb1 := below_to hb1 hb2
    go_wp2_with fail
    refine (CA.out _).mono ?_
    rintro r w3 ⟨rfl, hb3⟩; dsimp only
    replace hb1 := below_to hb1 hb3
    go_wp2_with fail
    go_ret
    exact ⟨rfl, hb1⟩
theorem take_set4 (L : List UInt8) (j : Nat) (y : UInt8) (h : 4 ≤ j) : (L.set j y).take 4 = L.take 4 := by
  apply List.ext_getElem?
  intro i
  rw [List.getElem?_take, List.getElem?_take]
  by_cases hi : i < 4
  · rw [if_pos hi, if_pos hi, List.getElem?_set_ne (by omega)]
  · rw [if_neg hi, if_neg hi]
set_option maxRecDepth 100000 in
set_option maxHeartbeats 4000000 in
theorem FrameTurned_walk (s : ByteArray) (hs : s.size ≤ 140737488351232) (at_ : Int) (ha : U16 at_) (x : Int) (hx : U32 x) (w : World) :
    Calls Try.prog 6 #[.string s, .int .u16 at_, .int .u32 x] w fun e w' => e = .returned (.bool true) ∧ Below w.heap.size w w' := by
  obtain ⟨p, rfl⟩ : ∃ c : B32, x = u c := ⟨BitVec.ofNat 32 x.toNat, by obtain ⟨h0, h1⟩ := hx; rw [← u_nat (by omega)]; omega⟩
  obtain ⟨a0, a1⟩ := ha
  obtain ⟨A, rfl⟩ : ∃ N : Nat, at_ = N := ⟨at_.toNat, by omega⟩
  have al := Lib.hid alive04
  have hB : Below w.heap.size w w := below_self w
  clear hx
  by_cases h8 : 4096 < s.size
  · go_enter Try.func6, Try.ntmps6
    go_wp2_with fail
    refine (al.out _).mono ?_
    rintro r ww ⟨rfl, hb⟩; dsimp only
    replace hB := below_to hB hb
    clear hb
    go_wp2_with fail
    go_ret
    exact ⟨rfl, hB⟩
  by_cases hp : p = 0#32
  · subst hp
    have hu0 : u 0#32 = 0 := rfl
    go_enter Try.func6, Try.ntmps6
    go_wp2_with fail
    refine (al.out _).mono ?_
    rintro r ww ⟨rfl, hb⟩; dsimp only
    replace hB := below_to hB hb
    clear hb
    go_wp2_with fail
    go_ret
    exact ⟨rfl, hB⟩
  have hp0 : (u p == 0) = false := by
    rw [beq_eq_false_iff_ne]
    intro e
    apply hp
    apply BitVec.eq_of_toNat_eq
    unfold u at e
    show p.toNat = 0
    omega
  have c0 := fun w => fr_Frame s hs w
  rw [if_neg (by omega)] at c0
  obtain ⟨S, hS⟩ : ∃ S, S = bs (frameL s.data.toList) := ⟨_, rfl⟩
  have hSl : S.data.toList = frameL s.data.toList := by rw [hS, bs_list]
  have hSz : S.size = s.size + 8 := by rw [hS, bs_size, frameL_len, size_list]
  rw [← hS] at c0
  clear hS
  have HSl := Lib.hid hSl
  have C0 := Lib.hid c0
  clear c0 hSl
  have hconv := fun W : World => run_bytes_of_string (P := Try.prog) W 9 40 5 S Try.underlying9 Try.underlying40 Try.underlying5
  obtain ⟨f, hf⟩ : ∃ f : Nat, f = 32 + A % (8 * (s.size + 4) - 31) := ⟨_, rfl⟩
  have hf0 : f + 32 ≤ 8 * (s.size + 8) := by have := Nat.mod_lt A (show 0 < 8 * (s.size + 4) - 31 by omega); omega
  have hf1 : 32 ≤ f := by omega
  go_enter Try.func6, Try.ntmps6
  go_wp2_with fail
  refine (C0.out _).mono ?_
  rintro r w1 ⟨rfl, hb1⟩; dsimp only
  go_wp2_with fail
  have hfm : wrap64 (32 + (A : Int) % (8 * ((s.size : Int) + 8 - 4) - 31)) = (f : Int) := by
    rw [show (8 * ((s.size : Int) + 8 - 4) - 31) = ((8 * (s.size + 4) - 31 : Nat) : Int) by omega, ← Int.natCast_emod]
    unfold wrap64
    omega
  rw [hfm]
  clear hfm
  have hM : BytesAt (w1.alloc (.cells (bytesRow S (grownCap w1 (s.size + 8) 0 5)) 5 ((bytesRow S (grownCap w1 (s.size + 8) 0 5)).size, (bytesRow S (grownCap w1 (s.size + 8) 0 5)).size + 1))).drew w1.heap.size S.data.toList := bytes_new w1 S _
  have hB : Below w.heap.size w (w1.alloc (.cells (bytesRow S (grownCap w1 (s.size + 8) 0 5)) 5 ((bytesRow S (grownCap w1 (s.size + 8) 0 5)).size, (bytesRow S (grownCap w1 (s.size + 8) 0 5)).size + 1))).drew := below_to hb1 (by go_grown)
  have hw1 := hb1.size
  refine wp_world (fun W => BytesAt W w1.heap.size S.data.toList ∧ Below w.heap.size w W) ⟨hM, hB⟩ ?_
  clear hM hB hconv hp0 hf
  have hSlen : S.data.toList.length = s.size + 8 := by rw [size_list]; exact hSz
  generalize grownCap w1 (s.size + 8) 0 5 = cap
  generalize w1.heap.size = g at *
  rintro W ⟨hM, hB⟩
  go_loopw [11, 12] (fun i _ wr => ∃ (k : Nat) (L : List UInt8), k ≤ 32 ∧ i = .int .i64 k ∧ L.length = s.size + 8 ∧ BytesAt wr g L ∧ Hid (L.take 4 = S.data.toList.take 4 ∧ ∀ c, crcL c L = crcL c S.data.toList ^^^ bsteps (8 * (s.size + 8) - f) (lowB p k)) ∧ Below w.heap.size w wr) (fun i _ _ => 32 - (intOf i).toNat)
  case atStart => exact ⟨0, S.data.toList, Nat.zero_le _, rfl, hSlen, hM, Lib.hid ⟨rfl, fun c => by simp [lowB, bsteps_zero]⟩, hB⟩
  case round =>
    clear hM hB
    obtain ⟨k, L, hk, rfl, hL, hM, HC, hB⟩ := hrel
    have HL := Lib.hid hL
    clear hL
    by_cases hlt : k < 32
    · obtain ⟨j, r, hr, hjr⟩ : ∃ j r : Nat, r < 8 ∧ 8 * j + r = f + k := ⟨(f + k) / 8, (f + k) % 8, Nat.mod_lt _ (by decide), by omega⟩
      have hj : j < L.length := by have := HL.out; omega
      have q1 : ((f : Int) + (k : Int)) / 8 = (j : Int) := by omega
      have q2 : ((f : Int) + (k : Int)) % 8 = (r : Int) := by omega
      have hb := u_bitk p k
      have hc := hM.cell j hj
      have hfz := hM.frozen j hj
      have hN := hM.lt
      cases hbit : p.getLsbD k with
      | true =>
        rw [hbit, if_pos rfl] at hb
        obtain ⟨y, hy⟩ : ∃ y, y = L[j] ^^^ UInt8.ofNat (2 ^ r) := ⟨_, rfl⟩
        have hx := xor8_bit L[j] r hr
        rw [← hy] at hx
        have HY := Lib.hid hy
        clear hy
        go_wp2_with fail
        go_roundw
        case rel =>
          refine ⟨k + 1, L.set j y, by omega, by go_num, by rw [List.length_set]; exact HL.out, hM.put j y hj, Lib.hid ⟨?_, fun c => ?_⟩, hB.setCell (by omega) _⟩
          · rw [take_set4 _ _ _ (by omega)]; exact HC.out.1
          · exact burst_more p _ c HL.out hj hr hlt hjr hf0 (HC.out.2 c) hbit (by rw [HY.out])
        case measure => simp [intOf]; omega
      | false =>
        rw [hbit, if_neg (by decide)] at hb
        have hx := xor8_none L[j]
        have hM' : BytesAt (wr.setCell ⟨g, j, none⟩ (.int .u8 (L[j].toNat : Int))) g L := by
          have := hM.put j L[j] hj
          rwa [List.set_getElem_self] at this
        go_wp2_with fail
        go_roundw
        case rel => exact ⟨k + 1, L, by omega, by go_num, HL.out, hM', Lib.hid ⟨HC.out.1, fun c => by rw [lowB_none hbit]; exact HC.out.2 c⟩, hB.setCell (by omega) _⟩
        case measure => simp [intOf]; omega
    · obtain rfl : k = 32 := by omega
      have hback := run_convert_bytes_back (P := Try.prog) wr 40 9 5 ⟨g, 0, none⟩ cap L Try.underlying40 Try.underlying5 Try.underlying9 (fun j hj => by rw [addr_add, Nat.zero_add]; exact hM.cell j hj)
      rw [HL.out] at hback
      have c1 := fun w => fr_Read ⟨L.toArray⟩ (by show L.toArray.size ≤ _; have := HL.out; simp; omega) w
      rw [show (⟨L.toArray⟩ : ByteArray).data.toList = L from rfl, readV_bad (turned (t := s.data.toList) (by rw [size_list]; omega) (by rw [size_list]; exact HL.out) (by rw [← HSl.out]; exact HC.out.1) hp (fun c => by rw [← HSl.out, HC.out.2 c, lowB_all])) (by decide)] at c1
      have C1 := Lib.hid c1
      clear c1 HC
      go_wp2_with fail
      refine (C1.out _).mono ?_
      rintro r ww ⟨rfl, hb⟩; dsimp only
      replace hB := below_to hB hb
      clear hb
      go_wp2_with fail
      refine (al.out _).mono ?_
      rintro r ww ⟨rfl, hb⟩; dsimp only
      replace hB := below_to hB hb
      clear hb
      go_wp2_with fail
      go_ret
      exact ⟨by first | rfl | simp, hB⟩
end Go.Proofs.Ythlninijnbmjfaa
