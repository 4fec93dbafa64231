/- The law WireBack of reevelaw03, walked. Conditions: the numbers are of their kinds. -/
import Derived.Test.YteglieoeblehpaaWire6
import Derived.Test.YteglieoeblehpaaWire8p
import Derived.Test.YteglieoeblehpaaK10
namespace Go.Proofs.Yteglieoeblehpaa
open Go.RowKit

theorem odd_and (x : Int) (h0 : 0 ≤ x) (h1 : x ≤ 18446744073709551615) : (bits .and .u64 x 1 == 1) = decide (x % 2 = 1) := by
  rw [Lib.u64_and1 x h0 (by omega)]
  by_cases h : x % 2 = 1
  · rw [h]; rfl
  · rw [show x % 2 = 0 by omega]; rfl
set_option maxRecDepth 100000 in
set_option maxHeartbeats 4000000 in
theorem bytes03 (i : Item) (h : i.ok) (hs : i.s.size ≤ 1024) (w : World) : Calls Try.prog 20 #[i.v] w fun e w' => e = .returned (.string (bs (itemB i))) ∧ Below w.heap.size w w' := by
  obtain ⟨k, x, s⟩ := i
  obtain ⟨⟨hk0, hk1⟩, ⟨hx0, hx1⟩, _⟩ := h
  dsimp only at *
  have E : Hid (itemB ⟨k, x, s⟩ = if k % 4 = 0 then Lib.uvarint x.toNat else if k % 4 = 1 then Lib.uvarint (Lib.zigzag (wrap64 x)) else if k % 4 = 2 then Lib.uvarint s.size ++ s.data.toList else [if x % 2 = 1 then 1 else 0]) := Lib.hid rfl
  rcases (show k % 4 = 0 ∨ k % 4 = 1 ∨ k % 4 = 2 ∨ k % 4 = 3 by omega) with e | e | e | e
  · have HE : Hid (bs (itemB ⟨k, x, s⟩) = bs (Lib.uvarint x.toNat)) := Lib.hid (by rw [E.out, if_pos e])
    clear E
    obtain ⟨x, rfl⟩ : ∃ n : Nat, x = n := ⟨x.toNat, by omega⟩
    rw [Int.toNat_natCast] at HE
    have C := Lib.hid (fun w => wr_Uint x (by omega) w)
    go_enter Try.func20, Try.ntmps20
    go_wp2_with fail
    refine (C.out _).mono ?_
    rintro r w1 ⟨rfl, hb⟩; dsimp only
    go_wp2_with fail
    go_ret
    exact ⟨by rw [HE.out]; rfl, below_to (by go_grown) hb⟩
  · have HE : Hid (bs (itemB ⟨k, x, s⟩) = bs (Lib.uvarint (Lib.zigzag (wrap64 x)))) := Lib.hid (by rw [E.out, if_neg (by omega), if_pos e])
    clear E
    have C := Lib.hid (fun w => wr_Int (wrap64 x) (wrap64_bd x).1 (wrap64_bd x).2 w)
    go_enter Try.func20, Try.ntmps20
    go_wp2_with fail
    refine (C.out _).mono ?_
    rintro r w1 ⟨rfl, hb⟩; dsimp only
    go_wp2_with fail
    go_ret
    exact ⟨by rw [HE.out]; rfl, below_to (by go_grown) hb⟩
  · have HE : Hid (bs (itemB ⟨k, x, s⟩) = bs (Lib.uvarint s.size) ++ s) := Lib.hid (by rw [E.out, if_neg (by omega), if_neg (by omega), if_pos e, bs_append, bs_data])
    clear E
    have C := Lib.hid (fun w => wr_Text s (by omega) w)
    go_enter Try.func20, Try.ntmps20
    go_wp2_with fail
    refine (C.out _).mono ?_
    rintro r w1 ⟨rfl, hb⟩; dsimp only
    go_wp2_with fail
    go_ret
    exact ⟨by rw [HE.out]; rfl, below_to (by go_grown) hb⟩
  · have HE : Hid (bs (itemB ⟨k, x, s⟩) = bs [if decide (x % 2 = 1) = true then 1 else 0]) := Lib.hid (by rw [E.out, if_neg (by omega), if_neg (by omega), if_neg (by omega)]; simp)
    clear E
    have hodd := odd_and x hx0 hx1
    generalize decide (x % 2 = 1) = z at *
    have C := Lib.hid (fun w => wr_Bool z w)
    cases z
    all_goals
      go_enter Try.func20, Try.ntmps20
      go_wp2_with fail
      refine (C.out _).mono ?_
      rintro r w1 ⟨rfl, rfl⟩; dsimp only
      go_wp2_with fail
      go_ret
      exact ⟨by rw [HE.out]; rfl, by go_grown⟩
set_option maxRecDepth 100000 in
set_option maxHeartbeats 8000000 in
theorem back03 (P : Nat) (i : Item) (h : i.ok) (hs : i.s.size ≤ 1024) (rest : List UInt8) (hrest : rest.length ≤ 1000000) (w : World) (hr : Rd w P (bs (itemB i ++ rest)) 0) :
    Calls Try.prog 22 #[.pointer (some ⟨P, 0, none⟩), i.v] w fun e w' => e = .returned (.bool true) ∧ Rd w' P (bs rest) 0 ∧ Kept P w w' := by
  have hlen := itemB_len i h hs
  obtain ⟨k, x, s⟩ := i
  obtain ⟨⟨hk0, hk1⟩, ⟨hx0, hx1⟩, _⟩ := h
  dsimp only at *
  have hsz : (bs (itemB ⟨k, x, s⟩ ++ rest)).size ≤ 140737488351232 := by rw [bs_size, List.length_append]; omega
  have E : itemB ⟨k, x, s⟩ = if k % 4 = 0 then Lib.uvarint x.toNat else if k % 4 = 1 then Lib.uvarint (Lib.zigzag (wrap64 x)) else if k % 4 = 2 then Lib.uvarint s.size ++ s.data.toList else [if x % 2 = 1 then 1 else 0] := rfl
  have hX := Blk.new w 31 #[.int .u8 k, .int .u64 x, .string s]
  have h1 := Blk.alloc hr (.cells #[.int .u8 k, .int .u64 x, .string s] 31)
  have hBP : w.heap.size ≠ P := Nat.ne_of_gt (Blk.lt hr)
  have j0 := hX.cell 0
  have j1 := hX.cell 1
  have j2 := hX.cell 2
  have HX := Lib.hid hX
  have hbw : Below w.heap.size w (w.alloc (.cells #[.int .u8 k, .int .u64 x, .string s] 31)) := by go_grown
  have HB := Lib.hid (Below.drew hbw)
  clear hr hX hbw hlen hrest
  rcases (show k % 4 = 0 ∨ k % 4 = 1 ∨ k % 4 = 2 ∨ k % 4 = 3 by omega) with e | e | e | e
  · obtain ⟨x, rfl⟩ : ∃ n : Nat, x = n := ⟨x.toNat, by omega⟩
    rw [if_pos e, Int.toNat_natCast] at E
    rw [E] at h1 hsz
    have C := rd_Uint P _ 0 18446744073709551615 (World.drew _) hsz (Blk.drew h1)
    rw [qUint_enc x (by omega), rdS_bs _ _ _ _ rfl, show rdV 0 ((x : Int), (Lib.uvarint x).length, 0) 0 = x from rfl, show rdF 0 ((x : Int), (Lib.uvarint x).length, 0) = 0 from rfl] at C
    replace C := Lib.hid C
    clear E h1 hsz
    go_enter Try.func22, Try.ntmps22
    go_wp2_with fail
    refine wp_region_held_drew (S := fun w' => w'.cell? ⟨w.heap.size, 1, none⟩ = some (.int .u64 x)) (by kernel_rfl) j1 (fun hHeld => ?_)
    refine wpAnyH_take (i := 0) (v := ?_) rfl (by kernel_rfl) (by kernel_rfl) (by kernel_rfl) (fun _ _ _ h => h) (Or.inl ⟨by rfl, ?hy⟩) hHeld ?_
    case hy =>
      intro w hSw
      (try dsimp only at hSw)
      go_simp
      (try with_reducible rfl)
    try simp only [Act.put, List.getElem_toArray, List.getElem_cons_succ, List.getElem_cons_zero, List.setIfInBounds_toArray, List.set_cons_zero, List.set_cons_succ]
    refine wpAnyH_take (i := 2) (v := ?_) rfl (by kernel_rfl) (by kernel_rfl) (by kernel_rfl) (fun _ _ _ h => h) (Or.inl ⟨by rfl, ?hy⟩) hHeld ?_
    case hy =>
      intro w hSw
      (try dsimp only at hSw)
      go_simp
      (try with_reducible rfl)
    try simp only [Act.put, List.getElem_toArray, List.getElem_cons_succ, List.getElem_cons_zero, List.setIfInBounds_toArray, List.set_cons_zero, List.set_cons_succ]
    refine wpAnyH_take (i := 3) (v := ?_) rfl (by kernel_rfl) (by kernel_rfl) (by kernel_rfl) (fun _ _ _ h => h) (Or.inl ⟨by rfl, ?hy⟩) hHeld ?_
    case hy =>
      intro w hSw
      (try dsimp only at hSw)
      go_simp
      (try with_reducible rfl)
    try simp only [Act.put, List.getElem_toArray, List.getElem_cons_succ, List.getElem_cons_zero, List.setIfInBounds_toArray, List.set_cons_zero, List.set_cons_succ]
    refine wpAnyH_ready (rs := [1]) (by kernel_rfl) (by simp) ?_
    refine AllReadyH.cons rfl (fun K hK => ?_) AllReadyH.nil
    have hOld := hHeld
    clear hHeld
    go_simp
    refine (C.out).mono ?_
    rintro r w2 ⟨rfl, hr2, hk2⟩
    dsimp only
    refine hK.out _ _ ((hk2.blk (by exact HX.out) hBP).cell 1) (fun hHeld => ?_)
    clear hK K hOld
    try simp only [Act.put, List.getElem_toArray, List.getElem_cons_succ, List.getElem_cons_zero, List.setIfInBounds_toArray, List.set_cons_zero, List.set_cons_succ]
    refine wpAnyH_take (i := 4) (v := ?_) rfl (by kernel_rfl) (by kernel_rfl) (by kernel_rfl) (fun _ _ _ h => h) (Or.inl ⟨by rfl, ?hy⟩) hHeld ?_
    case hy =>
      intro w hSw
      (try dsimp only at hSw)
      go_simp
      (try with_reducible rfl)
    try simp only [Act.put, List.getElem_toArray, List.getElem_cons_succ, List.getElem_cons_zero, List.setIfInBounds_toArray, List.set_cons_zero, List.set_cons_succ]
    refine wpAnyH_take (i := 5) (v := ?_) rfl (by kernel_rfl) (by kernel_rfl) (by kernel_rfl) (fun _ _ _ h => h) (Or.inl ⟨by rfl, ?hy⟩) hHeld ?_
    case hy =>
      intro w hSw
      (try dsimp only at hSw)
      go_simp
      (try with_reducible rfl)
    try simp only [Act.put, List.getElem_toArray, List.getElem_cons_succ, List.getElem_cons_zero, List.setIfInBounds_toArray, List.set_cons_zero, List.set_cons_succ]
    refine wpAnyH_done (by kernel_rfl) ?_ _
    go_wp2_with fail
    go_ret
    exact ⟨rfl, hr2, Kept.under hk2 HB.out⟩
  · rw [if_neg (by omega), if_pos e] at E
    rw [E] at h1 hsz
    have hwb := wrap64_bd x
    obtain ⟨z, hz⟩ : ∃ z, wrap64 x = z := ⟨_, rfl⟩
    rw [hz] at h1 hsz hwb
    have g : (z == IntKind.i64.wrap x) = true := by rw [IntWalk.i64_left, hz]; exact beq_self_eq_true z
    clear hz
    have C := rd_Int P _ 0 (-9223372036854775808) 9223372036854775807 (World.drew _) hsz (Blk.drew h1)
    rw [qInt_enc z hwb.1 hwb.2, rdS_bs _ _ _ _ rfl, show rdV 0 (z, (Lib.uvarint (Lib.zigzag z)).length, 0) 0 = z from rfl, show rdF 0 (z, (Lib.uvarint (Lib.zigzag z)).length, 0) = 0 from rfl] at C
    replace C := Lib.hid C
    clear E h1 hsz
    go_enter Try.func22, Try.ntmps22
    go_wp2_with fail
    refine wp_region_held_drew (S := fun w' => w'.cell? ⟨w.heap.size, 1, none⟩ = some (.int .u64 x)) (by kernel_rfl) j1 (fun hHeld => ?_)
    refine wpAnyH_take (i := 0) (v := ?_) rfl (by kernel_rfl) (by kernel_rfl) (by kernel_rfl) (fun _ _ _ h => h) (Or.inl ⟨by rfl, ?hy⟩) hHeld ?_
    case hy =>
      intro w hSw
      (try dsimp only at hSw)
      go_simp
      (try with_reducible rfl)
    try simp only [Act.put, List.getElem_toArray, List.getElem_cons_succ, List.getElem_cons_zero, List.setIfInBounds_toArray, List.set_cons_zero, List.set_cons_succ]
    refine wpAnyH_take (i := 2) (v := ?_) rfl (by kernel_rfl) (by kernel_rfl) (by kernel_rfl) (fun _ _ _ h => h) (Or.inl ⟨by rfl, ?hy⟩) hHeld ?_
    case hy =>
      intro w hSw
      (try dsimp only at hSw)
      go_simp
      (try with_reducible rfl)
    try simp only [Act.put, List.getElem_toArray, List.getElem_cons_succ, List.getElem_cons_zero, List.setIfInBounds_toArray, List.set_cons_zero, List.set_cons_succ]
    refine wpAnyH_take (i := 3) (v := ?_) rfl (by kernel_rfl) (by kernel_rfl) (by kernel_rfl) (fun _ _ _ h => h) (Or.inl ⟨by rfl, ?hy⟩) hHeld ?_
    case hy =>
      intro w hSw
      (try dsimp only at hSw)
      go_simp
      (try with_reducible rfl)
    try simp only [Act.put, List.getElem_toArray, List.getElem_cons_succ, List.getElem_cons_zero, List.setIfInBounds_toArray, List.set_cons_zero, List.set_cons_succ]
    refine wpAnyH_take (i := 4) (v := ?_) rfl (by kernel_rfl) (by kernel_rfl) (by kernel_rfl) (fun _ _ _ h => h) (Or.inl ⟨by rfl, ?hy⟩) hHeld ?_
    case hy =>
      intro w hSw
      (try dsimp only at hSw)
      go_simp
      (try with_reducible rfl)
    try simp only [Act.put, List.getElem_toArray, List.getElem_cons_succ, List.getElem_cons_zero, List.setIfInBounds_toArray, List.set_cons_zero, List.set_cons_succ]
    refine wpAnyH_ready (rs := [1]) (by kernel_rfl) (by simp) ?_
    refine AllReadyH.cons rfl (fun K hK => ?_) AllReadyH.nil
    have hOld := hHeld
    clear hHeld
    go_simp
    refine (C.out).mono ?_
    rintro r w2 ⟨rfl, hr2, hk2⟩
    dsimp only
    refine hK.out _ _ ((hk2.blk (by exact HX.out) hBP).cell 1) (fun hHeld => ?_)
    clear hK K hOld
    try simp only [Act.put, List.getElem_toArray, List.getElem_cons_succ, List.getElem_cons_zero, List.setIfInBounds_toArray, List.set_cons_zero, List.set_cons_succ]
    refine wpAnyH_take (i := 5) (v := ?_) rfl (by kernel_rfl) (by kernel_rfl) (by kernel_rfl) (fun _ _ _ h => h) (Or.inl ⟨by rfl, ?hy⟩) hHeld ?_
    case hy =>
      intro w hSw
      (try dsimp only at hSw)
      go_simp
      (try with_reducible rfl)
    try simp only [Act.put, List.getElem_toArray, List.getElem_cons_succ, List.getElem_cons_zero, List.setIfInBounds_toArray, List.set_cons_zero, List.set_cons_succ]
    refine wpAnyH_take (i := 6) (v := ?_) rfl (by kernel_rfl) (by kernel_rfl) (by kernel_rfl) (fun _ _ _ h => h) (Or.inl ⟨by rfl, ?hy⟩) hHeld ?_
    case hy =>
      intro w hSw
      (try dsimp only at hSw)
      go_simp
      (try with_reducible rfl)
    try simp only [Act.put, List.getElem_toArray, List.getElem_cons_succ, List.getElem_cons_zero, List.setIfInBounds_toArray, List.set_cons_zero, List.set_cons_succ]
    refine wpAnyH_done (by kernel_rfl) ?_ _
    go_wp2_with fail
    go_ret
    exact ⟨rfl, hr2, Kept.under hk2 HB.out⟩
  · rw [if_neg (by omega), if_neg (by omega), if_pos e] at E
    rw [E, List.append_assoc] at h1 hsz
    have C := rd_Text P _ 0 4096 (by decide) (by decide) (World.drew _) hsz (Blk.drew h1)
    rw [qText_enc s 4096 (by omega) (by omega), ← List.append_assoc, rdS_bs _ _ _ _ (by rw [List.length_append, size_list]), show rdV 0 (s, (Lib.uvarint s.size).length + s.size, 0) ByteArray.empty = s from rfl, show rdF 0 (s, (Lib.uvarint s.size).length + s.size, 0) = 0 from rfl] at C
    replace C := Lib.hid C
    clear E h1 hsz
    go_enter Try.func22, Try.ntmps22
    go_wp2_with fail
    refine wp_region_held_drew (S := fun w' => w'.cell? ⟨w.heap.size, 2, none⟩ = some (.string s)) (by kernel_rfl) j2 (fun hHeld => ?_)
    refine wpAnyH_take (i := 0) (v := ?_) rfl (by kernel_rfl) (by kernel_rfl) (by kernel_rfl) (fun _ _ _ h => h) (Or.inl ⟨by rfl, ?hy⟩) hHeld ?_
    case hy =>
      intro w hSw
      (try dsimp only at hSw)
      go_simp
      (try with_reducible rfl)
    try simp only [Act.put, List.getElem_toArray, List.getElem_cons_succ, List.getElem_cons_zero, List.setIfInBounds_toArray, List.set_cons_zero, List.set_cons_succ]
    refine wpAnyH_take (i := 2) (v := ?_) rfl (by kernel_rfl) (by kernel_rfl) (by kernel_rfl) (fun _ _ _ h => h) (Or.inl ⟨by rfl, ?hy⟩) hHeld ?_
    case hy =>
      intro w hSw
      (try dsimp only at hSw)
      go_simp
      (try with_reducible rfl)
    try simp only [Act.put, List.getElem_toArray, List.getElem_cons_succ, List.getElem_cons_zero, List.setIfInBounds_toArray, List.set_cons_zero, List.set_cons_succ]
    refine wpAnyH_take (i := 3) (v := ?_) rfl (by kernel_rfl) (by kernel_rfl) (by kernel_rfl) (fun _ _ _ h => h) (Or.inl ⟨by rfl, ?hy⟩) hHeld ?_
    case hy =>
      intro w hSw
      (try dsimp only at hSw)
      go_simp
      (try with_reducible rfl)
    try simp only [Act.put, List.getElem_toArray, List.getElem_cons_succ, List.getElem_cons_zero, List.setIfInBounds_toArray, List.set_cons_zero, List.set_cons_succ]
    refine wpAnyH_ready (rs := [1]) (by kernel_rfl) (by simp) ?_
    refine AllReadyH.cons rfl (fun K hK => ?_) AllReadyH.nil
    have hOld := hHeld
    clear hHeld
    go_simp
    refine (C.out).mono ?_
    rintro r w2 ⟨rfl, hr2, hk2⟩
    dsimp only
    refine hK.out _ _ ((hk2.blk (by exact HX.out) hBP).cell 2) (fun hHeld => ?_)
    clear hK K hOld
    try simp only [Act.put, List.getElem_toArray, List.getElem_cons_succ, List.getElem_cons_zero, List.setIfInBounds_toArray, List.set_cons_zero, List.set_cons_succ]
    refine wpAnyH_take (i := 4) (v := ?_) rfl (by kernel_rfl) (by kernel_rfl) (by kernel_rfl) (fun _ _ _ h => h) (Or.inl ⟨by rfl, ?hy⟩) hHeld ?_
    case hy =>
      intro w hSw
      (try dsimp only at hSw)
      go_simp
      (try with_reducible rfl)
    try simp only [Act.put, List.getElem_toArray, List.getElem_cons_succ, List.getElem_cons_zero, List.setIfInBounds_toArray, List.set_cons_zero, List.set_cons_succ]
    refine wpAnyH_take (i := 5) (v := ?_) rfl (by kernel_rfl) (by kernel_rfl) (by kernel_rfl) (fun _ _ _ h => h) (Or.inl ⟨by rfl, ?hy⟩) hHeld ?_
    case hy =>
      intro w hSw
      (try dsimp only at hSw)
      go_simp
      (try with_reducible rfl)
    try simp only [Act.put, List.getElem_toArray, List.getElem_cons_succ, List.getElem_cons_zero, List.setIfInBounds_toArray, List.set_cons_zero, List.set_cons_succ]
    refine wpAnyH_done (by kernel_rfl) ?_ _
    go_wp2_with fail
    go_ret
    exact ⟨rfl, hr2, Kept.under hk2 HB.out⟩
  · rw [if_neg (by omega), if_neg (by omega), if_neg (by omega)] at E
    rw [E] at h1 hsz
    have hodd := odd_and x hx0 hx1
    have hq : qBool (bs ([if x % 2 = 1 then 1 else 0] ++ rest)) = (decide (x % 2 = 1), 1, 0) := by
      by_cases hx : x % 2 = 1
      · rw [if_pos hx, decide_eq_true hx]; rfl
      · rw [if_neg hx, decide_eq_false hx]; rfl
    have C := rd_Bool P _ 0 (World.drew _) hsz (Blk.drew h1)
    rw [hq, rdS_bs _ _ _ 1 rfl, show rdV 0 (decide (x % 2 = 1), 1, 0) false = decide (x % 2 = 1) from rfl, show rdF 0 (decide (x % 2 = 1), 1, 0) = 0 from rfl] at C
    clear E h1 hsz hq
    generalize decide (x % 2 = 1) = z at *
    replace C := Lib.hid C
    have g : (z == z) = true := by cases z <;> rfl
    go_enter Try.func22, Try.ntmps22
    go_wp2_with fail
    refine wp_region_held_drew (S := fun w' => w'.cell? ⟨w.heap.size, 1, none⟩ = some (.int .u64 x)) (by kernel_rfl) j1 (fun hHeld => ?_)
    refine wpAnyH_take (i := 0) (v := ?_) rfl (by kernel_rfl) (by kernel_rfl) (by kernel_rfl) (fun _ _ _ h => h) (Or.inl ⟨by rfl, ?hy⟩) hHeld ?_
    case hy =>
      intro w hSw
      (try dsimp only at hSw)
      go_simp
      (try with_reducible rfl)
    try simp only [Act.put, List.getElem_toArray, List.getElem_cons_succ, List.getElem_cons_zero, List.setIfInBounds_toArray, List.set_cons_zero, List.set_cons_succ]
    refine wpAnyH_take (i := 2) (v := ?_) rfl (by kernel_rfl) (by kernel_rfl) (by kernel_rfl) (fun _ _ _ h => h) (Or.inl ⟨by rfl, ?hy⟩) hHeld ?_
    case hy =>
      intro w hSw
      (try dsimp only at hSw)
      go_simp
      (try with_reducible rfl)
    try simp only [Act.put, List.getElem_toArray, List.getElem_cons_succ, List.getElem_cons_zero, List.setIfInBounds_toArray, List.set_cons_zero, List.set_cons_succ]
    refine wpAnyH_take (i := 3) (v := ?_) rfl (by kernel_rfl) (by kernel_rfl) (by kernel_rfl) (fun _ _ _ h => h) (Or.inl ⟨by rfl, ?hy⟩) hHeld ?_
    case hy =>
      intro w hSw
      (try dsimp only at hSw)
      go_simp
      (try with_reducible rfl)
    try simp only [Act.put, List.getElem_toArray, List.getElem_cons_succ, List.getElem_cons_zero, List.setIfInBounds_toArray, List.set_cons_zero, List.set_cons_succ]
    refine wpAnyH_take (i := 4) (v := ?_) rfl (by kernel_rfl) (by kernel_rfl) (by kernel_rfl) (fun _ _ _ h => h) (Or.inl ⟨by rfl, ?hy⟩) hHeld ?_
    case hy =>
      intro w hSw
      (try dsimp only at hSw)
      go_simp
      (try with_reducible rfl)
    try simp only [Act.put, List.getElem_toArray, List.getElem_cons_succ, List.getElem_cons_zero, List.setIfInBounds_toArray, List.set_cons_zero, List.set_cons_succ]
    refine wpAnyH_take (i := 5) (v := ?_) rfl (by kernel_rfl) (by kernel_rfl) (by kernel_rfl) (fun _ _ _ h => h) (Or.inl ⟨by rfl, ?hy⟩) hHeld ?_
    case hy =>
      intro w hSw
      (try dsimp only at hSw)
      go_simp
      (try with_reducible rfl)
    try simp only [Act.put, List.getElem_toArray, List.getElem_cons_succ, List.getElem_cons_zero, List.setIfInBounds_toArray, List.set_cons_zero, List.set_cons_succ]
    refine wpAnyH_ready (rs := [1]) (by kernel_rfl) (by simp) ?_
    refine AllReadyH.cons rfl (fun K hK => ?_) AllReadyH.nil
    have hOld := hHeld
    clear hHeld
    go_simp
    refine (C.out).mono ?_
    rintro r w2 ⟨rfl, hr2, hk2⟩
    dsimp only
    refine hK.out _ _ ((hk2.blk (by exact HX.out) hBP).cell 1) (fun hHeld => ?_)
    clear hK K hOld
    try simp only [Act.put, List.getElem_toArray, List.getElem_cons_succ, List.getElem_cons_zero, List.setIfInBounds_toArray, List.set_cons_zero, List.set_cons_succ]
    refine wpAnyH_take (i := 6) (v := ?_) rfl (by kernel_rfl) (by kernel_rfl) (by kernel_rfl) (fun _ _ _ h => h) (Or.inl ⟨by rfl, ?hy⟩) hHeld ?_
    case hy =>
      intro w hSw
      (try dsimp only at hSw)
      go_simp
      (try with_reducible rfl)
    try simp only [Act.put, List.getElem_toArray, List.getElem_cons_succ, List.getElem_cons_zero, List.setIfInBounds_toArray, List.set_cons_zero, List.set_cons_succ]
    refine wpAnyH_take (i := 7) (v := ?_) rfl (by kernel_rfl) (by kernel_rfl) (by kernel_rfl) (fun _ _ _ h => h) (Or.inl ⟨by rfl, ?hy⟩) hHeld ?_
    case hy =>
      intro w hSw
      (try dsimp only at hSw)
      go_simp
      (try with_reducible rfl)
    try simp only [Act.put, List.getElem_toArray, List.getElem_cons_succ, List.getElem_cons_zero, List.setIfInBounds_toArray, List.set_cons_zero, List.set_cons_succ]
    refine wpAnyH_done (by kernel_rfl) ?_ _
    go_wp2_with fail
    go_ret
    exact ⟨rfl, hr2, Kept.under hk2 HB.out⟩
set_option maxRecDepth 100000 in
set_option maxHeartbeats 8000000 in
theorem WireBack_walk (A : Option Addr) (m cp : Nat) (xs : List Item) (hx : xs.length = m) (_hm : m * 32 ≤ 140737488351232) (hok : ∀ x ∈ xs, x.ok) {w : World} (hr : ItemsIn w A xs) (s : ByteArray) (hs : s.size ≤ 140737488351232) :
    Calls Try.prog 4 #[.slice A m cp, .string s] w fun e w' => e = .returned (.bool true) ∧ Below w.heap.size w w' := by
  have al := Lib.hid alive03
  subst hx
  by_cases hbig2 : 200 < xs.length
  · clear hr
    go_enter Try.func4, Try.ntmps4
    go_wp2_with fail
    refine (al.out _).mono ?_
    rintro r w1 ⟨rfl, hb⟩; dsimp only
    go_wp2_with fail
    go_ret
    exact ⟨rfl, hb⟩
  by_cases hbig : 4096 < s.size
  · clear hr
    go_enter Try.func4, Try.ntmps4
    go_wp2_with fail
    refine (al.out _).mono ?_
    rintro r w1 ⟨rfl, hb⟩; dsimp only
    go_wp2_with fail
    go_ret
    exact ⟨rfl, hb⟩
  have HR := Lib.hid hr
  have OK := Lib.hid hok
  have A0 : Hid (bs (allB (xs.take 0)) = ⟨#[]⟩) := Lib.hid (by simp [allB, bs])
  clear hr hok
  go_enter Try.func4, Try.ntmps4
  go_wp2_with fail
  go_loopw [5, 6] (fun t i wr => ∃ k : Nat, k ≤ xs.length ∧ i = .int .i64 k ∧ t = .string (bs (allB (xs.take k))) ∧ (allB (xs.take k)).length ≤ k * 1034 ∧ Hid (∀ j (h : j < xs.length), j < k → xs[j].s.size ≤ 1024) ∧ Below w.heap.size w wr) (fun _ i _ => xs.length - (intOf i).toNat)
  case atStart => exact ⟨0, Nat.zero_le _, rfl, by rw [A0.out], by simp [allB], Lib.hid (fun j _ h => by omega), Below.refl _ _⟩
  case round =>
    obtain ⟨k, hk, rfl, rfl, hlen, hsm, hB⟩ := hrel
    by_cases hlt : k < xs.length
    · obtain ⟨b, off, rfl, hbA, hcell⟩ := HR.out (by intro e; rw [e] at hlt; simp at hlt)
      obtain ⟨k0, k1, k2⟩ := hcell k hlt
      have j0 := (hB.cell (p := ⟨b, off + k * 3, none⟩) hbA).trans k0
      have j1 := (hB.cell (p := ⟨b, off + k * 3 + 1, none⟩) hbA).trans k1
      have j2 := (hB.cell (p := ⟨b, off + k * 3 + 2, none⟩) hbA).trans k2
      clear k0 k1 k2 hcell
      have hbr : b < wr.heap.size := Nat.lt_of_lt_of_le hbA hB.size
      have hoq := OK.out _ (List.getElem_mem hlt)
      have hsn := Lib.hid (allB_snoc xs k hlt)
      have HSM : Hid (xs[k].s.size ≤ 1024 → ∀ j (h : j < xs.length), j < k + 1 → xs[j].s.size ≤ 1024) := Lib.hid (fun hq j h hj => by
        by_cases e : j = k
        · subst e; exact hq
        · exact hsm.out j h (by omega))
      have C1 := fun (hq' : xs[k].s.size ≤ 1024) w => bytes03 xs[k] hoq hq' w
      have hlq := itemB_len xs[k] hoq
      generalize xs[k] = q at *
      obtain ⟨d, x, u⟩ := q
      dsimp only [Item.v] at *
      by_cases hu : 1024 < u.size
      · clear hoq C1 hlq
        go_wp2_with fail
        refine (al.out _).mono ?_
        rintro r w1 ⟨rfl, hb⟩; dsimp only
        replace hB := below_to hB hb
        go_wp2_with fail
        go_ret
        exact ⟨rfl, hB⟩
      · replace C1 := Lib.hid (C1 (by omega))
        replace hlq := hlq (by omega)
        replace HSM := Lib.hid (HSM.out (by omega))
        generalize hib : itemB ⟨d, x, u⟩ = ib at *
        have HIB := Lib.hid hib
        have hz1 : (bs (allB (xs.take k))).size ≤ 206800 := by rw [bs_size]; omega
        have hz2 : (bs ib).size ≤ 1034 := by rw [bs_size]; exact hlq
        have hlen' : Hid ((allB (xs.take (k + 1))).length ≤ (k + 1) * 1034) := Lib.hid (by rw [hsn.out, List.length_append]; omega)
        have happ : Hid (bs (allB (xs.take k)) ++ bs ib = bs (allB (xs.take (k + 1)))) := Lib.hid (by rw [hsn.out, bs_append])
        clear hib hoq hsn hsm hlq hlen
        generalize bs (allB (xs.take k)) = t at *
        go_wp2_with fail
        refine (C1.out _).mono ?_
        rintro r w1 ⟨rfl, hb⟩; dsimp only
        replace hB := below_to hB hb
        clear hb
        go_wp2_with fail
        go_roundw
        case rel => exact ⟨k + 1, by omega, by go_num, by rw [happ.out], hlen'.out, HSM, hB⟩
        case measure => simp [intOf]; omega
    · obtain rfl : k = xs.length := by omega
      clear A0
      rw [List.take_length] at *
      have hall : Hid (∀ j (h : j < xs.length), xs[j].s.size ≤ 1024) := Lib.hid (fun j h => hsm.out j h h)
      clear hsm
      have hsz : (bs (allB xs)).size ≤ 140737488351232 := by rw [bs_size]; omega
      have C0 := Lib.hid (rd_New (bs (allB xs)) wr)
      have A1 : Hid (allB (xs.drop 0) = allB xs) := Lib.hid (by rw [List.drop_zero])
      have HLen : Hid (∀ k, (allB (xs.drop k)).length ≤ 1000000) := Lib.hid (fun k => by
        have e : allB xs = allB (xs.take k) ++ allB (xs.drop k) := by unfold allB; rw [← List.flatMap_append, List.take_append_drop]
        have := congrArg List.length e
        rw [List.length_append] at this
        omega)
      clear hlen hsz
      go_wp2_with fail
      refine (C0.out).mono ?_
      rintro r w1 ⟨rfl, hr, hb⟩; dsimp only
      have hP : w.heap.size ≤ wr.heap.size := hB.size
      replace hB := below_to hB hb
      clear hb C0
      generalize wr.heap.size = P at *
      clear wr
      go_wp2_with fail
      go_loopw [8] (fun i wr => ∃ k : Nat, k ≤ xs.length ∧ i = .int .i64 k ∧ Rd wr P (bs (allB (xs.drop k))) 0 ∧ Below w.heap.size w wr) (fun i _ => xs.length - (intOf i).toNat)
      case atStart => exact ⟨0, Nat.zero_le _, rfl, by rw [A1.out]; exact hr, hB⟩
      case round =>
        clear hr hB A1 w1
        obtain ⟨k, hk, rfl, hr, hB⟩ := hrel
        by_cases hlt : k < xs.length
        · obtain ⟨b, off, rfl, hbA, hcell⟩ := HR.out (by intro e; rw [e] at hlt; simp at hlt)
          obtain ⟨k0, k1, k2⟩ := hcell k hlt
          have j0 := (hB.cell (p := ⟨b, off + k * 3, none⟩) hbA).trans k0
          have j1 := (hB.cell (p := ⟨b, off + k * 3 + 1, none⟩) hbA).trans k1
          have j2 := (hB.cell (p := ⟨b, off + k * 3 + 2, none⟩) hbA).trans k2
          clear k0 k1 k2 hcell
          have hbr : b < wr.heap.size := Nat.lt_of_lt_of_le hbA hB.size
          rw [allB_drop xs k hlt] at hr
          have C1 := Lib.hid (back03 P xs[k] (OK.out _ (List.getElem_mem hlt)) (hall.out k hlt) (allB (xs.drop (k + 1))) (HLen.out _) wr hr)
          clear hr
          generalize xs[k] = q at *
          obtain ⟨d, x, u⟩ := q
          dsimp only [Item.v] at *
          go_wp2_with fail
          refine (C1.out).mono ?_
          rintro r w2 ⟨rfl, hr2, hk2⟩; dsimp only
          have hB2 := hk2.below hB hP
          clear hk2 C1
          go_wp2_with fail
          go_roundw
          case rel => exact ⟨k + 1, by omega, by go_num, hr2, hB2⟩
          case measure => simp [intOf]; omega
        · obtain rfl : k = xs.length := by omega
          rw [List.drop_length, show allB [] = [] from rfl] at hr
          have C1 := rd_End P _ _ wr hr
          rw [show endF (bs []) 0 = 0 by decide] at C1
          replace C1 := Lib.hid C1
          clear hr HR OK hall HLen
          go_wp2_with fail
          refine (C1.out).mono ?_
          rintro r w2 ⟨rfl, hr2, hk2⟩; dsimp only
          replace hB := hk2.below hB hP
          clear hr2 hk2 C1
          clear al
          have C2 := Lib.hid (rd_New s w2)
          go_wp2_with fail
          refine (C2.out).mono ?_
          rintro r w3 ⟨rfl, h1, hb⟩; dsimp only
          clear C2
          have hP1 : w.heap.size ≤ (w2).heap.size := (hB).size
          replace hB := below_to hB hb
          clear hb
          generalize (w2).heap.size = P1 at *
          by_cases hn : (vnum s).2 = 0
          · have C1 := rd_Uint P1 s 0 18446744073709551615 w3 hs h1
            rw [show qUint s 18446744073709551615 = (((vnum s).1 : Int), 0, 8) by unfold qUint; rw [if_pos hn, hn], show rdV 0 (((vnum s).1 : Int), 0, 8) 0 = 0 from rfl, show rdS 0 (((vnum s).1 : Int), 0, 8) s = s from rfl, show rdF 0 (((vnum s).1 : Int), 0, 8) = 8 from rfl] at C1
            replace C1 := Lib.hid C1
            clear h1
            go_wp2_with fail
            refine (C1.out).mono ?_
            rintro r w4 ⟨rfl, h1, hk⟩; dsimp only
            replace hB : Below w.heap.size w w4 := hk.below hB hP1
            clear hk C1
            have C1 := Lib.hid (rd_Err P1 s 8 w4 h1)
            clear h1
            go_wp2_with fail
            refine (C1.out).mono ?_
            rintro r ww ⟨rfl, rfl⟩; dsimp only
            clear C1
            have C2 := Lib.hid (rd_New s w4)
            go_wp2_with fail
            refine (C2.out).mono ?_
            rintro r w5 ⟨rfl, h1, hb⟩; dsimp only
            clear C2
            have hP2 : w.heap.size ≤ (w4).heap.size := (hB).size
            replace hB := below_to hB hb
            clear hb
            generalize (w4).heap.size = P2 at *
            have C1 := rd_Int P2 s 0 (-9223372036854775808) 9223372036854775807 w5 hs h1
            rw [show qInt s (-9223372036854775808) 9223372036854775807 = (unzig (vnum s).1, 0, 8) by unfold qInt; rw [if_pos hn, hn], show rdV 0 (unzig (vnum s).1, 0, 8) 0 = 0 from rfl, show rdS 0 (unzig (vnum s).1, 0, 8) s = s from rfl, show rdF 0 (unzig (vnum s).1, 0, 8) = 8 from rfl] at C1
            replace C1 := Lib.hid C1
            clear h1
            go_wp2_with fail
            refine (C1.out).mono ?_
            rintro r w6 ⟨rfl, h1, hk⟩; dsimp only
            replace hB : Below w.heap.size w w6 := hk.below hB hP2
            clear hk C1
            have C1 := Lib.hid (rd_Err P2 s 8 w6 h1)
            clear h1
            go_wp2_with fail
            refine (C1.out).mono ?_
            rintro r ww ⟨rfl, rfl⟩; dsimp only
            clear C1
            go_wp2_with fail
            refine (alive03 _).mono ?_
            rintro r ww ⟨rfl, hb⟩; dsimp only
            replace hB := below_to hB hb
            clear hb
            go_wp2_with fail
            go_ret
            exact ⟨rfl, hB⟩
          · have hx := (vnum_bd s).1
            have hns := (vnum_bd s).2
            have hub := unzig_bd (vnum s).1 hx
            have hback := uint_back s hn
            have C1 := rd_Uint P1 s 0 18446744073709551615 w3 hs h1
            rw [show qUint s 18446744073709551615 = (((vnum s).1 : Int), (vnum s).2, 0) by unfold qUint; rw [if_neg hn, if_neg (by omega)], show rdV 0 (((vnum s).1 : Int), (vnum s).2, 0) 0 = (vnum s).1 from rfl, show rdS 0 (((vnum s).1 : Int), (vnum s).2, 0) s = s.extract (vnum s).2 s.size from rfl, show rdF 0 (((vnum s).1 : Int), (vnum s).2, 0) = 0 from rfl] at C1
            have CI := fun P2 w5 h1 => rd_Int P2 s 0 (-9223372036854775808) 9223372036854775807 w5 hs h1
            rw [show qInt s (-9223372036854775808) 9223372036854775807 = (unzig (vnum s).1, (vnum s).2, 0) by unfold qInt; rw [if_neg hn, if_neg (by omega)], show rdV 0 (unzig (vnum s).1, (vnum s).2, 0) 0 = unzig (vnum s).1 from rfl, show rdS 0 (unzig (vnum s).1, (vnum s).2, 0) s = s.extract (vnum s).2 s.size from rfl, show rdF 0 (unzig (vnum s).1, (vnum s).2, 0) = 0 from rfl] at CI
            have CW := fun w => wr_Uint (vnum s).1 hx w
            have CX := fun w => wr_Int (unzig (vnum s).1) hub.1 hub.2 w
            rw [zigzag_unzig] at CX
            rw [← hback] at CW CX
            clear hback
            generalize (vnum s).1 = x at *
            generalize (vnum s).2 = n at *
            generalize unzig x = z at *
            have hq : (s.extract n s.size).size = s.size - n := by simp
            have CL := fun P w h => rd_Left P (s.extract n s.size) 0 w h
            rw [hq] at CL
            obtain ⟨L, hL⟩ : ∃ L, s.size - n = L := ⟨_, rfl⟩
            rw [hL] at CL
            have hnL : n = s.size - L := by omega
            have hLs : L ≤ s.size := by omega
            clear hL hq hns
            have CI' := Lib.hid CI
            have CW' := Lib.hid CW
            have CX' := Lib.hid CX
            have CL' := Lib.hid CL
            clear CI CW CX CL
            replace C1 := Lib.hid C1
            clear h1
            go_wp2_with fail
            refine (C1.out).mono ?_
            rintro r w4 ⟨rfl, h1, hk⟩; dsimp only
            replace hB : Below w.heap.size w w4 := hk.below hB hP1
            clear hk C1
            have C1 := Lib.hid (rd_Err P1 _ 0 w4 h1)
            go_wp2_with fail
            refine (C1.out).mono ?_
            rintro r ww ⟨rfl, rfl⟩; dsimp only
            go_wp2_with fail
            refine (CL'.out P1 w4 h1).mono ?_
            rintro r ww ⟨rfl, rfl⟩; dsimp only
            go_wp2_with fail
            refine (CL'.out P1 w4 h1).mono ?_
            rintro r ww ⟨rfl, rfl⟩; dsimp only
            go_wp2_with fail
            refine (CW'.out _).mono ?_
            rintro r w5 ⟨rfl, hb⟩; dsimp only
            have h2 := Blk.past h1 hb
            replace hB := below_to hB hb
            clear hb h1 C1
            go_wp2_with fail
            refine (CL'.out P1 w5 h2).mono ?_
            rintro r ww ⟨rfl, rfl⟩; dsimp only
            clear h2
            have C2 := Lib.hid (rd_New s w5)
            go_wp2_with fail
            refine (C2.out).mono ?_
            rintro r w6 ⟨rfl, h1, hb⟩; dsimp only
            clear C2
            have hP2 : w.heap.size ≤ (w5).heap.size := (hB).size
            replace hB := below_to hB hb
            clear hb
            generalize (w5).heap.size = P2 at *
            have C1 := CI'.out P2 w6 h1
            replace C1 := Lib.hid C1
            clear h1
            go_wp2_with fail
            refine (C1.out).mono ?_
            rintro r w7 ⟨rfl, h1, hk⟩; dsimp only
            replace hB : Below w.heap.size w w7 := hk.below hB hP2
            clear hk C1
            have C1 := Lib.hid (rd_Err P2 _ 0 w7 h1)
            go_wp2_with fail
            refine (C1.out).mono ?_
            rintro r ww ⟨rfl, rfl⟩; dsimp only
            go_wp2_with fail
            refine (CL'.out P2 w7 h1).mono ?_
            rintro r ww ⟨rfl, rfl⟩; dsimp only
            go_wp2_with fail
            refine (CL'.out P2 w7 h1).mono ?_
            rintro r ww ⟨rfl, rfl⟩; dsimp only
            go_wp2_with fail
            refine (CX'.out _).mono ?_
            rintro r w8 ⟨rfl, hb⟩; dsimp only
            have h2 := Blk.past h1 hb
            replace hB := below_to hB hb
            clear hb h1 C1
            go_wp2_with fail
            refine (CL'.out P2 w8 h2).mono ?_
            rintro r ww ⟨rfl, rfl⟩; dsimp only
            clear h2
            go_wp2_with fail
            refine (alive03 _).mono ?_
            rintro r ww ⟨rfl, hb⟩; dsimp only
            replace hB := below_to hB hb
            clear hb
            go_wp2_with fail
            go_ret
            exact ⟨rfl, hB⟩
end Go.Proofs.Yteglieoeblehpaa
