/- Commands: a command written, walked. Conditions: the texts are short. -/
import Derived.Test.YteglieoeblehpaaCmd5
namespace Go.Proofs.Yteglieoeblehpaa
open Go.RowKit

theorem st_func (P : Program) (w : World) (a : Addr) (m : Mode) (fn : Fn) (first captured : Array Value) : (store a (.func fn first captured) m).run P w = stored P w a (.func fn first captured) m := run_store P w a _ m rfl
attribute [local go_sem] st_func
def selB (B : Int) (i : Nat) : Bool := bits .and .i64 B (2 ^ i : Nat) != 0
/-- The bytes of the first so many fields. -/
def outK (B : Int) (E : Nat → ByteArray) : Nat → ByteArray → ByteArray
  | 0, o => o
  | k + 1, o => if selB B k = true then outK B E k o ++ E k else outK B E k o
def badK (B : Int) (G : Nat → Bool) : Nat → Bool → Bool
  | 0, bd => bd
  | k + 1, bd => if selB B k = true then badK B G k bd || G k else badK B G k bd
theorem outK_size (B : Int) (E : Nat → ByteArray) (hE : ∀ i, (E i).size ≤ 5000) (o : ByteArray) : ∀ k, (outK B E k o).size ≤ o.size + 5000 * k
  | 0 => Nat.le_refl _
  | k + 1 => by
    have ih := outK_size B E hE o k
    have := hE k
    unfold outK
    split
    · rw [ByteArray.size_append]; omega
    · omega
/-- What the thirteen closures write. -/
structure AllW (P C : Nat) (cs : Array Value) (E : Nat → ByteArray) (G : Nat → Bool) : Prop where
  w0 : ∀ K1 K2, Writes 73 P C K1 K2 cs (E 0) (G 0)
  w1 : ∀ K1 K2, Writes 75 P C K1 K2 cs (E 1) (G 1)
  w2 : ∀ K1 K2, Writes 76 P C K1 K2 cs (E 2) (G 2)
  w3 : ∀ K1 K2, Writes 77 P C K1 K2 cs (E 3) (G 3)
  w4 : ∀ K1 K2, Writes 79 P C K1 K2 cs (E 4) (G 4)
  w5 : ∀ K1 K2, Writes 81 P C K1 K2 cs (E 5) (G 5)
  w6 : ∀ K1 K2, Writes 82 P C K1 K2 cs (E 6) (G 6)
  w7 : ∀ K1 K2, Writes 83 P C K1 K2 cs (E 7) (G 7)
  w8 : ∀ K1 K2, Writes 84 P C K1 K2 cs (E 8) (G 8)
  w9 : ∀ K1 K2, Writes 85 P C K1 K2 cs (E 9) (G 9)
  w10 : ∀ K1 K2, Writes 87 P C K1 K2 cs (E 10) (G 10)
  w11 : ∀ K1 K2, Writes 89 P C K1 K2 cs (E 11) (G 11)
  w12 : ∀ K1 K2, Writes 91 P C K1 K2 cs (E 12) (G 12)
def clientB (k : Int) : Bool := decide (1 ≤ k) && decide (k ≤ 6)
set_option maxHeartbeats 400000 in
theorem cmd_Client (k : Int) (w : World) : Calls Try.prog 38 #[.int .u8 k] w fun e w' => e = .returned (.bool (clientB k)) ∧ w = w' := by
  unfold clientB
  by_cases h0 : 1 ≤ k <;> by_cases h1 : k ≤ 6
  all_goals
    go_enter Try.func38, Try.ntmps38
    go_wp2
    go_ret
    exact ⟨by simp [*], rfl⟩
def headB (kind client seq : Int) : ByteArray := if clientB kind = true then encU kind ++ encU client ++ encU seq else encU kind
set_option maxRecDepth 100000 in
set_option maxHeartbeats 20000000 in
theorem cw_command (P C : Nat) (cs : Array Value) (E : Nat → ByteArray) (G : Nat → Bool) (hE : ∀ i, (E i).size ≤ 5000) (kind client seq : Int) (hk : 0 ≤ kind ∧ kind < 256) (hcl : 0 ≤ client ∧ client ≤ 18446744073709551615) (hsq : 0 ≤ seq ∧ seq ≤ 18446744073709551615) (h0 : cs[0]? = some (.int .u8 kind)) (h1 : cs[1]? = some (.int .u64 client)) (h2 : cs[2]? = some (.int .u64 seq))
    (hA : AllW P C cs E G) (w : World) (hP : Cw w P ByteArray.empty false) (hC : Blk w C 64 cs) (hne : C ≠ P) :
    Calls Try.prog 61 #[.pointer (some ⟨P, 0, none⟩), .pointer (some ⟨C, 0, none⟩)] w fun e w' => (∃ v, e = .returned v) ∧ Cw w' P (outK (fieldsOf kind) E 13 (headB kind client seq)) (badK (fieldsOf kind) G 13 false) ∧ Kept P w w' := by
  have hB0 := Blk.new w 97 #[.pointer (some ⟨P, 0, none⟩)]
  have hB1 := Blk.new1 w (.cells #[.pointer (some ⟨P, 0, none⟩)] 97) 101 #[.pointer (some ⟨C, 0, none⟩)]
  have hPl := hP.lt
  have hK0 := Kept.of (P := P) (show Below w.heap.size w ((w.alloc (.cells #[.pointer (some ⟨P, 0, none⟩)] 97)).alloc (.cells #[.pointer (some ⟨C, 0, none⟩)] 101)) by go_grown)
  have hB : CBox ((w.alloc (.cells #[.pointer (some ⟨P, 0, none⟩)] 97)).alloc (.cells #[.pointer (some ⟨C, 0, none⟩)] 101)) w.heap.size (w.heap.size + 1) P C := ⟨hB0.alloc _, hB1, by omega, by omega⟩
  have hP0 := (hP.alloc (.cells #[.pointer (some ⟨P, 0, none⟩)] 97)).alloc (.cells #[.pointer (some ⟨C, 0, none⟩)] 101)
  have hC0 := (hC.alloc (.cells #[.pointer (some ⟨P, 0, none⟩)] 97)).alloc (.cells #[.pointer (some ⟨C, 0, none⟩)] 101)
  clear hB0 hB1
  replace hA := Lib.hid hA
  replace hE := Lib.hid hE
  obtain ⟨H, hH⟩ : ∃ H, H = headB kind client seq := ⟨_, rfl⟩
  obtain ⟨B, hBk⟩ : ∃ B, B = fieldsOf kind := ⟨_, rfl⟩
  rw [← hH, ← hBk]
  replace hBk := Lib.hid hBk
  unfold headB at hH
  replace hH := Lib.hid hH
  go_enter Try.func61, Try.ntmps61
  go_wp2_with fail
  obtain ⟨K1, hK1e⟩ : ∃ K1, K1 = w.heap.size := ⟨_, rfl⟩
  obtain ⟨K2, hK2e⟩ : ∃ K2, K2 = w.heap.size + 1 := ⟨_, rfl⟩
  rw [← hK2e, ← hK1e] at hB ⊢
  clear hK1e hK2e hP hC hPl
  generalize (w.alloc (.cells #[.pointer (some ⟨P, 0, none⟩)] 97)).alloc (.cells #[.pointer (some ⟨C, 0, none⟩)] 101) = W0 at *
  have z0 := encU_size kind (by omega)
  have z1 := encU_size client (by omega)
  have z2 := encU_size seq (by omega)
  have e0 : ByteArray.empty ++ encU kind = encU kind := by simp
  replace hP0 := hP0.drew
  replace hC0 := hC0.drew
  refine wp_region_held0 (S := fun w' => w'.cell? ⟨K1, 0, none⟩ = some (.pointer (some ⟨P, 0, none⟩)) ∧ w'.cell? ⟨K2, 0, none⟩ = some (.pointer (some ⟨C, 0, none⟩))) (by kernel_rfl) ⟨hB.k1.cell 0, hB.k2.cell 0⟩ (fun hHeld => ?_)
  refine wpAnyH_take (i := 0) (v := ?_) rfl (by kernel_rfl) (by kernel_rfl) (by kernel_rfl) (fun _ _ _ h => h) (Or.inl ⟨by rfl, ?hy⟩) hHeld ?_
  case hy =>
    intro w hSw
    (try dsimp only at hSw)
    go_simp
    (try with_reducible rfl)
  try simp only [Act.put, List.getElem_toArray, List.getElem_cons_zero, List.setIfInBounds_toArray, List.set_cons_zero, List.set_cons_succ]
  refine wpAnyH_take (i := 1) (v := ?_) rfl (by kernel_rfl) (by kernel_rfl) (by kernel_rfl) (fun _ _ _ h => h) (Or.inl ⟨by rfl, ?hy⟩) hHeld ?_
  case hy =>
    intro w hSw
    (try dsimp only at hSw)
    go_simp
    (try with_reducible rfl)
  try simp only [Act.put, List.getElem_toArray, List.getElem_cons_succ, List.getElem_cons_zero, List.setIfInBounds_toArray, List.set_cons_zero, List.set_cons_succ]
  refine wpAnyH_take (i := 2) (v := ?_) rfl (by kernel_rfl) (by kernel_rfl) (by kernel_rfl) (fun _ _ _ h => h) (Or.inl ⟨by rfl, ?hy⟩) hHeld ?_
  case hy =>
    intro w hSw
    (try dsimp only at hSw)
    go_simp
    (try with_reducible rfl)
  try simp only [Act.put, List.getElem_toArray, List.getElem_cons_succ, List.getElem_cons_zero, List.setIfInBounds_toArray, List.set_cons_zero, List.set_cons_succ]
  refine wpAnyH_take (i := 3) (v := ?_) rfl (by kernel_rfl) (by kernel_rfl) (by kernel_rfl) (fun _ _ _ h => h) (Or.inl ⟨by rfl, ?hy⟩) hHeld ?_
  case hy =>
    intro w hSw
    (try dsimp only at hSw)
    go_simp
    (try with_reducible rfl)
  try simp only [Act.put, List.getElem_toArray, List.getElem_cons_succ, List.getElem_cons_zero, List.setIfInBounds_toArray, List.set_cons_zero, List.set_cons_succ]
  refine wpAnyH_ready (rs := [4]) (by kernel_rfl) (by simp) ?_
  refine AllReadyH.cons rfl (fun K hK => ?_) AllReadyH.nil
  have hOld := hHeld
  clear hHeld
  go_simp
  refine (cw_small P C 0 ByteArray.empty false kind hk (by decide) W0.drew hP0 hne (blk_cell hC0 h0)).mono ?_
  rintro r W1 ⟨⟨v, rfl⟩, hP1, hK1⟩; dsimp only
  replace hB := (hB.kept (Kept.of (P := P) (Below.refl _ W0).drew)).kept hK1
  replace hK0 := (hK0.trans (Kept.of (P := P) (Below.refl _ W0).drew)).trans hK1
  replace hC0 := hK1.blk hC0 hne
  clear hP0 hK1
  have hP0 := hP1
  clear hP1
  refine hK.out _ _ (⟨hB.k1.cell 0, hB.k2.cell 0⟩) (fun hHeld => ?_)
  clear hK K hOld
  try simp only [Act.put, List.getElem_toArray, List.getElem_cons_succ, List.getElem_cons_zero, List.setIfInBounds_toArray, List.set_cons_zero, List.set_cons_succ]
  refine wpAnyH_done (by kernel_rfl) ?_ _
  simp only [Exit.then]
  rw [e0] at hP0
  clear e0
  have b1 := hB.k2.cell 0
  have c0 := blk_cell hC0 h0
  go_wp2_with fail
  refine (cmd_Client kind _).mono ?_
  rintro r w5 ⟨rfl, rfl⟩; dsimp only
  clear b1 c0
  replace hH := hH.out
  cases hcb : clientB kind
  · rw [hcb] at hH
    simp only [Bool.false_eq_true, if_false] at hH
    rw [← hH] at hP0 z0
    have hHz : H.size ≤ 100 := by omega
    clear z0 z1 z2 h1 h2 hH hcb
    have hkind : 0 ≤ kind := hk.1
    have b1 := hB.k2.cell 0
    have c0 := blk_cell hC0 h0
    go_wp2_with fail
    refine wp_region_held0 (S := fun w' => w'.cell? ⟨K2, 0, none⟩ = some (.pointer (some ⟨C, 0, none⟩)) ∧ w'.cell? ⟨C, 0, none⟩ = some (.int .u8 kind)) (by kernel_rfl) ⟨b1, c0⟩ (fun hHeld => ?_)
    refine wpAnyH_take (i := 1) (v := ?_) rfl (by kernel_rfl) (by kernel_rfl) (by kernel_rfl) (fun _ _ _ h => h) (Or.inl ⟨by rfl, ?hy⟩) hHeld ?_
    case hy =>
      intro w hSw
      (try dsimp only at hSw)
      go_simp
      (try with_reducible rfl)
    try simp only [Act.put, List.getElem_toArray, List.getElem_cons_succ, List.getElem_cons_zero, List.setIfInBounds_toArray, List.set_cons_zero, List.set_cons_succ]
    refine wpAnyH_take (i := 2) (v := ?_) rfl (by kernel_rfl) (by kernel_rfl) (by kernel_rfl) (fun _ _ _ h => h) (Or.inl ⟨by rfl, ?hy⟩) hHeld ?_
    case hy =>
      intro w hSw
      (try dsimp only at hSw)
      go_simp
      (try with_reducible rfl)
    try simp only [Act.put, List.getElem_toArray, List.getElem_cons_succ, List.getElem_cons_zero, List.setIfInBounds_toArray, List.set_cons_zero, List.set_cons_succ]
    refine wpAnyH_take (i := 3) (v := ?_) rfl (by kernel_rfl) (by kernel_rfl) (by kernel_rfl) (fun _ _ _ h => h) (Or.inl ⟨by rfl, ?hy⟩) hHeld ?_
    case hy =>
      intro w hSw
      (try dsimp only at hSw)
      go_simp
      (try with_reducible rfl)
    try simp only [Act.put, List.getElem_toArray, List.getElem_cons_succ, List.getElem_cons_zero, List.setIfInBounds_toArray, List.set_cons_zero, List.set_cons_succ]
    refine wpAnyH_take (i := 4) (v := ?_) rfl (by kernel_rfl) (by kernel_rfl) (by kernel_rfl) (fun _ _ _ h => h) (Or.inl ⟨by rfl, ?hy⟩) hHeld ?_
    case hy =>
      intro w hSw
      (try dsimp only at hSw)
      go_simp
      (try with_reducible rfl)
    try simp only [Act.put, List.getElem_toArray, List.getElem_cons_succ, List.getElem_cons_zero, List.setIfInBounds_toArray, List.set_cons_zero, List.set_cons_succ]
    refine wpAnyH_ready (rs := [0]) (by kernel_rfl) (by simp) ?_
    refine AllReadyH.cons rfl (fun K hK => ?_) AllReadyH.nil
    have hOld := hHeld
    clear hHeld
    go_simp
    refine (cmd_has _).mono ?_
    rintro r w6 ⟨rfl, rfl⟩
    dsimp only
    have hlk := run_look8 (W := W1.drew.alloc (.map hasM 15)) (m := W1.heap.size) (c := 15) hkind (heap_alloc_new W1.drew _) false
    rw [← hBk.out] at hlk
    replace hB := hB.kept (Kept.of (P := P) (below_own (Below.refl _ W1).drew (.map hasM 15)))
    replace hP0 := hP0.drew.alloc (.map hasM 15)
    replace hC0 := hC0.drew.alloc (.map hasM 15)
    replace hK0 := hK0.trans (Kept.of (P := P) (below_own (Below.refl _ W1).drew (.map hasM 15)))
    refine hK.out _ _ (⟨hB.k2.cell 0, blk_cell hC0 h0⟩) (fun hHeld => ?_)
    clear hK K hOld
    try simp only [Act.put, List.getElem_toArray, List.getElem_cons_succ, List.getElem_cons_zero, List.setIfInBounds_toArray, List.set_cons_zero, List.set_cons_succ]
    generalize W1.drew.alloc (.map hasM 15) = w6 at *
    refine wpAnyH_ready (rs := [5]) (by kernel_rfl) (by simp) ?_
    refine AllReadyH.cons rfl (fun K hK => ?_) AllReadyH.nil
    have hOld := hHeld
    clear hHeld
    go_simp
    refine hK.out _ _ (⟨hB.k2.cell 0, blk_cell hC0 h0⟩) (fun hHeld => ?_)
    clear hK K hOld
    try simp only [Act.put, List.getElem_toArray, List.getElem_cons_succ, List.getElem_cons_zero, List.setIfInBounds_toArray, List.set_cons_zero, List.set_cons_succ]
    refine wpAnyH_take (i := 6) (v := ?_) rfl (by kernel_rfl) (by kernel_rfl) (by kernel_rfl) (fun _ _ _ h => h) (Or.inl ⟨by rfl, ?hy⟩) hHeld ?_
    case hy =>
      intro w hSw
      (try dsimp only at hSw)
      go_simp
      (try with_reducible rfl)
    try simp only [Act.put, List.getElem_toArray, List.getElem_cons_succ, List.getElem_cons_zero, List.setIfInBounds_toArray, List.set_cons_zero, List.set_cons_succ]
    refine wpAnyH_done (by kernel_rfl) ?_ _
    simp only [Exit.then]
    clear hHeld hlk b1 c0 hkind
    have hS := Blk.new w6 125 #[.int .i64 1, .func (.func 73) #[] #[.pointer (some ⟨K1, 0, none⟩), .pointer (some ⟨K2, 0, none⟩)], .int .i64 2, .func (.func 75) #[] #[.pointer (some ⟨K1, 0, none⟩), .pointer (some ⟨K2, 0, none⟩)], .int .i64 4, .func (.func 76) #[] #[.pointer (some ⟨K1, 0, none⟩), .pointer (some ⟨K2, 0, none⟩)], .int .i64 8, .func (.func 77) #[] #[.pointer (some ⟨K1, 0, none⟩), .pointer (some ⟨K2, 0, none⟩)], .int .i64 16, .func (.func 79) #[] #[.pointer (some ⟨K1, 0, none⟩), .pointer (some ⟨K2, 0, none⟩)], .int .i64 32, .func (.func 81) #[] #[.pointer (some ⟨K1, 0, none⟩), .pointer (some ⟨K2, 0, none⟩)], .int .i64 64, .func (.func 82) #[] #[.pointer (some ⟨K1, 0, none⟩), .pointer (some ⟨K2, 0, none⟩)], .int .i64 128, .func (.func 83) #[] #[.pointer (some ⟨K1, 0, none⟩), .pointer (some ⟨K2, 0, none⟩)], .int .i64 256, .func (.func 84) #[] #[.pointer (some ⟨K1, 0, none⟩), .pointer (some ⟨K2, 0, none⟩)], .int .i64 512, .func (.func 85) #[] #[.pointer (some ⟨K1, 0, none⟩), .pointer (some ⟨K2, 0, none⟩)], .int .i64 1024, .func (.func 87) #[] #[.pointer (some ⟨K1, 0, none⟩), .pointer (some ⟨K2, 0, none⟩)], .int .i64 2048, .func (.func 89) #[] #[.pointer (some ⟨K1, 0, none⟩), .pointer (some ⟨K2, 0, none⟩)], .int .i64 4096, .func (.func 91) #[] #[.pointer (some ⟨K1, 0, none⟩), .pointer (some ⟨K2, 0, none⟩)]]
    have hS1 : w6.heap.size ≠ P := by have := hP0.lt; omega
    replace hB := hB.kept (Kept.of (P := P) (below_own (Below.refl _ w6) (.cells #[.int .i64 1, .func (.func 73) #[] #[.pointer (some ⟨K1, 0, none⟩), .pointer (some ⟨K2, 0, none⟩)], .int .i64 2, .func (.func 75) #[] #[.pointer (some ⟨K1, 0, none⟩), .pointer (some ⟨K2, 0, none⟩)], .int .i64 4, .func (.func 76) #[] #[.pointer (some ⟨K1, 0, none⟩), .pointer (some ⟨K2, 0, none⟩)], .int .i64 8, .func (.func 77) #[] #[.pointer (some ⟨K1, 0, none⟩), .pointer (some ⟨K2, 0, none⟩)], .int .i64 16, .func (.func 79) #[] #[.pointer (some ⟨K1, 0, none⟩), .pointer (some ⟨K2, 0, none⟩)], .int .i64 32, .func (.func 81) #[] #[.pointer (some ⟨K1, 0, none⟩), .pointer (some ⟨K2, 0, none⟩)], .int .i64 64, .func (.func 82) #[] #[.pointer (some ⟨K1, 0, none⟩), .pointer (some ⟨K2, 0, none⟩)], .int .i64 128, .func (.func 83) #[] #[.pointer (some ⟨K1, 0, none⟩), .pointer (some ⟨K2, 0, none⟩)], .int .i64 256, .func (.func 84) #[] #[.pointer (some ⟨K1, 0, none⟩), .pointer (some ⟨K2, 0, none⟩)], .int .i64 512, .func (.func 85) #[] #[.pointer (some ⟨K1, 0, none⟩), .pointer (some ⟨K2, 0, none⟩)], .int .i64 1024, .func (.func 87) #[] #[.pointer (some ⟨K1, 0, none⟩), .pointer (some ⟨K2, 0, none⟩)], .int .i64 2048, .func (.func 89) #[] #[.pointer (some ⟨K1, 0, none⟩), .pointer (some ⟨K2, 0, none⟩)], .int .i64 4096, .func (.func 91) #[] #[.pointer (some ⟨K1, 0, none⟩), .pointer (some ⟨K2, 0, none⟩)]] 125)))
    replace hP0 := hP0.alloc (.cells #[.int .i64 1, .func (.func 73) #[] #[.pointer (some ⟨K1, 0, none⟩), .pointer (some ⟨K2, 0, none⟩)], .int .i64 2, .func (.func 75) #[] #[.pointer (some ⟨K1, 0, none⟩), .pointer (some ⟨K2, 0, none⟩)], .int .i64 4, .func (.func 76) #[] #[.pointer (some ⟨K1, 0, none⟩), .pointer (some ⟨K2, 0, none⟩)], .int .i64 8, .func (.func 77) #[] #[.pointer (some ⟨K1, 0, none⟩), .pointer (some ⟨K2, 0, none⟩)], .int .i64 16, .func (.func 79) #[] #[.pointer (some ⟨K1, 0, none⟩), .pointer (some ⟨K2, 0, none⟩)], .int .i64 32, .func (.func 81) #[] #[.pointer (some ⟨K1, 0, none⟩), .pointer (some ⟨K2, 0, none⟩)], .int .i64 64, .func (.func 82) #[] #[.pointer (some ⟨K1, 0, none⟩), .pointer (some ⟨K2, 0, none⟩)], .int .i64 128, .func (.func 83) #[] #[.pointer (some ⟨K1, 0, none⟩), .pointer (some ⟨K2, 0, none⟩)], .int .i64 256, .func (.func 84) #[] #[.pointer (some ⟨K1, 0, none⟩), .pointer (some ⟨K2, 0, none⟩)], .int .i64 512, .func (.func 85) #[] #[.pointer (some ⟨K1, 0, none⟩), .pointer (some ⟨K2, 0, none⟩)], .int .i64 1024, .func (.func 87) #[] #[.pointer (some ⟨K1, 0, none⟩), .pointer (some ⟨K2, 0, none⟩)], .int .i64 2048, .func (.func 89) #[] #[.pointer (some ⟨K1, 0, none⟩), .pointer (some ⟨K2, 0, none⟩)], .int .i64 4096, .func (.func 91) #[] #[.pointer (some ⟨K1, 0, none⟩), .pointer (some ⟨K2, 0, none⟩)]] 125)
    replace hC0 := hC0.alloc (.cells #[.int .i64 1, .func (.func 73) #[] #[.pointer (some ⟨K1, 0, none⟩), .pointer (some ⟨K2, 0, none⟩)], .int .i64 2, .func (.func 75) #[] #[.pointer (some ⟨K1, 0, none⟩), .pointer (some ⟨K2, 0, none⟩)], .int .i64 4, .func (.func 76) #[] #[.pointer (some ⟨K1, 0, none⟩), .pointer (some ⟨K2, 0, none⟩)], .int .i64 8, .func (.func 77) #[] #[.pointer (some ⟨K1, 0, none⟩), .pointer (some ⟨K2, 0, none⟩)], .int .i64 16, .func (.func 79) #[] #[.pointer (some ⟨K1, 0, none⟩), .pointer (some ⟨K2, 0, none⟩)], .int .i64 32, .func (.func 81) #[] #[.pointer (some ⟨K1, 0, none⟩), .pointer (some ⟨K2, 0, none⟩)], .int .i64 64, .func (.func 82) #[] #[.pointer (some ⟨K1, 0, none⟩), .pointer (some ⟨K2, 0, none⟩)], .int .i64 128, .func (.func 83) #[] #[.pointer (some ⟨K1, 0, none⟩), .pointer (some ⟨K2, 0, none⟩)], .int .i64 256, .func (.func 84) #[] #[.pointer (some ⟨K1, 0, none⟩), .pointer (some ⟨K2, 0, none⟩)], .int .i64 512, .func (.func 85) #[] #[.pointer (some ⟨K1, 0, none⟩), .pointer (some ⟨K2, 0, none⟩)], .int .i64 1024, .func (.func 87) #[] #[.pointer (some ⟨K1, 0, none⟩), .pointer (some ⟨K2, 0, none⟩)], .int .i64 2048, .func (.func 89) #[] #[.pointer (some ⟨K1, 0, none⟩), .pointer (some ⟨K2, 0, none⟩)], .int .i64 4096, .func (.func 91) #[] #[.pointer (some ⟨K1, 0, none⟩), .pointer (some ⟨K2, 0, none⟩)]] 125)
    replace hK0 := hK0.trans (Kept.of (P := P) (below_own (Below.refl _ w6) (.cells #[.int .i64 1, .func (.func 73) #[] #[.pointer (some ⟨K1, 0, none⟩), .pointer (some ⟨K2, 0, none⟩)], .int .i64 2, .func (.func 75) #[] #[.pointer (some ⟨K1, 0, none⟩), .pointer (some ⟨K2, 0, none⟩)], .int .i64 4, .func (.func 76) #[] #[.pointer (some ⟨K1, 0, none⟩), .pointer (some ⟨K2, 0, none⟩)], .int .i64 8, .func (.func 77) #[] #[.pointer (some ⟨K1, 0, none⟩), .pointer (some ⟨K2, 0, none⟩)], .int .i64 16, .func (.func 79) #[] #[.pointer (some ⟨K1, 0, none⟩), .pointer (some ⟨K2, 0, none⟩)], .int .i64 32, .func (.func 81) #[] #[.pointer (some ⟨K1, 0, none⟩), .pointer (some ⟨K2, 0, none⟩)], .int .i64 64, .func (.func 82) #[] #[.pointer (some ⟨K1, 0, none⟩), .pointer (some ⟨K2, 0, none⟩)], .int .i64 128, .func (.func 83) #[] #[.pointer (some ⟨K1, 0, none⟩), .pointer (some ⟨K2, 0, none⟩)], .int .i64 256, .func (.func 84) #[] #[.pointer (some ⟨K1, 0, none⟩), .pointer (some ⟨K2, 0, none⟩)], .int .i64 512, .func (.func 85) #[] #[.pointer (some ⟨K1, 0, none⟩), .pointer (some ⟨K2, 0, none⟩)], .int .i64 1024, .func (.func 87) #[] #[.pointer (some ⟨K1, 0, none⟩), .pointer (some ⟨K2, 0, none⟩)], .int .i64 2048, .func (.func 89) #[] #[.pointer (some ⟨K1, 0, none⟩), .pointer (some ⟨K2, 0, none⟩)], .int .i64 4096, .func (.func 91) #[] #[.pointer (some ⟨K1, 0, none⟩), .pointer (some ⟨K2, 0, none⟩)]] 125)))
    go_wp2_with fail
    generalize w6.alloc (.cells #[.int .i64 1, .func (.func 73) #[] #[.pointer (some ⟨K1, 0, none⟩), .pointer (some ⟨K2, 0, none⟩)], .int .i64 2, .func (.func 75) #[] #[.pointer (some ⟨K1, 0, none⟩), .pointer (some ⟨K2, 0, none⟩)], .int .i64 4, .func (.func 76) #[] #[.pointer (some ⟨K1, 0, none⟩), .pointer (some ⟨K2, 0, none⟩)], .int .i64 8, .func (.func 77) #[] #[.pointer (some ⟨K1, 0, none⟩), .pointer (some ⟨K2, 0, none⟩)], .int .i64 16, .func (.func 79) #[] #[.pointer (some ⟨K1, 0, none⟩), .pointer (some ⟨K2, 0, none⟩)], .int .i64 32, .func (.func 81) #[] #[.pointer (some ⟨K1, 0, none⟩), .pointer (some ⟨K2, 0, none⟩)], .int .i64 64, .func (.func 82) #[] #[.pointer (some ⟨K1, 0, none⟩), .pointer (some ⟨K2, 0, none⟩)], .int .i64 128, .func (.func 83) #[] #[.pointer (some ⟨K1, 0, none⟩), .pointer (some ⟨K2, 0, none⟩)], .int .i64 256, .func (.func 84) #[] #[.pointer (some ⟨K1, 0, none⟩), .pointer (some ⟨K2, 0, none⟩)], .int .i64 512, .func (.func 85) #[] #[.pointer (some ⟨K1, 0, none⟩), .pointer (some ⟨K2, 0, none⟩)], .int .i64 1024, .func (.func 87) #[] #[.pointer (some ⟨K1, 0, none⟩), .pointer (some ⟨K2, 0, none⟩)], .int .i64 2048, .func (.func 89) #[] #[.pointer (some ⟨K1, 0, none⟩), .pointer (some ⟨K2, 0, none⟩)], .int .i64 4096, .func (.func 91) #[] #[.pointer (some ⟨K1, 0, none⟩), .pointer (some ⟨K2, 0, none⟩)]] 125) = w7 at *
    generalize w6.heap.size = S at *
    go_loopw [6, 61] (fun _ i wr => ∃ k : Nat, k ≤ 13 ∧ i = .int .i64 k ∧ Cw wr P (outK B E k H) (badK B G k false) ∧ CBox wr K1 K2 P C ∧ Blk wr C 64 cs ∧ Blk wr S 125 #[.int .i64 1, .func (.func 73) #[] #[.pointer (some ⟨K1, 0, none⟩), .pointer (some ⟨K2, 0, none⟩)], .int .i64 2, .func (.func 75) #[] #[.pointer (some ⟨K1, 0, none⟩), .pointer (some ⟨K2, 0, none⟩)], .int .i64 4, .func (.func 76) #[] #[.pointer (some ⟨K1, 0, none⟩), .pointer (some ⟨K2, 0, none⟩)], .int .i64 8, .func (.func 77) #[] #[.pointer (some ⟨K1, 0, none⟩), .pointer (some ⟨K2, 0, none⟩)], .int .i64 16, .func (.func 79) #[] #[.pointer (some ⟨K1, 0, none⟩), .pointer (some ⟨K2, 0, none⟩)], .int .i64 32, .func (.func 81) #[] #[.pointer (some ⟨K1, 0, none⟩), .pointer (some ⟨K2, 0, none⟩)], .int .i64 64, .func (.func 82) #[] #[.pointer (some ⟨K1, 0, none⟩), .pointer (some ⟨K2, 0, none⟩)], .int .i64 128, .func (.func 83) #[] #[.pointer (some ⟨K1, 0, none⟩), .pointer (some ⟨K2, 0, none⟩)], .int .i64 256, .func (.func 84) #[] #[.pointer (some ⟨K1, 0, none⟩), .pointer (some ⟨K2, 0, none⟩)], .int .i64 512, .func (.func 85) #[] #[.pointer (some ⟨K1, 0, none⟩), .pointer (some ⟨K2, 0, none⟩)], .int .i64 1024, .func (.func 87) #[] #[.pointer (some ⟨K1, 0, none⟩), .pointer (some ⟨K2, 0, none⟩)], .int .i64 2048, .func (.func 89) #[] #[.pointer (some ⟨K1, 0, none⟩), .pointer (some ⟨K2, 0, none⟩)], .int .i64 4096, .func (.func 91) #[] #[.pointer (some ⟨K1, 0, none⟩), .pointer (some ⟨K2, 0, none⟩)]] ∧ Kept P w wr) (fun _ i _ => 13 - (intOf i).toNat)
    case atStart => exact ⟨0, by decide, rfl, hP0, hB, hC0, hS, hK0⟩
    case round =>
      clear hP0 hB hC0 hS hK0
      obtain ⟨k, hk13, rfl, hP0, hB, hC0, hS, hK0⟩ := hrel
      have hoz := outK_size B E hE.out H k
      have hs0 := fun i => hS.cell i
      have hlen : ∀ i : Nat, i < 26 → True := fun _ _ => trivial
      clear hlen
      rcases (show k = 0 ∨ k = 1 ∨ k = 2 ∨ k = 3 ∨ k = 4 ∨ k = 5 ∨ k = 6 ∨ k = 7 ∨ k = 8 ∨ k = 9 ∨ k = 10 ∨ k = 11 ∨ k = 12 ∨ k = 13 by omega) with rfl | rfl | rfl | rfl | rfl | rfl | rfl | rfl | rfl | rfl | rfl | rfl | rfl | rfl
      · as_aux_lemma =>
          skip
          have a0 : wr.cell? ⟨S, 0, none⟩ = some (.int .i64 1) := hs0 0
          have a1 : wr.cell? ⟨S, 1, none⟩ = some (.func (.func _) #[] #[.pointer (some ⟨K1, 0, none⟩), .pointer (some ⟨K2, 0, none⟩)]) := hs0 1
          clear hs0
          have hselk : selB B 0 = (bits .and .i64 B 1 != 0) := rfl
          have hD := Lib.hid (fun W o bd ho hP hB hC => hA.out.w0 K1 K2 W o bd ho hP hB hC hne)
          have u0 : outK B E 1 H = if selB B 0 = true then outK B E 0 H ++ E 0 else outK B E 0 H := rfl
          have u1 : badK B G 1 false = if selB B 0 = true then badK B G 0 false || G 0 else badK B G 0 false := rfl
          generalize hO : outK B E 0 H = O at *
          generalize hBD : badK B G 0 false = BD at *
          cases hq : selB B 0
          · rw [hq] at u0 u1 hselk
            simp only [Bool.false_eq_true, if_false] at u0 u1
            have hb0 : (bits .and .i64 B 1 == 0) = true := by simpa using hselk.symm
            have hb1 : (bits .and .i64 B 1 != 0) = false := hselk.symm
            have hb2 : bits .and .i64 B 1 = 0 := by simpa using hb0
            replace u0 := Lib.hid u0
            replace u1 := Lib.hid u1
            replace hselk := Lib.hid hselk
            replace hq := Lib.hid hq
            go_wp2_with fail
            go_roundw
            case rel => exact ⟨1, by decide, by first | rfl | go_num, by rw [u0.out, u1.out]; exact hP0.alloc _, hB.kept (Kept.of (below_own (Below.refl _ wr) _)), hC0.alloc _, hS.alloc _, hK0.trans (Kept.of (below_own (Below.refl _ wr) _))⟩
            case measure => simp [intOf]
          · rw [hq] at u0 u1 hselk
            simp only [if_true] at u0 u1
            have hb1 : (bits .and .i64 B 1 != 0) = true := hselk.symm
            have hb0 : (bits .and .i64 B 1 == 0) = false := by simpa using hb1
            replace u0 := Lib.hid u0
            replace u1 := Lib.hid u1
            replace hselk := Lib.hid hselk
            replace hq := Lib.hid hq
            go_wp2_with fail
            refine (hD.out _ O BD (by omega) (hP0.alloc _) (hB.kept (Kept.of (below_own (Below.refl _ wr) _))) (hC0.alloc _)).mono ?_
            rintro r w9 ⟨⟨v9, rfl⟩, hP9, hK9⟩; dsimp only
            replace hK9 := (Kept.of (P := P) (below_own (Below.refl _ wr) _)).trans hK9
            replace hB := hB.kept hK9
            replace hC0 := hK9.blk hC0 hne
            replace hS := hK9.blk hS hS1
            replace hK0 := hK0.trans hK9
            clear hK9 a0 a1 hD
            go_wp2_with fail
            go_roundw
            case rel => exact ⟨1, by decide, by first | rfl | go_num, by rw [u0.out, u1.out]; exact hP9, hB, hC0, hS, hK0⟩
            case measure => simp [intOf]
      · as_aux_lemma =>
          skip
          have a0 : wr.cell? ⟨S, 2, none⟩ = some (.int .i64 2) := hs0 2
          have a1 : wr.cell? ⟨S, 3, none⟩ = some (.func (.func _) #[] #[.pointer (some ⟨K1, 0, none⟩), .pointer (some ⟨K2, 0, none⟩)]) := hs0 3
          clear hs0
          have hselk : selB B 1 = (bits .and .i64 B 2 != 0) := rfl
          have hD := Lib.hid (fun W o bd ho hP hB hC => hA.out.w1 K1 K2 W o bd ho hP hB hC hne)
          have u0 : outK B E 2 H = if selB B 1 = true then outK B E 1 H ++ E 1 else outK B E 1 H := rfl
          have u1 : badK B G 2 false = if selB B 1 = true then badK B G 1 false || G 1 else badK B G 1 false := rfl
          generalize hO : outK B E 1 H = O at *
          generalize hBD : badK B G 1 false = BD at *
          cases hq : selB B 1
          · rw [hq] at u0 u1 hselk
            simp only [Bool.false_eq_true, if_false] at u0 u1
            have hb0 : (bits .and .i64 B 2 == 0) = true := by simpa using hselk.symm
            have hb1 : (bits .and .i64 B 2 != 0) = false := hselk.symm
            have hb2 : bits .and .i64 B 2 = 0 := by simpa using hb0
            replace u0 := Lib.hid u0
            replace u1 := Lib.hid u1
            replace hselk := Lib.hid hselk
            replace hq := Lib.hid hq
            go_wp2_with fail
            go_roundw
            case rel => exact ⟨2, by decide, by first | rfl | go_num, by rw [u0.out, u1.out]; exact hP0.alloc _, hB.kept (Kept.of (below_own (Below.refl _ wr) _)), hC0.alloc _, hS.alloc _, hK0.trans (Kept.of (below_own (Below.refl _ wr) _))⟩
            case measure => simp [intOf]
          · rw [hq] at u0 u1 hselk
            simp only [if_true] at u0 u1
            have hb1 : (bits .and .i64 B 2 != 0) = true := hselk.symm
            have hb0 : (bits .and .i64 B 2 == 0) = false := by simpa using hb1
            replace u0 := Lib.hid u0
            replace u1 := Lib.hid u1
            replace hselk := Lib.hid hselk
            replace hq := Lib.hid hq
            go_wp2_with fail
            refine (hD.out _ O BD (by omega) (hP0.alloc _) (hB.kept (Kept.of (below_own (Below.refl _ wr) _))) (hC0.alloc _)).mono ?_
            rintro r w9 ⟨⟨v9, rfl⟩, hP9, hK9⟩; dsimp only
            replace hK9 := (Kept.of (P := P) (below_own (Below.refl _ wr) _)).trans hK9
            replace hB := hB.kept hK9
            replace hC0 := hK9.blk hC0 hne
            replace hS := hK9.blk hS hS1
            replace hK0 := hK0.trans hK9
            clear hK9 a0 a1 hD
            go_wp2_with fail
            go_roundw
            case rel => exact ⟨2, by decide, by first | rfl | go_num, by rw [u0.out, u1.out]; exact hP9, hB, hC0, hS, hK0⟩
            case measure => simp [intOf]
      · as_aux_lemma =>
          skip
          have a0 : wr.cell? ⟨S, 4, none⟩ = some (.int .i64 4) := hs0 4
          have a1 : wr.cell? ⟨S, 5, none⟩ = some (.func (.func _) #[] #[.pointer (some ⟨K1, 0, none⟩), .pointer (some ⟨K2, 0, none⟩)]) := hs0 5
          clear hs0
          have hselk : selB B 2 = (bits .and .i64 B 4 != 0) := rfl
          have hD := Lib.hid (fun W o bd ho hP hB hC => hA.out.w2 K1 K2 W o bd ho hP hB hC hne)
          have u0 : outK B E 3 H = if selB B 2 = true then outK B E 2 H ++ E 2 else outK B E 2 H := rfl
          have u1 : badK B G 3 false = if selB B 2 = true then badK B G 2 false || G 2 else badK B G 2 false := rfl
          generalize hO : outK B E 2 H = O at *
          generalize hBD : badK B G 2 false = BD at *
          cases hq : selB B 2
          · rw [hq] at u0 u1 hselk
            simp only [Bool.false_eq_true, if_false] at u0 u1
            have hb0 : (bits .and .i64 B 4 == 0) = true := by simpa using hselk.symm
            have hb1 : (bits .and .i64 B 4 != 0) = false := hselk.symm
            have hb2 : bits .and .i64 B 4 = 0 := by simpa using hb0
            replace u0 := Lib.hid u0
            replace u1 := Lib.hid u1
            replace hselk := Lib.hid hselk
            replace hq := Lib.hid hq
            go_wp2_with fail
            go_roundw
            case rel => exact ⟨3, by decide, by first | rfl | go_num, by rw [u0.out, u1.out]; exact hP0.alloc _, hB.kept (Kept.of (below_own (Below.refl _ wr) _)), hC0.alloc _, hS.alloc _, hK0.trans (Kept.of (below_own (Below.refl _ wr) _))⟩
            case measure => simp [intOf]
          · rw [hq] at u0 u1 hselk
            simp only [if_true] at u0 u1
            have hb1 : (bits .and .i64 B 4 != 0) = true := hselk.symm
            have hb0 : (bits .and .i64 B 4 == 0) = false := by simpa using hb1
            replace u0 := Lib.hid u0
            replace u1 := Lib.hid u1
            replace hselk := Lib.hid hselk
            replace hq := Lib.hid hq
            go_wp2_with fail
            refine (hD.out _ O BD (by omega) (hP0.alloc _) (hB.kept (Kept.of (below_own (Below.refl _ wr) _))) (hC0.alloc _)).mono ?_
            rintro r w9 ⟨⟨v9, rfl⟩, hP9, hK9⟩; dsimp only
            replace hK9 := (Kept.of (P := P) (below_own (Below.refl _ wr) _)).trans hK9
            replace hB := hB.kept hK9
            replace hC0 := hK9.blk hC0 hne
            replace hS := hK9.blk hS hS1
            replace hK0 := hK0.trans hK9
            clear hK9 a0 a1 hD
            go_wp2_with fail
            go_roundw
            case rel => exact ⟨3, by decide, by first | rfl | go_num, by rw [u0.out, u1.out]; exact hP9, hB, hC0, hS, hK0⟩
            case measure => simp [intOf]
      · as_aux_lemma =>
          skip
          have a0 : wr.cell? ⟨S, 6, none⟩ = some (.int .i64 8) := hs0 6
          have a1 : wr.cell? ⟨S, 7, none⟩ = some (.func (.func _) #[] #[.pointer (some ⟨K1, 0, none⟩), .pointer (some ⟨K2, 0, none⟩)]) := hs0 7
          clear hs0
          have hselk : selB B 3 = (bits .and .i64 B 8 != 0) := rfl
          have hD := Lib.hid (fun W o bd ho hP hB hC => hA.out.w3 K1 K2 W o bd ho hP hB hC hne)
          have u0 : outK B E 4 H = if selB B 3 = true then outK B E 3 H ++ E 3 else outK B E 3 H := rfl
          have u1 : badK B G 4 false = if selB B 3 = true then badK B G 3 false || G 3 else badK B G 3 false := rfl
          generalize hO : outK B E 3 H = O at *
          generalize hBD : badK B G 3 false = BD at *
          cases hq : selB B 3
          · rw [hq] at u0 u1 hselk
            simp only [Bool.false_eq_true, if_false] at u0 u1
            have hb0 : (bits .and .i64 B 8 == 0) = true := by simpa using hselk.symm
            have hb1 : (bits .and .i64 B 8 != 0) = false := hselk.symm
            have hb2 : bits .and .i64 B 8 = 0 := by simpa using hb0
            replace u0 := Lib.hid u0
            replace u1 := Lib.hid u1
            replace hselk := Lib.hid hselk
            replace hq := Lib.hid hq
            go_wp2_with fail
            go_roundw
            case rel => exact ⟨4, by decide, by first | rfl | go_num, by rw [u0.out, u1.out]; exact hP0.alloc _, hB.kept (Kept.of (below_own (Below.refl _ wr) _)), hC0.alloc _, hS.alloc _, hK0.trans (Kept.of (below_own (Below.refl _ wr) _))⟩
            case measure => simp [intOf]
          · rw [hq] at u0 u1 hselk
            simp only [if_true] at u0 u1
            have hb1 : (bits .and .i64 B 8 != 0) = true := hselk.symm
            have hb0 : (bits .and .i64 B 8 == 0) = false := by simpa using hb1
            replace u0 := Lib.hid u0
            replace u1 := Lib.hid u1
            replace hselk := Lib.hid hselk
            replace hq := Lib.hid hq
            go_wp2_with fail
            refine (hD.out _ O BD (by omega) (hP0.alloc _) (hB.kept (Kept.of (below_own (Below.refl _ wr) _))) (hC0.alloc _)).mono ?_
            rintro r w9 ⟨⟨v9, rfl⟩, hP9, hK9⟩; dsimp only
            replace hK9 := (Kept.of (P := P) (below_own (Below.refl _ wr) _)).trans hK9
            replace hB := hB.kept hK9
            replace hC0 := hK9.blk hC0 hne
            replace hS := hK9.blk hS hS1
            replace hK0 := hK0.trans hK9
            clear hK9 a0 a1 hD
            go_wp2_with fail
            go_roundw
            case rel => exact ⟨4, by decide, by first | rfl | go_num, by rw [u0.out, u1.out]; exact hP9, hB, hC0, hS, hK0⟩
            case measure => simp [intOf]
      · as_aux_lemma =>
          skip
          have a0 : wr.cell? ⟨S, 8, none⟩ = some (.int .i64 16) := hs0 8
          have a1 : wr.cell? ⟨S, 9, none⟩ = some (.func (.func _) #[] #[.pointer (some ⟨K1, 0, none⟩), .pointer (some ⟨K2, 0, none⟩)]) := hs0 9
          clear hs0
          have hselk : selB B 4 = (bits .and .i64 B 16 != 0) := rfl
          have hD := Lib.hid (fun W o bd ho hP hB hC => hA.out.w4 K1 K2 W o bd ho hP hB hC hne)
          have u0 : outK B E 5 H = if selB B 4 = true then outK B E 4 H ++ E 4 else outK B E 4 H := rfl
          have u1 : badK B G 5 false = if selB B 4 = true then badK B G 4 false || G 4 else badK B G 4 false := rfl
          generalize hO : outK B E 4 H = O at *
          generalize hBD : badK B G 4 false = BD at *
          cases hq : selB B 4
          · rw [hq] at u0 u1 hselk
            simp only [Bool.false_eq_true, if_false] at u0 u1
            have hb0 : (bits .and .i64 B 16 == 0) = true := by simpa using hselk.symm
            have hb1 : (bits .and .i64 B 16 != 0) = false := hselk.symm
            have hb2 : bits .and .i64 B 16 = 0 := by simpa using hb0
            replace u0 := Lib.hid u0
            replace u1 := Lib.hid u1
            replace hselk := Lib.hid hselk
            replace hq := Lib.hid hq
            go_wp2_with fail
            go_roundw
            case rel => exact ⟨5, by decide, by first | rfl | go_num, by rw [u0.out, u1.out]; exact hP0.alloc _, hB.kept (Kept.of (below_own (Below.refl _ wr) _)), hC0.alloc _, hS.alloc _, hK0.trans (Kept.of (below_own (Below.refl _ wr) _))⟩
            case measure => simp [intOf]
          · rw [hq] at u0 u1 hselk
            simp only [if_true] at u0 u1
            have hb1 : (bits .and .i64 B 16 != 0) = true := hselk.symm
            have hb0 : (bits .and .i64 B 16 == 0) = false := by simpa using hb1
            replace u0 := Lib.hid u0
            replace u1 := Lib.hid u1
            replace hselk := Lib.hid hselk
            replace hq := Lib.hid hq
            go_wp2_with fail
            refine (hD.out _ O BD (by omega) (hP0.alloc _) (hB.kept (Kept.of (below_own (Below.refl _ wr) _))) (hC0.alloc _)).mono ?_
            rintro r w9 ⟨⟨v9, rfl⟩, hP9, hK9⟩; dsimp only
            replace hK9 := (Kept.of (P := P) (below_own (Below.refl _ wr) _)).trans hK9
            replace hB := hB.kept hK9
            replace hC0 := hK9.blk hC0 hne
            replace hS := hK9.blk hS hS1
            replace hK0 := hK0.trans hK9
            clear hK9 a0 a1 hD
            go_wp2_with fail
            go_roundw
            case rel => exact ⟨5, by decide, by first | rfl | go_num, by rw [u0.out, u1.out]; exact hP9, hB, hC0, hS, hK0⟩
            case measure => simp [intOf]
      · as_aux_lemma =>
          skip
          have a0 : wr.cell? ⟨S, 10, none⟩ = some (.int .i64 32) := hs0 10
          have a1 : wr.cell? ⟨S, 11, none⟩ = some (.func (.func _) #[] #[.pointer (some ⟨K1, 0, none⟩), .pointer (some ⟨K2, 0, none⟩)]) := hs0 11
          clear hs0
          have hselk : selB B 5 = (bits .and .i64 B 32 != 0) := rfl
          have hD := Lib.hid (fun W o bd ho hP hB hC => hA.out.w5 K1 K2 W o bd ho hP hB hC hne)
          have u0 : outK B E 6 H = if selB B 5 = true then outK B E 5 H ++ E 5 else outK B E 5 H := rfl
          have u1 : badK B G 6 false = if selB B 5 = true then badK B G 5 false || G 5 else badK B G 5 false := rfl
          generalize hO : outK B E 5 H = O at *
          generalize hBD : badK B G 5 false = BD at *
          cases hq : selB B 5
          · rw [hq] at u0 u1 hselk
            simp only [Bool.false_eq_true, if_false] at u0 u1
            have hb0 : (bits .and .i64 B 32 == 0) = true := by simpa using hselk.symm
            have hb1 : (bits .and .i64 B 32 != 0) = false := hselk.symm
            have hb2 : bits .and .i64 B 32 = 0 := by simpa using hb0
            replace u0 := Lib.hid u0
            replace u1 := Lib.hid u1
            replace hselk := Lib.hid hselk
            replace hq := Lib.hid hq
            go_wp2_with fail
            go_roundw
            case rel => exact ⟨6, by decide, by first | rfl | go_num, by rw [u0.out, u1.out]; exact hP0.alloc _, hB.kept (Kept.of (below_own (Below.refl _ wr) _)), hC0.alloc _, hS.alloc _, hK0.trans (Kept.of (below_own (Below.refl _ wr) _))⟩
            case measure => simp [intOf]
          · rw [hq] at u0 u1 hselk
            simp only [if_true] at u0 u1
            have hb1 : (bits .and .i64 B 32 != 0) = true := hselk.symm
            have hb0 : (bits .and .i64 B 32 == 0) = false := by simpa using hb1
            replace u0 := Lib.hid u0
            replace u1 := Lib.hid u1
            replace hselk := Lib.hid hselk
            replace hq := Lib.hid hq
            go_wp2_with fail
            refine (hD.out _ O BD (by omega) (hP0.alloc _) (hB.kept (Kept.of (below_own (Below.refl _ wr) _))) (hC0.alloc _)).mono ?_
            rintro r w9 ⟨⟨v9, rfl⟩, hP9, hK9⟩; dsimp only
            replace hK9 := (Kept.of (P := P) (below_own (Below.refl _ wr) _)).trans hK9
            replace hB := hB.kept hK9
            replace hC0 := hK9.blk hC0 hne
            replace hS := hK9.blk hS hS1
            replace hK0 := hK0.trans hK9
            clear hK9 a0 a1 hD
            go_wp2_with fail
            go_roundw
            case rel => exact ⟨6, by decide, by first | rfl | go_num, by rw [u0.out, u1.out]; exact hP9, hB, hC0, hS, hK0⟩
            case measure => simp [intOf]
      · as_aux_lemma =>
          skip
          have a0 : wr.cell? ⟨S, 12, none⟩ = some (.int .i64 64) := hs0 12
          have a1 : wr.cell? ⟨S, 13, none⟩ = some (.func (.func _) #[] #[.pointer (some ⟨K1, 0, none⟩), .pointer (some ⟨K2, 0, none⟩)]) := hs0 13
          clear hs0
          have hselk : selB B 6 = (bits .and .i64 B 64 != 0) := rfl
          have hD := Lib.hid (fun W o bd ho hP hB hC => hA.out.w6 K1 K2 W o bd ho hP hB hC hne)
          have u0 : outK B E 7 H = if selB B 6 = true then outK B E 6 H ++ E 6 else outK B E 6 H := rfl
          have u1 : badK B G 7 false = if selB B 6 = true then badK B G 6 false || G 6 else badK B G 6 false := rfl
          generalize hO : outK B E 6 H = O at *
          generalize hBD : badK B G 6 false = BD at *
          cases hq : selB B 6
          · rw [hq] at u0 u1 hselk
            simp only [Bool.false_eq_true, if_false] at u0 u1
            have hb0 : (bits .and .i64 B 64 == 0) = true := by simpa using hselk.symm
            have hb1 : (bits .and .i64 B 64 != 0) = false := hselk.symm
            have hb2 : bits .and .i64 B 64 = 0 := by simpa using hb0
            replace u0 := Lib.hid u0
            replace u1 := Lib.hid u1
            replace hselk := Lib.hid hselk
            replace hq := Lib.hid hq
            go_wp2_with fail
            go_roundw
            case rel => exact ⟨7, by decide, by first | rfl | go_num, by rw [u0.out, u1.out]; exact hP0.alloc _, hB.kept (Kept.of (below_own (Below.refl _ wr) _)), hC0.alloc _, hS.alloc _, hK0.trans (Kept.of (below_own (Below.refl _ wr) _))⟩
            case measure => simp [intOf]
          · rw [hq] at u0 u1 hselk
            simp only [if_true] at u0 u1
            have hb1 : (bits .and .i64 B 64 != 0) = true := hselk.symm
            have hb0 : (bits .and .i64 B 64 == 0) = false := by simpa using hb1
            replace u0 := Lib.hid u0
            replace u1 := Lib.hid u1
            replace hselk := Lib.hid hselk
            replace hq := Lib.hid hq
            go_wp2_with fail
            refine (hD.out _ O BD (by omega) (hP0.alloc _) (hB.kept (Kept.of (below_own (Below.refl _ wr) _))) (hC0.alloc _)).mono ?_
            rintro r w9 ⟨⟨v9, rfl⟩, hP9, hK9⟩; dsimp only
            replace hK9 := (Kept.of (P := P) (below_own (Below.refl _ wr) _)).trans hK9
            replace hB := hB.kept hK9
            replace hC0 := hK9.blk hC0 hne
            replace hS := hK9.blk hS hS1
            replace hK0 := hK0.trans hK9
            clear hK9 a0 a1 hD
            go_wp2_with fail
            go_roundw
            case rel => exact ⟨7, by decide, by first | rfl | go_num, by rw [u0.out, u1.out]; exact hP9, hB, hC0, hS, hK0⟩
            case measure => simp [intOf]
      · as_aux_lemma =>
          skip
          have a0 : wr.cell? ⟨S, 14, none⟩ = some (.int .i64 128) := hs0 14
          have a1 : wr.cell? ⟨S, 15, none⟩ = some (.func (.func _) #[] #[.pointer (some ⟨K1, 0, none⟩), .pointer (some ⟨K2, 0, none⟩)]) := hs0 15
          clear hs0
          have hselk : selB B 7 = (bits .and .i64 B 128 != 0) := rfl
          have hD := Lib.hid (fun W o bd ho hP hB hC => hA.out.w7 K1 K2 W o bd ho hP hB hC hne)
          have u0 : outK B E 8 H = if selB B 7 = true then outK B E 7 H ++ E 7 else outK B E 7 H := rfl
          have u1 : badK B G 8 false = if selB B 7 = true then badK B G 7 false || G 7 else badK B G 7 false := rfl
          generalize hO : outK B E 7 H = O at *
          generalize hBD : badK B G 7 false = BD at *
          cases hq : selB B 7
          · rw [hq] at u0 u1 hselk
            simp only [Bool.false_eq_true, if_false] at u0 u1
            have hb0 : (bits .and .i64 B 128 == 0) = true := by simpa using hselk.symm
            have hb1 : (bits .and .i64 B 128 != 0) = false := hselk.symm
            have hb2 : bits .and .i64 B 128 = 0 := by simpa using hb0
            replace u0 := Lib.hid u0
            replace u1 := Lib.hid u1
            replace hselk := Lib.hid hselk
            replace hq := Lib.hid hq
            go_wp2_with fail
            go_roundw
            case rel => exact ⟨8, by decide, by first | rfl | go_num, by rw [u0.out, u1.out]; exact hP0.alloc _, hB.kept (Kept.of (below_own (Below.refl _ wr) _)), hC0.alloc _, hS.alloc _, hK0.trans (Kept.of (below_own (Below.refl _ wr) _))⟩
            case measure => simp [intOf]
          · rw [hq] at u0 u1 hselk
            simp only [if_true] at u0 u1
            have hb1 : (bits .and .i64 B 128 != 0) = true := hselk.symm
            have hb0 : (bits .and .i64 B 128 == 0) = false := by simpa using hb1
            replace u0 := Lib.hid u0
            replace u1 := Lib.hid u1
            replace hselk := Lib.hid hselk
            replace hq := Lib.hid hq
            go_wp2_with fail
            refine (hD.out _ O BD (by omega) (hP0.alloc _) (hB.kept (Kept.of (below_own (Below.refl _ wr) _))) (hC0.alloc _)).mono ?_
            rintro r w9 ⟨⟨v9, rfl⟩, hP9, hK9⟩; dsimp only
            replace hK9 := (Kept.of (P := P) (below_own (Below.refl _ wr) _)).trans hK9
            replace hB := hB.kept hK9
            replace hC0 := hK9.blk hC0 hne
            replace hS := hK9.blk hS hS1
            replace hK0 := hK0.trans hK9
            clear hK9 a0 a1 hD
            go_wp2_with fail
            go_roundw
            case rel => exact ⟨8, by decide, by first | rfl | go_num, by rw [u0.out, u1.out]; exact hP9, hB, hC0, hS, hK0⟩
            case measure => simp [intOf]
      · as_aux_lemma =>
          skip
          have a0 : wr.cell? ⟨S, 16, none⟩ = some (.int .i64 256) := hs0 16
          have a1 : wr.cell? ⟨S, 17, none⟩ = some (.func (.func _) #[] #[.pointer (some ⟨K1, 0, none⟩), .pointer (some ⟨K2, 0, none⟩)]) := hs0 17
          clear hs0
          have hselk : selB B 8 = (bits .and .i64 B 256 != 0) := rfl
          have hD := Lib.hid (fun W o bd ho hP hB hC => hA.out.w8 K1 K2 W o bd ho hP hB hC hne)
          have u0 : outK B E 9 H = if selB B 8 = true then outK B E 8 H ++ E 8 else outK B E 8 H := rfl
          have u1 : badK B G 9 false = if selB B 8 = true then badK B G 8 false || G 8 else badK B G 8 false := rfl
          generalize hO : outK B E 8 H = O at *
          generalize hBD : badK B G 8 false = BD at *
          cases hq : selB B 8
          · rw [hq] at u0 u1 hselk
            simp only [Bool.false_eq_true, if_false] at u0 u1
            have hb0 : (bits .and .i64 B 256 == 0) = true := by simpa using hselk.symm
            have hb1 : (bits .and .i64 B 256 != 0) = false := hselk.symm
            have hb2 : bits .and .i64 B 256 = 0 := by simpa using hb0
            replace u0 := Lib.hid u0
            replace u1 := Lib.hid u1
            replace hselk := Lib.hid hselk
            replace hq := Lib.hid hq
            go_wp2_with fail
            go_roundw
            case rel => exact ⟨9, by decide, by first | rfl | go_num, by rw [u0.out, u1.out]; exact hP0.alloc _, hB.kept (Kept.of (below_own (Below.refl _ wr) _)), hC0.alloc _, hS.alloc _, hK0.trans (Kept.of (below_own (Below.refl _ wr) _))⟩
            case measure => simp [intOf]
          · rw [hq] at u0 u1 hselk
            simp only [if_true] at u0 u1
            have hb1 : (bits .and .i64 B 256 != 0) = true := hselk.symm
            have hb0 : (bits .and .i64 B 256 == 0) = false := by simpa using hb1
            replace u0 := Lib.hid u0
            replace u1 := Lib.hid u1
            replace hselk := Lib.hid hselk
            replace hq := Lib.hid hq
            go_wp2_with fail
            refine (hD.out _ O BD (by omega) (hP0.alloc _) (hB.kept (Kept.of (below_own (Below.refl _ wr) _))) (hC0.alloc _)).mono ?_
            rintro r w9 ⟨⟨v9, rfl⟩, hP9, hK9⟩; dsimp only
            replace hK9 := (Kept.of (P := P) (below_own (Below.refl _ wr) _)).trans hK9
            replace hB := hB.kept hK9
            replace hC0 := hK9.blk hC0 hne
            replace hS := hK9.blk hS hS1
            replace hK0 := hK0.trans hK9
            clear hK9 a0 a1 hD
            go_wp2_with fail
            go_roundw
            case rel => exact ⟨9, by decide, by first | rfl | go_num, by rw [u0.out, u1.out]; exact hP9, hB, hC0, hS, hK0⟩
            case measure => simp [intOf]
      · as_aux_lemma =>
          skip
          have a0 : wr.cell? ⟨S, 18, none⟩ = some (.int .i64 512) := hs0 18
          have a1 : wr.cell? ⟨S, 19, none⟩ = some (.func (.func _) #[] #[.pointer (some ⟨K1, 0, none⟩), .pointer (some ⟨K2, 0, none⟩)]) := hs0 19
          clear hs0
          have hselk : selB B 9 = (bits .and .i64 B 512 != 0) := rfl
          have hD := Lib.hid (fun W o bd ho hP hB hC => hA.out.w9 K1 K2 W o bd ho hP hB hC hne)
          have u0 : outK B E 10 H = if selB B 9 = true then outK B E 9 H ++ E 9 else outK B E 9 H := rfl
          have u1 : badK B G 10 false = if selB B 9 = true then badK B G 9 false || G 9 else badK B G 9 false := rfl
          generalize hO : outK B E 9 H = O at *
          generalize hBD : badK B G 9 false = BD at *
          cases hq : selB B 9
          · rw [hq] at u0 u1 hselk
            simp only [Bool.false_eq_true, if_false] at u0 u1
            have hb0 : (bits .and .i64 B 512 == 0) = true := by simpa using hselk.symm
            have hb1 : (bits .and .i64 B 512 != 0) = false := hselk.symm
            have hb2 : bits .and .i64 B 512 = 0 := by simpa using hb0
            replace u0 := Lib.hid u0
            replace u1 := Lib.hid u1
            replace hselk := Lib.hid hselk
            replace hq := Lib.hid hq
            go_wp2_with fail
            go_roundw
            case rel => exact ⟨10, by decide, by first | rfl | go_num, by rw [u0.out, u1.out]; exact hP0.alloc _, hB.kept (Kept.of (below_own (Below.refl _ wr) _)), hC0.alloc _, hS.alloc _, hK0.trans (Kept.of (below_own (Below.refl _ wr) _))⟩
            case measure => simp [intOf]
          · rw [hq] at u0 u1 hselk
            simp only [if_true] at u0 u1
            have hb1 : (bits .and .i64 B 512 != 0) = true := hselk.symm
            have hb0 : (bits .and .i64 B 512 == 0) = false := by simpa using hb1
            replace u0 := Lib.hid u0
            replace u1 := Lib.hid u1
            replace hselk := Lib.hid hselk
            replace hq := Lib.hid hq
            go_wp2_with fail
            refine (hD.out _ O BD (by omega) (hP0.alloc _) (hB.kept (Kept.of (below_own (Below.refl _ wr) _))) (hC0.alloc _)).mono ?_
            rintro r w9 ⟨⟨v9, rfl⟩, hP9, hK9⟩; dsimp only
            replace hK9 := (Kept.of (P := P) (below_own (Below.refl _ wr) _)).trans hK9
            replace hB := hB.kept hK9
            replace hC0 := hK9.blk hC0 hne
            replace hS := hK9.blk hS hS1
            replace hK0 := hK0.trans hK9
            clear hK9 a0 a1 hD
            go_wp2_with fail
            go_roundw
            case rel => exact ⟨10, by decide, by first | rfl | go_num, by rw [u0.out, u1.out]; exact hP9, hB, hC0, hS, hK0⟩
            case measure => simp [intOf]
      · as_aux_lemma =>
          skip
          have a0 : wr.cell? ⟨S, 20, none⟩ = some (.int .i64 1024) := hs0 20
          have a1 : wr.cell? ⟨S, 21, none⟩ = some (.func (.func _) #[] #[.pointer (some ⟨K1, 0, none⟩), .pointer (some ⟨K2, 0, none⟩)]) := hs0 21
          clear hs0
          have hselk : selB B 10 = (bits .and .i64 B 1024 != 0) := rfl
          have hD := Lib.hid (fun W o bd ho hP hB hC => hA.out.w10 K1 K2 W o bd ho hP hB hC hne)
          have u0 : outK B E 11 H = if selB B 10 = true then outK B E 10 H ++ E 10 else outK B E 10 H := rfl
          have u1 : badK B G 11 false = if selB B 10 = true then badK B G 10 false || G 10 else badK B G 10 false := rfl
          generalize hO : outK B E 10 H = O at *
          generalize hBD : badK B G 10 false = BD at *
          cases hq : selB B 10
          · rw [hq] at u0 u1 hselk
            simp only [Bool.false_eq_true, if_false] at u0 u1
            have hb0 : (bits .and .i64 B 1024 == 0) = true := by simpa using hselk.symm
            have hb1 : (bits .and .i64 B 1024 != 0) = false := hselk.symm
            have hb2 : bits .and .i64 B 1024 = 0 := by simpa using hb0
            replace u0 := Lib.hid u0
            replace u1 := Lib.hid u1
            replace hselk := Lib.hid hselk
            replace hq := Lib.hid hq
            go_wp2_with fail
            go_roundw
            case rel => exact ⟨11, by decide, by first | rfl | go_num, by rw [u0.out, u1.out]; exact hP0.alloc _, hB.kept (Kept.of (below_own (Below.refl _ wr) _)), hC0.alloc _, hS.alloc _, hK0.trans (Kept.of (below_own (Below.refl _ wr) _))⟩
            case measure => simp [intOf]
          · rw [hq] at u0 u1 hselk
            simp only [if_true] at u0 u1
            have hb1 : (bits .and .i64 B 1024 != 0) = true := hselk.symm
            have hb0 : (bits .and .i64 B 1024 == 0) = false := by simpa using hb1
            replace u0 := Lib.hid u0
            replace u1 := Lib.hid u1
            replace hselk := Lib.hid hselk
            replace hq := Lib.hid hq
            go_wp2_with fail
            refine (hD.out _ O BD (by omega) (hP0.alloc _) (hB.kept (Kept.of (below_own (Below.refl _ wr) _))) (hC0.alloc _)).mono ?_
            rintro r w9 ⟨⟨v9, rfl⟩, hP9, hK9⟩; dsimp only
            replace hK9 := (Kept.of (P := P) (below_own (Below.refl _ wr) _)).trans hK9
            replace hB := hB.kept hK9
            replace hC0 := hK9.blk hC0 hne
            replace hS := hK9.blk hS hS1
            replace hK0 := hK0.trans hK9
            clear hK9 a0 a1 hD
            go_wp2_with fail
            go_roundw
            case rel => exact ⟨11, by decide, by first | rfl | go_num, by rw [u0.out, u1.out]; exact hP9, hB, hC0, hS, hK0⟩
            case measure => simp [intOf]
      · as_aux_lemma =>
          skip
          have a0 : wr.cell? ⟨S, 22, none⟩ = some (.int .i64 2048) := hs0 22
          have a1 : wr.cell? ⟨S, 23, none⟩ = some (.func (.func _) #[] #[.pointer (some ⟨K1, 0, none⟩), .pointer (some ⟨K2, 0, none⟩)]) := hs0 23
          clear hs0
          have hselk : selB B 11 = (bits .and .i64 B 2048 != 0) := rfl
          have hD := Lib.hid (fun W o bd ho hP hB hC => hA.out.w11 K1 K2 W o bd ho hP hB hC hne)
          have u0 : outK B E 12 H = if selB B 11 = true then outK B E 11 H ++ E 11 else outK B E 11 H := rfl
          have u1 : badK B G 12 false = if selB B 11 = true then badK B G 11 false || G 11 else badK B G 11 false := rfl
          generalize hO : outK B E 11 H = O at *
          generalize hBD : badK B G 11 false = BD at *
          cases hq : selB B 11
          · rw [hq] at u0 u1 hselk
            simp only [Bool.false_eq_true, if_false] at u0 u1
            have hb0 : (bits .and .i64 B 2048 == 0) = true := by simpa using hselk.symm
            have hb1 : (bits .and .i64 B 2048 != 0) = false := hselk.symm
            have hb2 : bits .and .i64 B 2048 = 0 := by simpa using hb0
            replace u0 := Lib.hid u0
            replace u1 := Lib.hid u1
            replace hselk := Lib.hid hselk
            replace hq := Lib.hid hq
            go_wp2_with fail
            go_roundw
            case rel => exact ⟨12, by decide, by first | rfl | go_num, by rw [u0.out, u1.out]; exact hP0.alloc _, hB.kept (Kept.of (below_own (Below.refl _ wr) _)), hC0.alloc _, hS.alloc _, hK0.trans (Kept.of (below_own (Below.refl _ wr) _))⟩
            case measure => simp [intOf]
          · rw [hq] at u0 u1 hselk
            simp only [if_true] at u0 u1
            have hb1 : (bits .and .i64 B 2048 != 0) = true := hselk.symm
            have hb0 : (bits .and .i64 B 2048 == 0) = false := by simpa using hb1
            replace u0 := Lib.hid u0
            replace u1 := Lib.hid u1
            replace hselk := Lib.hid hselk
            replace hq := Lib.hid hq
            go_wp2_with fail
            refine (hD.out _ O BD (by omega) (hP0.alloc _) (hB.kept (Kept.of (below_own (Below.refl _ wr) _))) (hC0.alloc _)).mono ?_
            rintro r w9 ⟨⟨v9, rfl⟩, hP9, hK9⟩; dsimp only
            replace hK9 := (Kept.of (P := P) (below_own (Below.refl _ wr) _)).trans hK9
            replace hB := hB.kept hK9
            replace hC0 := hK9.blk hC0 hne
            replace hS := hK9.blk hS hS1
            replace hK0 := hK0.trans hK9
            clear hK9 a0 a1 hD
            go_wp2_with fail
            go_roundw
            case rel => exact ⟨12, by decide, by first | rfl | go_num, by rw [u0.out, u1.out]; exact hP9, hB, hC0, hS, hK0⟩
            case measure => simp [intOf]
      · as_aux_lemma =>
          skip
          have a0 : wr.cell? ⟨S, 24, none⟩ = some (.int .i64 4096) := hs0 24
          have a1 : wr.cell? ⟨S, 25, none⟩ = some (.func (.func _) #[] #[.pointer (some ⟨K1, 0, none⟩), .pointer (some ⟨K2, 0, none⟩)]) := hs0 25
          clear hs0
          have hselk : selB B 12 = (bits .and .i64 B 4096 != 0) := rfl
          have hD := Lib.hid (fun W o bd ho hP hB hC => hA.out.w12 K1 K2 W o bd ho hP hB hC hne)
          have u0 : outK B E 13 H = if selB B 12 = true then outK B E 12 H ++ E 12 else outK B E 12 H := rfl
          have u1 : badK B G 13 false = if selB B 12 = true then badK B G 12 false || G 12 else badK B G 12 false := rfl
          generalize hO : outK B E 12 H = O at *
          generalize hBD : badK B G 12 false = BD at *
          cases hq : selB B 12
          · rw [hq] at u0 u1 hselk
            simp only [Bool.false_eq_true, if_false] at u0 u1
            have hb0 : (bits .and .i64 B 4096 == 0) = true := by simpa using hselk.symm
            have hb1 : (bits .and .i64 B 4096 != 0) = false := hselk.symm
            have hb2 : bits .and .i64 B 4096 = 0 := by simpa using hb0
            replace u0 := Lib.hid u0
            replace u1 := Lib.hid u1
            replace hselk := Lib.hid hselk
            replace hq := Lib.hid hq
            go_wp2_with fail
            go_roundw
            case rel => exact ⟨13, by decide, by first | rfl | go_num, by rw [u0.out, u1.out]; exact hP0.alloc _, hB.kept (Kept.of (below_own (Below.refl _ wr) _)), hC0.alloc _, hS.alloc _, hK0.trans (Kept.of (below_own (Below.refl _ wr) _))⟩
            case measure => simp [intOf]
          · rw [hq] at u0 u1 hselk
            simp only [if_true] at u0 u1
            have hb1 : (bits .and .i64 B 4096 != 0) = true := hselk.symm
            have hb0 : (bits .and .i64 B 4096 == 0) = false := by simpa using hb1
            replace u0 := Lib.hid u0
            replace u1 := Lib.hid u1
            replace hselk := Lib.hid hselk
            replace hq := Lib.hid hq
            go_wp2_with fail
            refine (hD.out _ O BD (by omega) (hP0.alloc _) (hB.kept (Kept.of (below_own (Below.refl _ wr) _))) (hC0.alloc _)).mono ?_
            rintro r w9 ⟨⟨v9, rfl⟩, hP9, hK9⟩; dsimp only
            replace hK9 := (Kept.of (P := P) (below_own (Below.refl _ wr) _)).trans hK9
            replace hB := hB.kept hK9
            replace hC0 := hK9.blk hC0 hne
            replace hS := hK9.blk hS hS1
            replace hK0 := hK0.trans hK9
            clear hK9 a0 a1 hD
            go_wp2_with fail
            go_roundw
            case rel => exact ⟨13, by decide, by first | rfl | go_num, by rw [u0.out, u1.out]; exact hP9, hB, hC0, hS, hK0⟩
            case measure => simp [intOf]
      · go_wp2_with fail
        go_end0
        exact ⟨⟨_, rfl⟩, hP0, hK0⟩
  · rw [hcb] at hH
    simp only [if_true] at hH
    clear hcb
    have y1 : (encU kind ++ encU client).size ≤ 30 := by rw [ByteArray.size_append]; omega
    have y2 : (encU kind ++ encU client ++ encU seq).size ≤ 50 := by rw [ByteArray.size_append]; omega
    go_wp2_with fail
    replace hP0 := hP0.drew
    replace hC0 := hC0.drew
    refine wp_region_held0 (S := fun w' => w'.cell? ⟨K1, 0, none⟩ = some (.pointer (some ⟨P, 0, none⟩)) ∧ w'.cell? ⟨K2, 0, none⟩ = some (.pointer (some ⟨C, 0, none⟩))) (by kernel_rfl) ⟨hB.k1.cell 0, hB.k2.cell 0⟩ (fun hHeld => ?_)
    refine wpAnyH_take (i := 0) (v := ?_) rfl (by kernel_rfl) (by kernel_rfl) (by kernel_rfl) (fun _ _ _ h => h) (Or.inl ⟨by rfl, ?hy⟩) hHeld ?_
    case hy =>
      intro w hSw
      (try dsimp only at hSw)
      go_simp
      (try with_reducible rfl)
    try simp only [Act.put, List.getElem_toArray, List.getElem_cons_zero, List.setIfInBounds_toArray, List.set_cons_zero, List.set_cons_succ]
    refine wpAnyH_take (i := 1) (v := ?_) rfl (by kernel_rfl) (by kernel_rfl) (by kernel_rfl) (fun _ _ _ h => h) (Or.inl ⟨by rfl, ?hy⟩) hHeld ?_
    case hy =>
      intro w hSw
      (try dsimp only at hSw)
      go_simp
      (try with_reducible rfl)
    try simp only [Act.put, List.getElem_toArray, List.getElem_cons_succ, List.getElem_cons_zero, List.setIfInBounds_toArray, List.set_cons_zero, List.set_cons_succ]
    refine wpAnyH_take (i := 2) (v := ?_) rfl (by kernel_rfl) (by kernel_rfl) (by kernel_rfl) (fun _ _ _ h => h) (Or.inl ⟨by rfl, ?hy⟩) hHeld ?_
    case hy =>
      intro w hSw
      (try dsimp only at hSw)
      go_simp
      (try with_reducible rfl)
    try simp only [Act.put, List.getElem_toArray, List.getElem_cons_succ, List.getElem_cons_zero, List.setIfInBounds_toArray, List.set_cons_zero, List.set_cons_succ]
    refine wpAnyH_take (i := 3) (v := ?_) rfl (by kernel_rfl) (by kernel_rfl) (by kernel_rfl) (fun _ _ _ h => h) (Or.inl ⟨by rfl, ?hy⟩) hHeld ?_
    case hy =>
      intro w hSw
      (try dsimp only at hSw)
      go_simp
      (try with_reducible rfl)
    try simp only [Act.put, List.getElem_toArray, List.getElem_cons_succ, List.getElem_cons_zero, List.setIfInBounds_toArray, List.set_cons_zero, List.set_cons_succ]
    refine wpAnyH_ready (rs := [4]) (by kernel_rfl) (by simp) ?_
    refine AllReadyH.cons rfl (fun K hK => ?_) AllReadyH.nil
    have hOld := hHeld
    clear hHeld
    go_simp
    refine (cw_great P C 1 (encU kind) false client hcl (by omega) W1.drew hP0 hne (blk_cell hC0 h1)).mono ?_
    rintro r W2 ⟨⟨v, rfl⟩, hP1, hK1⟩; dsimp only
    replace hB := (hB.kept (Kept.of (P := P) (Below.refl _ W1).drew)).kept hK1
    replace hK0 := (hK0.trans (Kept.of (P := P) (Below.refl _ W1).drew)).trans hK1
    replace hC0 := hK1.blk hC0 hne
    clear hP0 hK1
    have hP0 := hP1
    clear hP1
    refine hK.out _ _ (⟨hB.k1.cell 0, hB.k2.cell 0⟩) (fun hHeld => ?_)
    clear hK K hOld
    try simp only [Act.put, List.getElem_toArray, List.getElem_cons_succ, List.getElem_cons_zero, List.setIfInBounds_toArray, List.set_cons_zero, List.set_cons_succ]
    refine wpAnyH_done (by kernel_rfl) ?_ _
    simp only [Exit.then]
    go_wp2_with fail
    replace hP0 := hP0.drew
    replace hC0 := hC0.drew
    refine wp_region_held0 (S := fun w' => w'.cell? ⟨K1, 0, none⟩ = some (.pointer (some ⟨P, 0, none⟩)) ∧ w'.cell? ⟨K2, 0, none⟩ = some (.pointer (some ⟨C, 0, none⟩))) (by kernel_rfl) ⟨hB.k1.cell 0, hB.k2.cell 0⟩ (fun hHeld => ?_)
    refine wpAnyH_take (i := 0) (v := ?_) rfl (by kernel_rfl) (by kernel_rfl) (by kernel_rfl) (fun _ _ _ h => h) (Or.inl ⟨by rfl, ?hy⟩) hHeld ?_
    case hy =>
      intro w hSw
      (try dsimp only at hSw)
      go_simp
      (try with_reducible rfl)
    try simp only [Act.put, List.getElem_toArray, List.getElem_cons_zero, List.setIfInBounds_toArray, List.set_cons_zero, List.set_cons_succ]
    refine wpAnyH_take (i := 1) (v := ?_) rfl (by kernel_rfl) (by kernel_rfl) (by kernel_rfl) (fun _ _ _ h => h) (Or.inl ⟨by rfl, ?hy⟩) hHeld ?_
    case hy =>
      intro w hSw
      (try dsimp only at hSw)
      go_simp
      (try with_reducible rfl)
    try simp only [Act.put, List.getElem_toArray, List.getElem_cons_succ, List.getElem_cons_zero, List.setIfInBounds_toArray, List.set_cons_zero, List.set_cons_succ]
    refine wpAnyH_take (i := 2) (v := ?_) rfl (by kernel_rfl) (by kernel_rfl) (by kernel_rfl) (fun _ _ _ h => h) (Or.inl ⟨by rfl, ?hy⟩) hHeld ?_
    case hy =>
      intro w hSw
      (try dsimp only at hSw)
      go_simp
      (try with_reducible rfl)
    try simp only [Act.put, List.getElem_toArray, List.getElem_cons_succ, List.getElem_cons_zero, List.setIfInBounds_toArray, List.set_cons_zero, List.set_cons_succ]
    refine wpAnyH_take (i := 3) (v := ?_) rfl (by kernel_rfl) (by kernel_rfl) (by kernel_rfl) (fun _ _ _ h => h) (Or.inl ⟨by rfl, ?hy⟩) hHeld ?_
    case hy =>
      intro w hSw
      (try dsimp only at hSw)
      go_simp
      (try with_reducible rfl)
    try simp only [Act.put, List.getElem_toArray, List.getElem_cons_succ, List.getElem_cons_zero, List.setIfInBounds_toArray, List.set_cons_zero, List.set_cons_succ]
    refine wpAnyH_ready (rs := [4]) (by kernel_rfl) (by simp) ?_
    refine AllReadyH.cons rfl (fun K hK => ?_) AllReadyH.nil
    have hOld := hHeld
    clear hHeld
    go_simp
    refine (cw_great P C 2 (encU kind ++ encU client) false seq hsq (by omega) W2.drew hP0 hne (blk_cell hC0 h2)).mono ?_
    rintro r W3 ⟨⟨v, rfl⟩, hP1, hK1⟩; dsimp only
    replace hB := (hB.kept (Kept.of (P := P) (Below.refl _ W2).drew)).kept hK1
    replace hK0 := (hK0.trans (Kept.of (P := P) (Below.refl _ W2).drew)).trans hK1
    replace hC0 := hK1.blk hC0 hne
    clear hP0 hK1
    have hP0 := hP1
    clear hP1
    refine hK.out _ _ (⟨hB.k1.cell 0, hB.k2.cell 0⟩) (fun hHeld => ?_)
    clear hK K hOld
    try simp only [Act.put, List.getElem_toArray, List.getElem_cons_succ, List.getElem_cons_zero, List.setIfInBounds_toArray, List.set_cons_zero, List.set_cons_succ]
    refine wpAnyH_done (by kernel_rfl) ?_ _
    simp only [Exit.then]
    rw [← hH] at hP0 y2
    have hHz : H.size ≤ 100 := by omega
    clear z0 z1 z2 y1 y2 h1 h2 hH
    have hkind : 0 ≤ kind := hk.1
    have b1 := hB.k2.cell 0
    have c0 := blk_cell hC0 h0
    go_wp2_with fail
    refine wp_region_held0 (S := fun w' => w'.cell? ⟨K2, 0, none⟩ = some (.pointer (some ⟨C, 0, none⟩)) ∧ w'.cell? ⟨C, 0, none⟩ = some (.int .u8 kind)) (by kernel_rfl) ⟨b1, c0⟩ (fun hHeld => ?_)
    refine wpAnyH_take (i := 1) (v := ?_) rfl (by kernel_rfl) (by kernel_rfl) (by kernel_rfl) (fun _ _ _ h => h) (Or.inl ⟨by rfl, ?hy⟩) hHeld ?_
    case hy =>
      intro w hSw
      (try dsimp only at hSw)
      go_simp
      (try with_reducible rfl)
    try simp only [Act.put, List.getElem_toArray, List.getElem_cons_succ, List.getElem_cons_zero, List.setIfInBounds_toArray, List.set_cons_zero, List.set_cons_succ]
    refine wpAnyH_take (i := 2) (v := ?_) rfl (by kernel_rfl) (by kernel_rfl) (by kernel_rfl) (fun _ _ _ h => h) (Or.inl ⟨by rfl, ?hy⟩) hHeld ?_
    case hy =>
      intro w hSw
      (try dsimp only at hSw)
      go_simp
      (try with_reducible rfl)
    try simp only [Act.put, List.getElem_toArray, List.getElem_cons_succ, List.getElem_cons_zero, List.setIfInBounds_toArray, List.set_cons_zero, List.set_cons_succ]
    refine wpAnyH_take (i := 3) (v := ?_) rfl (by kernel_rfl) (by kernel_rfl) (by kernel_rfl) (fun _ _ _ h => h) (Or.inl ⟨by rfl, ?hy⟩) hHeld ?_
    case hy =>
      intro w hSw
      (try dsimp only at hSw)
      go_simp
      (try with_reducible rfl)
    try simp only [Act.put, List.getElem_toArray, List.getElem_cons_succ, List.getElem_cons_zero, List.setIfInBounds_toArray, List.set_cons_zero, List.set_cons_succ]
    refine wpAnyH_take (i := 4) (v := ?_) rfl (by kernel_rfl) (by kernel_rfl) (by kernel_rfl) (fun _ _ _ h => h) (Or.inl ⟨by rfl, ?hy⟩) hHeld ?_
    case hy =>
      intro w hSw
      (try dsimp only at hSw)
      go_simp
      (try with_reducible rfl)
    try simp only [Act.put, List.getElem_toArray, List.getElem_cons_succ, List.getElem_cons_zero, List.setIfInBounds_toArray, List.set_cons_zero, List.set_cons_succ]
    refine wpAnyH_ready (rs := [0]) (by kernel_rfl) (by simp) ?_
    refine AllReadyH.cons rfl (fun K hK => ?_) AllReadyH.nil
    have hOld := hHeld
    clear hHeld
    go_simp
    refine (cmd_has _).mono ?_
    rintro r w6 ⟨rfl, rfl⟩
    dsimp only
    have hlk := run_look8 (W := W3.drew.alloc (.map hasM 15)) (m := W3.heap.size) (c := 15) hkind (heap_alloc_new W3.drew _) false
    rw [← hBk.out] at hlk
    replace hB := hB.kept (Kept.of (P := P) (below_own (Below.refl _ W3).drew (.map hasM 15)))
    replace hP0 := hP0.drew.alloc (.map hasM 15)
    replace hC0 := hC0.drew.alloc (.map hasM 15)
    replace hK0 := hK0.trans (Kept.of (P := P) (below_own (Below.refl _ W3).drew (.map hasM 15)))
    refine hK.out _ _ (⟨hB.k2.cell 0, blk_cell hC0 h0⟩) (fun hHeld => ?_)
    clear hK K hOld
    try simp only [Act.put, List.getElem_toArray, List.getElem_cons_succ, List.getElem_cons_zero, List.setIfInBounds_toArray, List.set_cons_zero, List.set_cons_succ]
    generalize W3.drew.alloc (.map hasM 15) = w6 at *
    refine wpAnyH_ready (rs := [5]) (by kernel_rfl) (by simp) ?_
    refine AllReadyH.cons rfl (fun K hK => ?_) AllReadyH.nil
    have hOld := hHeld
    clear hHeld
    go_simp
    refine hK.out _ _ (⟨hB.k2.cell 0, blk_cell hC0 h0⟩) (fun hHeld => ?_)
    clear hK K hOld
    try simp only [Act.put, List.getElem_toArray, List.getElem_cons_succ, List.getElem_cons_zero, List.setIfInBounds_toArray, List.set_cons_zero, List.set_cons_succ]
    refine wpAnyH_take (i := 6) (v := ?_) rfl (by kernel_rfl) (by kernel_rfl) (by kernel_rfl) (fun _ _ _ h => h) (Or.inl ⟨by rfl, ?hy⟩) hHeld ?_
    case hy =>
      intro w hSw
      (try dsimp only at hSw)
      go_simp
      (try with_reducible rfl)
    try simp only [Act.put, List.getElem_toArray, List.getElem_cons_succ, List.getElem_cons_zero, List.setIfInBounds_toArray, List.set_cons_zero, List.set_cons_succ]
    refine wpAnyH_done (by kernel_rfl) ?_ _
    simp only [Exit.then]
    clear hHeld hlk b1 c0 hkind
    have hS := Blk.new w6 125 #[.int .i64 1, .func (.func 73) #[] #[.pointer (some ⟨K1, 0, none⟩), .pointer (some ⟨K2, 0, none⟩)], .int .i64 2, .func (.func 75) #[] #[.pointer (some ⟨K1, 0, none⟩), .pointer (some ⟨K2, 0, none⟩)], .int .i64 4, .func (.func 76) #[] #[.pointer (some ⟨K1, 0, none⟩), .pointer (some ⟨K2, 0, none⟩)], .int .i64 8, .func (.func 77) #[] #[.pointer (some ⟨K1, 0, none⟩), .pointer (some ⟨K2, 0, none⟩)], .int .i64 16, .func (.func 79) #[] #[.pointer (some ⟨K1, 0, none⟩), .pointer (some ⟨K2, 0, none⟩)], .int .i64 32, .func (.func 81) #[] #[.pointer (some ⟨K1, 0, none⟩), .pointer (some ⟨K2, 0, none⟩)], .int .i64 64, .func (.func 82) #[] #[.pointer (some ⟨K1, 0, none⟩), .pointer (some ⟨K2, 0, none⟩)], .int .i64 128, .func (.func 83) #[] #[.pointer (some ⟨K1, 0, none⟩), .pointer (some ⟨K2, 0, none⟩)], .int .i64 256, .func (.func 84) #[] #[.pointer (some ⟨K1, 0, none⟩), .pointer (some ⟨K2, 0, none⟩)], .int .i64 512, .func (.func 85) #[] #[.pointer (some ⟨K1, 0, none⟩), .pointer (some ⟨K2, 0, none⟩)], .int .i64 1024, .func (.func 87) #[] #[.pointer (some ⟨K1, 0, none⟩), .pointer (some ⟨K2, 0, none⟩)], .int .i64 2048, .func (.func 89) #[] #[.pointer (some ⟨K1, 0, none⟩), .pointer (some ⟨K2, 0, none⟩)], .int .i64 4096, .func (.func 91) #[] #[.pointer (some ⟨K1, 0, none⟩), .pointer (some ⟨K2, 0, none⟩)]]
    have hS1 : w6.heap.size ≠ P := by have := hP0.lt; omega
    replace hB := hB.kept (Kept.of (P := P) (below_own (Below.refl _ w6) (.cells #[.int .i64 1, .func (.func 73) #[] #[.pointer (some ⟨K1, 0, none⟩), .pointer (some ⟨K2, 0, none⟩)], .int .i64 2, .func (.func 75) #[] #[.pointer (some ⟨K1, 0, none⟩), .pointer (some ⟨K2, 0, none⟩)], .int .i64 4, .func (.func 76) #[] #[.pointer (some ⟨K1, 0, none⟩), .pointer (some ⟨K2, 0, none⟩)], .int .i64 8, .func (.func 77) #[] #[.pointer (some ⟨K1, 0, none⟩), .pointer (some ⟨K2, 0, none⟩)], .int .i64 16, .func (.func 79) #[] #[.pointer (some ⟨K1, 0, none⟩), .pointer (some ⟨K2, 0, none⟩)], .int .i64 32, .func (.func 81) #[] #[.pointer (some ⟨K1, 0, none⟩), .pointer (some ⟨K2, 0, none⟩)], .int .i64 64, .func (.func 82) #[] #[.pointer (some ⟨K1, 0, none⟩), .pointer (some ⟨K2, 0, none⟩)], .int .i64 128, .func (.func 83) #[] #[.pointer (some ⟨K1, 0, none⟩), .pointer (some ⟨K2, 0, none⟩)], .int .i64 256, .func (.func 84) #[] #[.pointer (some ⟨K1, 0, none⟩), .pointer (some ⟨K2, 0, none⟩)], .int .i64 512, .func (.func 85) #[] #[.pointer (some ⟨K1, 0, none⟩), .pointer (some ⟨K2, 0, none⟩)], .int .i64 1024, .func (.func 87) #[] #[.pointer (some ⟨K1, 0, none⟩), .pointer (some ⟨K2, 0, none⟩)], .int .i64 2048, .func (.func 89) #[] #[.pointer (some ⟨K1, 0, none⟩), .pointer (some ⟨K2, 0, none⟩)], .int .i64 4096, .func (.func 91) #[] #[.pointer (some ⟨K1, 0, none⟩), .pointer (some ⟨K2, 0, none⟩)]] 125)))
    replace hP0 := hP0.alloc (.cells #[.int .i64 1, .func (.func 73) #[] #[.pointer (some ⟨K1, 0, none⟩), .pointer (some ⟨K2, 0, none⟩)], .int .i64 2, .func (.func 75) #[] #[.pointer (some ⟨K1, 0, none⟩), .pointer (some ⟨K2, 0, none⟩)], .int .i64 4, .func (.func 76) #[] #[.pointer (some ⟨K1, 0, none⟩), .pointer (some ⟨K2, 0, none⟩)], .int .i64 8, .func (.func 77) #[] #[.pointer (some ⟨K1, 0, none⟩), .pointer (some ⟨K2, 0, none⟩)], .int .i64 16, .func (.func 79) #[] #[.pointer (some ⟨K1, 0, none⟩), .pointer (some ⟨K2, 0, none⟩)], .int .i64 32, .func (.func 81) #[] #[.pointer (some ⟨K1, 0, none⟩), .pointer (some ⟨K2, 0, none⟩)], .int .i64 64, .func (.func 82) #[] #[.pointer (some ⟨K1, 0, none⟩), .pointer (some ⟨K2, 0, none⟩)], .int .i64 128, .func (.func 83) #[] #[.pointer (some ⟨K1, 0, none⟩), .pointer (some ⟨K2, 0, none⟩)], .int .i64 256, .func (.func 84) #[] #[.pointer (some ⟨K1, 0, none⟩), .pointer (some ⟨K2, 0, none⟩)], .int .i64 512, .func (.func 85) #[] #[.pointer (some ⟨K1, 0, none⟩), .pointer (some ⟨K2, 0, none⟩)], .int .i64 1024, .func (.func 87) #[] #[.pointer (some ⟨K1, 0, none⟩), .pointer (some ⟨K2, 0, none⟩)], .int .i64 2048, .func (.func 89) #[] #[.pointer (some ⟨K1, 0, none⟩), .pointer (some ⟨K2, 0, none⟩)], .int .i64 4096, .func (.func 91) #[] #[.pointer (some ⟨K1, 0, none⟩), .pointer (some ⟨K2, 0, none⟩)]] 125)
    replace hC0 := hC0.alloc (.cells #[.int .i64 1, .func (.func 73) #[] #[.pointer (some ⟨K1, 0, none⟩), .pointer (some ⟨K2, 0, none⟩)], .int .i64 2, .func (.func 75) #[] #[.pointer (some ⟨K1, 0, none⟩), .pointer (some ⟨K2, 0, none⟩)], .int .i64 4, .func (.func 76) #[] #[.pointer (some ⟨K1, 0, none⟩), .pointer (some ⟨K2, 0, none⟩)], .int .i64 8, .func (.func 77) #[] #[.pointer (some ⟨K1, 0, none⟩), .pointer (some ⟨K2, 0, none⟩)], .int .i64 16, .func (.func 79) #[] #[.pointer (some ⟨K1, 0, none⟩), .pointer (some ⟨K2, 0, none⟩)], .int .i64 32, .func (.func 81) #[] #[.pointer (some ⟨K1, 0, none⟩), .pointer (some ⟨K2, 0, none⟩)], .int .i64 64, .func (.func 82) #[] #[.pointer (some ⟨K1, 0, none⟩), .pointer (some ⟨K2, 0, none⟩)], .int .i64 128, .func (.func 83) #[] #[.pointer (some ⟨K1, 0, none⟩), .pointer (some ⟨K2, 0, none⟩)], .int .i64 256, .func (.func 84) #[] #[.pointer (some ⟨K1, 0, none⟩), .pointer (some ⟨K2, 0, none⟩)], .int .i64 512, .func (.func 85) #[] #[.pointer (some ⟨K1, 0, none⟩), .pointer (some ⟨K2, 0, none⟩)], .int .i64 1024, .func (.func 87) #[] #[.pointer (some ⟨K1, 0, none⟩), .pointer (some ⟨K2, 0, none⟩)], .int .i64 2048, .func (.func 89) #[] #[.pointer (some ⟨K1, 0, none⟩), .pointer (some ⟨K2, 0, none⟩)], .int .i64 4096, .func (.func 91) #[] #[.pointer (some ⟨K1, 0, none⟩), .pointer (some ⟨K2, 0, none⟩)]] 125)
    replace hK0 := hK0.trans (Kept.of (P := P) (below_own (Below.refl _ w6) (.cells #[.int .i64 1, .func (.func 73) #[] #[.pointer (some ⟨K1, 0, none⟩), .pointer (some ⟨K2, 0, none⟩)], .int .i64 2, .func (.func 75) #[] #[.pointer (some ⟨K1, 0, none⟩), .pointer (some ⟨K2, 0, none⟩)], .int .i64 4, .func (.func 76) #[] #[.pointer (some ⟨K1, 0, none⟩), .pointer (some ⟨K2, 0, none⟩)], .int .i64 8, .func (.func 77) #[] #[.pointer (some ⟨K1, 0, none⟩), .pointer (some ⟨K2, 0, none⟩)], .int .i64 16, .func (.func 79) #[] #[.pointer (some ⟨K1, 0, none⟩), .pointer (some ⟨K2, 0, none⟩)], .int .i64 32, .func (.func 81) #[] #[.pointer (some ⟨K1, 0, none⟩), .pointer (some ⟨K2, 0, none⟩)], .int .i64 64, .func (.func 82) #[] #[.pointer (some ⟨K1, 0, none⟩), .pointer (some ⟨K2, 0, none⟩)], .int .i64 128, .func (.func 83) #[] #[.pointer (some ⟨K1, 0, none⟩), .pointer (some ⟨K2, 0, none⟩)], .int .i64 256, .func (.func 84) #[] #[.pointer (some ⟨K1, 0, none⟩), .pointer (some ⟨K2, 0, none⟩)], .int .i64 512, .func (.func 85) #[] #[.pointer (some ⟨K1, 0, none⟩), .pointer (some ⟨K2, 0, none⟩)], .int .i64 1024, .func (.func 87) #[] #[.pointer (some ⟨K1, 0, none⟩), .pointer (some ⟨K2, 0, none⟩)], .int .i64 2048, .func (.func 89) #[] #[.pointer (some ⟨K1, 0, none⟩), .pointer (some ⟨K2, 0, none⟩)], .int .i64 4096, .func (.func 91) #[] #[.pointer (some ⟨K1, 0, none⟩), .pointer (some ⟨K2, 0, none⟩)]] 125)))
    go_wp2_with fail
    generalize w6.alloc (.cells #[.int .i64 1, .func (.func 73) #[] #[.pointer (some ⟨K1, 0, none⟩), .pointer (some ⟨K2, 0, none⟩)], .int .i64 2, .func (.func 75) #[] #[.pointer (some ⟨K1, 0, none⟩), .pointer (some ⟨K2, 0, none⟩)], .int .i64 4, .func (.func 76) #[] #[.pointer (some ⟨K1, 0, none⟩), .pointer (some ⟨K2, 0, none⟩)], .int .i64 8, .func (.func 77) #[] #[.pointer (some ⟨K1, 0, none⟩), .pointer (some ⟨K2, 0, none⟩)], .int .i64 16, .func (.func 79) #[] #[.pointer (some ⟨K1, 0, none⟩), .pointer (some ⟨K2, 0, none⟩)], .int .i64 32, .func (.func 81) #[] #[.pointer (some ⟨K1, 0, none⟩), .pointer (some ⟨K2, 0, none⟩)], .int .i64 64, .func (.func 82) #[] #[.pointer (some ⟨K1, 0, none⟩), .pointer (some ⟨K2, 0, none⟩)], .int .i64 128, .func (.func 83) #[] #[.pointer (some ⟨K1, 0, none⟩), .pointer (some ⟨K2, 0, none⟩)], .int .i64 256, .func (.func 84) #[] #[.pointer (some ⟨K1, 0, none⟩), .pointer (some ⟨K2, 0, none⟩)], .int .i64 512, .func (.func 85) #[] #[.pointer (some ⟨K1, 0, none⟩), .pointer (some ⟨K2, 0, none⟩)], .int .i64 1024, .func (.func 87) #[] #[.pointer (some ⟨K1, 0, none⟩), .pointer (some ⟨K2, 0, none⟩)], .int .i64 2048, .func (.func 89) #[] #[.pointer (some ⟨K1, 0, none⟩), .pointer (some ⟨K2, 0, none⟩)], .int .i64 4096, .func (.func 91) #[] #[.pointer (some ⟨K1, 0, none⟩), .pointer (some ⟨K2, 0, none⟩)]] 125) = w7 at *
    generalize w6.heap.size = S at *
    go_loopw [6, 61] (fun _ i wr => ∃ k : Nat, k ≤ 13 ∧ i = .int .i64 k ∧ Cw wr P (outK B E k H) (badK B G k false) ∧ CBox wr K1 K2 P C ∧ Blk wr C 64 cs ∧ Blk wr S 125 #[.int .i64 1, .func (.func 73) #[] #[.pointer (some ⟨K1, 0, none⟩), .pointer (some ⟨K2, 0, none⟩)], .int .i64 2, .func (.func 75) #[] #[.pointer (some ⟨K1, 0, none⟩), .pointer (some ⟨K2, 0, none⟩)], .int .i64 4, .func (.func 76) #[] #[.pointer (some ⟨K1, 0, none⟩), .pointer (some ⟨K2, 0, none⟩)], .int .i64 8, .func (.func 77) #[] #[.pointer (some ⟨K1, 0, none⟩), .pointer (some ⟨K2, 0, none⟩)], .int .i64 16, .func (.func 79) #[] #[.pointer (some ⟨K1, 0, none⟩), .pointer (some ⟨K2, 0, none⟩)], .int .i64 32, .func (.func 81) #[] #[.pointer (some ⟨K1, 0, none⟩), .pointer (some ⟨K2, 0, none⟩)], .int .i64 64, .func (.func 82) #[] #[.pointer (some ⟨K1, 0, none⟩), .pointer (some ⟨K2, 0, none⟩)], .int .i64 128, .func (.func 83) #[] #[.pointer (some ⟨K1, 0, none⟩), .pointer (some ⟨K2, 0, none⟩)], .int .i64 256, .func (.func 84) #[] #[.pointer (some ⟨K1, 0, none⟩), .pointer (some ⟨K2, 0, none⟩)], .int .i64 512, .func (.func 85) #[] #[.pointer (some ⟨K1, 0, none⟩), .pointer (some ⟨K2, 0, none⟩)], .int .i64 1024, .func (.func 87) #[] #[.pointer (some ⟨K1, 0, none⟩), .pointer (some ⟨K2, 0, none⟩)], .int .i64 2048, .func (.func 89) #[] #[.pointer (some ⟨K1, 0, none⟩), .pointer (some ⟨K2, 0, none⟩)], .int .i64 4096, .func (.func 91) #[] #[.pointer (some ⟨K1, 0, none⟩), .pointer (some ⟨K2, 0, none⟩)]] ∧ Kept P w wr) (fun _ i _ => 13 - (intOf i).toNat)
    case atStart => exact ⟨0, by decide, rfl, hP0, hB, hC0, hS, hK0⟩
    case round =>
      clear hP0 hB hC0 hS hK0
      obtain ⟨k, hk13, rfl, hP0, hB, hC0, hS, hK0⟩ := hrel
      have hoz := outK_size B E hE.out H k
      have hs0 := fun i => hS.cell i
      have hlen : ∀ i : Nat, i < 26 → True := fun _ _ => trivial
      clear hlen
      rcases (show k = 0 ∨ k = 1 ∨ k = 2 ∨ k = 3 ∨ k = 4 ∨ k = 5 ∨ k = 6 ∨ k = 7 ∨ k = 8 ∨ k = 9 ∨ k = 10 ∨ k = 11 ∨ k = 12 ∨ k = 13 by omega) with rfl | rfl | rfl | rfl | rfl | rfl | rfl | rfl | rfl | rfl | rfl | rfl | rfl | rfl
      · as_aux_lemma =>
          skip
          have a0 : wr.cell? ⟨S, 0, none⟩ = some (.int .i64 1) := hs0 0
          have a1 : wr.cell? ⟨S, 1, none⟩ = some (.func (.func _) #[] #[.pointer (some ⟨K1, 0, none⟩), .pointer (some ⟨K2, 0, none⟩)]) := hs0 1
          clear hs0
          have hselk : selB B 0 = (bits .and .i64 B 1 != 0) := rfl
          have hD := Lib.hid (fun W o bd ho hP hB hC => hA.out.w0 K1 K2 W o bd ho hP hB hC hne)
          have u0 : outK B E 1 H = if selB B 0 = true then outK B E 0 H ++ E 0 else outK B E 0 H := rfl
          have u1 : badK B G 1 false = if selB B 0 = true then badK B G 0 false || G 0 else badK B G 0 false := rfl
          generalize hO : outK B E 0 H = O at *
          generalize hBD : badK B G 0 false = BD at *
          cases hq : selB B 0
          · rw [hq] at u0 u1 hselk
            simp only [Bool.false_eq_true, if_false] at u0 u1
            have hb0 : (bits .and .i64 B 1 == 0) = true := by simpa using hselk.symm
            have hb1 : (bits .and .i64 B 1 != 0) = false := hselk.symm
            have hb2 : bits .and .i64 B 1 = 0 := by simpa using hb0
            replace u0 := Lib.hid u0
            replace u1 := Lib.hid u1
            replace hselk := Lib.hid hselk
            replace hq := Lib.hid hq
            go_wp2_with fail
            go_roundw
            case rel => exact ⟨1, by decide, by first | rfl | go_num, by rw [u0.out, u1.out]; exact hP0.alloc _, hB.kept (Kept.of (below_own (Below.refl _ wr) _)), hC0.alloc _, hS.alloc _, hK0.trans (Kept.of (below_own (Below.refl _ wr) _))⟩
            case measure => simp [intOf]
          · rw [hq] at u0 u1 hselk
            simp only [if_true] at u0 u1
            have hb1 : (bits .and .i64 B 1 != 0) = true := hselk.symm
            have hb0 : (bits .and .i64 B 1 == 0) = false := by simpa using hb1
            replace u0 := Lib.hid u0
            replace u1 := Lib.hid u1
            replace hselk := Lib.hid hselk
            replace hq := Lib.hid hq
            go_wp2_with fail
            refine (hD.out _ O BD (by omega) (hP0.alloc _) (hB.kept (Kept.of (below_own (Below.refl _ wr) _))) (hC0.alloc _)).mono ?_
            rintro r w9 ⟨⟨v9, rfl⟩, hP9, hK9⟩; dsimp only
            replace hK9 := (Kept.of (P := P) (below_own (Below.refl _ wr) _)).trans hK9
            replace hB := hB.kept hK9
            replace hC0 := hK9.blk hC0 hne
            replace hS := hK9.blk hS hS1
            replace hK0 := hK0.trans hK9
            clear hK9 a0 a1 hD
            go_wp2_with fail
            go_roundw
            case rel => exact ⟨1, by decide, by first | rfl | go_num, by rw [u0.out, u1.out]; exact hP9, hB, hC0, hS, hK0⟩
            case measure => simp [intOf]
      · as_aux_lemma =>
          skip
          have a0 : wr.cell? ⟨S, 2, none⟩ = some (.int .i64 2) := hs0 2
          have a1 : wr.cell? ⟨S, 3, none⟩ = some (.func (.func _) #[] #[.pointer (some ⟨K1, 0, none⟩), .pointer (some ⟨K2, 0, none⟩)]) := hs0 3
          clear hs0
          have hselk : selB B 1 = (bits .and .i64 B 2 != 0) := rfl
          have hD := Lib.hid (fun W o bd ho hP hB hC => hA.out.w1 K1 K2 W o bd ho hP hB hC hne)
          have u0 : outK B E 2 H = if selB B 1 = true then outK B E 1 H ++ E 1 else outK B E 1 H := rfl
          have u1 : badK B G 2 false = if selB B 1 = true then badK B G 1 false || G 1 else badK B G 1 false := rfl
          generalize hO : outK B E 1 H = O at *
          generalize hBD : badK B G 1 false = BD at *
          cases hq : selB B 1
          · rw [hq] at u0 u1 hselk
            simp only [Bool.false_eq_true, if_false] at u0 u1
            have hb0 : (bits .and .i64 B 2 == 0) = true := by simpa using hselk.symm
            have hb1 : (bits .and .i64 B 2 != 0) = false := hselk.symm
            have hb2 : bits .and .i64 B 2 = 0 := by simpa using hb0
            replace u0 := Lib.hid u0
            replace u1 := Lib.hid u1
            replace hselk := Lib.hid hselk
            replace hq := Lib.hid hq
            go_wp2_with fail
            go_roundw
            case rel => exact ⟨2, by decide, by first | rfl | go_num, by rw [u0.out, u1.out]; exact hP0.alloc _, hB.kept (Kept.of (below_own (Below.refl _ wr) _)), hC0.alloc _, hS.alloc _, hK0.trans (Kept.of (below_own (Below.refl _ wr) _))⟩
            case measure => simp [intOf]
          · rw [hq] at u0 u1 hselk
            simp only [if_true] at u0 u1
            have hb1 : (bits .and .i64 B 2 != 0) = true := hselk.symm
            have hb0 : (bits .and .i64 B 2 == 0) = false := by simpa using hb1
            replace u0 := Lib.hid u0
            replace u1 := Lib.hid u1
            replace hselk := Lib.hid hselk
            replace hq := Lib.hid hq
            go_wp2_with fail
            refine (hD.out _ O BD (by omega) (hP0.alloc _) (hB.kept (Kept.of (below_own (Below.refl _ wr) _))) (hC0.alloc _)).mono ?_
            rintro r w9 ⟨⟨v9, rfl⟩, hP9, hK9⟩; dsimp only
            replace hK9 := (Kept.of (P := P) (below_own (Below.refl _ wr) _)).trans hK9
            replace hB := hB.kept hK9
            replace hC0 := hK9.blk hC0 hne
            replace hS := hK9.blk hS hS1
            replace hK0 := hK0.trans hK9
            clear hK9 a0 a1 hD
            go_wp2_with fail
            go_roundw
            case rel => exact ⟨2, by decide, by first | rfl | go_num, by rw [u0.out, u1.out]; exact hP9, hB, hC0, hS, hK0⟩
            case measure => simp [intOf]
      · as_aux_lemma =>
          skip
          have a0 : wr.cell? ⟨S, 4, none⟩ = some (.int .i64 4) := hs0 4
          have a1 : wr.cell? ⟨S, 5, none⟩ = some (.func (.func _) #[] #[.pointer (some ⟨K1, 0, none⟩), .pointer (some ⟨K2, 0, none⟩)]) := hs0 5
          clear hs0
          have hselk : selB B 2 = (bits .and .i64 B 4 != 0) := rfl
          have hD := Lib.hid (fun W o bd ho hP hB hC => hA.out.w2 K1 K2 W o bd ho hP hB hC hne)
          have u0 : outK B E 3 H = if selB B 2 = true then outK B E 2 H ++ E 2 else outK B E 2 H := rfl
          have u1 : badK B G 3 false = if selB B 2 = true then badK B G 2 false || G 2 else badK B G 2 false := rfl
          generalize hO : outK B E 2 H = O at *
          generalize hBD : badK B G 2 false = BD at *
          cases hq : selB B 2
          · rw [hq] at u0 u1 hselk
            simp only [Bool.false_eq_true, if_false] at u0 u1
            have hb0 : (bits .and .i64 B 4 == 0) = true := by simpa using hselk.symm
            have hb1 : (bits .and .i64 B 4 != 0) = false := hselk.symm
            have hb2 : bits .and .i64 B 4 = 0 := by simpa using hb0
            replace u0 := Lib.hid u0
            replace u1 := Lib.hid u1
            replace hselk := Lib.hid hselk
            replace hq := Lib.hid hq
            go_wp2_with fail
            go_roundw
            case rel => exact ⟨3, by decide, by first | rfl | go_num, by rw [u0.out, u1.out]; exact hP0.alloc _, hB.kept (Kept.of (below_own (Below.refl _ wr) _)), hC0.alloc _, hS.alloc _, hK0.trans (Kept.of (below_own (Below.refl _ wr) _))⟩
            case measure => simp [intOf]
          · rw [hq] at u0 u1 hselk
            simp only [if_true] at u0 u1
            have hb1 : (bits .and .i64 B 4 != 0) = true := hselk.symm
            have hb0 : (bits .and .i64 B 4 == 0) = false := by simpa using hb1
            replace u0 := Lib.hid u0
            replace u1 := Lib.hid u1
            replace hselk := Lib.hid hselk
            replace hq := Lib.hid hq
            go_wp2_with fail
            refine (hD.out _ O BD (by omega) (hP0.alloc _) (hB.kept (Kept.of (below_own (Below.refl _ wr) _))) (hC0.alloc _)).mono ?_
            rintro r w9 ⟨⟨v9, rfl⟩, hP9, hK9⟩; dsimp only
            replace hK9 := (Kept.of (P := P) (below_own (Below.refl _ wr) _)).trans hK9
            replace hB := hB.kept hK9
            replace hC0 := hK9.blk hC0 hne
            replace hS := hK9.blk hS hS1
            replace hK0 := hK0.trans hK9
            clear hK9 a0 a1 hD
            go_wp2_with fail
            go_roundw
            case rel => exact ⟨3, by decide, by first | rfl | go_num, by rw [u0.out, u1.out]; exact hP9, hB, hC0, hS, hK0⟩
            case measure => simp [intOf]
      · as_aux_lemma =>
          skip
          have a0 : wr.cell? ⟨S, 6, none⟩ = some (.int .i64 8) := hs0 6
          have a1 : wr.cell? ⟨S, 7, none⟩ = some (.func (.func _) #[] #[.pointer (some ⟨K1, 0, none⟩), .pointer (some ⟨K2, 0, none⟩)]) := hs0 7
          clear hs0
          have hselk : selB B 3 = (bits .and .i64 B 8 != 0) := rfl
          have hD := Lib.hid (fun W o bd ho hP hB hC => hA.out.w3 K1 K2 W o bd ho hP hB hC hne)
          have u0 : outK B E 4 H = if selB B 3 = true then outK B E 3 H ++ E 3 else outK B E 3 H := rfl
          have u1 : badK B G 4 false = if selB B 3 = true then badK B G 3 false || G 3 else badK B G 3 false := rfl
          generalize hO : outK B E 3 H = O at *
          generalize hBD : badK B G 3 false = BD at *
          cases hq : selB B 3
          · rw [hq] at u0 u1 hselk
            simp only [Bool.false_eq_true, if_false] at u0 u1
            have hb0 : (bits .and .i64 B 8 == 0) = true := by simpa using hselk.symm
            have hb1 : (bits .and .i64 B 8 != 0) = false := hselk.symm
            have hb2 : bits .and .i64 B 8 = 0 := by simpa using hb0
            replace u0 := Lib.hid u0
            replace u1 := Lib.hid u1
            replace hselk := Lib.hid hselk
            replace hq := Lib.hid hq
            go_wp2_with fail
            go_roundw
            case rel => exact ⟨4, by decide, by first | rfl | go_num, by rw [u0.out, u1.out]; exact hP0.alloc _, hB.kept (Kept.of (below_own (Below.refl _ wr) _)), hC0.alloc _, hS.alloc _, hK0.trans (Kept.of (below_own (Below.refl _ wr) _))⟩
            case measure => simp [intOf]
          · rw [hq] at u0 u1 hselk
            simp only [if_true] at u0 u1
            have hb1 : (bits .and .i64 B 8 != 0) = true := hselk.symm
            have hb0 : (bits .and .i64 B 8 == 0) = false := by simpa using hb1
            replace u0 := Lib.hid u0
            replace u1 := Lib.hid u1
            replace hselk := Lib.hid hselk
            replace hq := Lib.hid hq
            go_wp2_with fail
            refine (hD.out _ O BD (by omega) (hP0.alloc _) (hB.kept (Kept.of (below_own (Below.refl _ wr) _))) (hC0.alloc _)).mono ?_
            rintro r w9 ⟨⟨v9, rfl⟩, hP9, hK9⟩; dsimp only
            replace hK9 := (Kept.of (P := P) (below_own (Below.refl _ wr) _)).trans hK9
            replace hB := hB.kept hK9
            replace hC0 := hK9.blk hC0 hne
            replace hS := hK9.blk hS hS1
            replace hK0 := hK0.trans hK9
            clear hK9 a0 a1 hD
            go_wp2_with fail
            go_roundw
            case rel => exact ⟨4, by decide, by first | rfl | go_num, by rw [u0.out, u1.out]; exact hP9, hB, hC0, hS, hK0⟩
            case measure => simp [intOf]
      · as_aux_lemma =>
          skip
          have a0 : wr.cell? ⟨S, 8, none⟩ = some (.int .i64 16) := hs0 8
          have a1 : wr.cell? ⟨S, 9, none⟩ = some (.func (.func _) #[] #[.pointer (some ⟨K1, 0, none⟩), .pointer (some ⟨K2, 0, none⟩)]) := hs0 9
          clear hs0
          have hselk : selB B 4 = (bits .and .i64 B 16 != 0) := rfl
          have hD := Lib.hid (fun W o bd ho hP hB hC => hA.out.w4 K1 K2 W o bd ho hP hB hC hne)
          have u0 : outK B E 5 H = if selB B 4 = true then outK B E 4 H ++ E 4 else outK B E 4 H := rfl
          have u1 : badK B G 5 false = if selB B 4 = true then badK B G 4 false || G 4 else badK B G 4 false := rfl
          generalize hO : outK B E 4 H = O at *
          generalize hBD : badK B G 4 false = BD at *
          cases hq : selB B 4
          · rw [hq] at u0 u1 hselk
            simp only [Bool.false_eq_true, if_false] at u0 u1
            have hb0 : (bits .and .i64 B 16 == 0) = true := by simpa using hselk.symm
            have hb1 : (bits .and .i64 B 16 != 0) = false := hselk.symm
            have hb2 : bits .and .i64 B 16 = 0 := by simpa using hb0
            replace u0 := Lib.hid u0
            replace u1 := Lib.hid u1
            replace hselk := Lib.hid hselk
            replace hq := Lib.hid hq
            go_wp2_with fail
            go_roundw
            case rel => exact ⟨5, by decide, by first | rfl | go_num, by rw [u0.out, u1.out]; exact hP0.alloc _, hB.kept (Kept.of (below_own (Below.refl _ wr) _)), hC0.alloc _, hS.alloc _, hK0.trans (Kept.of (below_own (Below.refl _ wr) _))⟩
            case measure => simp [intOf]
          · rw [hq] at u0 u1 hselk
            simp only [if_true] at u0 u1
            have hb1 : (bits .and .i64 B 16 != 0) = true := hselk.symm
            have hb0 : (bits .and .i64 B 16 == 0) = false := by simpa using hb1
            replace u0 := Lib.hid u0
            replace u1 := Lib.hid u1
            replace hselk := Lib.hid hselk
            replace hq := Lib.hid hq
            go_wp2_with fail
            refine (hD.out _ O BD (by omega) (hP0.alloc _) (hB.kept (Kept.of (below_own (Below.refl _ wr) _))) (hC0.alloc _)).mono ?_
            rintro r w9 ⟨⟨v9, rfl⟩, hP9, hK9⟩; dsimp only
            replace hK9 := (Kept.of (P := P) (below_own (Below.refl _ wr) _)).trans hK9
            replace hB := hB.kept hK9
            replace hC0 := hK9.blk hC0 hne
            replace hS := hK9.blk hS hS1
            replace hK0 := hK0.trans hK9
            clear hK9 a0 a1 hD
            go_wp2_with fail
            go_roundw
            case rel => exact ⟨5, by decide, by first | rfl | go_num, by rw [u0.out, u1.out]; exact hP9, hB, hC0, hS, hK0⟩
            case measure => simp [intOf]
      · as_aux_lemma =>
          skip
          have a0 : wr.cell? ⟨S, 10, none⟩ = some (.int .i64 32) := hs0 10
          have a1 : wr.cell? ⟨S, 11, none⟩ = some (.func (.func _) #[] #[.pointer (some ⟨K1, 0, none⟩), .pointer (some ⟨K2, 0, none⟩)]) := hs0 11
          clear hs0
          have hselk : selB B 5 = (bits .and .i64 B 32 != 0) := rfl
          have hD := Lib.hid (fun W o bd ho hP hB hC => hA.out.w5 K1 K2 W o bd ho hP hB hC hne)
          have u0 : outK B E 6 H = if selB B 5 = true then outK B E 5 H ++ E 5 else outK B E 5 H := rfl
          have u1 : badK B G 6 false = if selB B 5 = true then badK B G 5 false || G 5 else badK B G 5 false := rfl
          generalize hO : outK B E 5 H = O at *
          generalize hBD : badK B G 5 false = BD at *
          cases hq : selB B 5
          · rw [hq] at u0 u1 hselk
            simp only [Bool.false_eq_true, if_false] at u0 u1
            have hb0 : (bits .and .i64 B 32 == 0) = true := by simpa using hselk.symm
            have hb1 : (bits .and .i64 B 32 != 0) = false := hselk.symm
            have hb2 : bits .and .i64 B 32 = 0 := by simpa using hb0
            replace u0 := Lib.hid u0
            replace u1 := Lib.hid u1
            replace hselk := Lib.hid hselk
            replace hq := Lib.hid hq
            go_wp2_with fail
            go_roundw
            case rel => exact ⟨6, by decide, by first | rfl | go_num, by rw [u0.out, u1.out]; exact hP0.alloc _, hB.kept (Kept.of (below_own (Below.refl _ wr) _)), hC0.alloc _, hS.alloc _, hK0.trans (Kept.of (below_own (Below.refl _ wr) _))⟩
            case measure => simp [intOf]
          · rw [hq] at u0 u1 hselk
            simp only [if_true] at u0 u1
            have hb1 : (bits .and .i64 B 32 != 0) = true := hselk.symm
            have hb0 : (bits .and .i64 B 32 == 0) = false := by simpa using hb1
            replace u0 := Lib.hid u0
            replace u1 := Lib.hid u1
            replace hselk := Lib.hid hselk
            replace hq := Lib.hid hq
            go_wp2_with fail
            refine (hD.out _ O BD (by omega) (hP0.alloc _) (hB.kept (Kept.of (below_own (Below.refl _ wr) _))) (hC0.alloc _)).mono ?_
            rintro r w9 ⟨⟨v9, rfl⟩, hP9, hK9⟩; dsimp only
            replace hK9 := (Kept.of (P := P) (below_own (Below.refl _ wr) _)).trans hK9
            replace hB := hB.kept hK9
            replace hC0 := hK9.blk hC0 hne
            replace hS := hK9.blk hS hS1
            replace hK0 := hK0.trans hK9
            clear hK9 a0 a1 hD
            go_wp2_with fail
            go_roundw
            case rel => exact ⟨6, by decide, by first | rfl | go_num, by rw [u0.out, u1.out]; exact hP9, hB, hC0, hS, hK0⟩
            case measure => simp [intOf]
      · as_aux_lemma =>
          skip
          have a0 : wr.cell? ⟨S, 12, none⟩ = some (.int .i64 64) := hs0 12
          have a1 : wr.cell? ⟨S, 13, none⟩ = some (.func (.func _) #[] #[.pointer (some ⟨K1, 0, none⟩), .pointer (some ⟨K2, 0, none⟩)]) := hs0 13
          clear hs0
          have hselk : selB B 6 = (bits .and .i64 B 64 != 0) := rfl
          have hD := Lib.hid (fun W o bd ho hP hB hC => hA.out.w6 K1 K2 W o bd ho hP hB hC hne)
          have u0 : outK B E 7 H = if selB B 6 = true then outK B E 6 H ++ E 6 else outK B E 6 H := rfl
          have u1 : badK B G 7 false = if selB B 6 = true then badK B G 6 false || G 6 else badK B G 6 false := rfl
          generalize hO : outK B E 6 H = O at *
          generalize hBD : badK B G 6 false = BD at *
          cases hq : selB B 6
          · rw [hq] at u0 u1 hselk
            simp only [Bool.false_eq_true, if_false] at u0 u1
            have hb0 : (bits .and .i64 B 64 == 0) = true := by simpa using hselk.symm
            have hb1 : (bits .and .i64 B 64 != 0) = false := hselk.symm
            have hb2 : bits .and .i64 B 64 = 0 := by simpa using hb0
            replace u0 := Lib.hid u0
            replace u1 := Lib.hid u1
            replace hselk := Lib.hid hselk
            replace hq := Lib.hid hq
            go_wp2_with fail
            go_roundw
            case rel => exact ⟨7, by decide, by first | rfl | go_num, by rw [u0.out, u1.out]; exact hP0.alloc _, hB.kept (Kept.of (below_own (Below.refl _ wr) _)), hC0.alloc _, hS.alloc _, hK0.trans (Kept.of (below_own (Below.refl _ wr) _))⟩
            case measure => simp [intOf]
          · rw [hq] at u0 u1 hselk
            simp only [if_true] at u0 u1
            have hb1 : (bits .and .i64 B 64 != 0) = true := hselk.symm
            have hb0 : (bits .and .i64 B 64 == 0) = false := by simpa using hb1
            replace u0 := Lib.hid u0
            replace u1 := Lib.hid u1
            replace hselk := Lib.hid hselk
            replace hq := Lib.hid hq
            go_wp2_with fail
            refine (hD.out _ O BD (by omega) (hP0.alloc _) (hB.kept (Kept.of (below_own (Below.refl _ wr) _))) (hC0.alloc _)).mono ?_
            rintro r w9 ⟨⟨v9, rfl⟩, hP9, hK9⟩; dsimp only
            replace hK9 := (Kept.of (P := P) (below_own (Below.refl _ wr) _)).trans hK9
            replace hB := hB.kept hK9
            replace hC0 := hK9.blk hC0 hne
            replace hS := hK9.blk hS hS1
            replace hK0 := hK0.trans hK9
            clear hK9 a0 a1 hD
            go_wp2_with fail
            go_roundw
            case rel => exact ⟨7, by decide, by first | rfl | go_num, by rw [u0.out, u1.out]; exact hP9, hB, hC0, hS, hK0⟩
            case measure => simp [intOf]
      · as_aux_lemma =>
          skip
          have a0 : wr.cell? ⟨S, 14, none⟩ = some (.int .i64 128) := hs0 14
          have a1 : wr.cell? ⟨S, 15, none⟩ = some (.func (.func _) #[] #[.pointer (some ⟨K1, 0, none⟩), .pointer (some ⟨K2, 0, none⟩)]) := hs0 15
          clear hs0
          have hselk : selB B 7 = (bits .and .i64 B 128 != 0) := rfl
          have hD := Lib.hid (fun W o bd ho hP hB hC => hA.out.w7 K1 K2 W o bd ho hP hB hC hne)
          have u0 : outK B E 8 H = if selB B 7 = true then outK B E 7 H ++ E 7 else outK B E 7 H := rfl
          have u1 : badK B G 8 false = if selB B 7 = true then badK B G 7 false || G 7 else badK B G 7 false := rfl
          generalize hO : outK B E 7 H = O at *
          generalize hBD : badK B G 7 false = BD at *
          cases hq : selB B 7
          · rw [hq] at u0 u1 hselk
            simp only [Bool.false_eq_true, if_false] at u0 u1
            have hb0 : (bits .and .i64 B 128 == 0) = true := by simpa using hselk.symm
            have hb1 : (bits .and .i64 B 128 != 0) = false := hselk.symm
            have hb2 : bits .and .i64 B 128 = 0 := by simpa using hb0
            replace u0 := Lib.hid u0
            replace u1 := Lib.hid u1
            replace hselk := Lib.hid hselk
            replace hq := Lib.hid hq
            go_wp2_with fail
            go_roundw
            case rel => exact ⟨8, by decide, by first | rfl | go_num, by rw [u0.out, u1.out]; exact hP0.alloc _, hB.kept (Kept.of (below_own (Below.refl _ wr) _)), hC0.alloc _, hS.alloc _, hK0.trans (Kept.of (below_own (Below.refl _ wr) _))⟩
            case measure => simp [intOf]
          · rw [hq] at u0 u1 hselk
            simp only [if_true] at u0 u1
            have hb1 : (bits .and .i64 B 128 != 0) = true := hselk.symm
            have hb0 : (bits .and .i64 B 128 == 0) = false := by simpa using hb1
            replace u0 := Lib.hid u0
            replace u1 := Lib.hid u1
            replace hselk := Lib.hid hselk
            replace hq := Lib.hid hq
            go_wp2_with fail
            refine (hD.out _ O BD (by omega) (hP0.alloc _) (hB.kept (Kept.of (below_own (Below.refl _ wr) _))) (hC0.alloc _)).mono ?_
            rintro r w9 ⟨⟨v9, rfl⟩, hP9, hK9⟩; dsimp only
            replace hK9 := (Kept.of (P := P) (below_own (Below.refl _ wr) _)).trans hK9
            replace hB := hB.kept hK9
            replace hC0 := hK9.blk hC0 hne
            replace hS := hK9.blk hS hS1
            replace hK0 := hK0.trans hK9
            clear hK9 a0 a1 hD
            go_wp2_with fail
            go_roundw
            case rel => exact ⟨8, by decide, by first | rfl | go_num, by rw [u0.out, u1.out]; exact hP9, hB, hC0, hS, hK0⟩
            case measure => simp [intOf]
      · as_aux_lemma =>
          skip
          have a0 : wr.cell? ⟨S, 16, none⟩ = some (.int .i64 256) := hs0 16
          have a1 : wr.cell? ⟨S, 17, none⟩ = some (.func (.func _) #[] #[.pointer (some ⟨K1, 0, none⟩), .pointer (some ⟨K2, 0, none⟩)]) := hs0 17
          clear hs0
          have hselk : selB B 8 = (bits .and .i64 B 256 != 0) := rfl
          have hD := Lib.hid (fun W o bd ho hP hB hC => hA.out.w8 K1 K2 W o bd ho hP hB hC hne)
          have u0 : outK B E 9 H = if selB B 8 = true then outK B E 8 H ++ E 8 else outK B E 8 H := rfl
          have u1 : badK B G 9 false = if selB B 8 = true then badK B G 8 false || G 8 else badK B G 8 false := rfl
          generalize hO : outK B E 8 H = O at *
          generalize hBD : badK B G 8 false = BD at *
          cases hq : selB B 8
          · rw [hq] at u0 u1 hselk
            simp only [Bool.false_eq_true, if_false] at u0 u1
            have hb0 : (bits .and .i64 B 256 == 0) = true := by simpa using hselk.symm
            have hb1 : (bits .and .i64 B 256 != 0) = false := hselk.symm
            have hb2 : bits .and .i64 B 256 = 0 := by simpa using hb0
            replace u0 := Lib.hid u0
            replace u1 := Lib.hid u1
            replace hselk := Lib.hid hselk
            replace hq := Lib.hid hq
            go_wp2_with fail
            go_roundw
            case rel => exact ⟨9, by decide, by first | rfl | go_num, by rw [u0.out, u1.out]; exact hP0.alloc _, hB.kept (Kept.of (below_own (Below.refl _ wr) _)), hC0.alloc _, hS.alloc _, hK0.trans (Kept.of (below_own (Below.refl _ wr) _))⟩
            case measure => simp [intOf]
          · rw [hq] at u0 u1 hselk
            simp only [if_true] at u0 u1
            have hb1 : (bits .and .i64 B 256 != 0) = true := hselk.symm
            have hb0 : (bits .and .i64 B 256 == 0) = false := by simpa using hb1
            replace u0 := Lib.hid u0
            replace u1 := Lib.hid u1
            replace hselk := Lib.hid hselk
            replace hq := Lib.hid hq
            go_wp2_with fail
            refine (hD.out _ O BD (by omega) (hP0.alloc _) (hB.kept (Kept.of (below_own (Below.refl _ wr) _))) (hC0.alloc _)).mono ?_
            rintro r w9 ⟨⟨v9, rfl⟩, hP9, hK9⟩; dsimp only
            replace hK9 := (Kept.of (P := P) (below_own (Below.refl _ wr) _)).trans hK9
            replace hB := hB.kept hK9
            replace hC0 := hK9.blk hC0 hne
            replace hS := hK9.blk hS hS1
            replace hK0 := hK0.trans hK9
            clear hK9 a0 a1 hD
            go_wp2_with fail
            go_roundw
            case rel => exact ⟨9, by decide, by first | rfl | go_num, by rw [u0.out, u1.out]; exact hP9, hB, hC0, hS, hK0⟩
            case measure => simp [intOf]
      · as_aux_lemma =>
          skip
          have a0 : wr.cell? ⟨S, 18, none⟩ = some (.int .i64 512) := hs0 18
          have a1 : wr.cell? ⟨S, 19, none⟩ = some (.func (.func _) #[] #[.pointer (some ⟨K1, 0, none⟩), .pointer (some ⟨K2, 0, none⟩)]) := hs0 19
          clear hs0
          have hselk : selB B 9 = (bits .and .i64 B 512 != 0) := rfl
          have hD := Lib.hid (fun W o bd ho hP hB hC => hA.out.w9 K1 K2 W o bd ho hP hB hC hne)
          have u0 : outK B E 10 H = if selB B 9 = true then outK B E 9 H ++ E 9 else outK B E 9 H := rfl
          have u1 : badK B G 10 false = if selB B 9 = true then badK B G 9 false || G 9 else badK B G 9 false := rfl
          generalize hO : outK B E 9 H = O at *
          generalize hBD : badK B G 9 false = BD at *
          cases hq : selB B 9
          · rw [hq] at u0 u1 hselk
            simp only [Bool.false_eq_true, if_false] at u0 u1
            have hb0 : (bits .and .i64 B 512 == 0) = true := by simpa using hselk.symm
            have hb1 : (bits .and .i64 B 512 != 0) = false := hselk.symm
            have hb2 : bits .and .i64 B 512 = 0 := by simpa using hb0
            replace u0 := Lib.hid u0
            replace u1 := Lib.hid u1
            replace hselk := Lib.hid hselk
            replace hq := Lib.hid hq
            go_wp2_with fail
            go_roundw
            case rel => exact ⟨10, by decide, by first | rfl | go_num, by rw [u0.out, u1.out]; exact hP0.alloc _, hB.kept (Kept.of (below_own (Below.refl _ wr) _)), hC0.alloc _, hS.alloc _, hK0.trans (Kept.of (below_own (Below.refl _ wr) _))⟩
            case measure => simp [intOf]
          · rw [hq] at u0 u1 hselk
            simp only [if_true] at u0 u1
            have hb1 : (bits .and .i64 B 512 != 0) = true := hselk.symm
            have hb0 : (bits .and .i64 B 512 == 0) = false := by simpa using hb1
            replace u0 := Lib.hid u0
            replace u1 := Lib.hid u1
            replace hselk := Lib.hid hselk
            replace hq := Lib.hid hq
            go_wp2_with fail
            refine (hD.out _ O BD (by omega) (hP0.alloc _) (hB.kept (Kept.of (below_own (Below.refl _ wr) _))) (hC0.alloc _)).mono ?_
            rintro r w9 ⟨⟨v9, rfl⟩, hP9, hK9⟩; dsimp only
            replace hK9 := (Kept.of (P := P) (below_own (Below.refl _ wr) _)).trans hK9
            replace hB := hB.kept hK9
            replace hC0 := hK9.blk hC0 hne
            replace hS := hK9.blk hS hS1
            replace hK0 := hK0.trans hK9
            clear hK9 a0 a1 hD
            go_wp2_with fail
            go_roundw
            case rel => exact ⟨10, by decide, by first | rfl | go_num, by rw [u0.out, u1.out]; exact hP9, hB, hC0, hS, hK0⟩
            case measure => simp [intOf]
      · as_aux_lemma =>
          skip
          have a0 : wr.cell? ⟨S, 20, none⟩ = some (.int .i64 1024) := hs0 20
          have a1 : wr.cell? ⟨S, 21, none⟩ = some (.func (.func _) #[] #[.pointer (some ⟨K1, 0, none⟩), .pointer (some ⟨K2, 0, none⟩)]) := hs0 21
          clear hs0
          have hselk : selB B 10 = (bits .and .i64 B 1024 != 0) := rfl
          have hD := Lib.hid (fun W o bd ho hP hB hC => hA.out.w10 K1 K2 W o bd ho hP hB hC hne)
          have u0 : outK B E 11 H = if selB B 10 = true then outK B E 10 H ++ E 10 else outK B E 10 H := rfl
          have u1 : badK B G 11 false = if selB B 10 = true then badK B G 10 false || G 10 else badK B G 10 false := rfl
          generalize hO : outK B E 10 H = O at *
          generalize hBD : badK B G 10 false = BD at *
          cases hq : selB B 10
          · rw [hq] at u0 u1 hselk
            simp only [Bool.false_eq_true, if_false] at u0 u1
            have hb0 : (bits .and .i64 B 1024 == 0) = true := by simpa using hselk.symm
            have hb1 : (bits .and .i64 B 1024 != 0) = false := hselk.symm
            have hb2 : bits .and .i64 B 1024 = 0 := by simpa using hb0
            replace u0 := Lib.hid u0
            replace u1 := Lib.hid u1
            replace hselk := Lib.hid hselk
            replace hq := Lib.hid hq
            go_wp2_with fail
            go_roundw
            case rel => exact ⟨11, by decide, by first | rfl | go_num, by rw [u0.out, u1.out]; exact hP0.alloc _, hB.kept (Kept.of (below_own (Below.refl _ wr) _)), hC0.alloc _, hS.alloc _, hK0.trans (Kept.of (below_own (Below.refl _ wr) _))⟩
            case measure => simp [intOf]
          · rw [hq] at u0 u1 hselk
            simp only [if_true] at u0 u1
            have hb1 : (bits .and .i64 B 1024 != 0) = true := hselk.symm
            have hb0 : (bits .and .i64 B 1024 == 0) = false := by simpa using hb1
            replace u0 := Lib.hid u0
            replace u1 := Lib.hid u1
            replace hselk := Lib.hid hselk
            replace hq := Lib.hid hq
            go_wp2_with fail
            refine (hD.out _ O BD (by omega) (hP0.alloc _) (hB.kept (Kept.of (below_own (Below.refl _ wr) _))) (hC0.alloc _)).mono ?_
            rintro r w9 ⟨⟨v9, rfl⟩, hP9, hK9⟩; dsimp only
            replace hK9 := (Kept.of (P := P) (below_own (Below.refl _ wr) _)).trans hK9
            replace hB := hB.kept hK9
            replace hC0 := hK9.blk hC0 hne
            replace hS := hK9.blk hS hS1
            replace hK0 := hK0.trans hK9
            clear hK9 a0 a1 hD
            go_wp2_with fail
            go_roundw
            case rel => exact ⟨11, by decide, by first | rfl | go_num, by rw [u0.out, u1.out]; exact hP9, hB, hC0, hS, hK0⟩
            case measure => simp [intOf]
      · as_aux_lemma =>
          skip
          have a0 : wr.cell? ⟨S, 22, none⟩ = some (.int .i64 2048) := hs0 22
          have a1 : wr.cell? ⟨S, 23, none⟩ = some (.func (.func _) #[] #[.pointer (some ⟨K1, 0, none⟩), .pointer (some ⟨K2, 0, none⟩)]) := hs0 23
          clear hs0
          have hselk : selB B 11 = (bits .and .i64 B 2048 != 0) := rfl
          have hD := Lib.hid (fun W o bd ho hP hB hC => hA.out.w11 K1 K2 W o bd ho hP hB hC hne)
          have u0 : outK B E 12 H = if selB B 11 = true then outK B E 11 H ++ E 11 else outK B E 11 H := rfl
          have u1 : badK B G 12 false = if selB B 11 = true then badK B G 11 false || G 11 else badK B G 11 false := rfl
          generalize hO : outK B E 11 H = O at *
          generalize hBD : badK B G 11 false = BD at *
          cases hq : selB B 11
          · rw [hq] at u0 u1 hselk
            simp only [Bool.false_eq_true, if_false] at u0 u1
            have hb0 : (bits .and .i64 B 2048 == 0) = true := by simpa using hselk.symm
            have hb1 : (bits .and .i64 B 2048 != 0) = false := hselk.symm
            have hb2 : bits .and .i64 B 2048 = 0 := by simpa using hb0
            replace u0 := Lib.hid u0
            replace u1 := Lib.hid u1
            replace hselk := Lib.hid hselk
            replace hq := Lib.hid hq
            go_wp2_with fail
            go_roundw
            case rel => exact ⟨12, by decide, by first | rfl | go_num, by rw [u0.out, u1.out]; exact hP0.alloc _, hB.kept (Kept.of (below_own (Below.refl _ wr) _)), hC0.alloc _, hS.alloc _, hK0.trans (Kept.of (below_own (Below.refl _ wr) _))⟩
            case measure => simp [intOf]
          · rw [hq] at u0 u1 hselk
            simp only [if_true] at u0 u1
            have hb1 : (bits .and .i64 B 2048 != 0) = true := hselk.symm
            have hb0 : (bits .and .i64 B 2048 == 0) = false := by simpa using hb1
            replace u0 := Lib.hid u0
            replace u1 := Lib.hid u1
            replace hselk := Lib.hid hselk
            replace hq := Lib.hid hq
            go_wp2_with fail
            refine (hD.out _ O BD (by omega) (hP0.alloc _) (hB.kept (Kept.of (below_own (Below.refl _ wr) _))) (hC0.alloc _)).mono ?_
            rintro r w9 ⟨⟨v9, rfl⟩, hP9, hK9⟩; dsimp only
            replace hK9 := (Kept.of (P := P) (below_own (Below.refl _ wr) _)).trans hK9
            replace hB := hB.kept hK9
            replace hC0 := hK9.blk hC0 hne
            replace hS := hK9.blk hS hS1
            replace hK0 := hK0.trans hK9
            clear hK9 a0 a1 hD
            go_wp2_with fail
            go_roundw
            case rel => exact ⟨12, by decide, by first | rfl | go_num, by rw [u0.out, u1.out]; exact hP9, hB, hC0, hS, hK0⟩
            case measure => simp [intOf]
      · as_aux_lemma =>
          skip
          have a0 : wr.cell? ⟨S, 24, none⟩ = some (.int .i64 4096) := hs0 24
          have a1 : wr.cell? ⟨S, 25, none⟩ = some (.func (.func _) #[] #[.pointer (some ⟨K1, 0, none⟩), .pointer (some ⟨K2, 0, none⟩)]) := hs0 25
          clear hs0
          have hselk : selB B 12 = (bits .and .i64 B 4096 != 0) := rfl
          have hD := Lib.hid (fun W o bd ho hP hB hC => hA.out.w12 K1 K2 W o bd ho hP hB hC hne)
          have u0 : outK B E 13 H = if selB B 12 = true then outK B E 12 H ++ E 12 else outK B E 12 H := rfl
          have u1 : badK B G 13 false = if selB B 12 = true then badK B G 12 false || G 12 else badK B G 12 false := rfl
          generalize hO : outK B E 12 H = O at *
          generalize hBD : badK B G 12 false = BD at *
          cases hq : selB B 12
          · rw [hq] at u0 u1 hselk
            simp only [Bool.false_eq_true, if_false] at u0 u1
            have hb0 : (bits .and .i64 B 4096 == 0) = true := by simpa using hselk.symm
            have hb1 : (bits .and .i64 B 4096 != 0) = false := hselk.symm
            have hb2 : bits .and .i64 B 4096 = 0 := by simpa using hb0
            replace u0 := Lib.hid u0
            replace u1 := Lib.hid u1
            replace hselk := Lib.hid hselk
            replace hq := Lib.hid hq
            go_wp2_with fail
            go_roundw
            case rel => exact ⟨13, by decide, by first | rfl | go_num, by rw [u0.out, u1.out]; exact hP0.alloc _, hB.kept (Kept.of (below_own (Below.refl _ wr) _)), hC0.alloc _, hS.alloc _, hK0.trans (Kept.of (below_own (Below.refl _ wr) _))⟩
            case measure => simp [intOf]
          · rw [hq] at u0 u1 hselk
            simp only [if_true] at u0 u1
            have hb1 : (bits .and .i64 B 4096 != 0) = true := hselk.symm
            have hb0 : (bits .and .i64 B 4096 == 0) = false := by simpa using hb1
            replace u0 := Lib.hid u0
            replace u1 := Lib.hid u1
            replace hselk := Lib.hid hselk
            replace hq := Lib.hid hq
            go_wp2_with fail
            refine (hD.out _ O BD (by omega) (hP0.alloc _) (hB.kept (Kept.of (below_own (Below.refl _ wr) _))) (hC0.alloc _)).mono ?_
            rintro r w9 ⟨⟨v9, rfl⟩, hP9, hK9⟩; dsimp only
            replace hK9 := (Kept.of (P := P) (below_own (Below.refl _ wr) _)).trans hK9
            replace hB := hB.kept hK9
            replace hC0 := hK9.blk hC0 hne
            replace hS := hK9.blk hS hS1
            replace hK0 := hK0.trans hK9
            clear hK9 a0 a1 hD
            go_wp2_with fail
            go_roundw
            case rel => exact ⟨13, by decide, by first | rfl | go_num, by rw [u0.out, u1.out]; exact hP9, hB, hC0, hS, hK0⟩
            case measure => simp [intOf]
      · go_wp2_with fail
        go_end0
        exact ⟨⟨_, rfl⟩, hP0, hK0⟩
end Go.Proofs.Yteglieoeblehpaa
