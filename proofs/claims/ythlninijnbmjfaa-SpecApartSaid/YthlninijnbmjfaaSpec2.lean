/- The contracts of package spec: budgets, checks one behind the other. Conditions: none. -/
import Derived.Test.YthlninijnbmjfaaSpec1
import Derived.Test.YthlninijnbmjfaaTSpec
import Derived.Test.YthlninijnbmjfaaVec3
import Derived.Test.YthlninijnbmjfaaRef1b
import Derived.Test.YthlninijnbmjfaaEq
namespace Go.Proofs.Ythlninijnbmjfaa
open Go.RowKit

def mayBud (b : Budget) : Bool := decide (0 ≤ b.k) && (decide (b.k ≤ 64) && (decide (1 ≤ b.window) && decide (b.window ≤ 4294967296)))
def limB (v : Vec) : Bool := mayV v && !eqV v zeroV
def cntB (n : Int) : Bool := decide (1 ≤ n) && decide (n ≤ 64)
def bandB (b : Int) : Bool := b == 1 || b == 2
set_option maxHeartbeats 1000000 in
theorem spec_May (b : Budget) (w : World) :
    Calls Try.prog 39 #[b.v] w fun e w' => e = .returned (.bool (mayBud b)) ∧ Below w.heap.size w w' := by
  obtain ⟨k, n⟩ := b
  unfold mayBud
  go_enter Try.func39, Try.ntmps39
  go_wp2
  all_goals
    go_returns
    exact ⟨by first | (simp [*]; done) | (simp [*]; intros; omega), by go_grown⟩
set_option maxHeartbeats 1000000 in
theorem ref_May16 (b : Budget) (w : World) :
    Calls Try.prog 29 #[b.v] w fun e w' => e = .returned (.bool (mayBud b)) ∧ Below w.heap.size w w' := by
  obtain ⟨k, n⟩ := b
  unfold mayBud
  go_enter Try.func29, Try.ntmps29
  go_wp2
  all_goals
    go_returns
    exact ⟨by first | (simp [*]; done) | (simp [*]; intros; omega), by go_grown⟩
set_option maxHeartbeats 1000000 in
theorem spec_counted1 (B : Nat) (n : Int) (w : World) (h : Blk w B 3 #[.int .i64 n]) :
    Calls Try.prog 86 #[.pointer (some ⟨B, 0, none⟩)] w fun e w' => e = .returned (.bool (cntB n)) ∧ Below w.heap.size w w' := by
  obtain ⟨Bc, Bf, Bl⟩ := h.facts
  unfold cntB
  by_cases h0 : 1 ≤ n
  all_goals
    go_enter Try.func86, Try.ntmps86
    go_wp2
    go_ret
    exact ⟨by first | (simp [*]; done) | (simp [*]; intros; omega), below_self w⟩
set_option maxHeartbeats 1000000 in
theorem spec_limited1 (B : Nat) (v : Vec) (w : World) (h : Blk w B 66 #[.int .i64 v.cpu, .int .i64 v.mem, .int .i64 v.disk]) :
    Calls Try.prog 87 #[.pointer (some ⟨B, 0, none⟩)] w fun e w' => e = .returned (.bool (limB v)) ∧ Below w.heap.size w w' := by
  have c1 := vec_May v
  unfold limB
  generalize mayV v = m at *
  obtain ⟨v0, v1, v2⟩ := v
  have C1 := Lib.hid c1
  clear c1
  have q := neq_vec
  have hz : zeroV = ⟨0, 0, 0⟩ := rfl
  rw [hz]
  obtain ⟨Bc, Bf, Bl⟩ := h.facts
  go_enter Try.func87, Try.ntmps87
  go_wp2_with fail
  refine (C1.out _).mono ?_
  rintro r w1 ⟨rfl, hb⟩; dsimp only
  clear Bc Bf Bl
  obtain ⟨Bc, Bf, Bl⟩ := (h.past hb).facts
  cases m
  all_goals
    go_wp2_with fail
    go_ret
    exact ⟨by first | rfl | simp, hb⟩
/-- One check: what is told, and the function that is asked. -/
def Asks (w : World) (F : Value) (b : Bool) : Prop := ∃ g caps, F = .func (.func g) #[] caps ∧ (∀ args W, (callFunc g args).run Try.prog W = .ok (.enter g args) W) ∧
  ∀ W, Below w.heap.size w W → Calls Try.prog g caps W fun e w' => e = .returned (.bool b) ∧ Below W.heap.size W w'
theorem Asks.past {w W : World} {F : Value} {b : Bool} (h : Asks w F b) (hb : Below w.heap.size w W) : Asks W F b := by
  obtain ⟨g, caps, h1, h2, h3⟩ := h
  exact ⟨g, caps, h1, h2, fun W' hW => h3 W' (below_to hb hW)⟩
def firstI : List (Int × Bool) → Int
  | [] => 0
  | (e, b) :: l => if b then firstI l else e
theorem firstI_drop {l : List (Int × Bool)} {k : Nat} (h : k < l.length) : firstI (l.drop k) = if l[k].2 then firstI (l.drop (k + 1)) else l[k].1 := by
  rw [List.drop_eq_getElem_cons h]
  rfl
set_option maxHeartbeats 1000000 in
theorem spec_first (b off n cp : Nat) (l : List (Int × Bool)) (fs : Nat → Value) (w : World) (hl : l.length = n) (hn : n ≤ 1000) (hb : b < w.heap.size) (hc : ∀ i (h : i < l.length), w.cell? ⟨b, off + i * 2, none⟩ = some (.int .i64 l[i].1) ∧ w.cell? ⟨b, off + i * 2 + 1, none⟩ = some (fs i) ∧ Asks w (fs i) l[i].2) :
    Calls Try.prog 63 #[.slice (some ⟨b, off, none⟩) n cp] w fun e w' => e = .returned (.int .i64 (firstI l)) ∧ Below w.heap.size w w' := by
  subst hl
  have HC := Lib.hid hc
  clear hc
  go_enter Try.func63, Try.ntmps63
  go_wp2_with fail
  go_loopw [7] (fun i wr => ∃ k : Nat, k ≤ l.length ∧ i = .int .i64 k ∧ firstI l = firstI (l.drop k) ∧ Below w.heap.size w wr) (fun i _ => l.length - (intOf i).toNat)
  case atStart => exact ⟨0, Nat.zero_le _, rfl, rfl, below_self w⟩
  case round =>
    obtain ⟨k, hk, rfl, hf, hB⟩ := hrel
    by_cases hlt : k < l.length
    · obtain ⟨k0, k1, g, caps, hF, ef, hcall⟩ := HC.out k hlt
      have hd := firstI_drop hlt
      have j0 := (hB.cell (p := ⟨b, off + k * 2, none⟩) hb).trans k0
      have j1 := (hB.cell (p := ⟨b, off + k * 2 + 1, none⟩) hb).trans k1
      have hbr : b < wr.heap.size := Nat.lt_of_lt_of_le hb hB.size
      rw [hF] at j1
      clear k0 k1 hF
      have HF := Lib.hid (hf.trans hd)
      have CC := Lib.hid hcall
      clear hf hd hcall
      generalize l[k] = x at *
      obtain ⟨e, o⟩ := x
      dsimp only at j0
      have hX := Blk.new wr 106 #[.int .i64 e, .func (.func g) #[] caps]
      go_wp2_with fail
      refine (CC.out _ (below_own hB _)).mono ?_
      rintro r w2 ⟨rfl, hb2⟩; dsimp only
      replace hX := hX.past hb2
      replace hB := below_to (below_own hB _) hb2
      clear hb2 ef CC
      obtain ⟨Xc, Xf, Xl⟩ := hX.facts
      cases o with
      | true =>
        go_wp2
        go_roundw
        case rel => exact ⟨k + 1, by omega, by go_num, HF.out, hB⟩
        case measure => simp [intOf]; omega
      | false =>
        go_wp2
        go_ret
        exact ⟨by rw [HF.out]; rfl, hB⟩
    · obtain rfl : k = l.length := by omega
      have hf' : Hid (firstI l = 0) := Lib.hid (by rw [hf, List.drop_length]; rfl)
      clear hf
      go_wp2
      go_ret
      exact ⟨by rw [hf'.out]; rfl, hB⟩
set_option maxHeartbeats 1000000 in
theorem spec_counted (n : Int) (w : World) :
    Calls Try.prog 66 #[.int .i64 n] w fun e w' => (∃ B, e = .returned (.agg #[.int .i64 162, .func (.func 86) #[] #[.pointer (some ⟨B, 0, none⟩)]]) ∧ Blk w' B 3 #[.int .i64 n]) ∧ Below w.heap.size w w' := by
  go_enter Try.func66, Try.ntmps66
  go_wp2
  go_returns
  exact ⟨⟨_, rfl, (Blk.new w _ _).alloc _⟩, by go_grown⟩
set_option maxHeartbeats 1000000 in
theorem spec_limited (v : Vec) (w : World) :
    Calls Try.prog 67 #[v.v] w fun e w' => (∃ B, e = .returned (.agg #[.int .i64 163, .func (.func 87) #[] #[.pointer (some ⟨B, 0, none⟩)]]) ∧ Blk w' B 66 #[.int .i64 v.cpu, .int .i64 v.mem, .int .i64 v.disk]) ∧ Below w.heap.size w w' := by
  go_enter Try.func67, Try.ntmps67
  go_wp2
  go_returns
  exact ⟨⟨_, rfl, (Blk.new w _ _).alloc _⟩, by go_grown⟩
theorem spec_first5 (g : Nat) (e0 e1 e2 e3 e4 : Int) (F0 F1 F2 F3 F4 : Value) (b0 b1 b2 b3 b4 : Bool) (w : World) (h : Blk w g 106 #[.int .i64 e0, F0, .int .i64 e1, F1, .int .i64 e2, F2, .int .i64 e3, F3, .int .i64 e4, F4])
    (a0 : Asks w F0 b0) (a1 : Asks w F1 b1) (a2 : Asks w F2 b2) (a3 : Asks w F3 b3) (a4 : Asks w F4 b4) :
    Calls Try.prog 63 #[.slice (some ⟨g, 0, none⟩) 5 5] w fun e w' => e = .returned (.int .i64 (firstI [(e0, b0), (e1, b1), (e2, b2), (e3, b3), (e4, b4)])) ∧ Below w.heap.size w w' :=
  spec_first g 0 5 5 [(e0, b0), (e1, b1), (e2, b2), (e3, b3), (e4, b4)] (fun i => match i with | 0 => F0 | 1 => F1 | 2 => F2 | 3 => F3 | _ => F4) w rfl (by decide) h.lt fun i hi => by
    match i, hi with
    | 0, _ => exact ⟨h.cell 0, h.cell 1, a0⟩
    | 1, _ => exact ⟨h.cell 2, h.cell 3, a1⟩
    | 2, _ => exact ⟨h.cell 4, h.cell 5, a2⟩
    | 3, _ => exact ⟨h.cell 6, h.cell 7, a3⟩
    | 4, _ => exact ⟨h.cell 8, h.cell 9, a4⟩
theorem spec_first3 (g : Nat) (e0 e1 e2 : Int) (F0 F1 F2 : Value) (b0 b1 b2 : Bool) (w : World) (h : Blk w g 106 #[.int .i64 e0, F0, .int .i64 e1, F1, .int .i64 e2, F2])
    (a0 : Asks w F0 b0) (a1 : Asks w F1 b1) (a2 : Asks w F2 b2) :
    Calls Try.prog 63 #[.slice (some ⟨g, 0, none⟩) 3 3] w fun e w' => e = .returned (.int .i64 (firstI [(e0, b0), (e1, b1), (e2, b2)])) ∧ Below w.heap.size w w' :=
  spec_first g 0 3 3 [(e0, b0), (e1, b1), (e2, b2)] (fun i => match i with | 0 => F0 | 1 => F1 | _ => F2) w rfl (by decide) h.lt fun i hi => by
    match i, hi with
    | 0, _ => exact ⟨h.cell 0, h.cell 1, a0⟩
    | 1, _ => exact ⟨h.cell 2, h.cell 3, a1⟩
    | 2, _ => exact ⟨h.cell 4, h.cell 5, a2⟩
abbrev JobSpec.cs (x : JobSpec) : Array Value := #[.string x.name, .string x.user, .int .u8 x.band, .int .i64 x.count, .int .i64 x.limit.cpu, .int .i64 x.limit.mem, .int .i64 x.limit.disk, .string x.alloc, .int .i64 x.budget.k, .int .i64 x.budget.window]
abbrev AllocSpec.cs (x : AllocSpec) : Array Value := #[.string x.name, .string x.user, .int .i64 x.count, .int .i64 x.limit.cpu, .int .i64 x.limit.mem, .int .i64 x.limit.disk]
def namesB (j : JobSpec) : Bool := nameB j.name && (nameB j.user && (decide (j.alloc.size = 0) || nameB j.alloc))
set_option maxHeartbeats 2000000 in
theorem spec_Job1 (B : Nat) (j : JobSpec) (w : World) (h : Blk w B 68 j.cs) :
    Calls Try.prog 64 #[.pointer (some ⟨B, 0, none⟩)] w fun e w' => e = .returned (.bool (namesB j)) ∧ Below w.heap.size w w' := by
  have c1 := spec_Name j.name
  have c2 := spec_Name j.user
  have c3 := spec_Name j.alloc
  unfold namesB
  generalize nameB j.name = b1 at *
  generalize nameB j.user = b2 at *
  generalize nameB j.alloc = b3 at *
  obtain ⟨n, u, b, c, ⟨l0, l1, l2⟩, a, ⟨bk, bw⟩⟩ := j
  dsimp only at c1 c2 c3 ⊢
  have C1 := Lib.hid c1
  have C2 := Lib.hid c2
  have C3 := Lib.hid c3
  clear c1 c2 c3
  have hB : Below w.heap.size w w := below_self w
  have hz : a.toList.isEmpty = decide (a.size = 0) := by
    by_cases h0 : a.size = 0
    · rw [str_none h0, decide_eq_true h0]
    · rw [str_some h0, decide_eq_false h0]
  obtain ⟨Jc, Jf, Jl⟩ := h.facts
  go_enter Try.func64, Try.ntmps64
  go_wp2_with fail
  refine (C1.out _).mono ?_
  rintro r w1 ⟨rfl, hb⟩; dsimp only
  clear Jc Jf Jl
  replace h := h.past hb
  replace hB := below_to hB hb
  clear hb
  obtain ⟨Jc, Jf, Jl⟩ := h.facts
  cases b1 with
  | false =>
    go_wp2
    go_ret
    exact ⟨by simp, hB⟩
  | true =>
    go_wp2_with fail
    refine (C2.out _).mono ?_
    rintro r w2 ⟨rfl, hb⟩; dsimp only
    clear Jc Jf Jl
    replace h := h.past hb
    replace hB := below_to hB hb
    clear hb
    obtain ⟨Jc, Jf, Jl⟩ := h.facts
    cases b2 with
    | false =>
      go_wp2
      go_ret
      exact ⟨by simp, hB⟩
    | true =>
      by_cases h0 : a.size = 0
      · rw [decide_eq_true h0] at hz
        go_wp2
        go_ret
        exact ⟨by simp [h0], hB⟩
      · rw [decide_eq_false h0] at hz
        go_wp2_with fail
        refine (C3.out _).mono ?_
        rintro r w3 ⟨rfl, hb⟩; dsimp only
        replace hB := below_to hB hb
        go_wp2
        go_ret
        exact ⟨by simp [h0], hB⟩
set_option maxHeartbeats 2000000 in
theorem spec_Job2 (B : Nat) (j : JobSpec) (w : World) (h : Blk w B 68 j.cs) :
    Calls Try.prog 65 #[.pointer (some ⟨B, 0, none⟩)] w fun e w' => e = .returned (.bool (bandB j.band)) ∧ Below w.heap.size w w' := by
  obtain ⟨n, u, b, c, ⟨l0, l1, l2⟩, a, ⟨bk, bw⟩⟩ := j
  unfold bandB
  obtain ⟨Jc, Jf, Jl⟩ := h.facts
  cases hb : (b == 1)
  all_goals
    go_enter Try.func65, Try.ntmps65
    go_wp2
    go_ret
    exact ⟨by simp [hb], below_self w⟩
set_option maxHeartbeats 2000000 in
theorem spec_Job3 (B : Nat) (j : JobSpec) (w : World) (h : Blk w B 68 j.cs) :
    Calls Try.prog 68 #[.pointer (some ⟨B, 0, none⟩)] w fun e w' => e = .returned (.bool (mayBud j.budget)) ∧ Below w.heap.size w w' := by
  have C1 := Lib.hid (spec_May j.budget)
  generalize mayBud j.budget = m at *
  obtain ⟨n, u, b, c, ⟨l0, l1, l2⟩, a, ⟨bk, bw⟩⟩ := j
  obtain ⟨Jc, Jf, Jl⟩ := h.facts
  go_enter Try.func68, Try.ntmps68
  go_wp2_with fail
  refine (C1.out _).mono ?_
  rintro r w1 ⟨rfl, hb⟩; dsimp only
  go_wp2_with fail
  go_ret
  exact ⟨rfl, hb⟩
theorem asks_job1 {B : Nat} {j : JobSpec} {w : World} (h : Blk w B 68 j.cs) : Asks w (.func (.func 64) #[] #[.pointer (some ⟨B, 0, none⟩)]) (namesB j) :=
  ⟨_, _, rfl, fun args W => enters_of Try.func64 (by kernel_rfl) rfl args W, fun W hb => spec_Job1 B j W (h.past hb)⟩
theorem asks_job2 {B : Nat} {j : JobSpec} {w : World} (h : Blk w B 68 j.cs) : Asks w (.func (.func 65) #[] #[.pointer (some ⟨B, 0, none⟩)]) (bandB j.band) :=
  ⟨_, _, rfl, fun args W => enters_of Try.func65 (by kernel_rfl) rfl args W, fun W hb => spec_Job2 B j W (h.past hb)⟩
theorem asks_job3 {B : Nat} {j : JobSpec} {w : World} (h : Blk w B 68 j.cs) : Asks w (.func (.func 68) #[] #[.pointer (some ⟨B, 0, none⟩)]) (mayBud j.budget) :=
  ⟨_, _, rfl, fun args W => enters_of Try.func68 (by kernel_rfl) rfl args W, fun W hb => spec_Job3 B j W (h.past hb)⟩
theorem asks_counted {B : Nat} {n : Int} {w : World} (h : Blk w B 3 #[.int .i64 n]) : Asks w (.func (.func 86) #[] #[.pointer (some ⟨B, 0, none⟩)]) (cntB n) :=
  ⟨_, _, rfl, fun args W => enters_of Try.func86 (by kernel_rfl) rfl args W, fun W hb => spec_counted1 B n W (h.past hb)⟩
theorem asks_limited {B : Nat} {v : Vec} {w : World} (h : Blk w B 66 #[.int .i64 v.cpu, .int .i64 v.mem, .int .i64 v.disk]) : Asks w (.func (.func 87) #[] #[.pointer (some ⟨B, 0, none⟩)]) (limB v) :=
  ⟨_, _, rfl, fun args W => enters_of Try.func87 (by kernel_rfl) rfl args W, fun W hb => spec_limited1 B v W (h.past hb)⟩
end Go.Proofs.Ythlninijnbmjfaa
