/- Windows: Add, walked. Conditions: the list is in memory. -/
import Derived.Test.YthlninijnbmjfaaWin7
namespace Go.Proofs.Ythlninijnbmjfaa
open Go.RowKit Go.Shelf

/-- A list of numbers that comes back. -/
def IntsOut (w : World) (v : Value) (ys : List Int) : Prop := ∃ A c, v = .slice A ys.length c ∧ IntsIn w A ys
theorem IntsOut.nil (w : World) : IntsOut w (.slice none 0 0) [] := ⟨none, 0, rfl, fun h => absurd rfl h⟩
theorem one_num (W : World) (x : Int) : ∀ (j : Nat) (u : Value), [Value.int .i64 x][j]? = some u → (W.alloc (.cells #[.int .i64 x] 2)).cell? ((⟨W.heap.size, 0, none⟩ : Addr).add j) = some u := by
  intro j u hj
  match j, hj with
  | 0, hj => simp at hj; subst hj; simp [Addr.add]
set_option maxRecDepth 100000 in
set_option maxHeartbeats 2000000 in
theorem w_Add (b : Budget) (A : Option Addr) (n c : Nat) (now : Int) (xs : List Int) (hl : xs.length = n) (hn : n ≤ 1000000) (w : World) (hA : IntsIn w A xs) :
    Calls Try.prog 22 #[b.v, .slice A n c, .int .i64 now] w fun r w' => ∃ v, r = .returned (.tuple #[v, .int .i64 (addR b xs now).2]) ∧ IntsOut w' v (addR b xs now).1 ∧ Below w.heap.size w w' := by
  have C1 := Lib.hid (fun w hA => w_may b A n c now xs hl hn w hA)
  have C2 := Lib.hid (fun w hA => w_Allow b A n c now xs hl hn w hA)
  have hwin : mayW b xs now = true → winB b.window now = true := fun h => by
    unfold mayW at h
    simp only [Bool.and_eq_true] at h
    unfold mayBud at h
    unfold winB
    simp only [Bool.and_eq_true] at h ⊢
    exact ⟨h.1.2.2.1, h.1.2.2.2, h.2.1⟩
  have HA := Lib.hid hA
  clear hA
  unfold addR
  obtain ⟨i0, hi, hz0, hz1, hz2⟩ := info_parts info_i64
  obtain ⟨bk, bw⟩ := b
  dsimp only at hwin ⊢
  replace hwin := Lib.hid hwin
  generalize mayW ⟨bk, bw⟩ xs now = p at *
  generalize allowW ⟨bk, bw⟩ xs now = q at *
  have hM := Blk.new w 49 #[.int .i64 bk, .int .i64 bw]
  have hW : Below w.heap.size w (w.alloc (.cells #[.int .i64 bk, .int .i64 bw] 49)) := by go_grown
  go_enter Try.func22, Try.ntmps22
  go_wp2_with fail
  refine (C1.out _ (ints_past HA.out hW)).mono ?_
  rintro r w1 ⟨rfl, hbw⟩; dsimp only
  replace hM := Blk.past hM hbw
  replace hW := below_to hW hbw
  clear hbw
  cases p
  · clear hM
    go_wp2_with fail
    refine bodyPost_ret (v := .tuple #[.slice none 0 0, .int .i64 2]) (by simp [results, Try.results22, go_sem]) rfl ?_
    exact ⟨.slice none 0 0, by simp, by simpa using IntsOut.nil _, hW⟩
  have m0 : w1.cell? ⟨w.heap.size, 0, none⟩ = some (.int .i64 bk) := hM.cell 0
  have m1 : w1.cell? ⟨w.heap.size, 1, none⟩ = some (.int .i64 bw) := hM.cell 1
  go_wp2_with fail
  refine (C2.out _ (ints_past HA.out hW)).mono ?_
  rintro r w2 ⟨rfl, hbw⟩; dsimp only
  replace hM := Blk.past hM hbw
  replace hW := below_to hW hbw
  clear hbw m0 m1
  cases q
  · clear hM
    go_wp2_with fail
    refine bodyPost_ret (v := .tuple #[.slice none 0 0, .int .i64 222]) (by simp [results, Try.results22, go_sem]) rfl ?_
    exact ⟨.slice none 0 0, by simp, by simpa using IntsOut.nil _, hW⟩
  have m1 : w2.cell? ⟨w.heap.size, 1, none⟩ = some (.int .i64 bw) := hM.cell 1
  go_wp2_with fail
  refine (w_within _ _ _ _ _ _).mono ?_
  rintro r w3 ⟨rfl, rfl⟩; dsimp only
  obtain ⟨W9, hW9, c1, c2, c3, hs9, hb9⟩ := three_boxes w2 50 2 2 (.slice A n c) (.int .i64 bw) (.int .i64 now)
  rw [← hW9]
  clear hW9 m1 hM hs9
  replace hW : Below w.heap.size w W9 := below_to hW hb9
  clear hb9
  generalize w2.heap.size = g at *
  go_wp2_with fail
  have hsz9 := hW.size
  refine (w_Collect g (g + 1 + 1) (g + 1) A n c bw now xs hl hn (hwin.out (by first | trivial | rfl)) W9 (ints_past HA.out hW) c1 c3 c2).mono ?_
  rintro r w4 ⟨v, rfl, hown, hbw⟩; dsimp only
  have hlen := wit_len bw now xs
  have hsz := hbw.size
  replace hW := below_to hW hbw
  have hsz2 := hW.size
  clear hbw c1 c2 c3 C1 C2 hwin
  have hns := Lib.hid (nums_snoc (wit bw now xs) now)
  have hlt := fun r hr => (hown.lt r hr)
  go_wp2_with (at_builtin; refine wpList_append_own _ rfl _ _ 50 rfl (W9.heap.size + 1) 2 i0 (.int .i64 0) 1 8 Try.underlying50 hi hz0 hz1 hz2 rfl (by decide) _ _ _ rfl (hown.alloc _) ⟨w4.heap.size, 0, none⟩ 1 1 [.int .i64 now] rfl rfl ?c1 ?c2 ?c3 ?c4 ?c5 ?_)
  case c1 => exact one_num w4 now
  case c2 => intro u hu; simp at hu; subst hu; rfl
  case c3 => unfold maxLen; omega
  case c4 => omega
  case c5 => simp; omega
  intro v' w5 hown' hg _
  have hlt' : ∀ r, v.ownBlock = some r → w.heap.size ≤ r := fun r hr => by have := (hlt r hr).1; omega
  replace hW := Below.grown (below_own hW _) hg (by simp; omega) hlt'
  obtain ⟨A', c', rfl, hA'⟩ := own_ints (xs := wit bw now xs ++ [now]) (by rw [hns.out]; exact hown') (by simp)
  clear hg hown' hown hlt hlt'
  go_wp2
  refine bodyPost_ret (v := .tuple #[.slice A' ((wit bw now xs).length + 1) c', .int .i64 0]) (by simp [results, Try.results22, go_sem]) rfl ?_
  exact ⟨_, rfl, ⟨A', c', by simp, hA'⟩, hW⟩
end Go.Proofs.Ythlninijnbmjfaa
