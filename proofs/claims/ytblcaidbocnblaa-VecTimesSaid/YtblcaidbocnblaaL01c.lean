/- The law VecTimes of reevelaw01, walked. Conditions: the numbers are of their kinds. -/
import Derived.Test.YtblcaidbocnblaaL01b
namespace Go.Proofs.Ytblcaidbocnblaa
open Go.RowKit

theorem sumC_rep (f : Vec → Int) (a : Vec) : ∀ n : Nat, sumC f (List.replicate n a) = f a * n
  | 0 => by simp [sumC]
  | n + 1 => by
    have ih := sumC_rep f a n
    have e : sumC f (List.replicate (n + 1) a) = f a + sumC f (List.replicate n a) := by simp [sumC, List.replicate_succ]
    rw [e, ih, Int.natCast_succ, Int.mul_add]
    omega
theorem sumV_rep (a : Vec) (n : Nat) : sumV (List.replicate n a) = timesV a n := by
  unfold sumV timesV eachV
  simp only [sumC_rep]
theorem times_neg (a : Vec) (n : Int) (h : (timesV a n).2 = 0) : timesV a (-n) = subV zeroV (timesV a n).1 := by
  rcases eachV_cases (· * ·) a ⟨n, n, n⟩ with k | k
  · obtain ⟨_, k2, _⟩ := k
    show eachV (· * ·) a ⟨-n, -n, -n⟩ = eachV (· - ·) zeroV (eachV (· * ·) a ⟨n, n, n⟩).1
    rw [k2]
    have e : ∀ x : Int, x * -n = 0 - x * n := fun x => by rw [Int.mul_neg]; omega
    simp only [eachV, zeroV, e]
    rfl
  · have : (timesV a n).2 = 9 := congrArg Prod.snd k
    omega
def rowOf (a : Vec) : List Value := [.int .i64 a.cpu, .int .i64 a.mem, .int .i64 a.disk]
theorem vecInfo : (Try.prog.info? 25).map (fun i => (i.zero, i.size, i.bytes)) = some (some (.agg #[.int .i64 0, .int .i64 0, .int .i64 0]), 3, 24) := by kernel_rfl
def rows (a : Vec) : Nat → List Value
  | 0 => []
  | n + 1 => rows a n ++ rowOf a
theorem rows_len (a : Vec) : ∀ n, (rows a n).length = n * 3
  | 0 => rfl
  | n + 1 => by simp [rows, rows_len a n, rowOf]; omega
theorem rows_get (a : Vec) : ∀ n k, k < n → (rows a n)[k * 3]? = some (.int .i64 a.cpu) ∧ (rows a n)[k * 3 + 1]? = some (.int .i64 a.mem) ∧ (rows a n)[k * 3 + 2]? = some (.int .i64 a.disk)
  | 0, k, h => by omega
  | n + 1, k, h => by
    have hl := rows_len a n
    unfold rows
    by_cases hk : k < n
    · obtain ⟨h0, h1, h2⟩ := rows_get a n k hk
      rw [List.getElem?_append_left (by omega), List.getElem?_append_left (by omega), List.getElem?_append_left (by omega)]
      exact ⟨h0, h1, h2⟩
    · obtain rfl : k = n := by omega
      rw [List.getElem?_append_right (by omega), List.getElem?_append_right (by omega), List.getElem?_append_right (by omega), hl]
      simp [rowOf]
/-- An own row of n times a vec is a list of vecs. -/
theorem own_vecs {w : World} {base n : Nat} {v : Value} {a : Vec} (h : w.ownsRow base 25 3 v n (rows a n)) : ∃ A c, v = .slice A n c ∧ VecsIn w A (List.replicate n a) := by
  obtain ⟨hl, ⟨rfl, rfl⟩ | ⟨g, cap, cur, rfl, hg, hh, hn, hm, hs, ht⟩⟩ := h
  · exact ⟨none, 0, rfl, fun h => absurd rfl h⟩
  · refine ⟨_, _, rfl, fun _ => ⟨g, 0, rfl, ?_, fun i hi => ?_⟩⟩
    · rcases Nat.lt_or_ge g w.heap.size with h | h
      · exact h
      · rw [Array.getElem?_eq_none h] at hh; cases hh
    · rw [List.length_replicate] at hi
      have hb : Blk w g 25 cur := hh
      obtain ⟨r0, r1, r2⟩ := rows_get a n i hi
      have e : ∀ j u, j < n * 3 → (rows a n)[j]? = some u → cur[j]? = some u := fun j u hj hu => by
        rw [← ht, List.getElem?_take_of_lt hj] at hu
        simpa using hu
      simp only [List.getElem_replicate, Nat.zero_add]
      exact ⟨by rw [hb.cell]; exact e _ _ (by omega) r0, by rw [hb.cell]; exact e _ _ (by omega) r1, by rw [hb.cell]; exact e _ _ (by omega) r2⟩

theorem own_row {w : World} {base e size n : Nat} {v : Value} {xs : List Value} (h : w.ownsRow base e size v n xs) : ∀ r, Value.ownBlock v = some r → base ≤ r := by
  obtain ⟨_, ⟨rfl, rfl⟩ | ⟨g, cap, cur, rfl, hg, _⟩⟩ := h
  · intro r hr; cases hr
  · intro r hr; simp [Value.ownBlock] at hr; omega
theorem vecs_past {w w' : World} {A : Option Addr} {xs : List Vec} (h : VecsIn w A xs) (hb : Below w.heap.size w w') : VecsIn w' A xs := fun hne => by
  obtain ⟨b, off, hA, hlt, hc⟩ := h hne
  refine ⟨b, off, hA, Nat.lt_of_lt_of_le hlt hb.size, fun i hi => ?_⟩
  obtain ⟨h0, h1, h2⟩ := hc i hi
  exact ⟨(hb.cell hlt).trans h0, (hb.cell hlt).trans h1, (hb.cell hlt).trans h2⟩
set_option maxRecDepth 100000 in
set_option maxHeartbeats 4000000 in
theorem VecTimes_walk (a : Vec) (ha : a.ok) (n : Int) (hn : U8 n) (w : World) :
    Calls Try.prog 11 #[a.v, .int .u8 n] w fun e w' => e = .returned (.bool true) ∧ Below w.heap.size w w' := by
  obtain ⟨n0, n1⟩ := hn
  obtain ⟨N, rfl⟩ : ∃ N : Nat, n = N := ⟨n.toNat, by omega⟩
  have al := Lib.hid alive01
  have c1 := vec_Times a N ha (by constructor <;> omega)
  have c2 := fun A k W hr => vec_Sum A N k (List.replicate N a) W (by simp) (by omega) (fun x hx => by rw [(List.mem_replicate.1 hx).2]; exact ha) hr
  rw [sumV_rep] at c2
  have c3 := vec_Times a (-N) ha (by constructor <;> omega)
  have c4 : (timesV a N).2 = 0 → ∀ W, Calls Try.prog 31 #[zeroV.v, (timesV a N).1.v] W fun e w' => e = .returned (.tuple #[(timesV a (-N)).1.v, .int .i64 (timesV a (-N)).2]) ∧ Below W.heap.size W w' := fun h W => by
    have := vec_Sub zeroV (timesV a N).1 (by decide) (eachV_ok _ _ _) W
    rw [← times_neg a N h] at this
    exact this
  have c5 := vec_Sub zeroV (timesV a N).1 (by decide) (eachV_ok _ _ _)
  generalize timesV a N = t at *
  generalize timesV a (-N) = u at *
  generalize subV zeroV t.1 = s at *
  obtain ⟨⟨t0, t1, t2⟩, t3⟩ := t
  obtain ⟨⟨u0, u1, u2⟩, u3⟩ := u
  obtain ⟨⟨s0, s1, s2⟩, s3⟩ := s
  have C1 := Lib.hid c1
  have C2 := Lib.hid c2
  have C3 := Lib.hid c3
  have C4 := Lib.hid c4
  have C5 := Lib.hid c5
  clear c1 c2 c3 c4 c5
  obtain ⟨i0, hi, hz0, hz1, hz2⟩ := info_parts vecInfo
  obtain ⟨a0, a1, a2⟩ := a
  clear ha
  go_enter Try.func11, Try.ntmps11
  go_wp2_with fail
  go_loopw [5, 6] (fun v i wr => ∃ k : Nat, k ≤ N ∧ i = .int .i64 k ∧ wr.ownsRow (w.heap.size + 1) 25 3 v k (rows ⟨a0, a1, a2⟩ k) ∧ Blk wr w.heap.size 25 #[.int .i64 a0, .int .i64 a1, .int .i64 a2] ∧ Below w.heap.size w wr) (fun _ i _ => N - (intOf i).toNat)
  case atStart => exact ⟨0, Nat.zero_le _, rfl, World.ownsRow_nil _ _ _ _, Blk.new _ _ _, by go_grown⟩
  case round =>
    obtain ⟨k, hk, rfl, hown, hA, hB⟩ := hrel
    obtain ⟨Ac, Af, Al⟩ := hA.facts
    have hsz := hB.size
    by_cases hlt : k < N
    · go_wp2_with (at_builtin; refine wpList_append_own _ rfl _ _ 22 rfl (w.heap.size + 1) 25 i0 (.agg #[.int .i64 0, .int .i64 0, .int .i64 0]) 3 24 Try.underlying22 hi hz0 hz1 hz2 rfl (by decide) _ _ _ rfl (hown.alloc _) ⟨wr.heap.size, 0, none⟩ 1 1 (rowOf ⟨a0, a1, a2⟩) rfl rfl ?c1 ?c2 ?c3 ?c4 ?c5 ?_)
      case c1 =>
        intro j u hj
        match j, hj with
        | 0, hj => simp [rowOf] at hj; subst hj; simp [Addr.add]
        | 1, hj => simp [rowOf] at hj; subst hj; simp [Addr.add]
        | 2, hj => simp [rowOf] at hj; subst hj; simp [Addr.add]
      case c2 => intro u hu; simp [rowOf] at hu; rcases hu with rfl | rfl | rfl <;> rfl
      case c3 => unfold maxLen; omega
      case c4 => omega
      case c5 => simp; omega
      · intro v' w1 hown' hg _
        have hrow : ∀ r, Value.ownBlock _ = some r → w.heap.size + 1 ≤ r := own_row hown
        have hA' := (hA.alloc _).grown hg (by intro e; have := hrow _ e.symm; omega)
        have hB' := Below.grown (below_own hB _) hg (by simp; omega) (fun r h => by have := hrow r h; omega)
        clear hg hown hA hB Ac Af Al
        go_wp2
        go_roundw
        case rel => exact ⟨k + 1, by omega, by go_num, hown', hA', hB'⟩
        case measure => simp [intOf]; omega
    · obtain rfl : k = N := by omega
      obtain ⟨A, c, rfl, hV⟩ := own_vecs hown
      clear hown hi hz0 hz1 hz2 hlt
      go_wp2_with fail
      refine (C1.out _).mono ?_
      rintro e w1 ⟨rfl, hb⟩; dsimp only
      clear Ac Af Al
      replace hA := hA.past hb
      replace hB := below_to hB hb
      replace hV := vecs_past hV hb
      clear hb
      obtain ⟨Ac, Af, Al⟩ := hA.facts
      go_wp2_with fail
      refine (C2.out A c _ (vecs_past hV (below_own (below_self _) _))).mono ?_
      rintro e w2 ⟨rfl, hb⟩; dsimp only
      clear Ac Af Al hV
      have T := (Blk.new w1 25 #[.int .i64 t0, .int .i64 t1, .int .i64 t2]).past hb
      replace hA := (hA.alloc _).past hb
      replace hB := below_to (below_own hB _) hb
      clear hb
      obtain ⟨Ac, Af, Al⟩ := hA.facts
      obtain ⟨Tc, Tf, Tl⟩ := T.facts
      have q1 := eql_vec
      have q2 := neq_vec
      have q3 := eqV_self
      go_wp2_with fail
      refine (C3.out _).mono ?_
      rintro e w3 ⟨rfl, hb⟩; dsimp only
      clear Ac Af Al Tc Tf Tl
      replace T := (T.alloc _).past hb
      replace hB := below_to (below_own hB _) hb
      clear hb hA
      obtain ⟨Tc, Tf, Tl⟩ := T.facts
      by_cases ht : t3 = 0
      · subst ht
        go_wp2_with fail
        refine (C4.out (by trivial) _).mono ?_
        rintro e w4 ⟨rfl, hb⟩; dsimp only
        have U := (Blk.new w3 25 #[.int .i64 u0, .int .i64 u1, .int .i64 u2]).past hb
        replace hB := below_to (below_own hB _) hb
        clear hb
        obtain ⟨Uc, Uf, Ul⟩ := U.facts
        go_wp2_with fail
        refine (al.out _).mono ?_
        rintro e w5 ⟨rfl, hb⟩; dsimp only
        replace hB := below_to (below_own hB _) hb
        go_wp2_with fail
        go_ret
        exact ⟨by first | rfl | simp, hB⟩
      · have ht' : (t3 == 0) = false := by simpa using ht
        go_wp2_with fail
        refine (C5.out _).mono ?_
        rintro e w4 ⟨rfl, hb⟩; dsimp only
        have U := (Blk.new w3 25 #[.int .i64 u0, .int .i64 u1, .int .i64 u2]).past hb
        replace hB := below_to (below_own hB _) hb
        clear hb
        obtain ⟨Uc, Uf, Ul⟩ := U.facts
        go_wp2_with fail
        refine (al.out _).mono ?_
        rintro e w5 ⟨rfl, hb⟩; dsimp only
        replace hB := below_to (below_own hB _) hb
        go_wp2_with fail
        go_ret
        exact ⟨by first | rfl | simp, hB⟩
end Go.Proofs.Ytblcaidbocnblaa
