/- The contract of vec.Sum. Conditions: the numbers are of their kinds, the list is as long as a list can be. -/
import Derived.Test.YtblcaidbocnblaaVec2
import Derived.Test.YtblcaidbocnblaaK2
namespace Go.Proofs.Ytblcaidbocnblaa
open Go.RowKit

/-- A list of vecs in memory. -/
def VecsIn (w : World) (A : Option Addr) (xs : List Vec) : Prop :=
  xs ≠ [] → ∃ b off, A = some ⟨b, off, none⟩ ∧ b < w.heap.size ∧ ∀ i (h : i < xs.length),
    w.cell? ⟨b, off + i * 3, none⟩ = some (.int .i64 xs[i].cpu) ∧ w.cell? ⟨b, off + i * 3 + 1, none⟩ = some (.int .i64 xs[i].mem) ∧ w.cell? ⟨b, off + i * 3 + 2, none⟩ = some (.int .i64 xs[i].disk)
def sumC (f : Vec → Int) (xs : List Vec) : Int := (xs.map f).sum
def sumV (xs : List Vec) : Vec × Int :=
  if fits (sumC Vec.cpu xs) && fits (sumC Vec.mem xs) && fits (sumC Vec.disk xs) then (⟨sumC Vec.cpu xs, sumC Vec.mem xs, sumC Vec.disk xs⟩, 0) else (zeroV, 9)
theorem sumC_snoc (f : Vec → Int) (xs : List Vec) (k : Nat) (h : k < xs.length) : sumC f (xs.take (k + 1)) = sumC f (xs.take k) + f xs[k] := by
  unfold sumC
  rw [List.take_succ_eq_append_getElem h, List.map_append, List.sum_append]
  simp

abbrev sixW (a b c : Int) : Array Value := #[.int .u64 (lo a), .int .u64 (hi a), .int .u64 (lo b), .int .u64 (hi b), .int .u64 (lo c), .int .u64 (hi c)]
theorem index_0 (x y z : Value) (w : World) : (Instr.index 57 (.agg #[x, y, z]) (.int .i64 0)).run Try.prog w = .ok x w := by kernel_rfl
theorem index_1 (x y z : Value) (w : World) : (Instr.index 57 (.agg #[x, y, z]) (.int .i64 1)).run Try.prog w = .ok y w := by kernel_rfl
theorem index_2 (x y z : Value) (w : World) : (Instr.index 57 (.agg #[x, y, z]) (.int .i64 2)).run Try.prog w = .ok z w := by kernel_rfl
theorem index6_0 (a b c d e f : Value) (w : World) : (Instr.index 56 (.agg #[a, b, c, d, e, f]) (.int .i64 0)).run Try.prog w = .ok (.agg #[a, b]) w := by kernel_rfl
theorem index6_1 (a b c d e f : Value) (w : World) : (Instr.index 56 (.agg #[a, b, c, d, e, f]) (.int .i64 1)).run Try.prog w = .ok (.agg #[c, d]) w := by kernel_rfl
theorem index6_2 (a b c d e f : Value) (w : World) : (Instr.index 56 (.agg #[a, b, c, d, e, f]) (.int .i64 2)).run Try.prog w = .ok (.agg #[e, f]) w := by kernel_rfl
theorem sumC_bd (f : Vec → Int) (h : ∀ x : Vec, x.ok → I64 (f x)) : ∀ (xs : List Vec), (∀ x ∈ xs, x.ok) → -(9223372036854775808 * (xs.length : Int)) ≤ sumC f xs ∧ sumC f xs ≤ 9223372036854775808 * xs.length
  | [], _ => by simp [sumC]
  | x :: xs, hx => by
    have ih := sumC_bd f h xs (fun y hy => hx y (List.mem_cons_of_mem _ hy))
    have h0 := h x (hx x List.mem_cons_self)
    obtain ⟨a, b⟩ := h0
    have e : sumC f (x :: xs) = f x + sumC f xs := by simp [sumC]
    rw [e, List.length_cons]
    omega
theorem sumC_128 (f : Vec → Int) (h : ∀ x : Vec, x.ok → I64 (f x)) (xs : List Vec) (hx : ∀ x ∈ xs, x.ok) (hn : xs.length ≤ 4611686018427387904) : I128 (sumC f xs) := by
  have := sumC_bd f h xs hx
  constructor <;> omega
set_option maxHeartbeats 1000000 in
theorem vec_Sum (A : Option Addr) (n c : Nat) (xs : List Vec) (w : World) (hl : xs.length = n) (hn : n ≤ 4611686018427387904) (hok : ∀ x ∈ xs, x.ok) (hr : VecsIn w A xs) :
    Calls Try.prog 13 #[.slice A n c] w fun e w' => e = .returned (.tuple #[(sumV xs).1.v, .int .i64 (sumV xs).2]) ∧ Below w.heap.size w w' := by
  subst hl
  have Hr := Lib.hid hr
  have Hok := Lib.hid hok
  clear hr hok
  have i0 := index_0
  have i1 := index_1
  have i2 := index_2
  go_enter Try.func13, Try.ntmps13
  go_wp2
  go_loopw [16] (fun i wr => ∃ k : Nat, k ≤ xs.length ∧ i = .int .i64 k ∧ Blk wr (w.heap.size + 1) 56 (sixW (sumC Vec.cpu (xs.take k)) (sumC Vec.mem (xs.take k)) (sumC Vec.disk (xs.take k))) ∧ Blk wr w.heap.size 25 #[.int .i64 0, .int .i64 0, .int .i64 0] ∧ Below w.heap.size w wr) (fun i _ => xs.length - (intOf i).toNat)
  case atStart => exact ⟨0, Nat.zero_le _, rfl, Blk.new1 _ _ _ _, (Blk.new _ _ _).alloc _, by go_grown⟩
  case round =>
    obtain ⟨k, hk, rfl, hs, hz, hB⟩ := hrel
    obtain ⟨hsc, hsf, hsl⟩ := hs.facts
    by_cases hlt : k < xs.length
    · obtain ⟨b, off, rfl, hb, hcell⟩ := Hr.out (by intro e; rw [e] at hlt; simp at hlt)
      obtain ⟨k0, k1, k2⟩ := hcell k hlt
      have j0 := (hB.cell (p := ⟨b, off + k * 3, none⟩) hb).trans k0
      have j1 := (hB.cell (p := ⟨b, off + k * 3 + 1, none⟩) hb).trans k1
      have j2 := (hB.cell (p := ⟨b, off + k * 3 + 2, none⟩) hb).trans k2
      clear k0 k1 k2 hcell
      obtain ⟨x0, x1, x2⟩ := Hok.out xs[k] (List.getElem_mem hlt)
      have e0 := Lib.hid (sumC_snoc Vec.cpu xs k hlt)
      have e1 := Lib.hid (sumC_snoc Vec.mem xs k hlt)
      have e2 := Lib.hid (sumC_snoc Vec.disk xs k hlt)
      generalize xs[k].cpu = y0 at *
      generalize xs[k].mem = y1 at *
      generalize xs[k].disk = y2 at *
      generalize sumC Vec.cpu (xs.take k) = s0 at *
      generalize sumC Vec.mem (xs.take k) = s1 at *
      generalize sumC Vec.disk (xs.take k) = s2 at *
      go_wp2_with fail
      obtain ⟨wo, rfl⟩ : ∃ wo : World, wo = wr := ⟨_, rfl⟩
      go_loopw [27] (fun i wi => ∃ j : Int, 0 ≤ j ∧ j ≤ 3 ∧ i = .int .i64 j ∧ Blk wi (w.heap.size + 1) 56 (sixW (if 0 < j then s0 + y0 else s0) (if 1 < j then s1 + y1 else s1) (if 2 < j then s2 + y2 else s2)) ∧ Blk wi w.heap.size 25 #[.int .i64 0, .int .i64 0, .int .i64 0] ∧ Below w.heap.size w wi) (fun i _ => (3 - intOf i).toNat)
      case atStart => exact ⟨0, by omega, by omega, rfl, hs.alloc _, hz.alloc _, below_own hB _⟩
      case round =>
        clear hs hz hB hsc hsf hsl
        obtain ⟨j, hj0, hj, rfl, hs, hz, hB⟩ := hrel
        have hj' : j = 0 ∨ j = 1 ∨ j = 2 ∨ j = 3 := by omega
        rcases hj' with rfl | rfl | rfl | rfl
        · have hs : Blk wr (w.heap.size + 1) 56 (sixW s0 s1 s2) := hs
          obtain ⟨hsc, hsf, hsl⟩ := hs.facts
          go_wp2_with fail
          refine wp_region_ext_tail 8 (by kernel_rfl) (by kernel_rfl) ?_
          simp only [List.take_succ_cons, List.take_zero, List.drop_succ_cons, List.drop_zero]
          repeat (go_big_quiet_step ((first | (go_at_call 37; with_reducible refine ext_of (vec_of _ ?_ _); with_reducible assumption) | (go_at_call 36; exact ext_of (wide_plus _ _ _)))))
          refine wpQuiet_nil ?_
          intro w1 hx
          obtain ⟨x, rfl⟩ := hx
          have hB1 := below_to hB (extn_below _ x)
          go_wp2
          exact ⟨⟨1, by omega, by omega, rfl, ((hs.past (extn_below _ x)).put 0 _ rfl).put 1 _ rfl, ((hz.past (extn_below _ x)).far (by simp) _).far (by simp) _, by go_grown⟩, by decide⟩
        · have hs : Blk wr (w.heap.size + 1) 56 (sixW (s0 + y0) s1 s2) := hs
          obtain ⟨hsc, hsf, hsl⟩ := hs.facts
          go_wp2_with fail
          refine wp_region_ext_tail 8 (by kernel_rfl) (by kernel_rfl) ?_
          simp only [List.take_succ_cons, List.take_zero, List.drop_succ_cons, List.drop_zero]
          repeat (go_big_quiet_step ((first | (go_at_call 37; with_reducible refine ext_of (vec_of _ ?_ _); with_reducible assumption) | (go_at_call 36; exact ext_of (wide_plus _ _ _)))))
          refine wpQuiet_nil ?_
          intro w1 hx
          obtain ⟨x, rfl⟩ := hx
          have hB1 := below_to hB (extn_below _ x)
          go_wp2
          exact ⟨⟨2, by omega, by omega, rfl, ((hs.past (extn_below _ x)).put 2 _ rfl).put 3 _ rfl, ((hz.past (extn_below _ x)).far (by simp) _).far (by simp) _, by go_grown⟩, by decide⟩
        · have hs : Blk wr (w.heap.size + 1) 56 (sixW (s0 + y0) (s1 + y1) s2) := hs
          obtain ⟨hsc, hsf, hsl⟩ := hs.facts
          go_wp2_with fail
          refine wp_region_ext_tail 8 (by kernel_rfl) (by kernel_rfl) ?_
          simp only [List.take_succ_cons, List.take_zero, List.drop_succ_cons, List.drop_zero]
          repeat (go_big_quiet_step ((first | (go_at_call 37; with_reducible refine ext_of (vec_of _ ?_ _); with_reducible assumption) | (go_at_call 36; exact ext_of (wide_plus _ _ _)))))
          refine wpQuiet_nil ?_
          intro w1 hx
          obtain ⟨x, rfl⟩ := hx
          have hB1 := below_to hB (extn_below _ x)
          go_wp2
          exact ⟨⟨3, by omega, by omega, rfl, ((hs.past (extn_below _ x)).put 4 _ rfl).put 5 _ rfl, ((hz.past (extn_below _ x)).far (by simp) _).far (by simp) _, by go_grown⟩, by decide⟩
        · have hs : Blk wr (w.heap.size + 1) 56 (sixW (s0 + y0) (s1 + y1) (s2 + y2)) := hs
          go_wp2
          go_roundw
          case rel => exact ⟨k + 1, by omega, by go_num, by rw [e0.out, e1.out, e2.out]; exact hs, hz, hB⟩
          case measure => simp [intOf]; omega
    · have hk' : k = xs.length := by omega
      subst hk'
      rw [List.take_length] at hs
      clear hsc hsf hsl
      have o0 := sumC_128 Vec.cpu (fun x hx => hx.1) xs Hok.out hn
      have o1 := sumC_128 Vec.mem (fun x hx => hx.2.1) xs Hok.out hn
      have o2 := sumC_128 Vec.disk (fun x hx => hx.2.2) xs Hok.out hn
      have HV : Hid (sumV xs = if fits (sumC Vec.cpu xs) && fits (sumC Vec.mem xs) && fits (sumC Vec.disk xs) then (⟨sumC Vec.cpu xs, sumC Vec.mem xs, sumC Vec.disk xs⟩, 0) else (zeroV, 9)) := rfl
      have GG : ∃ s0 s1 s2, I128 s0 ∧ I128 s1 ∧ I128 s2 ∧ Blk wr (w.heap.size + 1) 56 (sixW s0 s1 s2) ∧ Hid (sumV xs = if fits s0 && fits s1 && fits s2 then (⟨s0, s1, s2⟩, 0) else (zeroV, 9)) := ⟨_, _, _, o0, o1, o2, hs, HV⟩
      clear hs HV o0 o1 o2
      obtain ⟨s0, s1, s2, o0, o1, o2, hs, HV⟩ := GG
      obtain ⟨hsc, hsf, hsl⟩ := hs.facts
      have i6 := index6_0
      have i7 := index6_1
      have i8 := index6_2
      go_wp2_with fail
      have hz0 := hz.alloc (.cells #[.int .i64 0, .int .i64 0, .int .i64 0] 57)
      have hn0 := Blk.new wr 57 #[.int .i64 0, .int .i64 0, .int .i64 0]
      have hB0 := below_own hB (.cells #[.int .i64 0, .int .i64 0, .int .i64 0] 57)
      have hBn : w.heap.size < wr.heap.size := hz.lt
      clear hs hz hB hsc hsf hsl
      obtain ⟨Bn, eBn⟩ : ∃ Bn, wr.heap.size = Bn := ⟨_, rfl⟩
      rw [eBn] at hn0 hBn ⊢
      have EB := Lib.hid eBn
      clear eBn
      go_loopw [42] (fun i wi => ∃ j : Int, 0 ≤ j ∧ j ≤ 3 ∧ i = .int .i64 j ∧ Blk wi Bn 57 #[.int .i64 (if 0 < j then s0 else 0), .int .i64 (if 1 < j then s1 else 0), .int .i64 (if 2 < j then s2 else 0)] ∧ Blk wi w.heap.size 25 #[.int .i64 0, .int .i64 0, .int .i64 0] ∧ Below w.heap.size w wi ∧ (0 < j → fits s0 = true) ∧ (1 < j → fits s1 = true) ∧ (2 < j → fits s2 = true)) (fun i _ => (3 - intOf i).toNat)
      case atStart => exact ⟨0, by omega, by omega, rfl, hn0, hz0, hB0, by omega, by omega, by omega⟩
      case round =>
        clear hz0 hn0 hB0
        obtain ⟨j, hj0, hj, rfl, hn, hz, hB, f0, f1, f2⟩ := hrel
        have hj' : j = 0 ∨ j = 1 ∨ j = 2 ∨ j = 3 := by omega
        rcases hj' with rfl | rfl | rfl | rfl
        · have hn : Blk wr Bn 57 #[.int .i64 0, .int .i64 0, .int .i64 0] := hn
          obtain ⟨hnc, hnf, hnl⟩ := hn.facts
          cases hf : fits s0 with
          | false =>
            go_wp2_with fail
            refine (wide_small _ (by assumption) _).mono ?_
            (rintro e w1 ⟨rfl, hb⟩; have hz1 := (hz.alloc _).past hb; obtain ⟨hzc1, hzf1, hzl1⟩ := hz1.facts; have hB1 : Below w.heap.size w w1 := below_to (below_own hB _) hb; clear hb hz1)
            go_wp2
            refine bodyPost_ret (v := .tuple #[.agg #[.int .i64 0, .int .i64 0, .int .i64 0], .int .i64 9]) (by simp [results, Try.results13, go_sem, hzc1]) rfl ?_
            exact ⟨by simp [HV.out, hf, zeroV], by go_grown⟩
          | true =>
            have ew := Lib.hid (fits_wrap hf)
            go_wp2_with fail
            refine (wide_small _ (by assumption) _).mono ?_
            (rintro e w1 ⟨rfl, hb⟩; have hz1 := (hz.alloc _).past hb; have hn1 := (hn.alloc _).past hb; obtain ⟨hnc1, hnf1, hnl1⟩ := hn1.facts; have hB1 : Below w.heap.size w w1 := below_to (below_own hB _) hb; clear hb)
            go_wp2
            exact ⟨⟨1, by omega, by omega, rfl, (hn1.put 0 _ (by rw [ew.out]; rfl)), hz1.far (by show _ ≠ Bn; omega) _, by go_grown, fun _ => trivial, by omega, by omega⟩, by decide⟩
        · have hn : Blk wr Bn 57 #[.int .i64 s0, .int .i64 0, .int .i64 0] := hn
          obtain ⟨hnc, hnf, hnl⟩ := hn.facts
          cases hf : fits s1 with
          | false =>
            go_wp2_with fail
            refine (wide_small _ (by assumption) _).mono ?_
            (rintro e w1 ⟨rfl, hb⟩; have hz1 := (hz.alloc _).past hb; obtain ⟨hzc1, hzf1, hzl1⟩ := hz1.facts; have hB1 : Below w.heap.size w w1 := below_to (below_own hB _) hb; clear hb hz1)
            go_wp2
            refine bodyPost_ret (v := .tuple #[.agg #[.int .i64 0, .int .i64 0, .int .i64 0], .int .i64 9]) (by simp [results, Try.results13, go_sem, hzc1]) rfl ?_
            exact ⟨by simp [HV.out, hf, zeroV], by go_grown⟩
          | true =>
            have ew := Lib.hid (fits_wrap hf)
            go_wp2_with fail
            refine (wide_small _ (by assumption) _).mono ?_
            (rintro e w1 ⟨rfl, hb⟩; have hz1 := (hz.alloc _).past hb; have hn1 := (hn.alloc _).past hb; obtain ⟨hnc1, hnf1, hnl1⟩ := hn1.facts; have hB1 : Below w.heap.size w w1 := below_to (below_own hB _) hb; clear hb)
            go_wp2
            exact ⟨⟨2, by omega, by omega, rfl, (hn1.put 1 _ (by rw [ew.out]; rfl)), hz1.far (by show _ ≠ Bn; omega) _, by go_grown, fun _ => f0 (by omega), fun _ => trivial, by omega⟩, by decide⟩
        · have hn : Blk wr Bn 57 #[.int .i64 s0, .int .i64 s1, .int .i64 0] := hn
          obtain ⟨hnc, hnf, hnl⟩ := hn.facts
          cases hf : fits s2 with
          | false =>
            go_wp2_with fail
            refine (wide_small _ (by assumption) _).mono ?_
            (rintro e w1 ⟨rfl, hb⟩; have hz1 := (hz.alloc _).past hb; obtain ⟨hzc1, hzf1, hzl1⟩ := hz1.facts; have hB1 : Below w.heap.size w w1 := below_to (below_own hB _) hb; clear hb hz1)
            go_wp2
            refine bodyPost_ret (v := .tuple #[.agg #[.int .i64 0, .int .i64 0, .int .i64 0], .int .i64 9]) (by simp [results, Try.results13, go_sem, hzc1]) rfl ?_
            exact ⟨by simp [HV.out, hf, zeroV], by go_grown⟩
          | true =>
            have ew := Lib.hid (fits_wrap hf)
            go_wp2_with fail
            refine (wide_small _ (by assumption) _).mono ?_
            (rintro e w1 ⟨rfl, hb⟩; have hz1 := (hz.alloc _).past hb; have hn1 := (hn.alloc _).past hb; obtain ⟨hnc1, hnf1, hnl1⟩ := hn1.facts; have hB1 : Below w.heap.size w w1 := below_to (below_own hB _) hb; clear hb)
            go_wp2
            exact ⟨⟨3, by omega, by omega, rfl, (hn1.put 2 _ (by rw [ew.out]; rfl)), hz1.far (by show _ ≠ Bn; omega) _, by go_grown, fun _ => f0 (by omega), fun _ => f1 (by omega), fun _ => trivial⟩, by decide⟩
        · have hn : Blk wr Bn 57 #[.int .i64 s0, .int .i64 s1, .int .i64 s2] := hn
          obtain ⟨hnc, hnf, hnl⟩ := hn.facts
          obtain ⟨hzc1, hzf1, hzl1⟩ := hz.facts
          have f0 := f0 (by omega)
          have f1 := f1 (by omega)
          have f2 := f2 (by omega)
          go_wp2
          refine bodyPost_ret (v := .tuple #[.agg #[.int .i64 s0, .int .i64 s1, .int .i64 s2], .int .i64 0]) (by simp [results, Try.results13, go_sem, hzc1]) rfl ?_
          exact ⟨by simp [HV.out, f0, f1, f2], by go_grown⟩
end Go.Proofs.Ytblcaidbocnblaa
