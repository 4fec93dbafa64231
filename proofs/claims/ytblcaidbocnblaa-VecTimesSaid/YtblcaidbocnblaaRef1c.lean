/- The contract of reeveref01.Sum. Conditions: the numbers are of their kinds, the list is no longer than a million. -/
import Derived.Test.YtblcaidbocnblaaRef1b
namespace Go.Proofs.Ytblcaidbocnblaa
open Go.RowKit

theorem sumC_mid (f : Vec → Int) (h : ∀ x : Vec, x.ok → I64 (f x)) (xs : List Vec) (k : Nat) (hx : ∀ x ∈ xs, x.ok) (hn : xs.length ≤ 1048576) : Mid (sumC f (xs.take k)) := by
  have := sumC_bd f h (xs.take k) (fun x hx' => hx x (List.mem_of_mem_take hx'))
  have hl : (xs.take k).length ≤ xs.length := by simp; omega
  constructor <;> omega
set_option maxHeartbeats 1000000 in
theorem ref_Sum (A : Option Addr) (n c : Nat) (xs : List Vec) (w : World) (hl : xs.length = n) (hn : n ≤ 1048576) (hok : ∀ x ∈ xs, x.ok) (hr : VecsIn w A xs) :
    Calls Try.prog 14 #[.slice A n c] w fun e w' => e = .returned (.tuple #[(sumV xs).1.v, .int .i64 (sumV xs).2]) ∧ Below w.heap.size w w' := by
  subst hl
  have Hr := Lib.hid hr
  have Hok := Lib.hid hok
  clear hr hok
  go_enter Try.func14, Try.ntmps14
  go_wp2
  go_loopw [7] (fun i wr => ∃ k : Nat, k ≤ xs.length ∧ i = .int .i64 k ∧ Blk wr (w.heap.size + 1) 63 #[.int .i64 (sumC Vec.cpu (xs.take k) / 4294967296), .int .i64 (sumC Vec.cpu (xs.take k) % 4294967296)] ∧ Blk wr (w.heap.size + 1 + 1) 63 #[.int .i64 (sumC Vec.mem (xs.take k) / 4294967296), .int .i64 (sumC Vec.mem (xs.take k) % 4294967296)] ∧ Blk wr (w.heap.size + 1 + 1 + 1) 63 #[.int .i64 (sumC Vec.disk (xs.take k) / 4294967296), .int .i64 (sumC Vec.disk (xs.take k) % 4294967296)] ∧ Blk wr w.heap.size 25 #[.int .i64 0, .int .i64 0, .int .i64 0] ∧ Below w.heap.size w wr) (fun i _ => xs.length - (intOf i).toNat)
  case atStart => exact ⟨0, Nat.zero_le _, rfl, ((Blk.new1 _ _ _ _).alloc _).alloc _, (Blk.new2 _ _ _ _ _).alloc _, Blk.new3 _ _ _ _ _ _, (((Blk.new _ _ _).alloc _).alloc _).alloc _, by go_grown⟩
  case round =>
    obtain ⟨k, hk, rfl, h1, h2, h3, hz, hB⟩ := hrel
    by_cases hlt : k < xs.length
    · obtain ⟨b, off, rfl, hb, hcell⟩ := Hr.out (by intro e; rw [e] at hlt; simp at hlt)
      obtain ⟨k0, k1, k2⟩ := hcell k hlt
      have j0 := (hB.cell (p := ⟨b, off + k * 3, none⟩) hb).trans k0
      have hbr : b < wr.heap.size := Nat.lt_of_lt_of_le hb hB.size
      have K1 := Lib.hid k1
      have K2 := Lib.hid k2
      clear k0 k1 k2 hcell
      obtain ⟨x0, x1, x2⟩ := Hok.out xs[k] (List.getElem_mem hlt)
      have y0m := Mid.of x0
      have y1m := Mid.of x1
      have y2m := Mid.of x2
      have s0m := sumC_mid Vec.cpu (fun x hx => hx.1) xs k Hok.out hn
      have s1m := sumC_mid Vec.mem (fun x hx => hx.2.1) xs k Hok.out hn
      have s2m := sumC_mid Vec.disk (fun x hx => hx.2.2) xs k Hok.out hn
      have e0 := Lib.hid (sumC_snoc Vec.cpu xs k hlt)
      have e1 := Lib.hid (sumC_snoc Vec.mem xs k hlt)
      have e2 := Lib.hid (sumC_snoc Vec.disk xs k hlt)
      generalize xs[k].cpu = y0 at *
      generalize xs[k].mem = y1 at *
      generalize xs[k].disk = y2 at *
      generalize sumC Vec.cpu (xs.take k) = s0 at *
      generalize sumC Vec.mem (xs.take k) = s1 at *
      generalize sumC Vec.disk (xs.take k) = s2 at *
      obtain ⟨h1c, h1f, h1l⟩ := h1.facts
      go_wp2_with fail
      refine wp_region_ext_tail 8 (by kernel_rfl) (by kernel_rfl) ?_
      simp only [List.take_succ_cons, List.take_zero, List.drop_succ_cons, List.drop_zero]
      repeat (go_big_quiet_step ((first | (go_at_call 40; with_reducible refine ext_of (ref_Of _ ?_ _); with_reducible assumption) | (go_at_call 39; with_reducible refine ext_of (ref_WAdd _ _ ?_ ?_ _) <;> with_reducible assumption))))
      refine wpQuiet_nil ?_
      intro w1 hx
      obtain ⟨x, rfl⟩ := hx
      have hB1 := below_to hB (extn_below _ x)
      go_wp2_with fail
      refine wp_world (fun w2 => Blk w2 (w.heap.size + 1) 63 #[.int .i64 ((s0 + y0) / 4294967296), .int .i64 ((s0 + y0) % 4294967296)] ∧ Blk w2 (w.heap.size + 1 + 1) 63 #[.int .i64 ((s1) / 4294967296), .int .i64 ((s1) % 4294967296)] ∧ Blk w2 (w.heap.size + 1 + 1 + 1) 63 #[.int .i64 ((s2) / 4294967296), .int .i64 ((s2) % 4294967296)] ∧ Blk w2 w.heap.size 25 #[.int .i64 0, .int .i64 0, .int .i64 0] ∧ Below w.heap.size w w2) ⟨((h1.past (extn_below _ x)).put 0 _ rfl).put 1 _ rfl, ((h2.past (extn_below _ x)).far (by simp) _).far (by simp) _, ((h3.past (extn_below _ x)).far (by simp <;> omega) _).far (by simp <;> omega) _, ((hz.past (extn_below _ x)).far (by simp) _).far (by simp) _, by go_grown⟩ ?_
      clear h1 h2 h3 hz hB hB1 h1c h1f h1l j0 hbr x
      rintro w2 ⟨h1, h2, h3, hz, hB⟩
      obtain ⟨h2c, h2f, h2l⟩ := h2.facts
      have j1 := (hB.cell (p := ⟨b, off + k * 3 + 1, none⟩) hb).trans K1.out
      have hbr : b < w2.heap.size := Nat.lt_of_lt_of_le hb hB.size
      refine wp_region_ext_tail 8 (by kernel_rfl) (by kernel_rfl) ?_
      simp only [List.take_succ_cons, List.take_zero, List.drop_succ_cons, List.drop_zero]
      repeat (go_big_quiet_step ((first | (go_at_call 40; with_reducible refine ext_of (ref_Of _ ?_ _); with_reducible assumption) | (go_at_call 39; with_reducible refine ext_of (ref_WAdd _ _ ?_ ?_ _) <;> with_reducible assumption))))
      refine wpQuiet_nil ?_
      intro w1 hx
      obtain ⟨x, rfl⟩ := hx
      have hB1 := below_to hB (extn_below _ x)
      go_wp2_with fail
      refine wp_world (fun w3 => Blk w3 (w.heap.size + 1) 63 #[.int .i64 ((s0 + y0) / 4294967296), .int .i64 ((s0 + y0) % 4294967296)] ∧ Blk w3 (w.heap.size + 1 + 1) 63 #[.int .i64 ((s1 + y1) / 4294967296), .int .i64 ((s1 + y1) % 4294967296)] ∧ Blk w3 (w.heap.size + 1 + 1 + 1) 63 #[.int .i64 ((s2) / 4294967296), .int .i64 ((s2) % 4294967296)] ∧ Blk w3 w.heap.size 25 #[.int .i64 0, .int .i64 0, .int .i64 0] ∧ Below w.heap.size w w3) ⟨((h1.past (extn_below _ x)).far (by simp) _).far (by simp) _, ((h2.past (extn_below _ x)).put 0 _ rfl).put 1 _ rfl, ((h3.past (extn_below _ x)).far (by simp) _).far (by simp) _, ((hz.past (extn_below _ x)).far (by simp <;> omega) _).far (by simp <;> omega) _, by go_grown⟩ ?_
      clear h1 h2 h3 hz hB hB1 h2c h2f h2l j1 hbr x
      rintro w3 ⟨h1, h2, h3, hz, hB⟩
      obtain ⟨h3c, h3f, h3l⟩ := h3.facts
      have j2 := (hB.cell (p := ⟨b, off + k * 3 + 2, none⟩) hb).trans K2.out
      have hbr : b < w3.heap.size := Nat.lt_of_lt_of_le hb hB.size
      refine wp_region_ext_tail 8 (by kernel_rfl) (by kernel_rfl) ?_
      simp only [List.take_succ_cons, List.take_zero, List.drop_succ_cons, List.drop_zero]
      repeat (go_big_quiet_step ((first | (go_at_call 40; with_reducible refine ext_of (ref_Of _ ?_ _); with_reducible assumption) | (go_at_call 39; with_reducible refine ext_of (ref_WAdd _ _ ?_ ?_ _) <;> with_reducible assumption))))
      refine wpQuiet_nil ?_
      intro w1 hx
      obtain ⟨x, rfl⟩ := hx
      have hB1 := below_to hB (extn_below _ x)
      go_wp2
      go_roundw
      case rel => exact ⟨k + 1, by omega, by go_num, by rw [e0.out]; exact ((h1.past (extn_below _ x)).far (by simp <;> omega) _).far (by simp <;> omega) _, by rw [e1.out]; exact ((h2.past (extn_below _ x)).far (by simp) _).far (by simp) _, by rw [e2.out]; exact ((h3.past (extn_below _ x)).put 0 _ rfl).put 1 _ rfl, ((hz.past (extn_below _ x)).far (by simp <;> omega) _).far (by simp <;> omega) _, by go_grown⟩
      case measure => simp [intOf]; omega
    · have hk' : k = xs.length := by omega
      subst hk'
      have s0m := sumC_mid Vec.cpu (fun x hx => hx.1) xs xs.length Hok.out hn
      have s1m := sumC_mid Vec.mem (fun x hx => hx.2.1) xs xs.length Hok.out hn
      have s2m := sumC_mid Vec.disk (fun x hx => hx.2.2) xs xs.length Hok.out hn
      rw [List.take_length] at h1 h2 h3 s0m s1m s2m
      have GG : ∃ s0 s1 s2, Mid s0 ∧ Mid s1 ∧ Mid s2 ∧ Blk wr (w.heap.size + 1) 63 #[.int .i64 (s0 / 4294967296), .int .i64 (s0 % 4294967296)] ∧ Blk wr (w.heap.size + 1 + 1) 63 #[.int .i64 (s1 / 4294967296), .int .i64 (s1 % 4294967296)] ∧ Blk wr (w.heap.size + 1 + 1 + 1) 63 #[.int .i64 (s2 / 4294967296), .int .i64 (s2 % 4294967296)] ∧ sumV xs = threeV s0 s1 s2 := ⟨_, _, _, s0m, s1m, s2m, h1, h2, h3, rfl⟩
      clear h1 h2 h3 s0m s1m s2m
      obtain ⟨s0, s1, s2, s0m, s1m, s2m, h1, h2, h3, hr⟩ := GG
      have c := fun W => ref_three s0 s1 s2 s0m s1m s2m W
      generalize threeV s0 s1 s2 = r at c hr
      obtain ⟨⟨r0, r1, r2⟩, r3⟩ := r
      have C := Lib.hid c
      clear c
      have HR := Lib.hid hr
      clear hr
      obtain ⟨h1c, h1f, h1l⟩ := h1.facts
      obtain ⟨h2c, h2f, h2l⟩ := h2.facts
      obtain ⟨h3c, h3f, h3l⟩ := h3.facts
      go_wp2_with fail
      refine (C.out _).mono ?_
      rintro e w1 ⟨rfl, hb1⟩
      have hz1 := hz.past hb1
      have hB1 := below_to hB hb1
      obtain ⟨hzc, hzf, hzl⟩ := hz1.facts
      clear h1 h2 h3 h1c h1f h1l h2c h2f h2l h3c h3f h3l hb1 hz hB C s0m s1m s2m
      go_wp2
      refine bodyPost_ret (v := .tuple #[.agg #[.int .i64 r0, .int .i64 r1, .int .i64 r2], .int .i64 r3]) (by simp [results, Try.results14, go_sem, hzc]) rfl ?_
      exact ⟨by rw [HR.out], by go_grown⟩
end Go.Proofs.Ytblcaidbocnblaa
