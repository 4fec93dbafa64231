/- The law of layer 17: what no ledger answers. Conditions: the string is within the reach. -/
import Derived.Test.YtcjgblopcfcakaaQt10
namespace Go.Proofs.Ytcjgblopcfcakaa
open Go.RowKit Go.MapKept

set_option maxHeartbeats 4000000 in
theorem QuotaNil_walk (u : ByteArray) (hu : u.size ≤ 140737488351232) (b : Int) (hb : U8 b) (v : Vec) (hv : v.ok) (w : World) :
    Calls Try.prog 5 #[.string u, .int .u8 b, v.v] w fun e w' => e = .returned (.bool true) ∧ Below w.heap.size w w' := by
  have A := Lib.hid law17_alive
  have c1 := fun w => q_nil_Left u b w
  have c2 := fun w => q_nil_Set u b v w
  have c3 := fun w => q_nil_Take u b v w
  have c4 := fun w => q_nil_Give u b v w
  obtain ⟨v0, v1, v2⟩ := v
  have C1 := Lib.hid c1
  have C2 := Lib.hid c2
  have C3 := Lib.hid c3
  have C4 := Lib.hid c4
  have C5 := Lib.hid q_nil_Rows
  clear c1 c2 c3 c4 hb hv
  by_cases hl : u.size > 1024
  · have hd : decide ((1024 : Int) < u.size) = true := decide_eq_true (by omega)
    go_enter Try.func5, Try.ntmps5
    go_wp2_with fail
    refine (A.out _).mono ?_
    rintro r w1 ⟨rfl, hb1⟩; dsimp only
    have hB := Lib.hid (below_to (below_own (below_self w) _) hb1)
    clear hb1
    go_wp2_with fail
    go_ret
    exact ⟨rfl, hB.out⟩
  · have hd : decide ((1024 : Int) < u.size) = false := decide_eq_false (by omega)
    go_enter Try.func5, Try.ntmps5
    go_wp2_with fail
    refine (C1.out _).mono ?_
    rintro r w1 ⟨rfl, hb1⟩; dsimp only
    have hV := (Blk.new w 28 #[.int .i64 v0, .int .i64 v1, .int .i64 v2]).past hb1
    have hB := below_to (below_own (below_self w) _) hb1
    clear hb1
    obtain ⟨Vc, Vf, Vl⟩ := hV.facts
    go_wp2_with fail
    have hX := Blk.new w1 28 #[.int .i64 0, .int .i64 0, .int .i64 0]
    replace hV := hV.alloc (.cells #[.int .i64 0, .int .i64 0, .int .i64 0] 28)
    replace hB := below_to hB (below_own (below_self w1) (.cells #[.int .i64 0, .int .i64 0, .int .i64 0] 28))
    refine (C2.out _).mono ?_
    rintro r w2 ⟨rfl, hb1⟩; dsimp only
    replace hV := hV.past hb1
    replace hX := hX.past hb1
    replace hB := below_to hB hb1
    clear hb1
    obtain ⟨Vc, Vf, Vl⟩ := hV.facts
    obtain ⟨Xc, Xf, Xl⟩ := hX.facts
    go_wp2_with fail
    refine (C3.out _).mono ?_
    rintro r w3 ⟨rfl, hb1⟩; dsimp only
    replace hV := hV.past hb1
    replace hX := hX.past hb1
    replace hB := below_to hB hb1
    clear hb1
    obtain ⟨Vc, Vf, Vl⟩ := hV.facts
    obtain ⟨Xc, Xf, Xl⟩ := hX.facts
    go_wp2_with fail
    refine (C4.out _).mono ?_
    rintro r w4 ⟨rfl, hb1⟩; dsimp only
    replace hV := hV.past hb1
    replace hX := hX.past hb1
    replace hB := below_to hB hb1
    clear hb1
    obtain ⟨Vc, Vf, Vl⟩ := hV.facts
    obtain ⟨Xc, Xf, Xl⟩ := hX.facts
    go_wp2_with fail
    refine (C5.out _).mono ?_
    rintro r ww ⟨rfl, rfl⟩; dsimp only
    go_wp2_with fail
    refine (A.out _).mono ?_
    rintro r w5 ⟨rfl, hb1⟩; dsimp only
    replace hB := Lib.hid (below_to hB hb1)
    clear hb1 Vc Vf Vl Xc Xf Xl hV hX
    go_wp2_with fail
    go_ret
    exact ⟨rfl, hB.out⟩
end Go.Proofs.Ytcjgblopcfcakaa
