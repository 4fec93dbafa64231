/- Commands: how the coder writes jobs, and sets of allocs, walked. Conditions: the texts are short. -/
import Derived.Test.YteglieoeblehpaaCmd2
namespace Go.Proofs.Yteglieoeblehpaa
open Go.RowKit

def jobB (name user : ByteArray) (band count a b c : Int) (al : ByteArray) (k win : Int) : ByteArray := encT name ++ encT user ++ encU band ++ encI count ++ encV a b c ++ encT al ++ encI k ++ encI win
def allocB (name user : ByteArray) (count a b c : Int) : ByteArray := encT name ++ encT user ++ encI count ++ encV a b c
set_option maxHeartbeats 4000000 in
theorem cw_job (P C off : Nat) (o : ByteArray) (bd : Bool) (name user : ByteArray) (band count a b c : Int) (al : ByteArray) (k win : Int) (hs1 : name.size ≤ 1024) (hs2 : user.size ≤ 1024) (hs3 : al.size ≤ 1024) (hband : 0 ≤ band ∧ band < 256) (hn1 : I64 count) (hn2 : I64 a) (hn3 : I64 b) (hn4 : I64 c) (hn5 : I64 k) (hn6 : I64 win) (ho : o.size ≤ 800000) (w : World) (hP : Cw w P o bd) (hne : C ≠ P) (t : TypeId) (cs : Array Value) (hC : Blk w C t cs)
    (h0 : cs[off]? = some (.string name)) (h1 : cs[off + 1]? = some (.string user)) (h2 : cs[off + 2]? = some (.int .u8 band)) (h3 : cs[off + 3]? = some (.int .i64 count)) (h4 : cs[off + 4]? = some (.int .i64 a)) (h5 : cs[off + 4 + 1]? = some (.int .i64 b)) (h6 : cs[off + 4 + 2]? = some (.int .i64 c)) (h7 : cs[off + 7]? = some (.string al)) (h8 : cs[off + 8]? = some (.int .i64 k)) (h9 : cs[off + 8 + 1]? = some (.int .i64 win)) :
    Calls Try.prog 88 #[.pointer (some ⟨P, 0, none⟩), .pointer (some ⟨C, off, none⟩)] w fun e w' => (∃ v, e = .returned v) ∧ Cw w' P (o ++ jobB name user band count a b c al k win) (bd || decide ((64 : Int) < (name.size : Int)) || decide ((64 : Int) < (user.size : Int)) || decide ((64 : Int) < (al.size : Int))) ∧ Kept P w w' := by
  have z1 := encT_size name hs1
  have z2 := encT_size user hs2
  have z3 := encT_size al hs3
  have z4 := encU_size band (by omega)
  have z5 := encI_size count hn1
  have z6 := encV_size a b c hn2 hn3 hn4
  have z7 := encI_size k hn5
  have hc0 := blk_cell hC h0
  go_enter Try.func88, Try.ntmps88
  go_wp2_with fail
  refine (cw_text P C off o bd name hs1 (by omega) _ hP hne hc0).mono ?_
  rintro r w1 ⟨⟨v, rfl⟩, hP1, hK1⟩; dsimp only
  clear hc0 hP
  have hC1 := hK1.blk hC hne
  have hc1 := blk_cell hC1 h1
  have s1 : (o ++ encT name).size ≤ 801034 := by rw [ByteArray.size_append]; omega
  generalize hz1 : o ++ encT name = o1 at *
  go_wp2_with fail
  refine (cw_text P C (off + 1) o1 _ user hs2 (by omega) w1 hP1 hne hc1).mono ?_
  rintro r w2 ⟨⟨v, rfl⟩, hP2, hK2⟩; dsimp only
  replace hK2 := hK1.trans hK2
  clear hc1 hP1 hK1 hC1
  have hC2 := hK2.blk hC hne
  have hc2 := blk_cell hC2 h2
  have s2 : (o1 ++ encT user).size ≤ 802068 := by rw [ByteArray.size_append]; omega
  generalize hz2 : o1 ++ encT user = o2 at *
  go_wp2_with fail
  refine (cw_small P C (off + 2) o2 _ band hband (by omega) w2 hP2 hne hc2).mono ?_
  rintro r w3 ⟨⟨v, rfl⟩, hP3, hK3⟩; dsimp only
  replace hK3 := hK2.trans hK3
  clear hc2 hP2 hK2 hC2
  have hC3 := hK3.blk hC hne
  have s3 : (o2 ++ encU band).size ≤ 802078 := by rw [ByteArray.size_append]; omega
  generalize hz3 : o2 ++ encU band = o3 at *
  go_wp2_with fail
  refine (one_numI P C (off + 3) o3 _ count hn1 (by omega) w3 hP3 hne t cs hC3 h3).mono ?_
  rintro r w4 ⟨⟨v, rfl⟩, hP4, hK4⟩; dsimp only
  replace hK4 := hK3.trans hK4
  clear hP3 hK3 hC3
  have hC4 := hK4.blk hC hne
  have s4 : (o3 ++ encI count).size ≤ 802088 := by rw [ByteArray.size_append]; omega
  generalize hz4 : o3 ++ encI count = o4 at *
  go_wp2_with fail
  refine (cw_vec P C (off + 4) o4 _ a b c hn2 hn3 hn4 (by omega) w4 hP4 hne t cs hC4 h4 h5 h6).mono ?_
  rintro r w5 ⟨⟨v, rfl⟩, hP5, hK5⟩; dsimp only
  replace hK5 := hK4.trans hK5
  clear hP4 hK4 hC4
  have hC5 := hK5.blk hC hne
  have hc5 := blk_cell hC5 h7
  have s5 : (o4 ++ encV a b c).size ≤ 802118 := by rw [ByteArray.size_append]; omega
  generalize hz5 : o4 ++ encV a b c = o5 at *
  go_wp2_with fail
  refine (cw_text P C (off + 7) o5 _ al hs3 (by omega) w5 hP5 hne hc5).mono ?_
  rintro r w6 ⟨⟨v, rfl⟩, hP6, hK6⟩; dsimp only
  replace hK6 := hK5.trans hK6
  clear hc5 hP5 hK5 hC5
  have hC6 := hK6.blk hC hne
  have s6 : (o5 ++ encT al).size ≤ 803152 := by rw [ByteArray.size_append]; omega
  generalize hz6 : o5 ++ encT al = o6 at *
  go_wp2_with fail
  refine (one_numI P C (off + 8) o6 _ k hn5 (by omega) w6 hP6 hne t cs hC6 h8).mono ?_
  rintro r w7 ⟨⟨v, rfl⟩, hP7, hK7⟩; dsimp only
  replace hK7 := hK6.trans hK7
  clear hP6 hK6 hC6
  have hC7 := hK7.blk hC hne
  have s7 : (o6 ++ encI k).size ≤ 803162 := by rw [ByteArray.size_append]; omega
  generalize hz7 : o6 ++ encI k = o7 at *
  go_wp2_with fail
  refine (one_numL P C (off + 8 + 1) o7 _ win hn6 (by omega) w7 hP7 hne t cs hC7 h9).mono ?_
  rintro r w8 ⟨⟨v, rfl⟩, hP8, hK8⟩; dsimp only
  replace hK8 := hK7.trans hK8
  clear hP7 hK7 hC7
  go_wp2_with fail
  go_end0
  refine ⟨⟨_, rfl⟩, ?_, hK8⟩
  have e : o ++ jobB name user band count a b c al k win = o7 ++ encI win := by
    rw [← hz7, ← hz6, ← hz5, ← hz4, ← hz3, ← hz2, ← hz1]
    unfold jobB
    simp only [ByteArray.append_assoc]
  rw [e]
  exact hP8
set_option maxHeartbeats 4000000 in
theorem cw_alloc (P C off : Nat) (o : ByteArray) (bd : Bool) (name user : ByteArray) (count a b c : Int) (hs1 : name.size ≤ 1024) (hs2 : user.size ≤ 1024) (hn1 : I64 count) (hn2 : I64 a) (hn3 : I64 b) (hn4 : I64 c) (ho : o.size ≤ 800000) (w : World) (hP : Cw w P o bd) (hne : C ≠ P) (t : TypeId) (cs : Array Value) (hC : Blk w C t cs)
    (h0 : cs[off]? = some (.string name)) (h1 : cs[off + 1]? = some (.string user)) (h2 : cs[off + 2]? = some (.int .i64 count)) (h4 : cs[off + 3]? = some (.int .i64 a)) (h5 : cs[off + 3 + 1]? = some (.int .i64 b)) (h6 : cs[off + 3 + 2]? = some (.int .i64 c)) :
    Calls Try.prog 90 #[.pointer (some ⟨P, 0, none⟩), .pointer (some ⟨C, off, none⟩)] w fun e w' => (∃ v, e = .returned v) ∧ Cw w' P (o ++ allocB name user count a b c) (bd || decide ((64 : Int) < (name.size : Int)) || decide ((64 : Int) < (user.size : Int))) ∧ Kept P w w' := by
  have z1 := encT_size name hs1
  have z2 := encT_size user hs2
  have z5 := encI_size count hn1
  have hc0 := blk_cell hC h0
  go_enter Try.func90, Try.ntmps90
  go_wp2_with fail
  refine (cw_text P C off o bd name hs1 (by omega) _ hP hne hc0).mono ?_
  rintro r w1 ⟨⟨v, rfl⟩, hP1, hK1⟩; dsimp only
  clear hc0 hP
  have hC1 := hK1.blk hC hne
  have hc1 := blk_cell hC1 h1
  have s1 : (o ++ encT name).size ≤ 801034 := by rw [ByteArray.size_append]; omega
  generalize hz1 : o ++ encT name = o1 at *
  go_wp2_with fail
  refine (cw_text P C (off + 1) o1 _ user hs2 (by omega) w1 hP1 hne hc1).mono ?_
  rintro r w2 ⟨⟨v, rfl⟩, hP2, hK2⟩; dsimp only
  replace hK2 := hK1.trans hK2
  clear hc1 hP1 hK1 hC1
  have hC2 := hK2.blk hC hne
  have s2 : (o1 ++ encT user).size ≤ 802068 := by rw [ByteArray.size_append]; omega
  generalize hz2 : o1 ++ encT user = o2 at *
  go_wp2_with fail
  refine (one_numI P C (off + 2) o2 _ count hn1 (by omega) w2 hP2 hne t cs hC2 h2).mono ?_
  rintro r w4 ⟨⟨v, rfl⟩, hP4, hK4⟩; dsimp only
  replace hK4 := hK2.trans hK4
  clear hP2 hK2 hC2
  have hC4 := hK4.blk hC hne
  have s4 : (o2 ++ encI count).size ≤ 802088 := by rw [ByteArray.size_append]; omega
  generalize hz4 : o2 ++ encI count = o4 at *
  go_wp2_with fail
  refine (cw_vec P C (off + 3) o4 _ a b c hn2 hn3 hn4 (by omega) w4 hP4 hne t cs hC4 h4 h5 h6).mono ?_
  rintro r w5 ⟨⟨v, rfl⟩, hP5, hK5⟩; dsimp only
  replace hK5 := hK4.trans hK5
  go_wp2_with fail
  go_end0
  refine ⟨⟨_, rfl⟩, ?_, hK5⟩
  have e : o ++ allocB name user count a b c = o4 ++ encV a b c := by
    rw [← hz4, ← hz2, ← hz1]
    unfold allocB
    simp only [ByteArray.append_assoc]
  rw [e]
  exact hP5
end Go.Proofs.Yteglieoeblehpaa
