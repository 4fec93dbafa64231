/- Commands: what is read and written, as plain functions of commands; the plain law of one field. Conditions: none. -/
import Derived.Test.YteglieoeblehpaaCmd11
import Derived.Test.YteglieoeblehpaaTCmd
import Derived.Test.YteglieoeblehpaaWire8p
namespace Go.Proofs.Yteglieoeblehpaa
open Go.RowKit

abbrev RS : Type := ByteArray × Int
def csC (c : Command) : Array Value := #[.int .u8 c.kind, .int .u64 c.client, .int .u64 c.seq, .string c.user, .int .u8 c.band, .int .i64 c.vec.cpu, .int .i64 c.vec.mem, .int .i64 c.vec.disk, .int .i64 c.machine, .string c.job.name, .string c.job.user, .int .u8 c.job.band, .int .i64 c.job.count, .int .i64 c.job.limit.cpu, .int .i64 c.job.limit.mem, .int .i64 c.job.limit.disk, .string c.job.alloc, .int .i64 c.job.budget.k, .int .i64 c.job.budget.window, .string c.alloc.name, .string c.alloc.user, .int .i64 c.alloc.count, .int .i64 c.alloc.limit.cpu, .int .i64 c.alloc.limit.mem, .int .i64 c.alloc.limit.disk, .string c.name, .int .i64 c.n, .string c.task.job, .int .i64 c.task.n, .int .i64 c.in_, .int .i64 c.gen, .int .u8 c.why, .int .i64 c.tick]
theorem csC_v (c : Command) : c.v = .agg (csC c) := rfl
def zeroC : Command := ⟨0, 0, 0, ByteArray.empty, 0, ⟨0, 0, 0⟩, 0, ⟨ByteArray.empty, ByteArray.empty, 0, 0, ⟨0, 0, 0⟩, ByteArray.empty, ⟨0, 0⟩⟩, ⟨ByteArray.empty, ByteArray.empty, 0, ⟨0, 0, 0⟩⟩, ByteArray.empty, 0, ⟨ByteArray.empty, 0⟩, 0, 0, 0, 0⟩
def gT (x : RS) : ByteArray := rdV x.2 (qText x.1 64) ByteArray.empty
def nT (x : RS) : RS := (rdS x.2 (qText x.1 64) x.1, rdF x.2 (qText x.1 64))
def gS (x : RS) : Int := rdV x.2 (qUint x.1 255) 0
def nS (x : RS) : RS := (rdS x.2 (qUint x.1 255) x.1, rdF x.2 (qUint x.1 255))
def gG (x : RS) : Int := rdV x.2 (qUint x.1 18446744073709551615) 0
def nG (x : RS) : RS := (rdS x.2 (qUint x.1 18446744073709551615) x.1, rdF x.2 (qUint x.1 18446744073709551615))
def gI (x : RS) : Int := rdV x.2 (qInt x.1 (-9223372036854775808) 9223372036854775807) 0
def nI (x : RS) : RS := (rdS x.2 (qInt x.1 (-9223372036854775808) 9223372036854775807) x.1, rdF x.2 (qInt x.1 (-9223372036854775808) 9223372036854775807))
def gV (x : RS) : Vec := ⟨gI x, gI (nI x), gI (nI (nI x))⟩
def nV (x : RS) : RS := nI (nI (nI x))
def gK (x : RS) : Task := ⟨gT x, gI (nT x)⟩
def nK (x : RS) : RS := nI (nT x)
def gJ (x : RS) : JobSpec := ⟨gT x, gT (nT x), gS (nT (nT x)), gI (nS (nT (nT x))), gV (nI (nS (nT (nT x)))), gT (nV (nI (nS (nT (nT x))))), ⟨gI (nT (nV (nI (nS (nT (nT x)))))), gI (nI (nT (nV (nI (nS (nT (nT x)))))))⟩⟩
def nJ (x : RS) : RS := nI (nI (nT (nV (nI (nS (nT (nT x)))))))
def gA (x : RS) : AllocSpec := ⟨gT x, gT (nT x), gI (nT (nT x)), gV (nI (nT (nT x)))⟩
def nA (x : RS) : RS := nV (nI (nT (nT x)))
/-- The fields, read. -/
def rdG : Nat → RS × Command → RS × Command
  | 0, y => (nT y.1, { y.2 with user := gT y.1 })
  | 1, y => (nS y.1, { y.2 with band := gS y.1 })
  | 2, y => (nT y.1, { y.2 with name := gT y.1 })
  | 3, y => (nK y.1, { y.2 with task := gK y.1 })
  | 4, y => (nI y.1, { y.2 with n := gI y.1 })
  | 5, y => (nI y.1, { y.2 with machine := gI y.1 })
  | 6, y => (nI y.1, { y.2 with in_ := gI y.1 })
  | 7, y => (nI y.1, { y.2 with gen := gI y.1 })
  | 8, y => (nS y.1, { y.2 with why := gS y.1 })
  | 9, y => (nV y.1, { y.2 with vec := gV y.1 })
  | 10, y => (nJ y.1, { y.2 with job := gJ y.1 })
  | 11, y => (nA y.1, { y.2 with alloc := gA y.1 })
  | _, y => (nI y.1, { y.2 with tick := gI y.1 })
def toSt (y : RS × Command) : St := (y.1.1, y.1.2, csC y.2)
def mkS (x : RS) (cs : Array Value) : St := (x.1, x.2, cs)
theorem stepT_mk (x : RS) (cs : Array Value) (i : Nat) : stepT (mkS x cs) i = mkS (nT x) (cs.setIfInBounds i (.string (gT x))) := rfl
theorem stepS_mk (x : RS) (cs : Array Value) (i : Nat) : stepS (mkS x cs) i = mkS (nS x) (cs.setIfInBounds i (.int .u8 (gS x))) := rfl
theorem stepI_mk (x : RS) (cs : Array Value) (i : Nat) : stepI (mkS x cs) i = mkS (nI x) (cs.setIfInBounds i (.int .i64 (gI x))) := rfl
set_option maxRecDepth 100000 in
theorem setJob (c : Command) (v0 v1 v7 : ByteArray) (v2 v3 v4 v5 v6 v8 v9 : Int) : ((((((((((csC c).setIfInBounds 9 (.string v0)).setIfInBounds (9 + 1) (.string v1)).setIfInBounds (9 + 2) (.int .u8 v2)).setIfInBounds (9 + 3) (.int .i64 v3)).setIfInBounds (9 + 4) (.int .i64 v4)).setIfInBounds (9 + 4 + 1) (.int .i64 v5)).setIfInBounds (9 + 4 + 2) (.int .i64 v6)).setIfInBounds (9 + 7) (.string v7)).setIfInBounds (9 + 8) (.int .i64 v8)).setIfInBounds (9 + 8 + 1) (.int .i64 v9) = csC { c with job := ⟨v0, v1, v2, v3, ⟨v4, v5, v6⟩, v7, ⟨v8, v9⟩⟩ } := by
  simp only [csC, List.setIfInBounds_toArray, List.set_cons_succ, List.set_cons_zero, Nat.reduceAdd]
set_option maxRecDepth 100000 in
theorem setAl (c : Command) (v0 v1 : ByteArray) (v3 v4 v5 v6 : Int) : ((((((csC c).setIfInBounds 19 (.string v0)).setIfInBounds (19 + 1) (.string v1)).setIfInBounds (19 + 2) (.int .i64 v3)).setIfInBounds (19 + 3) (.int .i64 v4)).setIfInBounds (19 + 3 + 1) (.int .i64 v5)).setIfInBounds (19 + 3 + 2) (.int .i64 v6) = csC { c with alloc := ⟨v0, v1, v3, ⟨v4, v5, v6⟩⟩ } := by
  simp only [csC, List.setIfInBounds_toArray, List.set_cons_succ, List.set_cons_zero, Nat.reduceAdd]
set_option maxRecDepth 100000 in
theorem readG_c (k : Nat) (y : RS × Command) : readG k (toSt y) = toSt (rdG k y) := by
  match k with
  | 0 => rfl
  | 1 => rfl
  | 2 => rfl
  | 3 => rfl
  | 4 => rfl
  | 5 => rfl
  | 6 => rfl
  | 7 => rfl
  | 8 => rfl
  | 9 => rfl
  | 10 =>
    show jobS (mkS y.1 (csC y.2)) 9 = mkS (nJ y.1) (csC { y.2 with job := gJ y.1 })
    simp only [jobS, List.foldl_cons, List.foldl_nil, stepT_mk, stepS_mk, stepI_mk, setJob, nJ, gJ, nV, gV]
  | 11 =>
    show allocS (mkS y.1 (csC y.2)) 19 = mkS (nA y.1) (csC { y.2 with alloc := gA y.1 })
    simp only [allocS, List.foldl_cons, List.foldl_nil, stepT_mk, stepI_mk, setAl, nA, gA, nV, gV]
  | k + 12 => rfl
def rdK (B : Int) : Nat → RS × Command → RS × Command
  | 0, y => y
  | k + 1, y => if selB B k = true then rdG k (rdK B k y) else rdK B k y
theorem readK_c (B : Int) (y : RS × Command) : ∀ k, readK B k (toSt y) = toSt (rdK B k y)
  | 0 => rfl
  | k + 1 => by
    unfold readK rdK
    rw [readK_c B y k]
    split
    · exact readG_c k _
    · rfl
def rdHead (x : RS) : RS × Command := if clientB (gS x) = true then (nG (nG (nS x)), { zeroC with kind := gS x, client := gG (nS x), seq := gG (nG (nS x)) }) else (nS x, { zeroC with kind := gS x })
def rdAll (x : RS) : RS × Command := rdK (fieldsOf (gS x)) 13 (rdHead x)
theorem readAll_c (s : ByteArray) (f : Int) : readAll (s, f, csC zeroC) = toSt (rdAll (s, f)) := by
  unfold readAll rdAll
  rw [← readK_c]
  show readK (fieldsOf (gS (s, f))) 13 _ = readK (fieldsOf (gS (s, f))) 13 _
  congr 1
  unfold rdHead
  show (if clientB (gS (s, f)) = true then _ else _) = _
  split <;> rfl
/-- The fields' bytes. -/
def encG (c : Command) : Nat → ByteArray
  | 0 => encT c.user
  | 1 => encU c.band
  | 2 => encT c.name
  | 3 => encT c.task.job ++ encI c.task.n
  | 4 => encI c.n
  | 5 => encI c.machine
  | 6 => encI c.in_
  | 7 => encI c.gen
  | 8 => encU c.why
  | 9 => encV c.vec.cpu c.vec.mem c.vec.disk
  | 10 => jobB c.job.name c.job.user c.job.band c.job.count c.job.limit.cpu c.job.limit.mem c.job.limit.disk c.job.alloc c.job.budget.k c.job.budget.window
  | 11 => allocB c.alloc.name c.alloc.user c.alloc.count c.alloc.limit.cpu c.alloc.limit.mem c.alloc.limit.disk
  | _ => encI c.tick
def lgT (s : ByteArray) : Bool := decide ((64 : Int) < (s.size : Int))
/-- Which fields have texts that are too long. -/
def badG (c : Command) : Nat → Bool
  | 0 => lgT c.user
  | 2 => lgT c.name
  | 3 => lgT c.task.job
  | 10 => lgT c.job.name || lgT c.job.user || lgT c.job.alloc
  | 11 => lgT c.alloc.name || lgT c.alloc.user
  | _ => false
def encC (c : Command) : ByteArray := outK (fieldsOf c.kind) (encG c) 13 (headB c.kind c.client c.seq)
def badC (c : Command) : Bool := badK (fieldsOf c.kind) (badG c) 13 false
def putG (c : Command) : Nat → Command → Command
  | 0, d => { d with user := c.user }
  | 1, d => { d with band := c.band }
  | 2, d => { d with name := c.name }
  | 3, d => { d with task := c.task }
  | 4, d => { d with n := c.n }
  | 5, d => { d with machine := c.machine }
  | 6, d => { d with in_ := c.in_ }
  | 7, d => { d with gen := c.gen }
  | 8, d => { d with why := c.why }
  | 9, d => { d with vec := c.vec }
  | 10, d => { d with job := c.job }
  | 11, d => { d with alloc := c.alloc }
  | _, d => { d with tick := c.tick }
def putK (B : Int) (c : Command) : Nat → Command → Command
  | 0, d => d
  | k + 1, d => if selB B k = true then putG c k (putK B c k d) else putK B c k d
def baseC (c : Command) : Command := if clientB c.kind = true then { zeroC with kind := c.kind, client := c.client, seq := c.seq } else { zeroC with kind := c.kind }
/-- A command of what its kind has alone. -/
def onlyC (c : Command) : Command := putK (fieldsOf c.kind) c 13 (baseC c)
/-! Bricks, read as they were written. -/
theorem bs_join (l : List UInt8) (r : ByteArray) : bs l ++ r = bs (l ++ r.data.toList) := by rw [bs_append, bs_data]
theorem encT_bs (s r : ByteArray) : encT s ++ r = bs (Lib.uvarint s.size ++ (s.data.toList ++ r.data.toList)) := by
  unfold encT
  rw [bs_append, bs_append, bs_data, bs_data, ByteArray.append_assoc]
theorem rT_enc (s r : ByteArray) (h : lgT s = false) : gT (encT s ++ r, 0) = s ∧ nT (encT s ++ r, 0) = (r, 0) := by
  have hs : (s.size : Int) ≤ 64 := by unfold lgT at h; simp at h; omega
  unfold gT nT
  dsimp only
  rw [encT_bs, qText_enc s 64 hs (by omega)]
  refine ⟨rfl, ?_⟩
  rw [← List.append_assoc, rdS_bs _ _ _ _ (by rw [List.length_append, size_list]), bs_data]
  rfl
theorem qUint_enc' (x : Nat) (most : Nat) (hx : x ≤ most) (hm : most < 18446744073709551616) (rest : List UInt8) : qUint (bs (Lib.uvarint x ++ rest)) most = ((x : Int), (Lib.uvarint x).length, 0) := by
  unfold qUint
  rw [vnum_bs x (by omega), if_neg (uv_ne x), if_neg (by dsimp only; omega)]
theorem rS_enc (x : Int) (r : ByteArray) (h : U8 x) : gS (encU x ++ r, 0) = x ∧ nS (encU x ++ r, 0) = (r, 0) := by
  unfold U8 at h
  unfold gS nS encU
  dsimp only
  rw [bs_join, qUint_enc' x.toNat 255 (by omega) (by omega)]
  refine ⟨?_, ?_⟩
  · show ((x.toNat : Nat) : Int) = x
    omega
  · rw [rdS_bs _ _ _ _ rfl, bs_data]
    rfl
theorem rG_enc (x : Int) (r : ByteArray) (h : U64 x) : gG (encU x ++ r, 0) = x ∧ nG (encU x ++ r, 0) = (r, 0) := by
  unfold U64 at h
  unfold gG nG encU
  dsimp only
  rw [bs_join, qUint_enc' x.toNat 18446744073709551615 (by omega) (by omega)]
  refine ⟨?_, ?_⟩
  · show ((x.toNat : Nat) : Int) = x
    omega
  · rw [rdS_bs _ _ _ _ rfl, bs_data]
    rfl
theorem rI_enc (x : Int) (r : ByteArray) (h : I64 x) : gI (encI x ++ r, 0) = x ∧ nI (encI x ++ r, 0) = (r, 0) := by
  unfold gI nI encI
  dsimp only
  rw [bs_join, qInt_enc x h.1 h.2]
  refine ⟨rfl, ?_⟩
  rw [rdS_bs _ _ _ _ rfl, bs_data]
  rfl
theorem rV_enc (v : Vec) (r : ByteArray) (h : v.ok) : gV (encV v.cpu v.mem v.disk ++ r, 0) = v ∧ nV (encV v.cpu v.mem v.disk ++ r, 0) = (r, 0) := by
  obtain ⟨a, b, c⟩ := v
  obtain ⟨ha, hb, hc⟩ := h
  unfold gV nV encV
  simp only [ByteArray.append_assoc, rI_enc _ _ ha, rI_enc _ _ hb, rI_enc _ _ hc, and_self]
/-! What is read is written as itself. -/
theorem rdF_zero {α : Type} {f : Int} {q : α × Nat × Int} (h : rdF f q = 0) : f = 0 ∧ q.2.2 = 0 := by
  unfold rdF at h
  split at h
  · exact ⟨by assumption, h⟩
  · exact absurd h (by assumption)
theorem split_at (s : ByteArray) (n : Nat) (h : n ≤ s.size) : s = s.extract 0 n ++ s.extract n s.size := by
  apply ByteArray.ext
  apply Array.ext'
  rw [ByteArray.data_append, Array.toList_append, extract_list, extract_list, List.drop_zero, List.take_of_length_le (Nat.le_of_eq (size_list s)), List.take_append_drop]
theorem rT_back (x : RS) (h : (nT x).2 = 0) : x.2 = 0 ∧ x.1 = encT (gT x) ++ (nT x).1 := by
  obtain ⟨s, f⟩ := x
  obtain ⟨h0, hq⟩ := rdF_zero h
  refine ⟨h0, ?_⟩
  have h0' : f = 0 := h0
  subst h0'
  have hc : cntE s 64 = 0 := by
    by_cases hc : cntE s 64 = 0
    · exact hc
    · exfalso
      have hq' : (qText s 64).2.2 = 0 := hq
      unfold qText qCount at hq'
      rw [if_neg hc] at hq'
      exact hc hq'
  have hv : qText s 64 = (s.extract (vnum s).2 ((vnum s).2 + (vnum s).1), (vnum s).2 + (vnum s).1, 0) := by unfold qText qCount; rw [if_pos hc]
  have h2 : (vnum s).2 ≠ 0 ∧ (vnum s).1 + (vnum s).2 ≤ s.size := by
    unfold cntE at hc
    split at hc
    · cases hc
    · split at hc
      · cases hc
      · split at hc
        · cases hc
        · exact ⟨by assumption, by omega⟩
  have hb := uint_back s h2.1
  unfold gT nT rdV rdS
  dsimp only
  rw [hv]
  simp only [and_self, if_true]
  unfold encT
  have hz : (s.extract (vnum s).2 ((vnum s).2 + (vnum s).1)).size = (vnum s).1 := by
    rw [ByteArray.size_extract]; omega
  rw [hz, ← hb, ← split_at_mid s _ _ (by omega)]
where
  split_at_mid (s : ByteArray) (n m : Nat) (h : n + m ≤ s.size) : s = s.extract 0 n ++ s.extract n (n + m) ++ s.extract (n + m) s.size := by
    apply ByteArray.ext
    apply Array.ext'
    simp only [ByteArray.data_append, Array.toList_append, extract_list, List.drop_zero]
    rw [List.take_of_length_le (l := s.data.toList) (Nat.le_of_eq (size_list s))]
    have e : s.data.toList.take n ++ (s.data.toList.take (n + m)).drop n = s.data.toList.take (n + m) := by
      have := List.take_append_drop n (s.data.toList.take (n + m))
      rw [List.take_take, Nat.min_eq_left (by omega)] at this
      exact this
    rw [e, List.take_append_drop]
theorem rU_back (s : ByteArray) (most : Nat) (h : (qUint s most).2.2 = 0) : s = encU (qUint s most).1 ++ s.extract (qUint s most).2.1 s.size ∧ (qUint s most).1 = ((vnum s).1 : Nat) ∧ (vnum s).1 ≤ most := by
  unfold qUint at h ⊢
  dsimp only at h ⊢
  split at h
  · cases h
  · rename_i h0
    split at h
    · cases h
    · rename_i h1
      refine ⟨?_, rfl, by omega⟩
      unfold encU
      rw [show ((vnum s).1 : Int).toNat = (vnum s).1 by omega, ← uint_back s h0]
      exact split_at s _ (vnum_bd s).2
theorem rS_back (x : RS) (h : (nS x).2 = 0) : x.2 = 0 ∧ x.1 = encU (gS x) ++ (nS x).1 := by
  obtain ⟨s, f⟩ := x
  obtain ⟨h0, hq⟩ := rdF_zero h
  have h0' : f = 0 := h0
  subst h0'
  refine ⟨rfl, ?_⟩
  have h1 := (rU_back s 255 hq).1
  have hq' : (qUint s 255).2.2 = 0 := hq
  unfold gS nS rdV rdS
  dsimp only
  rw [if_pos ⟨rfl, hq'⟩, if_pos ⟨rfl, hq'⟩]
  exact h1
theorem rG_back (x : RS) (h : (nG x).2 = 0) : x.2 = 0 ∧ x.1 = encU (gG x) ++ (nG x).1 := by
  obtain ⟨s, f⟩ := x
  obtain ⟨h0, hq⟩ := rdF_zero h
  have h0' : f = 0 := h0
  subst h0'
  refine ⟨rfl, ?_⟩
  have h1 := (rU_back s 18446744073709551615 hq).1
  have hq' : (qUint s 18446744073709551615).2.2 = 0 := hq
  unfold gG nG rdV rdS
  dsimp only
  rw [if_pos ⟨rfl, hq'⟩, if_pos ⟨rfl, hq'⟩]
  exact h1
theorem rI_back (x : RS) (h : (nI x).2 = 0) : x.2 = 0 ∧ x.1 = encI (gI x) ++ (nI x).1 := by
  obtain ⟨s, f⟩ := x
  obtain ⟨h0, hq⟩ := rdF_zero h
  have h0' : f = 0 := h0
  subst h0'
  refine ⟨rfl, ?_⟩
  have hq' : (qInt s (-9223372036854775808) 9223372036854775807).2.2 = 0 := hq
  unfold gI nI rdV rdS
  dsimp only
  rw [if_pos ⟨rfl, hq'⟩, if_pos ⟨rfl, hq'⟩]
  unfold qInt at hq' ⊢
  dsimp only at hq' ⊢
  split at hq'
  · cases hq'
  · rename_i h0
    unfold encI
    rw [zigzag_unzig, ← uint_back s h0]
    exact split_at s _ (vnum_bd s).2
theorem rV_back (x : RS) (h : (nV x).2 = 0) : x.2 = 0 ∧ x.1 = encV (gV x).cpu (gV x).mem (gV x).disk ++ (nV x).1 := by
  obtain ⟨a1, a2⟩ := rI_back _ h
  obtain ⟨b1, b2⟩ := rI_back _ a1
  obtain ⟨c1, c2⟩ := rI_back _ b1
  refine ⟨c1, ?_⟩
  unfold gV nV encV
  dsimp only
  rw [ByteArray.append_assoc, ByteArray.append_assoc, ← a2, ← b2, ← c2]
theorem rK_back (x : RS) (h : (nK x).2 = 0) : x.2 = 0 ∧ x.1 = encT (gK x).job ++ encI (gK x).n ++ (nK x).1 := by
  obtain ⟨a1, a2⟩ := rI_back _ h
  obtain ⟨b1, b2⟩ := rT_back _ a1
  refine ⟨b1, ?_⟩
  unfold gK nK
  dsimp only
  rw [ByteArray.append_assoc, ← a2, ← b2]
theorem rJ_back (x : RS) (h : (nJ x).2 = 0) : x.2 = 0 ∧ x.1 = jobB (gJ x).name (gJ x).user (gJ x).band (gJ x).count (gJ x).limit.cpu (gJ x).limit.mem (gJ x).limit.disk (gJ x).alloc (gJ x).budget.k (gJ x).budget.window ++ (nJ x).1 := by
  obtain ⟨a1, a2⟩ := rI_back _ h
  obtain ⟨b1, b2⟩ := rI_back _ a1
  obtain ⟨c1, c2⟩ := rT_back _ b1
  obtain ⟨d1, d2⟩ := rV_back _ c1
  obtain ⟨e1, e2⟩ := rI_back _ d1
  obtain ⟨f1, f2⟩ := rS_back _ e1
  obtain ⟨g1, g2⟩ := rT_back _ f1
  obtain ⟨i1, i2⟩ := rT_back _ g1
  refine ⟨i1, ?_⟩
  unfold gJ nJ jobB
  dsimp only
  simp only [ByteArray.append_assoc]
  rw [← a2, ← b2, ← c2, ← d2, ← e2, ← f2, ← g2, ← i2]
theorem rA_back (x : RS) (h : (nA x).2 = 0) : x.2 = 0 ∧ x.1 = allocB (gA x).name (gA x).user (gA x).count (gA x).limit.cpu (gA x).limit.mem (gA x).limit.disk ++ (nA x).1 := by
  obtain ⟨d1, d2⟩ := rV_back _ h
  obtain ⟨e1, e2⟩ := rI_back _ d1
  obtain ⟨g1, g2⟩ := rT_back _ e1
  obtain ⟨i1, i2⟩ := rT_back _ g1
  refine ⟨i1, ?_⟩
  unfold gA nA allocB
  dsimp only
  simp only [ByteArray.append_assoc]
  rw [← d2, ← e2, ← g2, ← i2]
/-! What is read is in range. -/
theorem gT_lg (x : RS) : (gT x).size ≤ 64 := by
  unfold gT rdV
  split
  · rename_i h
    have h2 := h.2
    unfold qText qCount at h2 ⊢
    split at h2
    · rename_i hc
      rw [if_pos hc]
      dsimp only
      unfold cntE at hc
      split at hc
      · cases hc
      · split at hc
        · cases hc
        · rw [ByteArray.size_extract]; omega
    · rename_i hc
      exact absurd h2 hc
  · simp
theorem gS_ok (x : RS) : U8 (gS x) := by have := rdU8 x.2 x.1; unfold U8 gS; omega
theorem rdV_ok {α : Type} {P : α → Prop} {f : Int} {q : α × Nat × Int} {z : α} (h : P q.1) (hz : P z) : P (rdV f q z) := by
  unfold rdV
  split
  · exact h
  · exact hz
theorem gG_ok (x : RS) : U64 (gG x) := by
  have hb := (vnum_bd x.1).1
  exact rdV_ok (P := U64) (by unfold U64 qUint; dsimp only; omega) (by unfold U64; omega)
theorem gI_ok (x : RS) : I64 (gI x) := by
  have hb := unzig_bd _ (vnum_bd x.1).1
  exact rdV_ok (P := I64) hb (by unfold I64; omega)
theorem gV_ok (x : RS) : (gV x).ok := ⟨gI_ok _, gI_ok _, gI_ok _⟩
end Go.Proofs.Yteglieoeblehpaa
