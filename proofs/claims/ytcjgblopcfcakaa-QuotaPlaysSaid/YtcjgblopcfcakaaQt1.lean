/- Ledgers in memory: maps whose keys are structs and whose elements are pointers; what alone of a set of blocks has turned. Conditions: none. -/
import Derived.Test.YtcjgblopcfcakaaK10
import Derived.Test.YtcjgblopcfcakaaTQuota
import Derived.Maps.Keyed
import Derived.Maps.RangeRun
import Derived.DeepKeys4
import Derived.Carry
namespace Go.Proofs.Ytcjgblopcfcakaa
open Go.RowKit Go.MapKept

/-! ### What has turned -/
/-- Of the blocks that were there, none has turned but those of S. -/
structure OnlyS (S : Nat → Prop) (w w' : World) : Prop where
  os : w'.os = w.os
  tape : w'.tape = w.tape
  output : w'.output = w.output
  size : w.heap.size ≤ w'.heap.size
  block : ∀ k, k < w.heap.size → ¬ S k → w'.heap[k]? = w.heap[k]?
section
variable {S S' : Nat → Prop} {w w1 w2 : World}
theorem OnlyS.refl (S : Nat → Prop) (w : World) : OnlyS S w w := ⟨rfl, rfl, rfl, Nat.le_refl _, fun _ _ _ => rfl⟩
theorem OnlyS.trans (h : OnlyS S w w1) (h' : OnlyS S' w1 w2) (hs : ∀ b, S' b → S b ∨ w.heap.size ≤ b) : OnlyS S w w2 :=
  ⟨h'.os.trans h.os, h'.tape.trans h.tape, h'.output.trans h.output, Nat.le_trans h.size h'.size, fun k hk hn => (h'.block k (Nat.lt_of_lt_of_le hk h.size) (fun hx => (hs k hx).elim hn (fun h0 => by omega))).trans (h.block k hk hn)⟩
theorem OnlyS.mono (h : OnlyS S w w1) (hs : ∀ b, S b → S' b ∨ w.heap.size ≤ b) : OnlyS S' w w1 := ⟨h.os, h.tape, h.output, h.size, fun k hk hn => h.block k hk (fun hx => (hs k hx).elim hn (fun h0 => by omega))⟩
theorem OnlyS.below (h : Below w.heap.size w w1) : OnlyS S w w1 := ⟨h.os, h.tape, h.output, h.size, fun k hk _ => h.block k hk⟩
theorem OnlyS.grown {r : Nat} (h : w.grownBy w1 (some r)) (hr : S r) : OnlyS S w w1 := ⟨h.os, h.tape, h.output, h.size, fun k hk hn => h.block k hk (fun e => hn (by cases e; exact hr))⟩
theorem OnlyS.to {B : Nat} (h : OnlyS S w w1) (hB : B ≤ w.heap.size) (hs : ∀ b, S b → B ≤ b) : Below B w w1 := ⟨h.os, h.tape, h.output, h.size, fun k hk => h.block k (by omega) (fun hx => by have := hs k hx; omega)⟩
theorem OnlyS.blk {g : Nat} {t : TypeId} {cs : Array Value} (h : OnlyS S w w1) (hB : Blk w g t cs) (hg : ¬ S g) : Blk w1 g t cs := (h.block g hB.lt hg).trans hB
end
theorem grown_set (w : World) (B i : Nat) (v : Value) : w.grownBy (w.setCell ⟨B, i, none⟩ v) (some B) :=
  ⟨rfl, rfl, rfl, by simp, fun k _ hn => Below.heap_setCell w _ v k (fun e => hn (by rw [e]))⟩
theorem grown_of {w w' : World} (row : Option Nat) (h : Below w.heap.size w w') : w.grownBy w' row := ⟨h.os, h.tape, h.output, h.size, fun k hk _ => h.block k hk⟩
theorem grown_trans {w w1 w2 : World} {row : Option Nat} (h : w.grownBy w1 row) (k : w1.grownBy w2 row) : w.grownBy w2 row := ⟨k.os.trans h.os, k.tape.trans h.tape, k.output.trans h.output, Nat.le_trans h.size k.size, fun i hi hn => (k.block i (Nat.lt_of_lt_of_le hi h.size) hn).trans (h.block i hi hn)⟩

/-! ### Maps: look-ups, stores at a key that is not there -/
section
variable {P : Program} {k e t : TypeId} {w : World} {b : Nat} {es : Array MapEntry} {clock : Nat}
def anyR : Value → Option (DataW Unit × List MemPlace) := fun _ => some (.nil, [])
theorem fit_any (hs : es.size ≤ maxLen) (st : Stamped es clock) (hk : ∀ x ∈ es.toList, ∃ l, keyOf P k x.key = some l) : Go.WideElems.Fit P k anyR es clock :=
  ⟨hs, st, fun x hx => by obtain ⟨l, hl⟩ := hk x hx; exact ⟨(l, .nil), by unfold Go.WideElems.rd; simp [hl, anyR]⟩⟩
theorem look_absent (K : Go.Maps.Keyed P k) (ht : P.underlying t = some (.map k e)) {z : Value} (hz : (zeroValue e).run P w = .ok z w) (hb : w.heap[b]? = some (.map es clock)) (F : Go.WideElems.Fit P k anyR es clock)
    {key : Value} {kl : Lit} (hkey : keyOf P k key = some kl) (hno : ∀ x ∈ es.toList, x.key ≠ key) : (Instr.lookup t (.map (some b)) key false).run P w = .ok z w := by
  rcases Go.Maps.fit_look false K ht hz hb F hkey with ⟨h, _⟩ | ⟨e0, y, h1, h2, _⟩
  · simpa using h
  · exact absurd h2 (hno e0 h1)
theorem nodup_same {α β : Type} (f : α → β) {l : List α} (h : (l.map f).Nodup) {x y : α} (hx : x ∈ l) (hy : y ∈ l) (e : f x = f y) : x = y := by
  obtain ⟨i, hi, rfl⟩ := List.getElem_of_mem hx
  obtain ⟨j, hj, rfl⟩ := List.getElem_of_mem hy
  have : i = j := (List.getElem_inj (xs := l.map f) (h₀ := by simpa using hi) (h₁ := by simpa using hj) h).1 (by simpa using e)
  subst this; rfl
theorem look_there (K : Go.Maps.Keyed P k) (ht : P.underlying t = some (.map k e)) {z : Value} (hz : (zeroValue e).run P w = .ok z w) (hb : w.heap[b]? = some (.map es clock)) (F : Go.WideElems.Fit P k anyR es clock)
    {key : Value} {kl : Lit} (hkey : keyOf P k key = some kl) {x : MapEntry} (hx : x ∈ es.toList) (hk : x.key = key) : (Instr.lookup t (.map (some b)) key false).run P w = .ok x.val w := by
  rcases Go.Maps.fit_look false K ht hz hb F hkey with ⟨_, hno, _⟩ | ⟨e0, y, h1, h2, hrun, _⟩
  · exact absurd hk (hno x hx)
  · rw [nodup_same (·.key) F.stamped.2.2 hx h1 (hk.trans h2.symm)]
    simpa using hrun
theorem store_absent (K : Go.Maps.Keyed P k) (ht : P.underlying t = some (.map k e)) (hb : w.heap[b]? = some (.map es clock)) (F : Go.WideElems.Fit P k anyR es clock)
    {key val : Value} {kl : Lit} (hkey : keyOf P k key = some kl) (hno : ∀ x ∈ es.toList, x.key ≠ key) :
    (Instr.mapUpdate t (.map (some b)) key val).run P w = .ok () (Go.ChangeMaps.setBlock w b (.map (es.push ⟨key, val, clock⟩) (clock + 1))) := by
  rcases K.find w hkey es.toList F.keys with ⟨h1, h2⟩ | ⟨j, e0, h1, h2, h3⟩
  · simp [Instr.mapUpdate, run_underlying ht, MapKept.run_getObj_map hb, K.check w false hkey, h1, MapKept.run_setObj_map _ hb, Result.andThen, Go.ChangeMaps.setBlock]
  · exact absurd h3 (hno e0 (List.mem_of_getElem? h2))
end

/-! ### Keys, shares -/
abbrev keyV (u : ByteArray) (b : Int) : Value := .agg #[.string u, .int .u8 b]
abbrev ptrV (B : Nat) : Value := .pointer (some ⟨B, 0, none⟩)
abbrev Share.cs (s : Share) : Array Value := #[.string s.user, .int .u8 s.band, .int .i64 s.quota.cpu, .int .i64 s.quota.mem, .int .i64 s.quota.disk, .int .i64 s.used.cpu, .int .i64 s.used.mem, .int .i64 s.used.disk]
def Share.kv (s : Share) : Value := keyV s.user s.band
theorem key_law : Go.Maps.Keyed Try.prog 57 := Go.Maps.Keyed.of_law (deep_law_laid (by kernel_rfl) (m := 2) (by omega) (of_decide_eq_true (by kernel_rfl)) (by kernel_rfl) (by rw [Try.underlying57]))
theorem key_of (u : ByteArray) (b : Int) (hu : u.size ≤ 9223372036854775807) (hb : U8 b) : ∃ l, keyOf Try.prog 57 (keyV u b) = some l := by
  have h0 : Try.prog.keyType 57 = true := by kernel_rfl
  have h1 : Value.formed Try.prog 57 (keyV u b) = true := by simp [Value.formed, Try.underlying57]; kernel_rfl
  have hw : (Lit.int .u8 b).wf = true := by simp only [Lit.wf, Bool.and_eq_true, decide_eq_true_eq]; exact hb
  have hs : u.size ≤ maxLen := by unfold maxLen; omega
  have c0 : Try.prog.cellsOf 57 = 2 := by kernel_rfl
  have c1 : Try.prog.cellsOf 9 = 1 := by kernel_rfl
  have c2 : Try.prog.cellsOf 5 = 1 := by kernel_rfl
  unfold keyOf
  rw [Try.underlying57]
  simp only [h0, h1, Bool.and_true, if_true]
  obtain ⟨n, hn⟩ : ∃ n, Try.prog.types.size + 1 = n + 2 := ⟨Try.prog.types.size - 1, by have : 1 ≤ Try.prog.types.size := of_decide_eq_true (by kernel_rfl); omega⟩
  rw [hn]
  unfold Program.keyLits
  rw [Try.underlying57]
  unfold Program.keyLits
  simp [Value.cells, c0, c1, c2, Try.underlying9, Try.underlying5, hs, hw]
theorem zero_ptr (w : World) : (zeroValue 61).run Try.prog w = .ok (.pointer none) w := by kernel_rfl

/-! ### The order of shares -/
def bLess (x y : ByteArray) : Bool := Op.bytesLess x.toList y.toList
/-- Is a user and band ahead of a share? -/
def ltK (u : ByteArray) (b : Int) (s : Share) : Bool := bLess u s.user || (decide (u = s.user) && decide (b < s.band))
def isK (u : ByteArray) (b : Int) (s : Share) : Bool := decide (s.user = u) && decide (s.band = b)
def Rising (L : List Share) : Prop := L.Pairwise (fun x y => ltK x.user x.band y = true)
def getS (L : List Share) (u : ByteArray) (b : Int) : Option Share := L.find? (isK u b)
def putS (s : Share) : List Share → List Share
  | [] => [s]
  | x :: L => if ltK s.user s.band x = true then s :: x :: L else x :: putS s L
def updS (L : List Share) (u : ByteArray) (b : Int) (f : Share → Share) : List Share := L.map fun s => if isK u b s = true then f s else s
theorem isK_iff {u : ByteArray} {b : Int} {s : Share} : isK u b s = true ↔ s.user = u ∧ s.band = b := by simp [isK]
theorem isK_kv {u : ByteArray} {b : Int} {s : Share} : isK u b s = true ↔ s.kv = keyV u b := by simp [isK_iff, Share.kv, keyV]
theorem less_eq : ∀ (x y : List UInt8), Op.bytesLess x y = decide (x < y)
  | [], [] => by simp [Op.bytesLess]
  | _ :: _, [] => by simp [Op.bytesLess]
  | [], _ :: _ => by simp [Op.bytesLess]
  | a :: x, b :: y => by
    rw [Op.bytesLess, less_eq x y, Bool.eq_iff_iff]
    simp [List.cons_lt_cons_iff]
theorem bLess_irrefl (x : ByteArray) : bLess x x = false := by
  unfold bLess; rw [less_eq]; simp
theorem bLess_trans {x y z : ByteArray} (h : bLess x y = true) (k : bLess y z = true) : bLess x z = true := by
  unfold bLess at *
  rw [less_eq, decide_eq_true_eq] at *
  exact List.lt_trans h k
theorem data_inj {x y : ByteArray} (h : x.toList = y.toList) : x = y := by
  rw [ByteArray.toList_eq, ByteArray.toList_eq] at h
  cases x; cases y
  congr 1
  exact Array.toList_inj.1 h
theorem bLess_total {x y : ByteArray} (h : bLess x y = false) (k : bLess y x = false) : x = y := by
  unfold bLess at *
  rw [less_eq, decide_eq_false_iff_not] at *
  exact data_inj (List.le_antisymm (List.not_lt.1 k) (List.not_lt.1 h))
theorem ltK_irrefl (s : Share) : ltK s.user s.band s = false := by simp [ltK, bLess_irrefl]
theorem ltK_trans {x y z : Share} (h : ltK x.user x.band y = true) (k : ltK y.user y.band z = true) : ltK x.user x.band z = true := by
  unfold ltK at *
  rw [Bool.or_eq_true, Bool.and_eq_true, decide_eq_true_eq, decide_eq_true_eq] at *
  rcases h with h | ⟨h1, h2⟩ <;> rcases k with k | ⟨k1, k2⟩
  · exact Or.inl (bLess_trans h k)
  · exact Or.inl (k1 ▸ h)
  · exact Or.inl (h1 ▸ k)
  · exact Or.inr ⟨h1.trans k1, by omega⟩
theorem ltK_total {x y : Share} (h : ltK x.user x.band y = false) (k : ltK y.user y.band x = false) : x.user = y.user ∧ x.band = y.band := by
  unfold ltK at *
  rw [Bool.or_eq_false_iff] at h k
  have e := bLess_total h.1 k.1
  have h2 := h.2
  have k2 := k.2
  simp [e] at h2 k2
  exact ⟨e, by omega⟩
theorem rising_keys {L : List Share} (h : Rising L) : L.Pairwise fun x y => x.kv ≠ y.kv := h.imp fun {x y} hxy e => by
  have : x.user = y.user ∧ x.band = y.band := by simpa [Share.kv, keyV] using e
  have e2 : ltK x.user x.band y = ltK y.user y.band y := by rw [this.1, this.2]
  rw [e2, ltK_irrefl] at hxy
  cases hxy
theorem kv_inj {L : List Share} (h : Rising L) {x y : Share} (hx : x ∈ L) (hy : y ∈ L) (e : x.kv = y.kv) : x = y :=
  nodup_same Share.kv (by unfold List.Nodup; rw [List.pairwise_map]; exact rising_keys h) hx hy e
end Go.Proofs.Ytcjgblopcfcakaa
