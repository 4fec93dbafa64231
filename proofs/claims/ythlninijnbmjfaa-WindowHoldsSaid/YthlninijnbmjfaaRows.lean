/-
  No cell of these rows narrows 'for every input' (looked for: loops, veiled, ifaces, maps, wideKeys, modest, calm, conditions, laid).
  DERIVED. THE GIVEN ROWS OF THIS SEAT. 10 by the template 'for every input the law returns true; each argument reads behind the call as it read before'; 0 by the template 'total and deterministic' (their statements: YthlninijnbmjfaaTotals.lean).
  GIVEN WITH THE SEED: the statements are not yours to turn. If you find one false, say at which input.
  Laid BY PROGRAM, IN A SANDBOX (cutbox-rows.mjs): the forced cells as the released guide's own fill.sh prints them over the translation 85425eadd066426a… (all of the seat's roots in one cut). By AI agents, Wed Nov 11 2026. No macro, syntax, notation, axiom, sorry.
-/
import Derived.Test.YthlninijnbmjfaaChecked
import GoSem.Claim
import GoSem.ClaimJoined
import GoSem.ClaimMapViews
import Derived.JoinedTies
import Derived.KernelRfl
namespace Go.Proofs.Ythlninijnbmjfaa
/- THE CELL 'sum', in the pinned program and in every row, IS THE sha256 OF THE DUMP (.gsa) THAT YthlninijnbmjfaaProg.lean LOADS. Nothing in Lean hashes anything: it is a label: what it is worth is what the hold of that sum in a sandbox is worth. -/
noncomputable def Try.pinned : Pinned := { name := "ythlninijnbmjfaa", sum := "85425eadd066426a209ca0677bbc88dcdcbd4750d11ee9714ad8ac07a91dc9a6", checked := Try.checked }
namespace Rows
def none {H : Type} : Left H := { results := [], args := [] }

/-- 'reevelaw04.FrameReads': WHATEVER THE INPUT: true; the input reads as it did. -/
def frameReadsSpec : ChangeSpec := { name := "frameReads", fn := fun _ => fun
  | [d1, d2] => { results := [.lit (.bool true)], args := [d1, d2] }
  | _ => none }
def frameReadsRow : OpenClaim := { program := "ythlninijnbmjfaa", sum := "85425eadd066426a209ca0677bbc88dcdcbd4750d11ee9714ad8ac07a91dc9a6", func := "reeve/reevelaw04.FrameReads", spec := "frameReads", unfollowed := true, recurses := true, apart := false }
def FrameReadsSaid : Prop := frameReadsRow.holds Try.pinned (OpenSpec.ofChange frameReadsSpec)

/-- ITS FALSE NEIGHBOUR: 'it returns false'. Refute it at one input. -/
def frameReadsWrong : ChangeSpec := { name := "frameReads", fn := fun _ => fun
  | [d1, d2] => { results := [.lit (.bool false)], args := [d1, d2] }
  | _ => none }
def FrameReadsWrongFalsely : Prop := frameReadsRow.holds Try.pinned (OpenSpec.ofChange frameReadsWrong)

/-- 'reevelaw04.FrameLong': WHATEVER THE INPUT: true; the input reads as it did. -/
def frameLongSpec : ChangeSpec := { name := "frameLong", fn := fun _ => fun
  | [d] => { results := [.lit (.bool true)], args := [d] }
  | _ => none }
def frameLongRow : OpenClaim := { program := "ythlninijnbmjfaa", sum := "85425eadd066426a209ca0677bbc88dcdcbd4750d11ee9714ad8ac07a91dc9a6", func := "reeve/reevelaw04.FrameLong", spec := "frameLong", unfollowed := true, recurses := true, apart := false }
def FrameLongSaid : Prop := frameLongRow.holds Try.pinned (OpenSpec.ofChange frameLongSpec)

/-- ITS FALSE NEIGHBOUR: 'it returns false'. Refute it at one input. -/
def frameLongWrong : ChangeSpec := { name := "frameLong", fn := fun _ => fun
  | [d] => { results := [.lit (.bool false)], args := [d] }
  | _ => none }
def FrameLongWrongFalsely : Prop := frameLongRow.holds Try.pinned (OpenSpec.ofChange frameLongWrong)

/-- 'reevelaw04.FrameBack': WHATEVER THE INPUT: true; the input reads as it did. -/
def frameBackSpec : ChangeSpec := { name := "frameBack", fn := fun _ => fun
  | [d1, d2] => { results := [.lit (.bool true)], args := [d1, d2] }
  | _ => none }
def frameBackRow : OpenClaim := { program := "ythlninijnbmjfaa", sum := "85425eadd066426a209ca0677bbc88dcdcbd4750d11ee9714ad8ac07a91dc9a6", func := "reeve/reevelaw04.FrameBack", spec := "frameBack", unfollowed := true, recurses := true, apart := false }
def FrameBackSaid : Prop := frameBackRow.holds Try.pinned (OpenSpec.ofChange frameBackSpec)

/-- ITS FALSE NEIGHBOUR: 'it returns false'. Refute it at one input. -/
def frameBackWrong : ChangeSpec := { name := "frameBack", fn := fun _ => fun
  | [d1, d2] => { results := [.lit (.bool false)], args := [d1, d2] }
  | _ => none }
def FrameBackWrongFalsely : Prop := frameBackRow.holds Try.pinned (OpenSpec.ofChange frameBackWrong)

/-- 'reevelaw04.FrameTurned': WHATEVER THE INPUT: true; the input reads as it did. -/
def frameTurnedSpec : ChangeSpec := { name := "frameTurned", fn := fun _ => fun
  | [d1, d2, d3] => { results := [.lit (.bool true)], args := [d1, d2, d3] }
  | _ => none }
def frameTurnedRow : OpenClaim := { program := "ythlninijnbmjfaa", sum := "85425eadd066426a209ca0677bbc88dcdcbd4750d11ee9714ad8ac07a91dc9a6", func := "reeve/reevelaw04.FrameTurned", spec := "frameTurned", unfollowed := true, recurses := true, apart := false }
def FrameTurnedSaid : Prop := frameTurnedRow.holds Try.pinned (OpenSpec.ofChange frameTurnedSpec)

/-- ITS FALSE NEIGHBOUR: 'it returns false'. Refute it at one input. -/
def frameTurnedWrong : ChangeSpec := { name := "frameTurned", fn := fun _ => fun
  | [d1, d2, d3] => { results := [.lit (.bool false)], args := [d1, d2, d3] }
  | _ => none }
def FrameTurnedWrongFalsely : Prop := frameTurnedRow.holds Try.pinned (OpenSpec.ofChange frameTurnedWrong)

/-- 'reevelaw18.WindowAdds': WHATEVER THE INPUT: true; the input reads as it did. -/
def windowAddsSpec : ChangeSpec := { name := "windowAdds", fn := fun _ => fun
  | [d1, d2, d3] => { results := [.lit (.bool true)], args := [d1, d2, d3] }
  | _ => none }
def windowAddsRow : OpenClaim := { program := "ythlninijnbmjfaa", sum := "85425eadd066426a209ca0677bbc88dcdcbd4750d11ee9714ad8ac07a91dc9a6", func := "reeve/reevelaw18.WindowAdds", spec := "windowAdds", unfollowed := true, recurses := true, apart := false }
def WindowAddsSaid : Prop := windowAddsRow.holds Try.pinned (OpenSpec.ofChange windowAddsSpec)

/-- ITS FALSE NEIGHBOUR: 'it returns false'. Refute it at one input. -/
def windowAddsWrong : ChangeSpec := { name := "windowAdds", fn := fun _ => fun
  | [d1, d2, d3] => { results := [.lit (.bool false)], args := [d1, d2, d3] }
  | _ => none }
def WindowAddsWrongFalsely : Prop := windowAddsRow.holds Try.pinned (OpenSpec.ofChange windowAddsWrong)

/-- 'reevelaw18.WindowHolds': WHATEVER THE INPUT: true; the input reads as it did. -/
def windowHoldsSpec : ChangeSpec := { name := "windowHolds", fn := fun _ => fun
  | [d1, d2] => { results := [.lit (.bool true)], args := [d1, d2] }
  | _ => none }
def windowHoldsRow : OpenClaim := { program := "ythlninijnbmjfaa", sum := "85425eadd066426a209ca0677bbc88dcdcbd4750d11ee9714ad8ac07a91dc9a6", func := "reeve/reevelaw18.WindowHolds", spec := "windowHolds", unfollowed := true, recurses := true, apart := false }
def WindowHoldsSaid : Prop := windowHoldsRow.holds Try.pinned (OpenSpec.ofChange windowHoldsSpec)

/-- ITS FALSE NEIGHBOUR: 'it returns false'. Refute it at one input. -/
def windowHoldsWrong : ChangeSpec := { name := "windowHolds", fn := fun _ => fun
  | [d1, d2] => { results := [.lit (.bool false)], args := [d1, d2] }
  | _ => none }
def WindowHoldsWrongFalsely : Prop := windowHoldsRow.holds Try.pinned (OpenSpec.ofChange windowHoldsWrong)

/-- 'reevelaw18.WindowNext': WHATEVER THE INPUT: true; the input reads as it did. -/
def windowNextSpec : ChangeSpec := { name := "windowNext", fn := fun _ => fun
  | [d1, d2, d3, d4] => { results := [.lit (.bool true)], args := [d1, d2, d3, d4] }
  | _ => none }
def windowNextRow : OpenClaim := { program := "ythlninijnbmjfaa", sum := "85425eadd066426a209ca0677bbc88dcdcbd4750d11ee9714ad8ac07a91dc9a6", func := "reeve/reevelaw18.WindowNext", spec := "windowNext", unfollowed := true, recurses := true, apart := false }
def WindowNextSaid : Prop := windowNextRow.holds Try.pinned (OpenSpec.ofChange windowNextSpec)

/-- ITS FALSE NEIGHBOUR: 'it returns false'. Refute it at one input. -/
def windowNextWrong : ChangeSpec := { name := "windowNext", fn := fun _ => fun
  | [d1, d2, d3, d4] => { results := [.lit (.bool false)], args := [d1, d2, d3, d4] }
  | _ => none }
def WindowNextWrongFalsely : Prop := windowNextRow.holds Try.pinned (OpenSpec.ofChange windowNextWrong)

/-- 'reevelaw16.SpecJobs': WHATEVER THE INPUT: true; the input reads as it did. -/
def specJobsSpec : ChangeSpec := { name := "specJobs", fn := fun _ => fun
  | [d] => { results := [.lit (.bool true)], args := [d] }
  | _ => none }
def specJobsRow : OpenClaim := { program := "ythlninijnbmjfaa", sum := "85425eadd066426a209ca0677bbc88dcdcbd4750d11ee9714ad8ac07a91dc9a6", func := "reeve/reevelaw16.SpecJobs", spec := "specJobs", unfollowed := true, recurses := true, apart := false }
def SpecJobsSaid : Prop := specJobsRow.holds Try.pinned (OpenSpec.ofChange specJobsSpec)

/-- ITS FALSE NEIGHBOUR: 'it returns false'. Refute it at one input. -/
def specJobsWrong : ChangeSpec := { name := "specJobs", fn := fun _ => fun
  | [d] => { results := [.lit (.bool false)], args := [d] }
  | _ => none }
def SpecJobsWrongFalsely : Prop := specJobsRow.holds Try.pinned (OpenSpec.ofChange specJobsWrong)

/-- 'reevelaw16.SpecAllocs': WHATEVER THE INPUT: true; the input reads as it did. -/
def specAllocsSpec : ChangeSpec := { name := "specAllocs", fn := fun _ => fun
  | [d] => { results := [.lit (.bool true)], args := [d] }
  | _ => none }
def specAllocsRow : OpenClaim := { program := "ythlninijnbmjfaa", sum := "85425eadd066426a209ca0677bbc88dcdcbd4750d11ee9714ad8ac07a91dc9a6", func := "reeve/reevelaw16.SpecAllocs", spec := "specAllocs", unfollowed := true, recurses := true, apart := false }
def SpecAllocsSaid : Prop := specAllocsRow.holds Try.pinned (OpenSpec.ofChange specAllocsSpec)

/-- ITS FALSE NEIGHBOUR: 'it returns false'. Refute it at one input. -/
def specAllocsWrong : ChangeSpec := { name := "specAllocs", fn := fun _ => fun
  | [d] => { results := [.lit (.bool false)], args := [d] }
  | _ => none }
def SpecAllocsWrongFalsely : Prop := specAllocsRow.holds Try.pinned (OpenSpec.ofChange specAllocsWrong)

/-- 'reevelaw16.SpecApart': WHATEVER THE INPUT: true; the input reads as it did. -/
def specApartSpec : ChangeSpec := { name := "specApart", fn := fun _ => fun
  | [d1, d2, d3] => { results := [.lit (.bool true)], args := [d1, d2, d3] }
  | _ => none }
def specApartRow : OpenClaim := { program := "ythlninijnbmjfaa", sum := "85425eadd066426a209ca0677bbc88dcdcbd4750d11ee9714ad8ac07a91dc9a6", func := "reeve/reevelaw16.SpecApart", spec := "specApart", unfollowed := true, recurses := true, apart := false }
def SpecApartSaid : Prop := specApartRow.holds Try.pinned (OpenSpec.ofChange specApartSpec)

/-- ITS FALSE NEIGHBOUR: 'it returns false'. Refute it at one input. -/
def specApartWrong : ChangeSpec := { name := "specApart", fn := fun _ => fun
  | [d1, d2, d3] => { results := [.lit (.bool false)], args := [d1, d2, d3] }
  | _ => none }
def SpecApartWrongFalsely : Prop := specApartRow.holds Try.pinned (OpenSpec.ofChange specApartWrong)

/- THE SECOND FORM. 'bulk': how many values and letters a reading holds, each counted each time it is reached (what is shared counts as often as it is met; a slice's spare places count too). A statement '..UptoSaid' is the law's where the arguments, and the package variables that the reading takes, are together of bulk at most 1048576: NARROWER than '..Said'. Prove '..Said' where nothing that the law and all that it calls make is longer than what came in: it says more and counts as full. Else prove '..UptoSaid'. A law counts once. -/
mutual
def uptoBulk {H : Type} : DataW H → Nat
  | .lit (.string bytes) => bytes.length + 1
  | .lit _ => 1
  | .nil => 1
  | .ptr d => uptoBulk d + 1
  | .slice elems spare => uptoBulkAll elems + uptoBulkAll spare + 1
  | .agg parts => uptoBulkAll parts + 1
  | .iface _ d => uptoBulk d + 1
  | .map entries => uptoBulkEntries entries + 1
  | .held _ => 1
def uptoBulkAll {H : Type} : List (DataW H) → Nat
  | [] => 0
  | d :: r => uptoBulk d + uptoBulkAll r
def uptoBulkEntries {H : Type} : List (Lit × DataW H) → Nat
  | [] => 0
  | x :: r => uptoBulkEntry x + uptoBulkEntries r
def uptoBulkEntry {H : Type} : Lit × DataW H → Nat
  | (.string bytes, d) => bytes.length + uptoBulk d + 1
  | (_, d) => uptoBulk d + 1
 end
def uptoSmall : (H : Type) → List (DataW H) → Bool := fun _ ds => decide (uptoBulkAll ds ≤ 1048576)
def OpenSpec.upto (s : _root_.Go.ChangeSpec) : _root_.Go.OpenSpec := { _root_.Go.OpenSpec.ofChange s with cond := some uptoSmall }

/-- 'reevelaw04.FrameReads', WHERE WHAT IT READS IS OF BULK AT MOST 1048576: true; the input reads as it did. -/
def frameReadsUptoRow : OpenClaim := { program := "ythlninijnbmjfaa", sum := "85425eadd066426a209ca0677bbc88dcdcbd4750d11ee9714ad8ac07a91dc9a6", func := "reeve/reevelaw04.FrameReads", spec := "frameReads", unfollowed := true, recurses := true, apart := false, narrowed := true }
def FrameReadsUptoSaid : Prop := frameReadsUptoRow.holds Try.pinned (OpenSpec.upto frameReadsSpec)

/-- 'reevelaw04.FrameLong', WHERE WHAT IT READS IS OF BULK AT MOST 1048576: true; the input reads as it did. -/
def frameLongUptoRow : OpenClaim := { program := "ythlninijnbmjfaa", sum := "85425eadd066426a209ca0677bbc88dcdcbd4750d11ee9714ad8ac07a91dc9a6", func := "reeve/reevelaw04.FrameLong", spec := "frameLong", unfollowed := true, recurses := true, apart := false, narrowed := true }
def FrameLongUptoSaid : Prop := frameLongUptoRow.holds Try.pinned (OpenSpec.upto frameLongSpec)

/-- 'reevelaw04.FrameBack', WHERE WHAT IT READS IS OF BULK AT MOST 1048576: true; the input reads as it did. -/
def frameBackUptoRow : OpenClaim := { program := "ythlninijnbmjfaa", sum := "85425eadd066426a209ca0677bbc88dcdcbd4750d11ee9714ad8ac07a91dc9a6", func := "reeve/reevelaw04.FrameBack", spec := "frameBack", unfollowed := true, recurses := true, apart := false, narrowed := true }
def FrameBackUptoSaid : Prop := frameBackUptoRow.holds Try.pinned (OpenSpec.upto frameBackSpec)

/-- 'reevelaw04.FrameTurned', WHERE WHAT IT READS IS OF BULK AT MOST 1048576: true; the input reads as it did. -/
def frameTurnedUptoRow : OpenClaim := { program := "ythlninijnbmjfaa", sum := "85425eadd066426a209ca0677bbc88dcdcbd4750d11ee9714ad8ac07a91dc9a6", func := "reeve/reevelaw04.FrameTurned", spec := "frameTurned", unfollowed := true, recurses := true, apart := false, narrowed := true }
def FrameTurnedUptoSaid : Prop := frameTurnedUptoRow.holds Try.pinned (OpenSpec.upto frameTurnedSpec)

/-- 'reevelaw18.WindowAdds', WHERE WHAT IT READS IS OF BULK AT MOST 1048576: true; the input reads as it did. -/
def windowAddsUptoRow : OpenClaim := { program := "ythlninijnbmjfaa", sum := "85425eadd066426a209ca0677bbc88dcdcbd4750d11ee9714ad8ac07a91dc9a6", func := "reeve/reevelaw18.WindowAdds", spec := "windowAdds", unfollowed := true, recurses := true, apart := false, narrowed := true }
def WindowAddsUptoSaid : Prop := windowAddsUptoRow.holds Try.pinned (OpenSpec.upto windowAddsSpec)

/-- 'reevelaw18.WindowHolds', WHERE WHAT IT READS IS OF BULK AT MOST 1048576: true; the input reads as it did. -/
def windowHoldsUptoRow : OpenClaim := { program := "ythlninijnbmjfaa", sum := "85425eadd066426a209ca0677bbc88dcdcbd4750d11ee9714ad8ac07a91dc9a6", func := "reeve/reevelaw18.WindowHolds", spec := "windowHolds", unfollowed := true, recurses := true, apart := false, narrowed := true }
def WindowHoldsUptoSaid : Prop := windowHoldsUptoRow.holds Try.pinned (OpenSpec.upto windowHoldsSpec)

/-- 'reevelaw18.WindowNext', WHERE WHAT IT READS IS OF BULK AT MOST 1048576: true; the input reads as it did. -/
def windowNextUptoRow : OpenClaim := { program := "ythlninijnbmjfaa", sum := "85425eadd066426a209ca0677bbc88dcdcbd4750d11ee9714ad8ac07a91dc9a6", func := "reeve/reevelaw18.WindowNext", spec := "windowNext", unfollowed := true, recurses := true, apart := false, narrowed := true }
def WindowNextUptoSaid : Prop := windowNextUptoRow.holds Try.pinned (OpenSpec.upto windowNextSpec)

/-- 'reevelaw16.SpecJobs', WHERE WHAT IT READS IS OF BULK AT MOST 1048576: true; the input reads as it did. -/
def specJobsUptoRow : OpenClaim := { program := "ythlninijnbmjfaa", sum := "85425eadd066426a209ca0677bbc88dcdcbd4750d11ee9714ad8ac07a91dc9a6", func := "reeve/reevelaw16.SpecJobs", spec := "specJobs", unfollowed := true, recurses := true, apart := false, narrowed := true }
def SpecJobsUptoSaid : Prop := specJobsUptoRow.holds Try.pinned (OpenSpec.upto specJobsSpec)

/-- 'reevelaw16.SpecAllocs', WHERE WHAT IT READS IS OF BULK AT MOST 1048576: true; the input reads as it did. -/
def specAllocsUptoRow : OpenClaim := { program := "ythlninijnbmjfaa", sum := "85425eadd066426a209ca0677bbc88dcdcbd4750d11ee9714ad8ac07a91dc9a6", func := "reeve/reevelaw16.SpecAllocs", spec := "specAllocs", unfollowed := true, recurses := true, apart := false, narrowed := true }
def SpecAllocsUptoSaid : Prop := specAllocsUptoRow.holds Try.pinned (OpenSpec.upto specAllocsSpec)

/-- 'reevelaw16.SpecApart', WHERE WHAT IT READS IS OF BULK AT MOST 1048576: true; the input reads as it did. -/
def specApartUptoRow : OpenClaim := { program := "ythlninijnbmjfaa", sum := "85425eadd066426a209ca0677bbc88dcdcbd4750d11ee9714ad8ac07a91dc9a6", func := "reeve/reevelaw16.SpecApart", spec := "specApart", unfollowed := true, recurses := true, apart := false, narrowed := true }
def SpecApartUptoSaid : Prop := specApartUptoRow.holds Try.pinned (OpenSpec.upto specApartSpec)

end Rows
end Go.Proofs.Ythlninijnbmjfaa
