/-
  No cell of these rows narrows 'for every input' (looked for: loops, veiled, ifaces, maps, wideKeys, modest, calm, conditions, laid).
  DERIVED. THE GIVEN ROWS OF THIS SEAT. 11 by the template 'for every input the law returns true; each argument reads behind the call as it read before'; 0 by the template 'total and deterministic' (their statements: YtbamgoocgmhohaaTotals.lean).
  GIVEN WITH THE SEED: the statements are not yours to turn. If you find one false, say at which input.
  Laid BY PROGRAM, IN A SANDBOX (cutbox-rows.mjs): the forced cells as the released guide's own fill.sh prints them over the translation 5004b08ad70d9077… (all of the seat's roots in one cut). By AI agents, Wed Nov 11 2026. No macro, syntax, notation, axiom, sorry.
-/
import Derived.Test.YtbamgoocgmhohaaChecked
import GoSem.Claim
import GoSem.ClaimJoined
import GoSem.ClaimMapViews
import Derived.JoinedTies
import Derived.KernelRfl
namespace Go.Proofs.Ytbamgoocgmhohaa
/- THE CELL 'sum', in the pinned program and in every row, IS THE sha256 OF THE DUMP (.gsa) THAT YtbamgoocgmhohaaProg.lean LOADS. Nothing in Lean hashes anything: it is a label: what it is worth is what the hold of that sum in a sandbox is worth. -/
noncomputable def Try.pinned : Pinned := { name := "ytbamgoocgmhohaa", sum := "5004b08ad70d9077543c14931941461d202e57351e38efaee078701ef5578816", checked := Try.checked }
namespace Rows
def none {H : Type} : Left H := { results := [], args := [] }

/-- 'reevelaw19.ReclaimSteps': WHATEVER THE INPUT: true; the input reads as it did. -/
def reclaimStepsSpec : ChangeSpec := { name := "reclaimSteps", fn := fun _ => fun
  | [d1, d2, d3, d4] => { results := [.lit (.bool true)], args := [d1, d2, d3, d4] }
  | _ => none }
def reclaimStepsRow : OpenClaim := { program := "ytbamgoocgmhohaa", sum := "5004b08ad70d9077543c14931941461d202e57351e38efaee078701ef5578816", func := "reeve/reevelaw19.ReclaimSteps", spec := "reclaimSteps", unfollowed := true, recurses := true, apart := false }
def ReclaimStepsSaid : Prop := reclaimStepsRow.holds Try.pinned (OpenSpec.ofChange reclaimStepsSpec)

/-- ITS FALSE NEIGHBOUR: 'it returns false'. Refute it at one input. -/
def reclaimStepsWrong : ChangeSpec := { name := "reclaimSteps", fn := fun _ => fun
  | [d1, d2, d3, d4] => { results := [.lit (.bool false)], args := [d1, d2, d3, d4] }
  | _ => none }
def ReclaimStepsWrongFalsely : Prop := reclaimStepsRow.holds Try.pinned (OpenSpec.ofChange reclaimStepsWrong)

/-- 'reevelaw19.ReclaimHolds': WHATEVER THE INPUT: true; the input reads as it did. -/
def reclaimHoldsSpec : ChangeSpec := { name := "reclaimHolds", fn := fun _ => fun
  | [d1, d2, d3] => { results := [.lit (.bool true)], args := [d1, d2, d3] }
  | _ => none }
def reclaimHoldsRow : OpenClaim := { program := "ytbamgoocgmhohaa", sum := "5004b08ad70d9077543c14931941461d202e57351e38efaee078701ef5578816", func := "reeve/reevelaw19.ReclaimHolds", spec := "reclaimHolds", unfollowed := true, recurses := true, apart := false }
def ReclaimHoldsSaid : Prop := reclaimHoldsRow.holds Try.pinned (OpenSpec.ofChange reclaimHoldsSpec)

/-- ITS FALSE NEIGHBOUR: 'it returns false'. Refute it at one input. -/
def reclaimHoldsWrong : ChangeSpec := { name := "reclaimHolds", fn := fun _ => fun
  | [d1, d2, d3] => { results := [.lit (.bool false)], args := [d1, d2, d3] }
  | _ => none }
def ReclaimHoldsWrongFalsely : Prop := reclaimHoldsRow.holds Try.pinned (OpenSpec.ofChange reclaimHoldsWrong)

/-- 'reevelaw19.ReclaimGoals': WHATEVER THE INPUT: true; the input reads as it did. -/
def reclaimGoalsSpec : ChangeSpec := { name := "reclaimGoals", fn := fun _ => fun
  | [d1, d2, d3] => { results := [.lit (.bool true)], args := [d1, d2, d3] }
  | _ => none }
def reclaimGoalsRow : OpenClaim := { program := "ytbamgoocgmhohaa", sum := "5004b08ad70d9077543c14931941461d202e57351e38efaee078701ef5578816", func := "reeve/reevelaw19.ReclaimGoals", spec := "reclaimGoals", unfollowed := true, recurses := true, apart := false }
def ReclaimGoalsSaid : Prop := reclaimGoalsRow.holds Try.pinned (OpenSpec.ofChange reclaimGoalsSpec)

/-- ITS FALSE NEIGHBOUR: 'it returns false'. Refute it at one input. -/
def reclaimGoalsWrong : ChangeSpec := { name := "reclaimGoals", fn := fun _ => fun
  | [d1, d2, d3] => { results := [.lit (.bool false)], args := [d1, d2, d3] }
  | _ => none }
def ReclaimGoalsWrongFalsely : Prop := reclaimGoalsRow.holds Try.pinned (OpenSpec.ofChange reclaimGoalsWrong)

/-- 'reevelaw19.ReclaimComes': WHATEVER THE INPUT: true; the input reads as it did. -/
def reclaimComesSpec : ChangeSpec := { name := "reclaimComes", fn := fun _ => fun
  | [d1, d2, d3, d4] => { results := [.lit (.bool true)], args := [d1, d2, d3, d4] }
  | _ => none }
def reclaimComesRow : OpenClaim := { program := "ytbamgoocgmhohaa", sum := "5004b08ad70d9077543c14931941461d202e57351e38efaee078701ef5578816", func := "reeve/reevelaw19.ReclaimComes", spec := "reclaimComes", unfollowed := true, recurses := true, apart := false }
def ReclaimComesSaid : Prop := reclaimComesRow.holds Try.pinned (OpenSpec.ofChange reclaimComesSpec)

/-- ITS FALSE NEIGHBOUR: 'it returns false'. Refute it at one input. -/
def reclaimComesWrong : ChangeSpec := { name := "reclaimComes", fn := fun _ => fun
  | [d1, d2, d3, d4] => { results := [.lit (.bool false)], args := [d1, d2, d3, d4] }
  | _ => none }
def ReclaimComesWrongFalsely : Prop := reclaimComesRow.holds Try.pinned (OpenSpec.ofChange reclaimComesWrong)

/-- 'reevelaw09.TicksPlay': WHATEVER THE INPUT: true; the input reads as it did. -/
def ticksPlaySpec : ChangeSpec := { name := "ticksPlay", fn := fun _ => fun
  | [d1, d2, d3] => { results := [.lit (.bool true)], args := [d1, d2, d3] }
  | _ => none }
def ticksPlayRow : OpenClaim := { program := "ytbamgoocgmhohaa", sum := "5004b08ad70d9077543c14931941461d202e57351e38efaee078701ef5578816", func := "reeve/reevelaw09.TicksPlay", spec := "ticksPlay", unfollowed := true, recurses := true, apart := false }
def TicksPlaySaid : Prop := ticksPlayRow.holds Try.pinned (OpenSpec.ofChange ticksPlaySpec)

/-- ITS FALSE NEIGHBOUR: 'it returns false'. Refute it at one input. -/
def ticksPlayWrong : ChangeSpec := { name := "ticksPlay", fn := fun _ => fun
  | [d1, d2, d3] => { results := [.lit (.bool false)], args := [d1, d2, d3] }
  | _ => none }
def TicksPlayWrongFalsely : Prop := ticksPlayRow.holds Try.pinned (OpenSpec.ofChange ticksPlayWrong)

/-- 'reevelaw09.TicksNear': WHATEVER THE INPUT: true; the input reads as it did. -/
def ticksNearSpec : ChangeSpec := { name := "ticksNear", fn := fun _ => fun
  | [d1, d2, d3] => { results := [.lit (.bool true)], args := [d1, d2, d3] }
  | _ => none }
def ticksNearRow : OpenClaim := { program := "ytbamgoocgmhohaa", sum := "5004b08ad70d9077543c14931941461d202e57351e38efaee078701ef5578816", func := "reeve/reevelaw09.TicksNear", spec := "ticksNear", unfollowed := true, recurses := true, apart := false }
def TicksNearSaid : Prop := ticksNearRow.holds Try.pinned (OpenSpec.ofChange ticksNearSpec)

/-- ITS FALSE NEIGHBOUR: 'it returns false'. Refute it at one input. -/
def ticksNearWrong : ChangeSpec := { name := "ticksNear", fn := fun _ => fun
  | [d1, d2, d3] => { results := [.lit (.bool false)], args := [d1, d2, d3] }
  | _ => none }
def TicksNearWrongFalsely : Prop := ticksNearRow.holds Try.pinned (OpenSpec.ofChange ticksNearWrong)

/-- 'reevelaw09.TicksNone': WHATEVER THE INPUT: true; the input reads as it did. -/
def ticksNoneSpec : ChangeSpec := { name := "ticksNone", fn := fun _ => fun
  | [d1, d2] => { results := [.lit (.bool true)], args := [d1, d2] }
  | _ => none }
def ticksNoneRow : OpenClaim := { program := "ytbamgoocgmhohaa", sum := "5004b08ad70d9077543c14931941461d202e57351e38efaee078701ef5578816", func := "reeve/reevelaw09.TicksNone", spec := "ticksNone", unfollowed := true, recurses := true, apart := false }
def TicksNoneSaid : Prop := ticksNoneRow.holds Try.pinned (OpenSpec.ofChange ticksNoneSpec)

/-- ITS FALSE NEIGHBOUR: 'it returns false'. Refute it at one input. -/
def ticksNoneWrong : ChangeSpec := { name := "ticksNone", fn := fun _ => fun
  | [d1, d2] => { results := [.lit (.bool false)], args := [d1, d2] }
  | _ => none }
def TicksNoneWrongFalsely : Prop := ticksNoneRow.holds Try.pinned (OpenSpec.ofChange ticksNoneWrong)

/-- 'reevelaw09.TicksOrder': WHATEVER THE INPUT: true; the input reads as it did. -/
def ticksOrderSpec : ChangeSpec := { name := "ticksOrder", fn := fun _ => fun
  | [d1, d2] => { results := [.lit (.bool true)], args := [d1, d2] }
  | _ => none }
def ticksOrderRow : OpenClaim := { program := "ytbamgoocgmhohaa", sum := "5004b08ad70d9077543c14931941461d202e57351e38efaee078701ef5578816", func := "reeve/reevelaw09.TicksOrder", spec := "ticksOrder", unfollowed := true, recurses := true, apart := false }
def TicksOrderSaid : Prop := ticksOrderRow.holds Try.pinned (OpenSpec.ofChange ticksOrderSpec)

/-- ITS FALSE NEIGHBOUR: 'it returns false'. Refute it at one input. -/
def ticksOrderWrong : ChangeSpec := { name := "ticksOrder", fn := fun _ => fun
  | [d1, d2] => { results := [.lit (.bool false)], args := [d1, d2] }
  | _ => none }
def TicksOrderWrongFalsely : Prop := ticksOrderRow.holds Try.pinned (OpenSpec.ofChange ticksOrderWrong)

/-- 'reevelaw20.ScoreTells': WHATEVER THE INPUT: true; the input reads as it did. -/
def scoreTellsSpec : ChangeSpec := { name := "scoreTells", fn := fun _ => fun
  | [d1, d2, d3] => { results := [.lit (.bool true)], args := [d1, d2, d3] }
  | _ => none }
def scoreTellsRow : OpenClaim := { program := "ytbamgoocgmhohaa", sum := "5004b08ad70d9077543c14931941461d202e57351e38efaee078701ef5578816", func := "reeve/reevelaw20.ScoreTells", spec := "scoreTells", inPlace := ["math/bits.Add64"], unfollowed := true, recurses := true, apart := false }
def ScoreTellsSaid : Prop := scoreTellsRow.holds Try.pinned (OpenSpec.ofChange scoreTellsSpec)

/-- ITS FALSE NEIGHBOUR: 'it returns false'. Refute it at one input. -/
def scoreTellsWrong : ChangeSpec := { name := "scoreTells", fn := fun _ => fun
  | [d1, d2, d3] => { results := [.lit (.bool false)], args := [d1, d2, d3] }
  | _ => none }
def ScoreTellsWrongFalsely : Prop := scoreTellsRow.holds Try.pinned (OpenSpec.ofChange scoreTellsWrong)

/-- 'reevelaw20.ScoreGrows': WHATEVER THE INPUT: true; the input reads as it did. -/
def scoreGrowsSpec : ChangeSpec := { name := "scoreGrows", fn := fun _ => fun
  | [d1, d2, d3, d4] => { results := [.lit (.bool true)], args := [d1, d2, d3, d4] }
  | _ => none }
def scoreGrowsRow : OpenClaim := { program := "ytbamgoocgmhohaa", sum := "5004b08ad70d9077543c14931941461d202e57351e38efaee078701ef5578816", func := "reeve/reevelaw20.ScoreGrows", spec := "scoreGrows", inPlace := ["math/bits.Add64"], unfollowed := true, recurses := true, apart := false }
def ScoreGrowsSaid : Prop := scoreGrowsRow.holds Try.pinned (OpenSpec.ofChange scoreGrowsSpec)

/-- ITS FALSE NEIGHBOUR: 'it returns false'. Refute it at one input. -/
def scoreGrowsWrong : ChangeSpec := { name := "scoreGrows", fn := fun _ => fun
  | [d1, d2, d3, d4] => { results := [.lit (.bool false)], args := [d1, d2, d3, d4] }
  | _ => none }
def ScoreGrowsWrongFalsely : Prop := scoreGrowsRow.holds Try.pinned (OpenSpec.ofChange scoreGrowsWrong)

/-- 'reevelaw20.ScoreTurns': WHATEVER THE INPUT: true; the input reads as it did. -/
def scoreTurnsSpec : ChangeSpec := { name := "scoreTurns", fn := fun _ => fun
  | [d1, d2, d3] => { results := [.lit (.bool true)], args := [d1, d2, d3] }
  | _ => none }
def scoreTurnsRow : OpenClaim := { program := "ytbamgoocgmhohaa", sum := "5004b08ad70d9077543c14931941461d202e57351e38efaee078701ef5578816", func := "reeve/reevelaw20.ScoreTurns", spec := "scoreTurns", inPlace := ["math/bits.Add64"], unfollowed := true, recurses := true, apart := false }
def ScoreTurnsSaid : Prop := scoreTurnsRow.holds Try.pinned (OpenSpec.ofChange scoreTurnsSpec)

/-- ITS FALSE NEIGHBOUR: 'it returns false'. Refute it at one input. -/
def scoreTurnsWrong : ChangeSpec := { name := "scoreTurns", fn := fun _ => fun
  | [d1, d2, d3] => { results := [.lit (.bool false)], args := [d1, d2, d3] }
  | _ => none }
def ScoreTurnsWrongFalsely : Prop := scoreTurnsRow.holds Try.pinned (OpenSpec.ofChange scoreTurnsWrong)

/- THE SECOND FORM. 'bulk': how many values and letters a reading holds, each counted each time it is reached (what is shared counts as often as it is met; a slice's spare places count too). A statement '..UptoSaid' is the law's where the arguments, and the package variables that the reading takes, are together of bulk at most 1048576: NARROWER than '..Said'. Prove '..Said' where nothing that the law and all that it calls make is longer than what came in: it says more and counts as full. Else prove '..UptoSaid'. A law counts once. -/
mutual
def uptoBulk {H : Type} : DataW H → Nat
  | .lit (.string bytes) => bytes.length + 1
  | .lit _ => 1
  | .nil => 1
  | .ptr d => uptoBulk d + 1
  | .slice elems spare => uptoBulkAll elems + uptoBulkAll spare + 1
  | .agg parts => uptoBulkAll parts + 1
  | .iface _ d => uptoBulk d + 1
  | .map entries => uptoBulkEntries entries + 1
  | .held _ => 1
def uptoBulkAll {H : Type} : List (DataW H) → Nat
  | [] => 0
  | d :: r => uptoBulk d + uptoBulkAll r
def uptoBulkEntries {H : Type} : List (Lit × DataW H) → Nat
  | [] => 0
  | x :: r => uptoBulkEntry x + uptoBulkEntries r
def uptoBulkEntry {H : Type} : Lit × DataW H → Nat
  | (.string bytes, d) => bytes.length + uptoBulk d + 1
  | (_, d) => uptoBulk d + 1
 end
def uptoSmall : (H : Type) → List (DataW H) → Bool := fun _ ds => decide (uptoBulkAll ds ≤ 1048576)
def OpenSpec.upto (s : _root_.Go.ChangeSpec) : _root_.Go.OpenSpec := { _root_.Go.OpenSpec.ofChange s with cond := some uptoSmall }

/-- 'reevelaw19.ReclaimSteps', WHERE WHAT IT READS IS OF BULK AT MOST 1048576: true; the input reads as it did. -/
def reclaimStepsUptoRow : OpenClaim := { program := "ytbamgoocgmhohaa", sum := "5004b08ad70d9077543c14931941461d202e57351e38efaee078701ef5578816", func := "reeve/reevelaw19.ReclaimSteps", spec := "reclaimSteps", unfollowed := true, recurses := true, apart := false, narrowed := true }
def ReclaimStepsUptoSaid : Prop := reclaimStepsUptoRow.holds Try.pinned (OpenSpec.upto reclaimStepsSpec)

/-- 'reevelaw19.ReclaimHolds', WHERE WHAT IT READS IS OF BULK AT MOST 1048576: true; the input reads as it did. -/
def reclaimHoldsUptoRow : OpenClaim := { program := "ytbamgoocgmhohaa", sum := "5004b08ad70d9077543c14931941461d202e57351e38efaee078701ef5578816", func := "reeve/reevelaw19.ReclaimHolds", spec := "reclaimHolds", unfollowed := true, recurses := true, apart := false, narrowed := true }
def ReclaimHoldsUptoSaid : Prop := reclaimHoldsUptoRow.holds Try.pinned (OpenSpec.upto reclaimHoldsSpec)

/-- 'reevelaw19.ReclaimGoals', WHERE WHAT IT READS IS OF BULK AT MOST 1048576: true; the input reads as it did. -/
def reclaimGoalsUptoRow : OpenClaim := { program := "ytbamgoocgmhohaa", sum := "5004b08ad70d9077543c14931941461d202e57351e38efaee078701ef5578816", func := "reeve/reevelaw19.ReclaimGoals", spec := "reclaimGoals", unfollowed := true, recurses := true, apart := false, narrowed := true }
def ReclaimGoalsUptoSaid : Prop := reclaimGoalsUptoRow.holds Try.pinned (OpenSpec.upto reclaimGoalsSpec)

/-- 'reevelaw19.ReclaimComes', WHERE WHAT IT READS IS OF BULK AT MOST 1048576: true; the input reads as it did. -/
def reclaimComesUptoRow : OpenClaim := { program := "ytbamgoocgmhohaa", sum := "5004b08ad70d9077543c14931941461d202e57351e38efaee078701ef5578816", func := "reeve/reevelaw19.ReclaimComes", spec := "reclaimComes", unfollowed := true, recurses := true, apart := false, narrowed := true }
def ReclaimComesUptoSaid : Prop := reclaimComesUptoRow.holds Try.pinned (OpenSpec.upto reclaimComesSpec)

/-- 'reevelaw09.TicksPlay', WHERE WHAT IT READS IS OF BULK AT MOST 1048576: true; the input reads as it did. -/
def ticksPlayUptoRow : OpenClaim := { program := "ytbamgoocgmhohaa", sum := "5004b08ad70d9077543c14931941461d202e57351e38efaee078701ef5578816", func := "reeve/reevelaw09.TicksPlay", spec := "ticksPlay", unfollowed := true, recurses := true, apart := false, narrowed := true }
def TicksPlayUptoSaid : Prop := ticksPlayUptoRow.holds Try.pinned (OpenSpec.upto ticksPlaySpec)

/-- 'reevelaw09.TicksNear', WHERE WHAT IT READS IS OF BULK AT MOST 1048576: true; the input reads as it did. -/
def ticksNearUptoRow : OpenClaim := { program := "ytbamgoocgmhohaa", sum := "5004b08ad70d9077543c14931941461d202e57351e38efaee078701ef5578816", func := "reeve/reevelaw09.TicksNear", spec := "ticksNear", unfollowed := true, recurses := true, apart := false, narrowed := true }
def TicksNearUptoSaid : Prop := ticksNearUptoRow.holds Try.pinned (OpenSpec.upto ticksNearSpec)

/-- 'reevelaw09.TicksNone', WHERE WHAT IT READS IS OF BULK AT MOST 1048576: true; the input reads as it did. -/
def ticksNoneUptoRow : OpenClaim := { program := "ytbamgoocgmhohaa", sum := "5004b08ad70d9077543c14931941461d202e57351e38efaee078701ef5578816", func := "reeve/reevelaw09.TicksNone", spec := "ticksNone", unfollowed := true, recurses := true, apart := false, narrowed := true }
def TicksNoneUptoSaid : Prop := ticksNoneUptoRow.holds Try.pinned (OpenSpec.upto ticksNoneSpec)

/-- 'reevelaw09.TicksOrder', WHERE WHAT IT READS IS OF BULK AT MOST 1048576: true; the input reads as it did. -/
def ticksOrderUptoRow : OpenClaim := { program := "ytbamgoocgmhohaa", sum := "5004b08ad70d9077543c14931941461d202e57351e38efaee078701ef5578816", func := "reeve/reevelaw09.TicksOrder", spec := "ticksOrder", unfollowed := true, recurses := true, apart := false, narrowed := true }
def TicksOrderUptoSaid : Prop := ticksOrderUptoRow.holds Try.pinned (OpenSpec.upto ticksOrderSpec)

/-- 'reevelaw20.ScoreTells', WHERE WHAT IT READS IS OF BULK AT MOST 1048576: true; the input reads as it did. -/
def scoreTellsUptoRow : OpenClaim := { program := "ytbamgoocgmhohaa", sum := "5004b08ad70d9077543c14931941461d202e57351e38efaee078701ef5578816", func := "reeve/reevelaw20.ScoreTells", spec := "scoreTells", inPlace := ["math/bits.Add64"], unfollowed := true, recurses := true, apart := false, narrowed := true }
def ScoreTellsUptoSaid : Prop := scoreTellsUptoRow.holds Try.pinned (OpenSpec.upto scoreTellsSpec)

/-- 'reevelaw20.ScoreGrows', WHERE WHAT IT READS IS OF BULK AT MOST 1048576: true; the input reads as it did. -/
def scoreGrowsUptoRow : OpenClaim := { program := "ytbamgoocgmhohaa", sum := "5004b08ad70d9077543c14931941461d202e57351e38efaee078701ef5578816", func := "reeve/reevelaw20.ScoreGrows", spec := "scoreGrows", inPlace := ["math/bits.Add64"], unfollowed := true, recurses := true, apart := false, narrowed := true }
def ScoreGrowsUptoSaid : Prop := scoreGrowsUptoRow.holds Try.pinned (OpenSpec.upto scoreGrowsSpec)

/-- 'reevelaw20.ScoreTurns', WHERE WHAT IT READS IS OF BULK AT MOST 1048576: true; the input reads as it did. -/
def scoreTurnsUptoRow : OpenClaim := { program := "ytbamgoocgmhohaa", sum := "5004b08ad70d9077543c14931941461d202e57351e38efaee078701ef5578816", func := "reeve/reevelaw20.ScoreTurns", spec := "scoreTurns", inPlace := ["math/bits.Add64"], unfollowed := true, recurses := true, apart := false, narrowed := true }
def ScoreTurnsUptoSaid : Prop := scoreTurnsUptoRow.holds Try.pinned (OpenSpec.upto scoreTurnsSpec)

end Rows
end Go.Proofs.Ytbamgoocgmhohaa
