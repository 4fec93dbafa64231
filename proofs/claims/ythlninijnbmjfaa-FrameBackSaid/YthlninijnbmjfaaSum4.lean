/- The contract of sum.Join, and the known run of reevelaw02. Conditions: none. -/
import Derived.Test.YthlninijnbmjfaaSum3
namespace Go.Proofs.Ythlninijnbmjfaa
open Go.RowKit

/-- What so many bytes 0 do to each bit. -/
def zmat (p : Nat) (i : Nat) : B32 := bsteps (8 * p) (1#32 <<< i)
theorem zmat_of (p : Nat) (c : B32) : mofB (zmat p) c 32 = bsteps (8 * p) c := mofB_steps (8 * p) (zmat p) (fun _ _ => rfl) c
theorem zmat_twice (p : Nat) : matC (fun i => mofB (zmat p) (zmat p i) 32) 32 = matC (zmat (2 * p)) 32 := matC_congr fun i _ => by
  rw [zmat_of]
  unfold zmat
  rw [← bsteps_add, show 8 * p + 8 * p = 8 * (2 * p) by omega]
theorem zmat_one (k : Nat) : zmat 1 k = bsteps 8 (1#32 <<< k) := rfl
end Go.Proofs.Ythlninijnbmjfaa
