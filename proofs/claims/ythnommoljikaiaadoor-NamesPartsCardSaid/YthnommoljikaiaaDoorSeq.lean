/- Parts of a function's code: the sequence that begins with a region. No program in it. -/
import Derived.WalkKit
namespace Go.Proofs.YthnommoljikaiaaDoor

/-- The sequence that begins with a region. -/
def seqOf (n : Nat) : Code → Option Code
  | .seq (.region m x y) b => if m = n then some (.seq (.region m x y) b) else seqOf n b
  | .seq a b => match seqOf n a with
    | some c => some c
    | none => seqOf n b
  | .loop c => seqOf n c
  | .block _ c => seqOf n c
  | .scope c => seqOf n c
  | .cond _ a b => match seqOf n a with
    | some c => some c
    | none => seqOf n b
  | _ => none
end Go.Proofs.YthnommoljikaiaaDoor
