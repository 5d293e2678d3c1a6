/- Parts of a function's code: what stands behind a region. No program in it. -/
import Derived.WalkKit
namespace Go.Proofs.Ythnommoljikaiaa

/-- What stands behind the region n, in the sequence that it begins. -/
def afterOf (n : Nat) : Code → Option Code
  | .seq (.region m x y) b => if m = n then some b else afterOf n b
  | .seq a b => match afterOf n a with
    | some c => some c
    | none => afterOf n b
  | .loop c => afterOf n c
  | .block _ c => afterOf n c
  | .scope c => afterOf n c
  | .cond _ a b => match afterOf n a with
    | some c => some c
    | none => afterOf n b
  | _ => none
end Go.Proofs.Ythnommoljikaiaa
