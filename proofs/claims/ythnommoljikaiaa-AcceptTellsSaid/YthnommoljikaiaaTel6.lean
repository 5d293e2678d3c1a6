/- The law AcceptTells over arguments as they are opened. -/
import Derived.Test.YthnommoljikaiaaTel5
import Derived.Test.YthnommoljikaiaaOpen
set_option linter.unusedVariables false
namespace Go.Proofs.Ythnommoljikaiaa
open Go.RowKit

theorem isB_of_all {l : List Int} (h : ∀ z ∈ l, 0 ≤ z ∧ z < 256) : IsB l := fun j => by
  rw [List.getD_eq_getElem?_getD]
  cases hj : l[j]? with
  | none => exact ⟨by decide, by decide⟩
  | some z => exact h z (List.mem_of_getElem? hj)
end Go.Proofs.Ythnommoljikaiaa
