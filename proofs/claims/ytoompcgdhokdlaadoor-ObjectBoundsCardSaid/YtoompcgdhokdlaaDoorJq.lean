/- Numbers that came in, opened. -/
import Derived.Test.YtoompcgdhokdlaaDoorJo
set_option linter.unusedSimpArgs false
set_option linter.unusedVariables false
namespace Go.Proofs.YtoompcgdhokdlaaDoor
open Go.RowKit Go.ChangeShapes Go.WideShapes Go.Deep

set_option maxRecDepth 100000 in
theorem int_argP {H : Type} {enc : TypeId × Value → H} {w : World} {base : Nat} {r : Reach} {b0 : Nat} {spare : Nat → Bool} {held : Bool} {v : Value} {d : DataW H} {p : List MemPlace} (hv : Value.okWide Tryd.prog w r b0 3 v)
    (h : DataW.Trod enc Tryd.prog w base spare held 3 v d p) : ∃ n : Int, v = .int .i64 n ∧ True := by
  obtain ⟨n, rfl⟩ := okWide_int Tryd.underlying3 hv
  exact ⟨n, rfl, trivial⟩
end Go.Proofs.YtoompcgdhokdlaaDoor
