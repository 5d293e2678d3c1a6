/- Two sums, reckoned. -/
import Derived.Test.YthnommoljikaiaaSha6
set_option linter.unusedVariables false
namespace Go.Proofs.Ythnommoljikaiaa
theorem sha_ab : decide (shaOf [97] = shaOf [98]) = false := by kernel_rfl
end Go.Proofs.Ythnommoljikaiaa
