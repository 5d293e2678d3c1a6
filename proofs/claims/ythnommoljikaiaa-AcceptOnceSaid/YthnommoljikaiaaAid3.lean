/- Aids for a region whose frame behind it is found by its walk. -/
import Derived.Test.YthnommoljikaiaaAid2
namespace Go.Proofs.Ythnommoljikaiaa
open Go.RowKit

theorem region_mid {P : Program} {Q : Exit → Act → World → Prop} {code : Code} {a A : Act} {w : World} {S : World → Prop}
    (hreg : code.wp P (fun e a' w' => e = .normal ∧ a' = A ∧ S w') a w) (tail : ∀ w', S w' → Q .normal A w') : code.wp P Q a w :=
  Code.wp_mono (fun e a' w' ⟨h1, h2, h3⟩ => h1 ▸ h2 ▸ tail w' h3) hreg
end Go.Proofs.Ythnommoljikaiaa
