/- The law AcceptOnce returns true, whatever the manifest, the pin and the other run of bytes. -/
import Derived.Test.YthnommoljikaiaaAcc4
set_option linter.unusedSimpArgs false
set_option linter.unusedVariables false
namespace Go.Proofs.Ythnommoljikaiaa
open Go.RowKit

theorem once_any (p : Pin) (t : Told) (o : Sl) (w : World) (hp : p.s.length = 32) (ht : t.s.Ok w) (ho : o.Ok w) (hg : U64 t.gen) :
    Calls Try.prog 10 #[p.val, t.val, o.val] w fun e w' => e = .returned (.bool true) ∧ Below w.heap.size w w' := by
  by_cases hl : 500 < t.s.n ∨ 500 < o.n
  · exact once_long p t o w hl
  · have h1 : t.s.n ≤ 500 := by omega
    have h2 : o.n ≤ 500 := by omega
    rcases accept_code p t.gen t.s.bs t.epoch with ⟨c, hc, hr, h0⟩ | ⟨hc, h0⟩
    · exact once_refused p t o w hp ht h1 h2 c hc hr h0
    · exact once_kept p t o w hp ht ho h1 h2 hg hc h0
end Go.Proofs.Ythnommoljikaiaa
