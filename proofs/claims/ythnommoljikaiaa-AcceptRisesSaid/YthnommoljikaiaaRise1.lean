/- The law AcceptRises: what is told in a row, and what an answer of Accept says of it. -/
import Derived.Test.YthnommoljikaiaaAcc3
import Derived.Test.YthnommoljikaiaaAid3
set_option linter.unusedSimpArgs false
set_option linter.unusedVariables false
namespace Go.Proofs.Ythnommoljikaiaa
open Go.RowKit

/-- A row of manifests that are told. -/
def RdT (w : World) (A : Option Addr) (L : List Told) : Prop :=
  0 < L.length → ∃ b o, A = some ⟨b, o, none⟩ ∧ b < w.heap.size ∧ ∀ j (h : j < L.length),
    w.cell? ⟨b, o + j * 3, none⟩ = some (.int .u64 L[j].gen) ∧ w.cell? ⟨b, o + j * 3 + 1, none⟩ = some (.int .u64 L[j].epoch) ∧ w.cell? ⟨b, o + j * 3 + 2, none⟩ = some L[j].s.val
theorem refused_low (p : Pin) (gen epoch c : Int) (bs : List Int) (hc : acceptOf p gen bs epoch = (pin0, c)) (h0 : c ≠ 0) (hg : 0 ≤ p.g) :
    decide (p.g < gen) = false ∨ (decide (p.g < gen) = true ∧ decide (p.e ≤ epoch) = false) := by
  unfold acceptOf at hc
  simp only [decide_eq_false_iff_not, decide_eq_true_eq]
  split at hc
  · omega
  · split at hc
    · omega
    · split at hc
      · omega
      · exact absurd (Prod.mk.inj hc).2.symm h0
theorem kept_high (p : Pin) (gen epoch : Int) (bs : List Int) (hc : acceptOf p gen bs epoch = (⟨gen, epoch, shaOf bs⟩, 0)) :
    decide (gen < p.g) = false ∧ decide (epoch < p.e) = false ∧ ((gen == p.g) = false ∨ ((gen == p.g) = true ∧ shaOf bs = p.s)) := by
  unfold acceptOf at hc
  simp only [decide_eq_false_iff_not, beq_iff_eq, beq_eq_false_iff_ne]
  split at hc
  · exact absurd (Prod.mk.inj hc).2 (by decide)
  · split at hc
    · exact absurd (Prod.mk.inj hc).2 (by decide)
    · split at hc
      · exact absurd (Prod.mk.inj hc).2 (by decide)
      · rename_i h1 h2 h3
        refine ⟨by omega, by omega, ?_⟩
        by_cases e : gen = p.g
        · exact .inr ⟨e, by simpa [e] using h3⟩
        · exact .inl e
end Go.Proofs.Ythnommoljikaiaa
