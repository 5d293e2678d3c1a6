/- Rows of runs of bytes that came in, opened. -/
import Derived.Test.YthnommoljikaiaaFrm9
import Derived.Test.YthnommoljikaiaaOpenB
import Derived.Deep.Slices
set_option linter.unusedSimpArgs false
set_option linter.unusedVariables false
namespace Go.Proofs.Ythnommoljikaiaa
open Go.RowKit Go.ChangeShapes Go.WideShapes Go.Deep

set_option maxRecDepth 100000 in
theorem rows_ofB {H : Type} {enc : TypeId × Value → H} {w : World} {base : Nat} {r : Reach} {b0 : Nat} {spare : Nat → Bool} {held : Bool} {v : Value} {d : DataW H} {p : List MemPlace} (hv : Value.okWide Try.prog w r b0 104 v)
    (h : DataW.Trod enc Try.prog w base spare held 104 v d p) : ∃ q : Option Addr × Nat × Nat × List Sl, v = .slice q.1 q.2.1 q.2.2.1 ∧ RowsB w q.1 q.2.1 q.2.2.2 ∧ q.2.1 ≤ maxLen := by
  obtain ⟨a, len, cap, rfl⟩ := okWide_slice Try.underlying104 hv
  obtain ⟨fuel, hf⟩ := h
  rcases open_slice1 Try.underlying104 (by kernel_rfl) (by simpa [Value.cells] using hf) with ⟨hcs, _⟩ | ⟨a', len', cap', m, n, V, D, Pl, hcs, _, hl, hm, hmm, _, hx⟩
  · simp only [List.cons.injEq, and_true] at hcs
    rw [hcs]
    exact ⟨(none, 0, 0, []), rfl, ⟨rfl, fun h => absurd h (by decide), fun s hs => by cases hs⟩, by decide⟩
  · simp only [List.cons.injEq, and_true] at hcs
    rw [hcs]
    have hlm : len' ≤ m := by rw [hmm]; split <;> omega
    have each : ∀ i : Nat, ∃ s : Sl, i < len' → w.cell? (a'.add i) = some s.val ∧ s.Full w := by
      intro i
      by_cases hi : i < len'
      · obtain ⟨h1, h2⟩ := hx i (by omega)
        obtain ⟨s, e, hs⟩ := sl_ofB Try.underlying22 Try.underlying5 (by kernel_rfl) h2
        exact ⟨s, fun _ => ⟨by rw [h1, e], hs⟩⟩
      · exact ⟨⟨none, 0, 0, []⟩, fun h => absurd h hi⟩
    obtain ⟨f, hf⟩ := Classical.axiomOfChoice each
    refine ⟨(some a', len', cap', (List.range len').map f), rfl, ⟨by simp, fun hn => ?_, ?_⟩, by show len' ≤ maxLen; omega⟩
    · have hn : 0 < len' := hn
      obtain ⟨b, off, spot⟩ := a'
      have h0 := (hf 0 hn).1
      have : spot = none := by simpa [Addr.add] using World.cell?_spot h0
      subst this
      refine ⟨b, off, rfl, by simpa [Addr.add] using cell_inB h0, fun j hj => ?_⟩
      have hj' : j < len' := by simpa using hj
      have := (hf j hj').1
      rw [addr_add] at this
      rw [this]
      simp
    · intro s hs
      obtain ⟨i, hi, rfl⟩ := List.mem_map.mp hs
      exact (hf i (by simpa using hi)).2
end Go.Proofs.Ythnommoljikaiaa
