/- Arguments of the laws on frames and messages, opened: runs of bytes, numbers, arrays of numbers. -/
import Derived.Test.YthnommoljikaiaaDoorSha6
import Derived.ProofKit
import Derived.OpenShut
import Derived.Lib.SmallJoins
set_option linter.unusedSimpArgs false
set_option linter.unusedVariables false
namespace Go.Proofs.YthnommoljikaiaaDoor
open Go.RowKit Go.ChangeShapes Go.WideShapes Go.Deep

section
variable {H : Type} {enc : TypeId × Value → H} {P : Program} {w : World} {base : Nat} {spare : Nat → Bool} {held : Bool} {fuel : Nat} {t : TypeId} {x : DataW H × List MemPlace}

theorem cell_inB {w : World} {a : Addr} {v : Value} (h : w.cell? a = some v) : a.block < w.heap.size := by
  rcases Nat.lt_or_ge a.block w.heap.size with h' | h'
  · exact h'
  · simp [World.cell?, Array.getElem?_eq_none h'] at h
theorem u8_ofB {n : Int} (h : (Lit.int .u8 n).wf = true) : 0 ≤ n ∧ n < 256 := by
  have := bounds_u8 h
  omega
theorem okWide_array {base : Nat} {r : Reach} {v : Value} {n : Nat} {e : TypeId} (ht : P.underlying t = some (.array n e)) (h : Value.okWide P w r base t v) : ∃ cs, v = .agg cs ∧ cs.size = P.cellsOf t := by
  simp only [Value.okWide, ht] at h
  obtain ⟨cs, h1, h2, _⟩ := h
  exact ⟨cs, h1, h2⟩
/-- A run of bytes that came in; a nil one has no room. -/
def Sl.Full (w : World) (s : Sl) : Prop := s.Ok w ∧ (s.A = none → s.cap = 0) ∧ s.cap ≤ maxLen
theorem sl_ofB {e : TypeId} {v : Value} (ht : P.underlying t = some (.slice e)) (he : P.underlying e = some (.int .u8)) (hc : P.cellsOf e = 1) (h : DataW.trod enc P w base spare held fuel t [v] = some x) :
    ∃ s : Sl, v = s.val ∧ s.Full w := by
  rcases open_ints ht he hc h with ⟨hcs, _⟩ | ⟨a, len, cap, zs, hcs, _, hl, hm, hz, _, hcell, hwz⟩
  · obtain rfl : v = .slice none 0 0 := by simpa using hcs
    exact ⟨⟨none, 0, 0, []⟩, rfl, ⟨⟨rfl, fun h => absurd h (by decide)⟩, fun j => by simp, Nat.le_refl _⟩, fun _ => rfl, Nat.zero_le _⟩
  · obtain rfl : v = .slice (some a) len cap := by simpa using hcs
    have hzl : len ≤ zs.length := by split at hz <;> omega
    have htk : ∀ j, j < len → (zs.take len).getD j 0 = zs.getD j 0 := fun j hj => by simp [List.getD_eq_getElem?_getD, List.getElem?_take, hj]
    refine ⟨⟨some a, len, cap, zs.take len⟩, rfl, ⟨⟨by show (zs.take len).length = len; simp; omega, fun hn => ?_⟩, ?_, hl⟩, (fun h => by cases h), hm⟩
    · have hn : 0 < len := hn
      obtain ⟨b, off, spot⟩ := a
      have h0 := hcell 0 (by omega)
      have : spot = none := by simpa [Addr.add] using World.cell?_spot h0
      subst this
      refine ⟨b, off, rfl, by simpa [Addr.add] using cell_inB h0, fun j hj => ?_⟩
      have hj : j < len := hj
      have h2 := hcell j (by omega)
      have e : (Addr.add ⟨b, off, none⟩ j) = ⟨b, off + j, none⟩ := by unfold Addr.add; split <;> simp_all
      rw [e] at h2
      show w.cell? _ = some (.int .u8 ((zs.take len).getD j 0))
      rw [h2, htk j hj]
    · intro j
      by_cases hj : j < len
      · show 0 ≤ (zs.take len).getD j 0 ∧ (zs.take len).getD j 0 < 256
        rw [htk j hj, List.getD_eq_getElem?_getD, List.getElem?_eq_getElem (by omega)]
        exact u8_ofB (hwz _ (List.getElem_mem _))
      · show 0 ≤ (zs.take len).getD j 0 ∧ (zs.take len).getD j 0 < 256
        rw [List.getD_eq_getElem?_getD, List.getElem?_eq_none (by simp; omega)]
        decide
theorem array_ofB {n : Nat} {e : TypeId} {k : IntKind} {cs : List Value} (ht : P.underlying t = some (.array n e)) (he : P.underlying e = some (.int k)) (hc : P.cellsOf e = 1) (hct : P.cellsOf t = n)
    (h : DataW.trod enc P w base spare held fuel t cs = some x) : ∃ l : List Int, l.length = n ∧ cs = l.map (Value.int k) ∧ ∀ z ∈ l, (Lit.int k z).wf = true := by
  obtain ⟨xs, m, _, _, hl, hxl, hg⟩ := DataW.trod_array ht h
  rw [hct] at hl
  have each : ∀ i, i < n → ∃ z, cs[i]? = some (.int k z) ∧ (Lit.int k z).wf = true := by
    intro i hi
    have h1 := hg i hi
    rw [hc, Nat.mul_one, List.getElem?_eq_getElem (by omega)] at h1
    obtain ⟨z, h2, _, h3⟩ := DataW.trod_int he h1
    refine ⟨z, ?_, h3⟩
    have : ((cs.drop i).take 1)[0]? = some (.int k z) := by rw [h2]; rfl
    simpa [List.getElem?_take] using this
  clear hg
  refine ⟨cs.map (fun v => match v with | .int _ z => z | _ => 0), by simpa using hl, ?_, ?_⟩
  · apply List.ext_getElem?
    intro i
    by_cases hi : i < n
    · obtain ⟨z, h1, _⟩ := each i hi
      simp [h1]
    · rw [List.getElem?_eq_none (by omega), List.getElem?_eq_none (by simp; omega)]
  · intro z hz
    obtain ⟨v, hv, rfl⟩ := List.mem_map.mp hz
    obtain ⟨i, hi, rfl⟩ := List.mem_iff_getElem.mp hv
    obtain ⟨z, h1, h2⟩ := each i (by omega)
    rw [List.getElem?_eq_getElem hi] at h1
    simp only [Option.some.injEq] at h1
    rw [h1]
    exact h2
end

end Go.Proofs.YthnommoljikaiaaDoor
