/- The arguments of these laws, opened: runs of bytes, arrays of numbers, structs of them. -/
import Derived.Test.YthnommoljikaiaaAcc3
import Derived.ProofKit
import Derived.OpenShut
import Derived.Lib.SmallJoins
namespace Go.Proofs.Ythnommoljikaiaa
open Go.RowKit Go.ChangeShapes Go.WideShapes Go.Deep

section
variable {H : Type} {enc : TypeId × Value → H} {P : Program} {w : World} {base : Nat} {spare : Nat → Bool} {held : Bool} {fuel : Nat} {t : TypeId} {x : DataW H × List MemPlace}

theorem cell_in {w : World} {a : Addr} {v : Value} (h : w.cell? a = some v) : a.block < w.heap.size := by
  rcases Nat.lt_or_ge a.block w.heap.size with h' | h'
  · exact h'
  · simp [World.cell?, Array.getElem?_eq_none h'] at h
theorem u8_of {n : Int} (h : (Lit.int .u8 n).wf = true) : 0 ≤ n ∧ n < 256 := by
  have := bounds_u8 h
  omega
theorem u64_of {n : Int} (h : (Lit.int .u64 n).wf = true) : U64 n := bounds_u64 h
theorem sl_of {e : TypeId} {v : Value} (ht : P.underlying t = some (.slice e)) (he : P.underlying e = some (.int .u8)) (hc : P.cellsOf e = 1) (h : DataW.trod enc P w base spare held fuel t [v] = some x) :
    ∃ s : Sl, v = s.val ∧ s.Ok w ∧ s.cap ≤ maxLen := by
  rcases open_ints ht he hc h with ⟨hcs, _⟩ | ⟨a, len, cap, zs, hcs, _, hl, hm, hz, _, hcell, hwz⟩
  · obtain rfl : v = .slice none 0 0 := by simpa using hcs
    exact ⟨⟨none, 0, 0, []⟩, rfl, ⟨⟨rfl, fun h => absurd h (by decide)⟩, fun j => by simp, Nat.le_refl _⟩, Nat.zero_le _⟩
  · obtain rfl : v = .slice (some a) len cap := by simpa using hcs
    have hzl : len ≤ zs.length := by split at hz <;> omega
    have htk : ∀ j, j < len → (zs.take len).getD j 0 = zs.getD j 0 := fun j hj => by simp [List.getD_eq_getElem?_getD, List.getElem?_take, hj]
    refine ⟨⟨some a, len, cap, zs.take len⟩, rfl, ⟨⟨by show (zs.take len).length = len; simp; omega, fun hn => ?_⟩, ?_, hl⟩, hm⟩
    · have hn : 0 < len := hn
      obtain ⟨b, off, spot⟩ := a
      have h0 := hcell 0 (by omega)
      have : spot = none := by simpa [Addr.add] using World.cell?_spot h0
      subst this
      refine ⟨b, off, rfl, by simpa [Addr.add] using cell_in h0, fun j hj => ?_⟩
      have hj : j < len := hj
      have h2 := hcell j (by omega)
      have e : (Addr.add ⟨b, off, none⟩ j) = ⟨b, off + j, none⟩ := by unfold Addr.add; split <;> simp_all
      rw [e] at h2
      show w.cell? _ = some (.int .u8 ((zs.take len).getD j 0))
      rw [h2, htk j hj]
    · intro j
      by_cases hj : j < len
      · show 0 ≤ (zs.take len).getD j 0 ∧ (zs.take len).getD j 0 < 256
        rw [htk j hj, List.getD_eq_getElem?_getD, List.getElem?_eq_getElem (by omega)]
        exact u8_of (hwz _ (List.getElem_mem _))
      · show 0 ≤ (zs.take len).getD j 0 ∧ (zs.take len).getD j 0 < 256
        rw [List.getD_eq_getElem?_getD, List.getElem?_eq_none (by simp; omega)]
        decide
theorem array_of {n : Nat} {e : TypeId} {k : IntKind} {cs : List Value} (ht : P.underlying t = some (.array n e)) (he : P.underlying e = some (.int k)) (hc : P.cellsOf e = 1) (hct : P.cellsOf t = n)
    (h : DataW.trod enc P w base spare held fuel t cs = some x) : ∃ l : List Int, l.length = n ∧ cs = l.map (Value.int k) ∧ ∀ z ∈ l, (Lit.int k z).wf = true := by
  obtain ⟨xs, m, _, _, hl, hxl, hg⟩ := DataW.trod_array ht h
  rw [hct] at hl
  have each : ∀ i, i < n → ∃ z, cs[i]? = some (.int k z) ∧ (Lit.int k z).wf = true := by
    intro i hi
    have h1 := hg i hi
    rw [hc, Nat.mul_one, List.getElem?_eq_getElem (by omega)] at h1
    obtain ⟨z, h2, _, h3⟩ := DataW.trod_int he h1
    refine ⟨z, ?_, h3⟩
    have : ((cs.drop i).take 1)[0]? = some (.int k z) := by rw [h2]; rfl
    simpa [List.getElem?_take] using this
  clear hg
  refine ⟨cs.map (fun v => match v with | .int _ z => z | _ => 0), by simpa using hl, ?_, ?_⟩
  · apply List.ext_getElem?
    intro i
    by_cases hi : i < n
    · obtain ⟨z, h1, _⟩ := each i hi
      simp [h1]
    · rw [List.getElem?_eq_none (by omega), List.getElem?_eq_none (by simp; omega)]
  · intro z hz
    obtain ⟨v, hv, rfl⟩ := List.mem_map.mp hz
    obtain ⟨i, hi, rfl⟩ := List.mem_iff_getElem.mp hv
    obtain ⟨z, h1, h2⟩ := each i (by omega)
    rw [List.getElem?_eq_getElem hi] at h1
    simp only [Option.some.injEq] at h1
    rw [h1]
    exact h2
end

set_option maxRecDepth 100000 in
theorem pin_of {H : Type} {enc : TypeId × Value → H} {w : World} {base : Nat} {r : Reach} {b0 : Nat} {spare : Nat → Bool} {held : Bool} {v : Value} {d : DataW H} {p : List MemPlace} (hv : Value.okWide Try.prog w r b0 84 v)
    (h : DataW.Trod enc Try.prog w base spare held 84 v d p) : ∃ q : Pin, v = q.val ∧ q.s.length = 32 ∧ U64 q.g ∧ U64 q.e ∧ ∀ z ∈ q.s, 0 ≤ z ∧ z < 256 := by
  obtain ⟨cs, rfl, hsz⟩ := okWide_struct Try.underlying84 hv
  obtain ⟨fuel, hf⟩ := h
  obtain ⟨y0, y1, y2, n, _, hl, h0, h1, h2⟩ := trod_struct3 Try.underlying84 hf
  have c1 : Try.prog.cellsOf 65 = 1 := by kernel_rfl
  have c2 : Try.prog.cellsOf 82 = 32 := by kernel_rfl
  have c3 : Try.prog.cellsOf 5 = 1 := by kernel_rfl
  have c4 : Try.prog.cellsOf 84 = 34 := by kernel_rfl
  rw [c4] at hl
  dsimp only at h0 h1 h2
  rw [c1] at h0 h1
  rw [c2] at h2
  obtain ⟨g, e0, _, w0⟩ := DataW.trod_int Try.underlying65 h0
  obtain ⟨e, e1, _, w1⟩ := DataW.trod_int Try.underlying65 h1
  obtain ⟨s, hs, e2, w2⟩ := array_of Try.underlying82 Try.underlying5 c3 c2 h2
  change cs.toList.length = 34 at hl
  change (cs.toList.drop 0).take 1 = _ at e0
  change (cs.toList.drop 1).take 1 = _ at e1
  change (cs.toList.drop 2).take 32 = _ at e2
  refine ⟨⟨g, e, s⟩, ?_, hs, u64_of w0, u64_of w1, fun z hz => u8_of (w2 z hz)⟩
  show Value.agg cs = .agg (pinCells g e s)
  have : cs.toList = pinList g e s := by
    revert hl e0 e1 e2
    generalize cs.toList = l
    intro hl e0 e1 e2
    match l, hl with
    | a :: b :: l, hl =>
      simp only [List.drop_succ_cons, List.drop_zero, List.take_succ_cons, List.take_zero, List.cons.injEq, and_true] at e0 e1 e2
      rw [List.take_of_length_le (by simp at hl; omega)] at e2
      rw [e0, e1, e2, pinList]
  rw [pinCells, ← this, Array.toArray_toList]

set_option maxRecDepth 100000 in
theorem told_of {H : Type} {enc : TypeId × Value → H} {w : World} {base : Nat} {r : Reach} {b0 : Nat} {spare : Nat → Bool} {held : Bool} {v : Value} {d : DataW H} {p : List MemPlace} (hv : Value.okWide Try.prog w r b0 86 v)
    (h : DataW.Trod enc Try.prog w base spare held 86 v d p) : ∃ q : Told, v = q.val ∧ U64 q.gen ∧ U64 q.epoch ∧ q.s.Ok w ∧ q.s.cap ≤ maxLen := by
  obtain ⟨v0, v1, v2, y0, y1, y2, n, rfl, _, _, h0, h1, h2⟩ := Go.Joins.open_agg3 Try.underlying86 (by kernel_rfl) (by kernel_rfl) hv h
  obtain ⟨g, e0, _, w0⟩ := DataW.trod_int Try.underlying65 h0
  obtain ⟨e, e1, _, w1⟩ := DataW.trod_int Try.underlying65 h1
  obtain ⟨s, e2, hs, hm⟩ := sl_of Try.underlying22 Try.underlying5 (by kernel_rfl) h2
  simp only [List.cons.injEq, and_true] at e0 e1
  exact ⟨⟨g, e, s⟩, by rw [e0, e1, e2]; rfl, u64_of w0, u64_of w1, hs, hm⟩
set_option maxRecDepth 100000 in
theorem bytes_of {H : Type} {enc : TypeId × Value → H} {w : World} {base : Nat} {r : Reach} {b0 : Nat} {spare : Nat → Bool} {held : Bool} {v : Value} {d : DataW H} {p : List MemPlace} (hv : Value.okWide Try.prog w r b0 22 v)
    (h : DataW.Trod enc Try.prog w base spare held 22 v d p) : ∃ s : Sl, v = s.val ∧ s.Ok w ∧ s.cap ≤ maxLen := by
  obtain ⟨a, len, cap, rfl⟩ := okWide_slice Try.underlying22 hv
  obtain ⟨fuel, hf⟩ := h
  exact sl_of Try.underlying22 Try.underlying5 (by kernel_rfl) (by simpa [Value.cells] using hf)
end Go.Proofs.Ythnommoljikaiaa
