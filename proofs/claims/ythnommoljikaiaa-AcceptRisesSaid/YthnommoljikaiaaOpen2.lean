/- A row of manifests that are told, opened. -/
import Derived.Test.YthnommoljikaiaaOpen
import Derived.Test.YthnommoljikaiaaRise1
import Derived.Deep.Slices
namespace Go.Proofs.Ythnommoljikaiaa
open Go.RowKit Go.ChangeShapes Go.WideShapes Go.Deep

instance : Inhabited Told := ⟨⟨0, 0, ⟨none, 0, 0, []⟩⟩⟩
/-- One of them, out of its three cells. -/
theorem told_cells {H : Type} {enc : TypeId × Value → H} {w : World} {base : Nat} {spare : Nat → Bool} {held : Bool} {n : Nat} {cs : List Value} {x : DataW H × List MemPlace}
    (h : DataW.trod enc Try.prog w base spare held n 86 cs = some x) : ∃ t : Told, cs = [.int .u64 t.gen, .int .u64 t.epoch, t.s.val] ∧ t.s.Ok w ∧ U64 t.gen := by
  have c1 : Try.prog.cellsOf 65 = 1 := by kernel_rfl
  have c2 : Try.prog.cellsOf 22 = 1 := by kernel_rfl
  have c4 : Try.prog.cellsOf 86 = 3 := by kernel_rfl
  obtain ⟨y0, y1, y2, m, _, hl, h0, h1, h2⟩ := trod_struct3 Try.underlying86 h
  rw [c4] at hl
  dsimp only at h0 h1 h2
  rw [c1] at h0 h1
  rw [c2] at h2
  match cs, hl with
  | [v0, v1, v2], _ =>
    simp only [List.drop_succ_cons, List.drop_zero, List.take_succ_cons, List.take_zero] at h0 h1 h2
    obtain ⟨g, e0, _, w0⟩ := DataW.trod_int Try.underlying65 h0
    obtain ⟨e, e1, _, _⟩ := DataW.trod_int Try.underlying65 h1
    obtain ⟨s, e2, hs, _⟩ := sl_of Try.underlying22 Try.underlying5 (by kernel_rfl) h2
    simp only [List.cons.injEq, and_true] at e0 e1
    exact ⟨⟨g, e, s⟩, by rw [e0, e1, e2], hs, u64_of w0⟩

set_option maxRecDepth 100000 in
theorem tolds_of {H : Type} {enc : TypeId × Value → H} {w : World} {base : Nat} {r : Reach} {b0 : Nat} {spare : Nat → Bool} {held : Bool} {v : Value} {d : DataW H} {p : List MemPlace} (hv : Value.okWide Try.prog w r b0 80 v)
    (h : DataW.Trod enc Try.prog w base spare held 80 v d p) :
    ∃ q : Option Addr × Nat × List Told, v = .slice q.1 q.2.2.length q.2.1 ∧ RdT w q.1 q.2.2 ∧ (∀ t ∈ q.2.2, t.s.Ok w ∧ U64 t.gen) ∧ q.2.2.length ≤ q.2.1 := by
  obtain ⟨a, len, cap, rfl⟩ := okWide_slice Try.underlying80 hv
  obtain ⟨fuel, hf⟩ := h
  have c4 : Try.prog.cellsOf 86 = 3 := by kernel_rfl
  rcases open_slice Try.underlying80 hf with ⟨hcs, _⟩ | ⟨a', len', cap', m, n, D, Pl, hcs, _, hl, _, hm, _, hx⟩
  · simp [Value.cells] at hcs
    obtain ⟨rfl, rfl, rfl⟩ := hcs
    exact ⟨(none, 0, []), rfl, fun h => absurd h (by decide), fun t ht => (by cases ht), Nat.le_refl _⟩
  · simp [Value.cells] at hcs
    obtain ⟨rfl, rfl, rfl⟩ := hcs
    rw [c4] at hx
    have hlm : len ≤ m := by rw [hm]; split <;> omega
    have each : ∀ i, i < len → ∃ t : Told, w.cells? base (a'.add (i * 3)) 3 = some [.int .u64 t.gen, .int .u64 t.epoch, t.s.val] ∧ t.s.Ok w ∧ U64 t.gen := fun i hi => by
      obtain ⟨cs', h1, h2⟩ := hx i (by omega)
      obtain ⟨t, rfl, h3, h4⟩ := told_cells h2
      exact ⟨t, h1, h3, h4⟩
    obtain ⟨T, hT⟩ := choose_lt each
    have hlen : ((List.range len).map T).length = len := by simp
    have hget : ∀ j (h : j < ((List.range len).map T).length), ((List.range len).map T)[j] = T j := fun j h => by simp
    refine ⟨(some a', cap, (List.range len).map T), by rw [hlen], fun hn => ?_, fun t ht => ?_, by rw [hlen]; exact hl⟩
    · change 0 < ((List.range len).map T).length at hn
      rw [hlen] at hn
      obtain ⟨b, off, spot⟩ := a'
      have c0 := (World.cells?_some (hT 0 hn).1).2.2 0 (by decide)
      simp only [Nat.zero_mul, Addr.add, if_true] at c0
      have hs : spot = none := World.cell?_spot c0
      subst hs
      refine ⟨b, off, rfl, cell_in c0, fun j hj => ?_⟩
      change j < ((List.range len).map T).length at hj
      have e := hget j hj
      rw [hlen] at hj
      have h3 := (World.cells?_some (hT j hj).1).2.2
      have k0 := h3 0 (by decide)
      have k1 := h3 1 (by decide)
      have k2 := h3 2 (by decide)
      rw [Addr.add_mid, Addr.add_mid] at k0 k1 k2
      show _ = some (Value.int .u64 (((List.range len).map T)[j]).gen) ∧ _ = some (Value.int .u64 (((List.range len).map T)[j]).epoch) ∧ _ = some (((List.range len).map T)[j]).s.val
      rw [e]
      exact ⟨k0, k1, k2⟩
    · obtain ⟨i, hi, rfl⟩ := List.mem_map.mp ht
      exact (hT i (by simpa using hi)).2
end Go.Proofs.Ythnommoljikaiaa
