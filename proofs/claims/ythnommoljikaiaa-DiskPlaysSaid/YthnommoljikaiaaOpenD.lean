/- Arguments of the laws on disks, opened: steps, one and a row of them. -/
import Derived.Test.YthnommoljikaiaaDsk9
import Derived.Test.YthnommoljikaiaaOpenB
import Derived.Deep.Slices
set_option linter.unusedSimpArgs false
set_option linter.unusedVariables false
namespace Go.Proofs.Ythnommoljikaiaa
open Go.RowKit Go.ChangeShapes Go.WideShapes Go.Deep

/-- A run of whole numbers that came in. -/
structure SlI where
  A : Option Addr
  n : Nat
  cap : Nat
  fs : List Int
def SlI.val (s : SlI) : Value := .slice s.A s.n s.cap
def SlI.Full (w : World) (s : SlI) : Prop := RdI w s.A s.n s.fs ∧ (s.A = none → s.cap = 0) ∧ s.n ≤ s.cap ∧ s.cap ≤ maxLen
theorem SlI.Full.below {w w' : World} {s : SlI} (h : s.Full w) (hb : Below w.heap.size w w') : s.Full w' := ⟨h.1.below hb, h.2⟩
theorem Sl.Full.below {w w' : World} {s : Sl} (h : s.Full w) (hb : Below w.heap.size w w') : s.Full w' := ⟨⟨h.1.1.below hb, h.1.2⟩, h.2⟩
/-- A step. -/
structure ActV where
  kind : Int
  n : Int
  b : Sl
  fates : SlI
def ActV.cells (a : ActV) : List Value := [.int .i64 a.kind, .int .i64 a.n, a.b.val, a.fates.val]
def ActV.Full (w : World) (a : ActV) : Prop := a.b.Full w ∧ a.fates.Full w ∧ -9223372036854775808 ≤ a.n ∧ a.n ≤ 9223372036854775807
theorem ActV.Full.below {w w' : World} {a : ActV} (h : a.Full w) (hb : Below w.heap.size w w') : a.Full w' := ⟨h.1.below hb, h.2.1.below hb, h.2.2⟩
def RowsA (w : World) (A : Option Addr) (n : Nat) (ls : List ActV) : Prop :=
  ls.length = n ∧ (0 < n → ∃ b o, A = some ⟨b, o, none⟩ ∧ b < w.heap.size ∧ ∀ j (h : j < ls.length) i v, ls[j].cells[i]? = some v → w.cell? ⟨b, o + j * 4 + i, none⟩ = some v) ∧ ∀ a ∈ ls, a.Full w

section
variable {H : Type} {enc : TypeId × Value → H} {P : Program} {w : World} {base : Nat} {spare : Nat → Bool} {held : Bool} {fuel : Nat} {t : TypeId} {x : DataW H × List MemPlace}
theorem sli_ofB {e : TypeId} {v : Value} (ht : P.underlying t = some (.slice e)) (he : P.underlying e = some (.int .i64)) (hc : P.cellsOf e = 1) (h : DataW.trod enc P w base spare held fuel t [v] = some x) :
    ∃ s : SlI, v = s.val ∧ s.Full w := by
  rcases open_ints ht he hc h with ⟨hcs, _⟩ | ⟨a, len, cap, zs, hcs, _, hl, hm, hz, _, hcell, hwz⟩
  · obtain rfl : v = .slice none 0 0 := by simpa using hcs
    exact ⟨⟨none, 0, 0, []⟩, rfl, ⟨rfl, fun h => absurd h (by decide)⟩, fun _ => rfl, Nat.le_refl _, Nat.zero_le _⟩
  · obtain rfl : v = .slice (some a) len cap := by simpa using hcs
    have hzl : len ≤ zs.length := by split at hz <;> omega
    have htk : ∀ j, j < len → (zs.take len).getD j 0 = zs.getD j 0 := fun j hj => by simp [List.getD_eq_getElem?_getD, List.getElem?_take, hj]
    refine ⟨⟨some a, len, cap, zs.take len⟩, rfl, ⟨by show (zs.take len).length = len; simp; omega, fun hn => ?_⟩, (fun h => by cases h), hl, hm⟩
    have hn : 0 < len := hn
    obtain ⟨b, off, spot⟩ := a
    have h0 := hcell 0 (by omega)
    have : spot = none := by simpa [Addr.add] using World.cell?_spot h0
    subst this
    refine ⟨b, off, rfl, by simpa [Addr.add] using cell_inB h0, fun j hj => ?_⟩
    have hj : j < len := hj
    have h2 := hcell j (by omega)
    rw [addr_add] at h2
    show w.cell? _ = some (.int .i64 ((zs.take len).getD j 0))
    rw [h2, htk j hj]
end

set_option maxRecDepth 100000 in
theorem act_trod {H : Type} {enc : TypeId × Value → H} {w : World} {base : Nat} {spare : Nat → Bool} {held : Bool} {fuel : Nat} {cs : List Value} {x : DataW H × List MemPlace}
    (h : DataW.trod enc Try.prog w base spare held fuel 45 cs = some x) : ∃ a : ActV, cs = a.cells ∧ a.Full w := by
  obtain ⟨y0, y1, y2, y3, n, _, hl, h0, h1, h2, h3⟩ := Joins.trod_struct4 Try.underlying45 h
  have c1 : Try.prog.cellsOf 3 = 1 := by kernel_rfl
  have c2 : Try.prog.cellsOf 22 = 1 := by kernel_rfl
  have c3 : Try.prog.cellsOf 43 = 1 := by kernel_rfl
  have c4 : Try.prog.cellsOf 45 = 4 := by kernel_rfl
  rw [c4] at hl
  match cs, hl with
  | [v0, v1, v2, v3], _ =>
    dsimp only at h0 h1 h2 h3
    rw [c1] at h0 h1
    rw [c2] at h2
    rw [c3] at h3
    simp only [List.drop_succ_cons, List.drop_zero, List.take_succ_cons, List.take_zero] at h0 h1 h2 h3
    obtain ⟨k, e0, _, _⟩ := DataW.trod_int Try.underlying3 h0
    obtain ⟨m, e1, _, w1⟩ := DataW.trod_int Try.underlying3 h1
    obtain ⟨s, e2, hs⟩ := sl_ofB Try.underlying22 Try.underlying5 (by kernel_rfl) h2
    obtain ⟨f, e3, hf⟩ := sli_ofB Try.underlying43 Try.underlying3 (by kernel_rfl) h3
    simp only [List.cons.injEq, and_true] at e0 e1
    have := bounds_i64 w1
    exact ⟨⟨k, m, s, f⟩, by rw [e0, e1, e2, e3]; rfl, hs, hf, by show -9223372036854775808 ≤ m; omega, by show m ≤ 9223372036854775807; omega⟩
set_option maxRecDepth 100000 in
theorem act_ofB {H : Type} {enc : TypeId × Value → H} {w : World} {base : Nat} {r : Reach} {b0 : Nat} {spare : Nat → Bool} {held : Bool} {v : Value} {d : DataW H} {p : List MemPlace} (hv : Value.okWide Try.prog w r b0 45 v)
    (h : DataW.Trod enc Try.prog w base spare held 45 v d p) : ∃ a : ActV, v = .agg #[.int .i64 a.kind, .int .i64 a.n, a.b.val, a.fates.val] ∧ a.Full w := by
  obtain ⟨cs, rfl, hsz⟩ := okWide_struct Try.underlying45 hv
  obtain ⟨fuel, hf⟩ := h
  obtain ⟨a, e, ha⟩ := act_trod (cs := cs.toList) (by simpa [Value.cells] using hf)
  refine ⟨a, ?_, ha⟩
  obtain ⟨cs⟩ := cs
  change cs = _ at e
  subst e
  rfl
set_option maxRecDepth 100000 in
theorem acts_ofB {H : Type} {enc : TypeId × Value → H} {w : World} {base : Nat} {r : Reach} {b0 : Nat} {spare : Nat → Bool} {held : Bool} {v : Value} {d : DataW H} {p : List MemPlace} (hv : Value.okWide Try.prog w r b0 36 v)
    (h : DataW.Trod enc Try.prog w base spare held 36 v d p) : ∃ q : Option Addr × Nat × Nat × List ActV, v = .slice q.1 q.2.1 q.2.2.1 ∧ RowsA w q.1 q.2.1 q.2.2.2 ∧ q.2.1 ≤ maxLen := by
  obtain ⟨a, len, cap, rfl⟩ := okWide_slice Try.underlying36 hv
  obtain ⟨fuel, hf⟩ := h
  have c4 : Try.prog.cellsOf 45 = 4 := by kernel_rfl
  rcases open_slice Try.underlying36 (by simpa [Value.cells] using hf) with ⟨hcs, _⟩ | ⟨a', len', cap', m, n, D, Pl, hcs, _, hl, hm, hmm, _, hx⟩
  · simp only [List.cons.injEq, and_true] at hcs
    rw [hcs]
    exact ⟨(none, 0, 0, []), rfl, ⟨rfl, fun h => absurd h (by decide), fun s hs => by cases hs⟩, by decide⟩
  · simp only [List.cons.injEq, and_true] at hcs
    rw [hcs]
    rw [c4] at hx
    have hlm : len' ≤ m := by rw [hmm]; split <;> omega
    have each : ∀ i : Nat, ∃ s : ActV, i < len' → (∀ j v, s.cells[j]? = some v → w.cell? (a'.add (i * 4 + j)) = some v) ∧ s.Full w := by
      intro i
      by_cases hi : i < len'
      · obtain ⟨cs', h1, h2⟩ := hx i (by omega)
        obtain ⟨_, hcl, hcc⟩ := World.cells?_some h1
        obtain ⟨s, e, hs⟩ := act_trod h2
        refine ⟨s, fun _ => ⟨fun j v hj => ?_, hs⟩⟩
        have hj4 : j < 4 := by
          have := (List.getElem?_eq_some_iff.1 hj).1
          simpa [ActV.cells] using this
        have := hcc j hj4
        rw [e, hj] at this
        rw [Addr.add_add] at this
        exact this
      · exact ⟨⟨0, 0, ⟨none, 0, 0, []⟩, ⟨none, 0, 0, []⟩⟩, fun h => absurd h hi⟩
    obtain ⟨f, hf⟩ := Classical.axiomOfChoice each
    refine ⟨(some a', len', cap', (List.range len').map f), rfl, ⟨by simp, fun hn => ?_, ?_⟩, by show len' ≤ maxLen; omega⟩
    · have hn : 0 < len' := hn
      obtain ⟨b, off, spot⟩ := a'
      have h0 := (hf 0 hn).1 0 _ rfl
      have : spot = none := by simpa [Addr.add] using World.cell?_spot h0
      subst this
      refine ⟨b, off, rfl, by simpa [Addr.add] using cell_inB h0, fun j hj i v hv => ?_⟩
      have hj' : j < len' := by simpa using hj
      have := (hf j hj').1 i v (by simpa using hv)
      rw [addr_add] at this
      rw [Nat.add_assoc]
      exact this
    · intro s hs
      obtain ⟨i, hi, rfl⟩ := List.mem_map.mp hs
      exact (hf i (by simpa using hi)).2
end Go.Proofs.Ythnommoljikaiaa
