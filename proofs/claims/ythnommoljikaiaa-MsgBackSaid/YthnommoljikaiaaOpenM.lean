/- Requests and replies that came in, opened. -/
import Derived.Test.YthnommoljikaiaaMsg9
import Derived.Test.YthnommoljikaiaaOpenB
import Derived.Deep.Slices
set_option linter.unusedSimpArgs false
set_option linter.unusedVariables false
namespace Go.Proofs.Ythnommoljikaiaa
open Go.RowKit Go.ChangeShapes Go.WideShapes Go.Deep

section
variable {H : Type} {enc : TypeId × Value → H} {w : World} {base : Nat} {spare : Nat → Bool} {held : Bool} {fuel : Nat} {x : DataW H × List MemPlace}
theorem isB_of_range {n : Nat} {f : Nat → Int} (h : ∀ q, q < n → 0 ≤ f q ∧ f q < 256) : IsB ((List.range n).map f) := fun j => by
  by_cases hj : j < n
  · rw [List.getD_eq_getElem?_getD, List.getElem?_map, List.getElem?_range hj]
    exact h j hj
  · rw [List.getD_eq_getElem?_getD, List.getElem?_eq_none (by simp; omega)]
    decide
theorem names_of {v : Value} (h : DataW.trod enc Try.prog w base spare held fuel 114 [v] = some x) :
    ∃ (A : Option Addr) (n cap : Nat) (flat : List Int), v = .slice A n cap ∧ RdB w A (16 * n) flat ∧ IsB flat := by
  have cN : Try.prog.cellsOf 113 = 16 := by kernel_rfl
  rcases open_slice Try.underlying114 h with ⟨hcs, _⟩ | ⟨a, len, cap, m, n, D, Pl, hcs, _, hl, hm, hmm, _, hx⟩
  · obtain rfl : v = .slice none 0 0 := by simpa using hcs
    exact ⟨none, 0, 0, [], rfl, ⟨rfl, fun h => absurd h (by decide)⟩, isB_nil⟩
  · obtain rfl : v = .slice (some a) len cap := by simpa using hcs
    have hlm : len ≤ m := by rw [hmm]; split <;> omega
    rw [cN] at hx
    have each : ∀ i, i < len → ∃ l : List Int, l.length = 16 ∧ (∀ j, j < 16 → w.cell? ((a.add (i * 16)).add j) = some (.int .u8 (l.getD j 0))) ∧ ∀ z ∈ l, 0 ≤ z ∧ z < 256 := by
      intro i hi
      obtain ⟨cs', h1, h2⟩ := hx i (by omega)
      obtain ⟨l, hl16, rfl, hwf⟩ := array_ofB Try.underlying113 Try.underlying5 (by kernel_rfl) cN h2
      obtain ⟨_, _, hget⟩ := World.cells?_some h1
      refine ⟨l, hl16, fun j hj => ?_, fun z hz => u8_ofB (hwf z hz)⟩
      rw [hget j (by omega)]
      rw [List.getElem?_map, List.getD_eq_getElem?_getD, List.getElem?_eq_getElem (show j < l.length by omega)]
      rfl
    obtain ⟨f, hf⟩ := choose_lt (α := List Int) (p := fun i (l : List Int) => l.length = 16 ∧ (∀ j, j < 16 → w.cell? ((a.add (i * 16)).add j) = some (.int .u8 (l.getD j 0))) ∧ ∀ z ∈ l, 0 ≤ z ∧ z < 256) each
    refine ⟨some a, len, cap, (List.range (16 * len)).map fun q => (f (q / 16)).getD (q % 16) 0, rfl, ⟨by simp, fun hn => ?_⟩, isB_of_range fun q hq => ?_⟩
    · obtain ⟨b, off, spot⟩ := a
      have h0 := (hf 0 (by omega)).2.1 0 (by decide)
      have : spot = none := by
        have h9 := World.cell?_spot h0
        simpa [Addr.add] using h9
      subst this
      have hb0 : b < w.heap.size := by simpa [Addr.add] using cell_inB h0
      refine ⟨b, off, rfl, hb0, fun q hq => ?_⟩
      have hq' : q / 16 < len := by omega
      have h1 := (hf (q / 16) hq').2.1 (q % 16) (Nat.mod_lt _ (by decide))
      rw [addr_add, addr_add] at h1
      have e : off + q / 16 * 16 + q % 16 = off + q := by omega
      rw [e] at h1
      rw [h1, List.getD_eq_getElem?_getD (l := List.map _ _), List.getElem?_map, List.getElem?_range hq]
      rfl
    · have hq' : q / 16 < len := by omega
      have h1 := hf (q / 16) hq'
      have hlt : q % 16 < (f (q / 16)).length := by rw [h1.1]; exact Nat.mod_lt _ (by decide)
      rw [List.getD_eq_getElem?_getD, List.getElem?_eq_getElem hlt]
      exact h1.2.2 _ (List.getElem_mem _)
end
theorem isB_mem {l : List Int} (h : ∀ z ∈ l, 0 ≤ z ∧ z < 256) : IsB l := fun j => by
  by_cases hj : j < l.length
  · rw [List.getD_eq_getElem?_getD, List.getElem?_eq_getElem hj]
    exact h _ (List.getElem_mem _)
  · rw [List.getD_eq_getElem?_getD, List.getElem?_eq_none (by omega)]
    decide
theorem list22 {cs : List Value} {c i k g nv dv : Value} {nm : List Value} (hl : cs.length = 22) (hn : nm.length = 16) (e0 : (cs.drop 0).take 1 = [c]) (e1 : (cs.drop 1).take 1 = [i]) (e2 : (cs.drop 2).take 1 = [k]) (e3 : (cs.drop 3).take 16 = nm) (e4 : (cs.drop 19).take 1 = [g]) (e5 : (cs.drop 20).take 1 = [nv]) (e6 : (cs.drop 21).take 1 = [dv]) :
    cs = c :: i :: k :: (nm ++ [g, nv, dv]) := by
  match cs, hl with
  | [x0, x1, x2, x3, x4, x5, x6, x7, x8, x9, x10, x11, x12, x13, x14, x15, x16, x17, x18, x19, x20, x21], _ =>
    simp only [List.drop_succ_cons, List.drop_zero, List.take_succ_cons, List.take_zero, List.cons.injEq, and_true] at e0 e1 e2 e3 e4 e5 e6
    subst e0 e1 e2 e3 e4 e5 e6
    rfl
theorem list6 {cs : List Value} {c i k g nv dv : Value} (hl : cs.length = 6) (e0 : (cs.drop 0).take 1 = [c]) (e1 : (cs.drop 1).take 1 = [i]) (e2 : (cs.drop 2).take 1 = [k]) (e4 : (cs.drop 3).take 1 = [g]) (e5 : (cs.drop 4).take 1 = [nv]) (e6 : (cs.drop 5).take 1 = [dv]) :
    cs = [c, i, k, g, nv, dv] := by
  match cs, hl with
  | [x0, x1, x2, x3, x4, x5], _ =>
    simp only [List.drop_succ_cons, List.drop_zero, List.take_succ_cons, List.take_zero, List.cons.injEq, and_true] at e0 e1 e2 e4 e5 e6
    subst e0 e1 e2 e4 e5 e6
    rfl
/-- The numbers of a request, or a reply, are in their kinds. -/
def MsgA.Rng (m : MsgA) : Prop := (0 ≤ m.i ∧ m.i < 18446744073709551616) ∧ (0 ≤ m.g ∧ m.g < 18446744073709551616) ∧ (-9223372036854775808 ≤ m.c ∧ m.c ≤ 9223372036854775807) ∧ (-9223372036854775808 ≤ m.k ∧ m.k ≤ 9223372036854775807)
theorem u64_ofB {n : Int} (h : (Lit.int .u64 n).wf = true) : 0 ≤ n ∧ n < 18446744073709551616 := by
  simp [Lit.wf, IntKind.min, IntKind.max, IntKind.signed, IntKind.bits] at h
  omega
theorem one_take {cs : List Value} {n : Nat} (h : n < cs.length) : ∃ v, (cs.drop n).take 1 = [v] := ⟨cs[n], by rw [List.drop_eq_getElem_cons h]; rfl⟩
set_option maxRecDepth 100000 in
theorem msgreq_of {H : Type} {enc : TypeId × Value → H} {w : World} {base : Nat} {r : Reach} {b0 : Nat} {spare : Nat → Bool} {held : Bool} {v : Value} {d : DataW H} {p : List MemPlace} (hv : Value.okWide Try.prog w r b0 116 v)
    (h : DataW.Trod enc Try.prog w base spare held 116 v d p) : ∃ q : MsgA, v = .agg q.reqC ∧ q.Full w ∧ q.Rng := by
  obtain ⟨cs, rfl, hsz⟩ := okWide_struct Try.underlying116 hv
  obtain ⟨fuel, hf⟩ := h
  obtain ⟨xs, n, _, _, hl, hlen, hx⟩ := DataW.trod_struct Try.underlying116 hf
  have c1 : Try.prog.cellsOf 65 = 1 := by kernel_rfl
  have c2 : Try.prog.cellsOf 113 = 16 := by kernel_rfl
  have c3 : Try.prog.cellsOf 3 = 1 := by kernel_rfl
  have c4 : Try.prog.cellsOf 116 = 22 := by kernel_rfl
  have c5 : Try.prog.cellsOf 114 = 1 := by kernel_rfl
  have c6 : Try.prog.cellsOf 22 = 1 := by kernel_rfl
  rw [c4] at hl
  match xs, hlen with
  | [y0, y1, y2, y3, y4, y5, y6], _ =>
    have h0 : DataW.trod enc Try.prog w base spare held n 3 ((cs.toList.drop 0).take (Try.prog.cellsOf 3)) = some y0 := hx 0 _ rfl
    have h1 : DataW.trod enc Try.prog w base spare held n 65 ((cs.toList.drop 1).take (Try.prog.cellsOf 65)) = some y1 := hx 1 _ rfl
    have h2 : DataW.trod enc Try.prog w base spare held n 3 ((cs.toList.drop 2).take (Try.prog.cellsOf 3)) = some y2 := hx 2 _ rfl
    have h3 : DataW.trod enc Try.prog w base spare held n 113 ((cs.toList.drop 3).take (Try.prog.cellsOf 113)) = some y3 := hx 3 _ rfl
    have h4 : DataW.trod enc Try.prog w base spare held n 65 ((cs.toList.drop 19).take (Try.prog.cellsOf 65)) = some y4 := hx 4 _ rfl
    have h5 : DataW.trod enc Try.prog w base spare held n 114 ((cs.toList.drop 20).take (Try.prog.cellsOf 114)) = some y5 := hx 5 _ rfl
    have h6 : DataW.trod enc Try.prog w base spare held n 22 ((cs.toList.drop 21).take (Try.prog.cellsOf 22)) = some y6 := hx 6 _ rfl
    rw [c3] at h0 h2
    rw [c1] at h1 h4
    rw [c2] at h3
    rw [c5] at h5
    rw [c6] at h6
    obtain ⟨c, e0, _, wf0⟩ := DataW.trod_int Try.underlying3 h0
    obtain ⟨i, e1, _, wf1⟩ := DataW.trod_int Try.underlying65 h1
    obtain ⟨k, e2, _, wf2⟩ := DataW.trod_int Try.underlying3 h2
    obtain ⟨nm, hn16, e3, hw3⟩ := array_ofB Try.underlying113 Try.underlying5 (by kernel_rfl) c2 h3
    obtain ⟨g, e4, _, wf4⟩ := DataW.trod_int Try.underlying65 h4
    change cs.toList.length = 22 at hl
    obtain ⟨nv, e5⟩ := one_take (cs := cs.toList) (n := 20) (by omega)
    obtain ⟨dv, e6⟩ := one_take (cs := cs.toList) (n := 21) (by omega)
    change DataW.trod _ _ _ _ _ _ _ _ ((cs.toList.drop 20).take 1) = _ at h5
    change DataW.trod _ _ _ _ _ _ _ _ ((cs.toList.drop 21).take 1) = _ at h6
    rw [e5] at h5
    rw [e6] at h6
    obtain ⟨A2, n2, cap2, flat, rfl, hr2, hb2⟩ := names_of h5
    obtain ⟨⟨A3, n3, cap3, ds⟩, rfl, ⟨hr3, hb3, _⟩, hn3, _⟩ := sl_ofB Try.underlying22 Try.underlying5 (by kernel_rfl) h6
    dsimp only at hr3 hb3 hn3
    have hcs := list22 hl (by simpa using hn16) e0 e1 e2 e3 e4 e5 e6
    refine ⟨⟨c, i, k, nm, g, A2, n2, cap2, flat, A3, n3, cap3, ds⟩, ?_, ⟨hn16, isB_mem fun z hz => u8_ofB (hw3 z hz), hr2, hb2, hr3, hn3, hb3⟩, u64_ofB wf1, u64_ofB wf4, bounds_i64 wf0, bounds_i64 wf2⟩
    obtain ⟨l⟩ := cs
    change l = _ at hcs
    subst hcs
    rfl
set_option maxRecDepth 100000 in
theorem msgrep_of {H : Type} {enc : TypeId × Value → H} {w : World} {base : Nat} {r : Reach} {b0 : Nat} {spare : Nat → Bool} {held : Bool} {v : Value} {d : DataW H} {p : List MemPlace} (hv : Value.okWide Try.prog w r b0 118 v)
    (h : DataW.Trod enc Try.prog w base spare held 118 v d p) : ∃ q : MsgA, v = .agg q.repC ∧ q.Full w ∧ q.Rng := by
  obtain ⟨cs, rfl, hsz⟩ := okWide_struct Try.underlying118 hv
  obtain ⟨fuel, hf⟩ := h
  obtain ⟨xs, n, _, _, hl, hlen, hx⟩ := DataW.trod_struct Try.underlying118 hf
  have c1 : Try.prog.cellsOf 65 = 1 := by kernel_rfl
  have c3 : Try.prog.cellsOf 3 = 1 := by kernel_rfl
  have c4 : Try.prog.cellsOf 118 = 6 := by kernel_rfl
  have c5 : Try.prog.cellsOf 114 = 1 := by kernel_rfl
  have c6 : Try.prog.cellsOf 22 = 1 := by kernel_rfl
  rw [c4] at hl
  match xs, hlen with
  | [y0, y1, y2, y4, y5, y6], _ =>
    have h0 : DataW.trod enc Try.prog w base spare held n 3 ((cs.toList.drop 0).take (Try.prog.cellsOf 3)) = some y0 := hx 0 _ rfl
    have h1 : DataW.trod enc Try.prog w base spare held n 65 ((cs.toList.drop 1).take (Try.prog.cellsOf 65)) = some y1 := hx 1 _ rfl
    have h2 : DataW.trod enc Try.prog w base spare held n 3 ((cs.toList.drop 2).take (Try.prog.cellsOf 3)) = some y2 := hx 2 _ rfl
    have h4 : DataW.trod enc Try.prog w base spare held n 65 ((cs.toList.drop 3).take (Try.prog.cellsOf 65)) = some y4 := hx 3 _ rfl
    have h5 : DataW.trod enc Try.prog w base spare held n 114 ((cs.toList.drop 4).take (Try.prog.cellsOf 114)) = some y5 := hx 4 _ rfl
    have h6 : DataW.trod enc Try.prog w base spare held n 22 ((cs.toList.drop 5).take (Try.prog.cellsOf 22)) = some y6 := hx 5 _ rfl
    rw [c3] at h0 h2
    rw [c1] at h1 h4
    rw [c5] at h5
    rw [c6] at h6
    obtain ⟨c, e0, _, wf0⟩ := DataW.trod_int Try.underlying3 h0
    obtain ⟨i, e1, _, wf1⟩ := DataW.trod_int Try.underlying65 h1
    obtain ⟨k, e2, _, wf2⟩ := DataW.trod_int Try.underlying3 h2
    obtain ⟨g, e4, _, wf4⟩ := DataW.trod_int Try.underlying65 h4
    change cs.toList.length = 6 at hl
    obtain ⟨nv, e5⟩ := one_take (cs := cs.toList) (n := 4) (by omega)
    obtain ⟨dv, e6⟩ := one_take (cs := cs.toList) (n := 5) (by omega)
    change DataW.trod _ _ _ _ _ _ _ _ ((cs.toList.drop 4).take 1) = _ at h5
    change DataW.trod _ _ _ _ _ _ _ _ ((cs.toList.drop 5).take 1) = _ at h6
    rw [e5] at h5
    rw [e6] at h6
    obtain ⟨A2, n2, cap2, flat, rfl, hr2, hb2⟩ := names_of h5
    obtain ⟨⟨A3, n3, cap3, ds⟩, rfl, ⟨hr3, hb3, _⟩, hn3, _⟩ := sl_ofB Try.underlying22 Try.underlying5 (by kernel_rfl) h6
    dsimp only at hr3 hb3 hn3
    have hcs := list6 hl e0 e1 e2 e4 e5 e6
    refine ⟨⟨c, i, k, zero16, g, A2, n2, cap2, flat, A3, n3, cap3, ds⟩, ?_, ⟨rfl, zero16_isB, hr2, hb2, hr3, hn3, hb3⟩, u64_ofB wf1, u64_ofB wf4, bounds_i64 wf0, bounds_i64 wf2⟩
    obtain ⟨l⟩ := cs
    change l = _ at hcs
    subst hcs
    rfl
end Go.Proofs.Ythnommoljikaiaa
