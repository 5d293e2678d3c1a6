/- Bodies of manifests that came in, opened. -/
import Derived.Test.YthnommoljikaiaaNxt2
import Derived.Test.YthnommoljikaiaaOpenB
import Derived.Deep.Slices
set_option linter.unusedSimpArgs false
set_option linter.unusedVariables false
namespace Go.Proofs.Ythnommoljikaiaa
open Go.RowKit Go.ChangeShapes Go.WideShapes Go.Deep

theorem rows_mk {w : World} {base s len : Nat} {a : Addr} (hs : 0 < s) (f : Nat → List Value) (h : ∀ i, i < len → w.cells? base (a.add (i * s)) s = some (f i)) : RowAt w (some a) len s f := fun hn => by
  obtain ⟨b, off, spot⟩ := a
  have get : ∀ i, i < len → ∀ q, q < s → ∃ v, (f i)[q]? = some v ∧ w.cell? (((⟨b, off, spot⟩ : Addr).add (i * s)).add q) = some v := fun i hi q hq => by
    obtain ⟨_, hl, hg⟩ := World.cells?_some (h i hi)
    have e : (f i)[q]? = some ((f i)[q]'(by omega)) := List.getElem?_eq_getElem (by omega)
    exact ⟨_, e, (hg q hq).trans e⟩
  obtain ⟨v0, _, h0⟩ := get 0 hn 0 hs
  have : spot = none := by
    have h9 := World.cell?_spot h0
    simpa [Addr.add] using h9
  subst this
  have hb0 : b < w.heap.size := by simpa [Addr.add] using cell_inB h0
  refine ⟨b, off, rfl, hb0, fun i hi q v hv => ?_⟩
  have hq : q < s := by
    have := (World.cells?_some (h i hi)).2.1
    have := (List.getElem?_eq_some_iff.1 hv).1
    omega
  obtain ⟨u, hu, hc⟩ := get i hi q hq
  rw [addr_add, addr_add] at hc
  rw [hc, ← hu, hv]
theorem one_takeN {cs : List Value} {n : Nat} (h : n < cs.length) : ∃ v, (cs.drop n).take 1 = [v] := ⟨cs[n], by rw [List.drop_eq_getElem_cons h]; rfl⟩
theorem split2 {cs a b : List Value} {n m : Nat} (hl : cs.length = n + m) (h1 : (cs.drop 0).take n = a) (h2 : (cs.drop n).take m = b) : cs = a ++ b := by
  rw [List.drop_zero] at h1
  rw [List.take_of_length_le (by rw [List.length_drop]; omega)] at h2
  rw [← h1, ← h2, List.take_append_drop]
section
variable {H : Type} {enc : TypeId × Value → H} {w : World} {base : Nat} {spare : Nat → Bool} {held : Bool} {fuel : Nat} {x : DataW H × List MemPlace}
theorem blobs_of {v : Value} (h : DataW.trod enc Try.prog w base spare held fuel 153 [v] = some x) :
    ∃ (A : Option Addr) (n cap : Nat) (bl : Nat → List Int), v = .slice A n cap ∧ RowAt w A n 48 (fun k => u8s (bl k)) ∧ ∀ k, k < n → (bl k).length = 48 := by
  have cB : Try.prog.cellsOf 160 = 48 := by kernel_rfl
  have cN : Try.prog.cellsOf 113 = 16 := by kernel_rfl
  have cI : Try.prog.cellsOf 82 = 32 := by kernel_rfl
  rcases open_slice Try.underlying153 h with ⟨hcs, _⟩ | ⟨a, len, cap, m, n, D, Pl, hcs, _, hl, hm, hmm, _, hx⟩
  · obtain rfl : v = .slice none 0 0 := by simpa using hcs
    exact ⟨none, 0, 0, fun _ => [], rfl, fun h => absurd h (by decide), fun k hk => absurd hk (by omega)⟩
  · obtain rfl : v = .slice (some a) len cap := by simpa using hcs
    have hlm : len ≤ m := by rw [hmm]; split <;> omega
    rw [cB] at hx
    have each : ∀ i, i < len → ∃ l : List Int, w.cells? base (a.add (i * 48)) 48 = some (u8s l) ∧ l.length = 48 := by
      intro i hi
      obtain ⟨cs', h1, h2⟩ := hx i (by omega)
      obtain ⟨xs, k, _, _, hl', hlen, hf⟩ := DataW.trod_struct Try.underlying160 h2
      rw [cB] at hl'
      match xs, hlen with
      | [y0, y1], _ =>
        have f0 : DataW.trod enc Try.prog w base spare held k 113 ((cs'.drop 0).take (Try.prog.cellsOf 113)) = some y0 := hf 0 _ rfl
        have f1 : DataW.trod enc Try.prog w base spare held k 82 ((cs'.drop 16).take (Try.prog.cellsOf 82)) = some y1 := hf 1 _ rfl
        rw [cN] at f0
        rw [cI] at f1
        obtain ⟨l0, hl0, e0, _⟩ := array_ofB Try.underlying113 Try.underlying5 (by kernel_rfl) cN f0
        obtain ⟨l1, hl1, e1, _⟩ := array_ofB Try.underlying82 Try.underlying5 (by kernel_rfl) cI f1
        have e := split2 (n := 16) (m := 32) hl' e0 e1
        refine ⟨l0 ++ l1, ?_, by rw [List.length_append]; omega⟩
        rw [h1, e]
        simp [u8s]
    obtain ⟨f, hf⟩ := choose_lt (α := List Int) (p := fun i l => w.cells? base (a.add (i * 48)) 48 = some (u8s l) ∧ l.length = 48) each
    exact ⟨some a, len, cap, f, rfl, rows_mk (by decide) _ (fun i hi => (hf i hi).1), fun k hk => (hf k hk).2⟩
theorem refs_of {v : Value} (h : DataW.trod enc Try.prog w base spare held fuel 66 [v] = some x) :
    ∃ (A : Option Addr) (n cap : Nat) (rs : Nat → ByteArray × List Int), v = .slice A n cap ∧ RowAt w A n 33 (fun k => refCells (rs k).1 (rs k).2) ∧ ∀ k, k < n → (rs k).2.length = 32 := by
  have cB : Try.prog.cellsOf 149 = 33 := by kernel_rfl
  have cS : Try.prog.cellsOf 9 = 1 := by kernel_rfl
  have cI : Try.prog.cellsOf 82 = 32 := by kernel_rfl
  rcases open_slice Try.underlying66 h with ⟨hcs, _⟩ | ⟨a, len, cap, m, n, D, Pl, hcs, _, hl, hm, hmm, _, hx⟩
  · obtain rfl : v = .slice none 0 0 := by simpa using hcs
    exact ⟨none, 0, 0, fun _ => (⟨#[]⟩, []), rfl, fun h => absurd h (by decide), fun k hk => absurd hk (by omega)⟩
  · obtain rfl : v = .slice (some a) len cap := by simpa using hcs
    have hlm : len ≤ m := by rw [hmm]; split <;> omega
    rw [cB] at hx
    have each : ∀ i, i < len → ∃ r : ByteArray × List Int, w.cells? base (a.add (i * 33)) 33 = some (refCells r.1 r.2) ∧ r.2.length = 32 := by
      intro i hi
      obtain ⟨cs', h1, h2⟩ := hx i (by omega)
      obtain ⟨xs, k, _, _, hl', hlen, hf⟩ := DataW.trod_struct Try.underlying149 h2
      rw [cB] at hl'
      match xs, hlen with
      | [y0, y1], _ =>
        have f0 : DataW.trod enc Try.prog w base spare held k 9 ((cs'.drop 0).take (Try.prog.cellsOf 9)) = some y0 := hf 0 _ rfl
        have f1 : DataW.trod enc Try.prog w base spare held k 82 ((cs'.drop 1).take (Try.prog.cellsOf 82)) = some y1 := hf 1 _ rfl
        rw [cS] at f0
        rw [cI] at f1
        obtain ⟨s, e0, _, _⟩ := DataW.trod_string Try.underlying9 f0
        obtain ⟨l1, hl1, e1, _⟩ := array_ofB Try.underlying82 Try.underlying5 (by kernel_rfl) cI f1
        have e := split2 (n := 1) (m := 32) hl' e0 e1
        exact ⟨(s, l1), by rw [h1, e]; rfl, hl1⟩
    obtain ⟨f, hf⟩ := choose_lt (α := ByteArray × List Int) (p := fun i r => w.cells? base (a.add (i * 33)) 33 = some (refCells r.1 r.2) ∧ r.2.length = 32) each
    exact ⟨some a, len, cap, f, rfl, rows_mk (by decide) _ (fun i hi => (hf i hi).1), fun k hk => (hf k hk).2⟩
instance : Inhabited PackA := ⟨⟨[], 0, none, 0, 0, fun _ => []⟩⟩
theorem packs_of {v : Value} (h : DataW.trod enc Try.prog w base spare held fuel 67 [v] = some x) :
    ∃ (A : Option Addr) (n cap : Nat) (pk : Nat → PackA), v = .slice A n cap ∧ RowAt w A n 34 (fun k => (pk k).cells) ∧ ∀ k, k < n → (pk k).Full w := by
  have cB : Try.prog.cellsOf 155 = 34 := by kernel_rfl
  have cK : Try.prog.cellsOf 152 = 32 := by kernel_rfl
  have c3 : Try.prog.cellsOf 3 = 1 := by kernel_rfl
  have cS : Try.prog.cellsOf 153 = 1 := by kernel_rfl
  rcases open_slice Try.underlying67 h with ⟨hcs, _⟩ | ⟨a, len, cap, m, n, D, Pl, hcs, _, hl, hm, hmm, _, hx⟩
  · obtain rfl : v = .slice none 0 0 := by simpa using hcs
    exact ⟨none, 0, 0, fun _ => default, rfl, fun h => absurd h (by decide), fun k hk => absurd hk (by omega)⟩
  · obtain rfl : v = .slice (some a) len cap := by simpa using hcs
    have hlm : len ≤ m := by rw [hmm]; split <;> omega
    rw [cB] at hx
    have each : ∀ i, i < len → ∃ p : PackA, w.cells? base (a.add (i * 34)) 34 = some p.cells ∧ p.Full w := by
      intro i hi
      obtain ⟨cs', h1, h2⟩ := hx i (by omega)
      obtain ⟨xs, k, _, _, hl', hlen, hf⟩ := DataW.trod_struct Try.underlying155 h2
      rw [cB] at hl'
      match xs, hlen with
      | [y0, y1, y2], _ =>
        have f0 : DataW.trod enc Try.prog w base spare held k 152 ((cs'.drop 0).take (Try.prog.cellsOf 152)) = some y0 := hf 0 _ rfl
        have f1 : DataW.trod enc Try.prog w base spare held k 3 ((cs'.drop 32).take (Try.prog.cellsOf 3)) = some y1 := hf 1 _ rfl
        have f2 : DataW.trod enc Try.prog w base spare held k 153 ((cs'.drop 33).take (Try.prog.cellsOf 153)) = some y2 := hf 2 _ rfl
        rw [cK] at f0
        rw [c3] at f1
        rw [cS] at f2
        obtain ⟨key, hk, e0, _⟩ := array_ofB Try.underlying152 Try.underlying5 (by kernel_rfl) cK f0
        obtain ⟨cnt, e1, _, _⟩ := DataW.trod_int Try.underlying3 f1
        obtain ⟨bv, e2⟩ := one_takeN (cs := cs') (n := 33) (by omega)
        rw [e2] at f2
        obtain ⟨BA, bn, bc, bl, rfl, hr, hb⟩ := blobs_of f2
        have e3 := split2 (n := 1) (m := 1) (cs := cs'.drop 32) (a := [.int .i64 cnt]) (b := [.slice BA bn bc]) (by rw [List.length_drop]; omega) (by rw [List.drop_zero]; exact e1) (by rw [List.drop_drop]; exact e2)
        have e := split2 (n := 32) (m := 2) (b := [.int .i64 cnt] ++ [.slice BA bn bc]) hl' e0 (by rw [List.take_of_length_le (by rw [List.length_drop]; omega)]; exact e3)
        exact ⟨⟨key, cnt, BA, bn, bc, bl⟩, by rw [h1, e]; rfl, hk, hr, hb⟩
    obtain ⟨f, hf⟩ := choose_lt (α := PackA) (p := fun i p => w.cells? base (a.add (i * 34)) 34 = some p.cells ∧ p.Full w) each
    exact ⟨some a, len, cap, f, rfl, rows_mk (by decide) _ (fun i hi => (hf i hi).1), fun k hk => (hf k hk).2⟩
end
theorem u64_ofN {n : Int} (h : (Lit.int .u64 n).wf = true) : 0 ≤ n ∧ n < 18446744073709551616 := by
  simp [Lit.wf, IntKind.min, IntKind.max, IntKind.signed, IntKind.bits] at h
  omega
theorem list6N {cs : List Value} {c i k g nv dv : Value} (hl : cs.length = 6) (e0 : (cs.drop 0).take 1 = [c]) (e1 : (cs.drop 1).take 1 = [i]) (e2 : (cs.drop 2).take 1 = [k]) (e4 : (cs.drop 3).take 1 = [g]) (e5 : (cs.drop 4).take 1 = [nv]) (e6 : (cs.drop 5).take 1 = [dv]) :
    cs = [c, i, k, g, nv, dv] := by
  match cs, hl with
  | [x0, x1, x2, x3, x4, x5], _ =>
    simp only [List.drop_succ_cons, List.drop_zero, List.take_succ_cons, List.take_zero, List.cons.injEq, and_true] at e0 e1 e2 e4 e5 e6
    subst e0 e1 e2 e4 e5 e6
    rfl
set_option maxRecDepth 100000 in
theorem body_of {H : Type} {enc : TypeId × Value → H} {w : World} {base : Nat} {r : Reach} {b0 : Nat} {spare : Nat → Bool} {held : Bool} {v : Value} {d : DataW H} {p : List MemPlace} (hv : Value.okWide Try.prog w r b0 69 v)
    (h : DataW.Trod enc Try.prog w base spare held 69 v d p) : ∃ b : BodyA, v = .agg b.cells ∧ b.Full w ∧ (0 ≤ b.g ∧ b.g < 18446744073709551616) := by
  obtain ⟨cs, rfl, hsz⟩ := okWide_struct Try.underlying69 hv
  obtain ⟨fuel, hf⟩ := h
  obtain ⟨xs, n, _, _, hl, hlen, hx⟩ := DataW.trod_struct Try.underlying69 hf
  have c1 : Try.prog.cellsOf 65 = 1 := by kernel_rfl
  have c3 : Try.prog.cellsOf 3 = 1 := by kernel_rfl
  have c4 : Try.prog.cellsOf 69 = 6 := by kernel_rfl
  have c5 : Try.prog.cellsOf 66 = 1 := by kernel_rfl
  have c6 : Try.prog.cellsOf 67 = 1 := by kernel_rfl
  rw [c4] at hl
  match xs, hlen with
  | [y0, y1, y2, y4, y5, y6], _ =>
    have h0 : DataW.trod enc Try.prog w base spare held n 65 ((cs.toList.drop 0).take (Try.prog.cellsOf 65)) = some y0 := hx 0 _ rfl
    have h1 : DataW.trod enc Try.prog w base spare held n 65 ((cs.toList.drop 1).take (Try.prog.cellsOf 65)) = some y1 := hx 1 _ rfl
    have h2 : DataW.trod enc Try.prog w base spare held n 3 ((cs.toList.drop 2).take (Try.prog.cellsOf 3)) = some y2 := hx 2 _ rfl
    have h4 : DataW.trod enc Try.prog w base spare held n 65 ((cs.toList.drop 3).take (Try.prog.cellsOf 65)) = some y4 := hx 3 _ rfl
    have h5 : DataW.trod enc Try.prog w base spare held n 66 ((cs.toList.drop 4).take (Try.prog.cellsOf 66)) = some y5 := hx 4 _ rfl
    have h6 : DataW.trod enc Try.prog w base spare held n 67 ((cs.toList.drop 5).take (Try.prog.cellsOf 67)) = some y6 := hx 5 _ rfl
    rw [c1] at h0 h1 h4
    rw [c3] at h2
    rw [c5] at h5
    rw [c6] at h6
    obtain ⟨g, e0, _, wf0⟩ := DataW.trod_int Try.underlying65 h0
    obtain ⟨ep, e1, _, _⟩ := DataW.trod_int Try.underlying65 h1
    obtain ⟨wi, e2, _, _⟩ := DataW.trod_int Try.underlying3 h2
    obtain ⟨st, e4, _, _⟩ := DataW.trod_int Try.underlying65 h4
    change cs.toList.length = 6 at hl
    obtain ⟨rv, e5⟩ := one_takeN (cs := cs.toList) (n := 4) (by omega)
    obtain ⟨pv, e6⟩ := one_takeN (cs := cs.toList) (n := 5) (by omega)
    change DataW.trod _ _ _ _ _ _ _ _ ((cs.toList.drop 4).take 1) = _ at h5
    change DataW.trod _ _ _ _ _ _ _ _ ((cs.toList.drop 5).take 1) = _ at h6
    rw [e5] at h5
    rw [e6] at h6
    obtain ⟨RA, rn, rc, rs, rfl, hr1, hr2⟩ := refs_of h5
    obtain ⟨PA, pn, pc, pk, rfl, hp1, hp2⟩ := packs_of h6
    have hcs := list6N hl e0 e1 e2 e4 e5 e6
    refine ⟨⟨g, ep, wi, st, RA, rn, rc, rs, PA, pn, pc, pk⟩, ?_, ⟨hr1, hr2, hp1, hp2⟩, u64_ofN wf0⟩
    obtain ⟨l⟩ := cs
    change l = _ at hcs
    subst hcs
    rfl
set_option maxRecDepth 100000 in
theorem u64arg_of {H : Type} {enc : TypeId × Value → H} {w : World} {base : Nat} {r : Reach} {b0 : Nat} {spare : Nat → Bool} {held : Bool} {v : Value} {d : DataW H} {p : List MemPlace} (hv : Value.okWide Try.prog w r b0 65 v)
    (h : DataW.Trod enc Try.prog w base spare held 65 v d p) : ∃ n : Int, v = .int .u64 n ∧ (Lit.int .u64 n).wf = true := by
  obtain ⟨n, rfl⟩ := okWide_int Try.underlying65 hv
  obtain ⟨fuel, hf⟩ := h
  obtain ⟨z, e, _, hz⟩ := DataW.trod_int Try.underlying65 (by simpa [Value.cells] using hf)
  simp only [List.cons.injEq, and_true, Value.int.injEq, true_and] at e
  subst e
  exact ⟨_, rfl, hz⟩
end Go.Proofs.Ythnommoljikaiaa
