/- Arguments of the laws on frames and messages, opened: runs of bytes, numbers, arrays of numbers. Entries, commits and notes that came in, opened. Objects that came in, opened. A row that lists variables with what they hold: its wrap, the world's shape kept. -/
import Derived.Test.YtoompcgdhokdlaaDoorJa
import Derived.ProofKit
import Derived.OpenShut
import Derived.Lib.SmallJoins
import Derived.Test.YtoompcgdhokdlaaDoorJh
import Derived.Deep.Slices
import Derived.Test.YtoompcgdhokdlaaDoorRows
import Derived.HandedShaped
import Derived.Handed
import Derived.Lay
set_option linter.unusedSimpArgs false
set_option linter.unusedVariables false
namespace Go.Proofs.YtoompcgdhokdlaaDoor
open Go.RowKit Go.ChangeShapes Go.WideShapes Go.Deep

section
variable {H : Type} {enc : TypeId × Value → H} {P : Program} {w : World} {base : Nat} {spare : Nat → Bool} {held : Bool} {fuel : Nat} {t : TypeId} {x : DataW H × List MemPlace}

theorem cell_inB {w : World} {a : Addr} {v : Value} (h : w.cell? a = some v) : a.block < w.heap.size := by
  rcases Nat.lt_or_ge a.block w.heap.size with h' | h'
  · exact h'
  · simp [World.cell?, Array.getElem?_eq_none h'] at h
theorem u8_ofB {n : Int} (h : (Lit.int .u8 n).wf = true) : 0 ≤ n ∧ n < 256 := by
  have := bounds_u8 h
  omega
theorem okWide_array {base : Nat} {r : Reach} {v : Value} {n : Nat} {e : TypeId} (ht : P.underlying t = some (.array n e)) (h : Value.okWide P w r base t v) : ∃ cs, v = .agg cs ∧ cs.size = P.cellsOf t := by
  simp only [Value.okWide, ht] at h
  obtain ⟨cs, h1, h2, _⟩ := h
  exact ⟨cs, h1, h2⟩
/-- A run of bytes that came in; a nil one has no room. -/
def Sl.Full (w : World) (s : Sl) : Prop := s.Ok w ∧ (s.A = none → s.cap = 0) ∧ s.cap ≤ maxLen
theorem sl_ofB {e : TypeId} {v : Value} (ht : P.underlying t = some (.slice e)) (he : P.underlying e = some (.int .u8)) (hc : P.cellsOf e = 1) (h : DataW.trod enc P w base spare held fuel t [v] = some x) :
    ∃ s : Sl, v = s.val ∧ s.Full w := by
  rcases open_ints ht he hc h with ⟨hcs, _⟩ | ⟨a, len, cap, zs, hcs, _, hl, hm, hz, _, hcell, hwz⟩
  · obtain rfl : v = .slice none 0 0 := by simpa using hcs
    exact ⟨⟨none, 0, 0, []⟩, rfl, ⟨⟨rfl, fun h => absurd h (by decide)⟩, fun j => by simp, Nat.le_refl _⟩, fun _ => rfl, Nat.zero_le _⟩
  · obtain rfl : v = .slice (some a) len cap := by simpa using hcs
    have hzl : len ≤ zs.length := by split at hz <;> omega
    have htk : ∀ j, j < len → (zs.take len).getD j 0 = zs.getD j 0 := fun j hj => by simp [List.getD_eq_getElem?_getD, List.getElem?_take, hj]
    refine ⟨⟨some a, len, cap, zs.take len⟩, rfl, ⟨⟨by show (zs.take len).length = len; simp; omega, fun hn => ?_⟩, ?_, hl⟩, (fun h => by cases h), hm⟩
    · have hn : 0 < len := hn
      obtain ⟨b, off, spot⟩ := a
      have h0 := hcell 0 (by omega)
      have : spot = none := by simpa [Addr.add] using World.cell?_spot h0
      subst this
      refine ⟨b, off, rfl, by simpa [Addr.add] using cell_inB h0, fun j hj => ?_⟩
      have hj : j < len := hj
      have h2 := hcell j (by omega)
      have e : (Addr.add ⟨b, off, none⟩ j) = ⟨b, off + j, none⟩ := by unfold Addr.add; split <;> simp_all
      rw [e] at h2
      show w.cell? _ = some (.int .u8 ((zs.take len).getD j 0))
      rw [h2, htk j hj]
    · intro j
      by_cases hj : j < len
      · show 0 ≤ (zs.take len).getD j 0 ∧ (zs.take len).getD j 0 < 256
        rw [htk j hj, List.getD_eq_getElem?_getD, List.getElem?_eq_getElem (by omega)]
        exact u8_ofB (hwz _ (List.getElem_mem _))
      · show 0 ≤ (zs.take len).getD j 0 ∧ (zs.take len).getD j 0 < 256
        rw [List.getD_eq_getElem?_getD, List.getElem?_eq_none (by simp; omega)]
        decide
theorem array_ofB {n : Nat} {e : TypeId} {k : IntKind} {cs : List Value} (ht : P.underlying t = some (.array n e)) (he : P.underlying e = some (.int k)) (hc : P.cellsOf e = 1) (hct : P.cellsOf t = n)
    (h : DataW.trod enc P w base spare held fuel t cs = some x) : ∃ l : List Int, l.length = n ∧ cs = l.map (Value.int k) ∧ ∀ z ∈ l, (Lit.int k z).wf = true := by
  obtain ⟨xs, m, _, _, hl, hxl, hg⟩ := DataW.trod_array ht h
  rw [hct] at hl
  have each : ∀ i, i < n → ∃ z, cs[i]? = some (.int k z) ∧ (Lit.int k z).wf = true := by
    intro i hi
    have h1 := hg i hi
    rw [hc, Nat.mul_one, List.getElem?_eq_getElem (by omega)] at h1
    obtain ⟨z, h2, _, h3⟩ := DataW.trod_int he h1
    refine ⟨z, ?_, h3⟩
    have : ((cs.drop i).take 1)[0]? = some (.int k z) := by rw [h2]; rfl
    simpa [List.getElem?_take] using this
  clear hg
  refine ⟨cs.map (fun v => match v with | .int _ z => z | _ => 0), by simpa using hl, ?_, ?_⟩
  · apply List.ext_getElem?
    intro i
    by_cases hi : i < n
    · obtain ⟨z, h1, _⟩ := each i hi
      simp [h1]
    · rw [List.getElem?_eq_none (by omega), List.getElem?_eq_none (by simp; omega)]
  · intro z hz
    obtain ⟨v, hv, rfl⟩ := List.mem_map.mp hz
    obtain ⟨i, hi, rfl⟩ := List.mem_iff_getElem.mp hv
    obtain ⟨z, h1, h2⟩ := each i (by omega)
    rw [List.getElem?_eq_getElem hi] at h1
    simp only [Option.some.injEq] at h1
    rw [h1]
    exact h2
end

end Go.Proofs.YtoompcgdhokdlaaDoor

set_option linter.unusedSimpArgs false
set_option linter.unusedVariables false
namespace Go.Proofs.YtoompcgdhokdlaaDoor
open Go.RowKit Go.ChangeShapes Go.WideShapes Go.Deep

theorem rows_mk {w : World} {base s len : Nat} {a : Addr} (hs : 0 < s) (f : Nat → List Value) (h : ∀ i, i < len → w.cells? base (a.add (i * s)) s = some (f i)) : RowAt w (some a) len s f := fun hn => by
  obtain ⟨b, off, spot⟩ := a
  have get : ∀ i, i < len → ∀ q, q < s → ∃ v, (f i)[q]? = some v ∧ w.cell? (((⟨b, off, spot⟩ : Addr).add (i * s)).add q) = some v := fun i hi q hq => by
    obtain ⟨_, hl, hg⟩ := World.cells?_some (h i hi)
    have e : (f i)[q]? = some ((f i)[q]'(by omega)) := List.getElem?_eq_getElem (by omega)
    exact ⟨_, e, (hg q hq).trans e⟩
  obtain ⟨v0, _, h0⟩ := get 0 hn 0 hs
  have : spot = none := by
    have h9 := World.cell?_spot h0
    simpa [Addr.add] using h9
  subst this
  have hb0 : b < w.heap.size := by simpa [Addr.add] using cell_inB h0
  refine ⟨b, off, rfl, hb0, fun i hi q v hv => ?_⟩
  have hq : q < s := by
    have := (World.cells?_some (h i hi)).2.1
    have := (List.getElem?_eq_some_iff.1 hv).1
    omega
  obtain ⟨u, hu, hc⟩ := get i hi q hq
  rw [addr_add, addr_add] at hc
  rw [hc, ← hu, hv]
theorem one_takeN {cs : List Value} {n : Nat} (h : n < cs.length) : ∃ v, (cs.drop n).take 1 = [v] := ⟨cs[n], by rw [List.drop_eq_getElem_cons h]; rfl⟩
theorem split2 {cs a b : List Value} {n m : Nat} (hl : cs.length = n + m) (h1 : (cs.drop 0).take n = a) (h2 : (cs.drop n).take m = b) : cs = a ++ b := by
  rw [List.drop_zero] at h1
  rw [List.take_of_length_le (by rw [List.length_drop]; omega)] at h2
  rw [← h1, ← h2, List.take_append_drop]
theorem u64_ofN {n : Int} (h : (Lit.int .u64 n).wf = true) : 0 ≤ n ∧ n < 18446744073709551616 := by
  simp [Lit.wf, IntKind.min, IntKind.max, IntKind.signed, IntKind.bits] at h
  omega
theorem isB_mem {l : List Int} (h : ∀ z ∈ l, 0 ≤ z ∧ z < 256) : IsB l := fun j => by
  by_cases hj : j < l.length
  · rw [List.getD_eq_getElem?_getD, List.getElem?_eq_getElem hj]
    exact h _ (List.getElem_mem _)
  · rw [List.getD_eq_getElem?_getD, List.getElem?_eq_none (by omega)]
    decide
section
variable {H : Type} {enc : TypeId × Value → H} {w : World} {base : Nat} {spare : Nat → Bool} {held : Bool} {fuel : Nat} {x : DataW H × List MemPlace}
def Lighter (P : Program) (t : TypeId) (d : DataW H) : Prop := (DataW.weights P t d).all (· ≤ reachBytes) = true
theorem light_all {P : Program} {e : TypeId} : ∀ {l : List (DataW H)}, (DataW.weightsAll P e l).all (· ≤ reachBytes) = true → ∀ d ∈ l, Lighter P e d
  | [], _, d, hd => by cases hd
  | a :: r, h, d, hd => by
    simp only [DataW.weightsAll, List.all_append, Bool.and_eq_true] at h
    rcases List.mem_cons.1 hd with rfl | hd
    · exact h.1
    · exact light_all h.2 d hd
theorem light_slice {P : Program} {t e : TypeId} {el sp : List (DataW H)} (hu : P.underlying t = some (.slice e)) (h : Lighter P t (.slice el sp)) : ∀ d ∈ el, Lighter P e d := by
  unfold Lighter at h
  rw [DataW.weights, hu] at h
  simp only [List.all_cons, List.all_append, Bool.and_eq_true] at h
  exact light_all h.2.1
theorem light_cons {P : Program} {t : TypeId} {ts : List TypeId} {d : DataW H} {ds : List (DataW H)} (h : (DataW.weightsEach P (t :: ts) (d :: ds)).all (· ≤ reachBytes) = true) : Lighter P t d ∧ (DataW.weightsEach P ts ds).all (· ≤ reachBytes) = true := by
  simp only [DataW.weightsEach, List.all_append, Bool.and_eq_true] at h
  exact h
theorem light_struct {P : Program} {t : TypeId} {fs : Array Field} {ps : List (DataW H)} (hu : P.underlying t = some (.struct fs)) (h : Lighter P t (.agg ps)) : (DataW.weightsEach P (fs.toList.map (·.type)) ps).all (· ≤ reachBytes) = true := by
  unfold Lighter at h
  rw [DataW.weights, hu] at h
  exact h
theorem light_str {P : Program} {t : TypeId} {s : ByteArray} (h : Lighter (H := H) P t (.lit (.string s.data.toList))) : s.size ≤ 140737488355328 := by
  unfold Lighter at h
  rw [DataW.weights] at h
  simp only [List.all_cons, List.all_nil, Bool.and_true, decide_eq_true_eq] at h
  have h2 : s.size ≤ reachBytes := by simpa using h
  unfold reachBytes at h2
  omega
instance : Inhabited Ent := ⟨⟨⟨#[]⟩, false, []⟩⟩
theorem ents_of {v : Value} (h : DataW.trod enc Tryd.prog w base spare held fuel 22 [v] = some x) (hz : Lighter Tryd.prog 22 x.1) :
    ∃ (A : Option Addr) (n cap : Nat) (L : Nat → Ent), v = .slice A n cap ∧ RowAt w A n 34 (fun k => (L k).cells) ∧ (∀ k, k < n → (L k).id.length = 32) ∧ ∀ k, k < n → (L k).name.size ≤ 140737488355328 := by
  have cB : Tryd.prog.cellsOf 32 = 34 := by kernel_rfl
  have cS : Tryd.prog.cellsOf 9 = 1 := by kernel_rfl
  have cD : Tryd.prog.cellsOf 4 = 1 := by kernel_rfl
  have cI : Tryd.prog.cellsOf 24 = 32 := by kernel_rfl
  rcases open_slice Tryd.underlying22 h with ⟨hcs, _⟩ | ⟨a, len, cap, m, n, D, Pl, hcs, _, hl, hm, hmm, rfl, hx⟩
  · obtain rfl : v = .slice none 0 0 := by simpa using hcs
    exact ⟨none, 0, 0, fun _ => default, rfl, fun h => absurd h (by decide), fun k hk => absurd hk (by omega), fun k hk => absurd hk (by omega)⟩
  · obtain rfl : v = .slice (some a) len cap := by simpa using hcs
    have hlm : len ≤ m := by rw [hmm]; split <;> omega
    have hzl := light_slice Tryd.underlying22 hz
    rw [cB] at hx
    have each : ∀ i, i < len → ∃ r : Ent, w.cells? base (a.add (i * 34)) 34 = some r.cells ∧ r.id.length = 32 ∧ r.name.size ≤ 140737488355328 := by
      intro i hi
      obtain ⟨cs', h1, h2⟩ := hx i (by omega)
      have hzi := hzl (D i) (List.mem_map.2 ⟨i, List.mem_range.2 hi, rfl⟩)
      obtain ⟨xs, k, _, hxe, hl', hlen, hf⟩ := DataW.trod_struct Tryd.underlying32 h2
      rw [cB] at hl'
      match xs, hlen with
      | [y0, y1, y2], _ =>
        have f0 : DataW.trod enc Tryd.prog w base spare held k 9 ((cs'.drop 0).take (Tryd.prog.cellsOf 9)) = some y0 := hf 0 _ rfl
        have f1 : DataW.trod enc Tryd.prog w base spare held k 4 ((cs'.drop 1).take (Tryd.prog.cellsOf 4)) = some y1 := hf 1 _ rfl
        have f2 : DataW.trod enc Tryd.prog w base spare held k 24 ((cs'.drop 2).take (Tryd.prog.cellsOf 24)) = some y2 := hf 2 _ rfl
        rw [cS] at f0
        rw [cD] at f1
        rw [cI] at f2
        obtain ⟨s, e0, rfl, _⟩ := DataW.trod_string Tryd.underlying9 f0
        obtain ⟨b, e1, _⟩ := DataW.trod_bool Tryd.underlying4 f1
        obtain ⟨l1, hl1, e2, _⟩ := array_ofB Tryd.underlying24 Tryd.underlying5 (by kernel_rfl) cI f2
        have hd : D i = .agg [.lit (.string s.data.toList), y1.1, y2.1] := by
          have := congrArg Prod.fst hxe
          simpa using this
        rw [hd] at hzi
        have hs := light_str (light_cons (light_struct Tryd.underlying32 hzi)).1
        have e3 := split2 (n := 1) (m := 32) (cs := cs'.drop 1) (a := [.bool b]) (b := l1.map (Value.int .u8)) (by rw [List.length_drop]; omega) (by rw [List.drop_zero]; exact e1) (by rw [List.drop_drop]; exact e2)
        have e := split2 (n := 1) (m := 33) (b := [.bool b] ++ l1.map (Value.int .u8)) hl' e0 (by rw [List.take_of_length_le (by rw [List.length_drop]; omega)]; exact e3)
        exact ⟨⟨s, b, l1⟩, by rw [h1, e]; rfl, hl1, hs⟩
    obtain ⟨f, hf⟩ := choose_lt (α := Ent) (p := fun i r => w.cells? base (a.add (i * 34)) 34 = some r.cells ∧ r.id.length = 32 ∧ r.name.size ≤ 140737488355328) each
    exact ⟨some a, len, cap, f, rfl, rows_mk (by decide) _ (fun i hi => (hf i hi).1), fun k hk => (hf k hk).2.1, fun k hk => (hf k hk).2.2⟩
theorem pars_of {v : Value} (h : DataW.trod enc Tryd.prog w base spare held fuel 25 [v] = some x) :
    ∃ (A : Option Addr) (n cap : Nat) (P : Nat → List Int), v = .slice A n cap ∧ RowAt w A n 32 (fun k => u8s (P k)) ∧ (∀ k, k < n → (P k).length = 32) ∧ ∀ k, k < n → IsB (P k) := by
  have cI : Tryd.prog.cellsOf 24 = 32 := by kernel_rfl
  rcases open_slice Tryd.underlying25 h with ⟨hcs, _⟩ | ⟨a, len, cap, m, n, D, Pl, hcs, _, hl, hm, hmm, _, hx⟩
  · obtain rfl : v = .slice none 0 0 := by simpa using hcs
    exact ⟨none, 0, 0, fun _ => [], rfl, fun h => absurd h (by decide), fun k hk => absurd hk (by omega), fun k hk => absurd hk (by omega)⟩
  · obtain rfl : v = .slice (some a) len cap := by simpa using hcs
    have hlm : len ≤ m := by rw [hmm]; split <;> omega
    rw [cI] at hx
    have each : ∀ i, i < len → ∃ l : List Int, w.cells? base (a.add (i * 32)) 32 = some (u8s l) ∧ l.length = 32 ∧ IsB l := by
      intro i hi
      obtain ⟨cs', h1, h2⟩ := hx i (by omega)
      obtain ⟨l, hl32, rfl, hwf⟩ := array_ofB Tryd.underlying24 Tryd.underlying5 (by kernel_rfl) cI h2
      exact ⟨l, h1, hl32, isB_mem fun z hz => u8_ofB (hwf z hz)⟩
    obtain ⟨f, hf⟩ := choose_lt (α := List Int) (p := fun i (l : List Int) => w.cells? base (a.add (i * 32)) 32 = some (u8s l) ∧ l.length = 32 ∧ IsB l) each
    exact ⟨some a, len, cap, f, rfl, rows_mk (by decide) _ (fun i hi => (hf i hi).1), fun k hk => (hf k hk).2.1, fun k hk => (hf k hk).2.2⟩
end
set_option maxRecDepth 100000 in
theorem ents_arg {H : Type} {enc : TypeId × Value → H} {w : World} {base : Nat} {r : Reach} {b0 : Nat} {spare : Nat → Bool} {held : Bool} {v : Value} {d : DataW H} {p : List MemPlace} (hv : Value.okWide Tryd.prog w r b0 22 v)
    (h : DataW.Trod enc Tryd.prog w base spare held 22 v d p) (hz : Lighter Tryd.prog 22 d) : ∃ (A : Option Addr) (n cap : Nat) (L : Nat → Ent), v = .slice A n cap ∧ RowAt w A n 34 (fun k => (L k).cells) ∧ (∀ k, k < n → (L k).id.length = 32) ∧ ∀ k, k < n → (L k).name.size ≤ 140737488355328 := by
  obtain ⟨a, len, cap, rfl⟩ := okWide_slice Tryd.underlying22 hv
  obtain ⟨fuel, hf⟩ := h
  exact ents_of (by simpa [Value.cells] using hf) hz
set_option maxRecDepth 100000 in
theorem mark_arg {H : Type} {enc : TypeId × Value → H} {w : World} {base : Nat} {r : Reach} {b0 : Nat} {spare : Nat → Bool} {held : Bool} {v : Value} {d : DataW H} {p : List MemPlace} (hv : Value.okWide Tryd.prog w r b0 30 v)
    (h : DataW.Trod enc Tryd.prog w base spare held 30 v d p) (hz : Lighter Tryd.prog 30 d) : ∃ (id : List Int) (name text : ByteArray), v = .agg (markCells id name text).toArray ∧ id.length = 32 ∧ IsB id ∧ name.size ≤ 140737488355328 ∧ text.size ≤ 140737488355328 := by
  obtain ⟨cs, rfl, hsz⟩ := okWide_struct Tryd.underlying30 hv
  obtain ⟨fuel, hf⟩ := h
  have cM : Tryd.prog.cellsOf 30 = 34 := by kernel_rfl
  have cS : Tryd.prog.cellsOf 9 = 1 := by kernel_rfl
  have cI : Tryd.prog.cellsOf 24 = 32 := by kernel_rfl
  obtain ⟨xs, k, _, hxe, hl, hlen, hx⟩ := DataW.trod_struct Tryd.underlying30 hf
  rw [cM] at hl
  change cs.toList.length = 34 at hl
  match xs, hlen with
  | [y0, y1, y2], _ =>
    have f0 : DataW.trod enc Tryd.prog w base spare held k 24 ((cs.toList.drop 0).take (Tryd.prog.cellsOf 24)) = some y0 := hx 0 _ rfl
    have f1 : DataW.trod enc Tryd.prog w base spare held k 9 ((cs.toList.drop 32).take (Tryd.prog.cellsOf 9)) = some y1 := hx 1 _ rfl
    have f2 : DataW.trod enc Tryd.prog w base spare held k 9 ((cs.toList.drop 33).take (Tryd.prog.cellsOf 9)) = some y2 := hx 2 _ rfl
    rw [cI] at f0
    rw [cS] at f1 f2
    obtain ⟨l, hl1, e0, hwf⟩ := array_ofB Tryd.underlying24 Tryd.underlying5 (by kernel_rfl) cI f0
    obtain ⟨s, e1, rfl, _⟩ := DataW.trod_string Tryd.underlying9 f1
    obtain ⟨u, e2, rfl, _⟩ := DataW.trod_string Tryd.underlying9 f2
    have hd : d = .agg [y0.1, .lit (.string s.data.toList), .lit (.string u.data.toList)] := by
      have := congrArg Prod.fst hxe
      simpa using this
    rw [hd] at hz
    have z0 := light_cons (light_struct Tryd.underlying30 hz)
    have z1 := light_cons z0.2
    have z2 := light_cons z1.2
    have e3 := split2 (n := 1) (m := 1) (cs := cs.toList.drop 32) (a := [.string s]) (b := [.string u]) (by rw [List.length_drop]; omega) (by rw [List.drop_zero]; exact e1) (by rw [List.drop_drop]; exact e2)
    have e := split2 (n := 32) (m := 2) (b := [.string s] ++ [.string u]) hl e0 (by rw [List.take_of_length_le (by rw [List.length_drop]; omega)]; exact e3)
    refine ⟨l, s, u, ?_, hl1, isB_mem fun z hz => u8_ofB (hwf z hz), light_str z1.1, light_str z2.1⟩
    obtain ⟨cl⟩ := cs
    change cl = _ at e
    subst e
    rfl
set_option maxRecDepth 100000 in
theorem chg_arg {H : Type} {enc : TypeId × Value → H} {w : World} {base : Nat} {r : Reach} {b0 : Nat} {spare : Nat → Bool} {held : Bool} {v : Value} {d : DataW H} {p : List MemPlace} (hv : Value.okWide Tryd.prog w r b0 28 v)
    (h : DataW.Trod enc Tryd.prog w base spare held 28 v d p) (hz : Lighter Tryd.prog 28 d) : ∃ c : ChgA, v = .agg c.cells.toArray ∧ c.Full w ∧ (∀ j, j < c.n → IsB (c.P j)) ∧ IsB c.tree ∧ 0 ≤ c.time ∧ c.time < 18446744073709551616 ∧ c.author.size ≤ 140737488355328 ∧ c.text.size ≤ 140737488355328 := by
  obtain ⟨cs, rfl, hsz⟩ := okWide_struct Tryd.underlying28 hv
  obtain ⟨fuel, hf⟩ := h
  have cM : Tryd.prog.cellsOf 28 = 36 := by kernel_rfl
  have cS : Tryd.prog.cellsOf 9 = 1 := by kernel_rfl
  have cI : Tryd.prog.cellsOf 24 = 32 := by kernel_rfl
  have cL : Tryd.prog.cellsOf 25 = 1 := by kernel_rfl
  have cU : Tryd.prog.cellsOf 26 = 1 := by kernel_rfl
  obtain ⟨xs, k, _, hxe, hl, hlen, hx⟩ := DataW.trod_struct Tryd.underlying28 hf
  rw [cM] at hl
  change cs.toList.length = 36 at hl
  match xs, hlen with
  | [y0, y1, y2, y3, y4], _ =>
    have f0 : DataW.trod enc Tryd.prog w base spare held k 24 ((cs.toList.drop 0).take (Tryd.prog.cellsOf 24)) = some y0 := hx 0 _ rfl
    have f1 : DataW.trod enc Tryd.prog w base spare held k 25 ((cs.toList.drop 32).take (Tryd.prog.cellsOf 25)) = some y1 := hx 1 _ rfl
    have f2 : DataW.trod enc Tryd.prog w base spare held k 26 ((cs.toList.drop 33).take (Tryd.prog.cellsOf 26)) = some y2 := hx 2 _ rfl
    have f3 : DataW.trod enc Tryd.prog w base spare held k 9 ((cs.toList.drop 34).take (Tryd.prog.cellsOf 9)) = some y3 := hx 3 _ rfl
    have f4 : DataW.trod enc Tryd.prog w base spare held k 9 ((cs.toList.drop 35).take (Tryd.prog.cellsOf 9)) = some y4 := hx 4 _ rfl
    rw [cI] at f0
    rw [cL] at f1
    rw [cU] at f2
    rw [cS] at f3 f4
    obtain ⟨l, hl1, e0, hwf⟩ := array_ofB Tryd.underlying24 Tryd.underlying5 (by kernel_rfl) cI f0
    obtain ⟨pv, e1⟩ := one_takeN (cs := cs.toList) (n := 32) (by omega)
    rw [e1] at f1
    obtain ⟨PA, pn, pc, P, rfl, hp1, hp2, hp3⟩ := pars_of f1
    obtain ⟨tm, e2, _, wf2⟩ := DataW.trod_int Tryd.underlying26 f2
    obtain ⟨s, e3, rfl, _⟩ := DataW.trod_string Tryd.underlying9 f3
    obtain ⟨u, e4, rfl, _⟩ := DataW.trod_string Tryd.underlying9 f4
    have hd : d = .agg [y0.1, y1.1, y2.1, .lit (.string s.data.toList), .lit (.string u.data.toList)] := by
      have := congrArg Prod.fst hxe
      simpa using this
    rw [hd] at hz
    have z0 := light_cons (light_struct Tryd.underlying28 hz)
    have z1 := light_cons z0.2
    have z2 := light_cons z1.2
    have z3 := light_cons z2.2
    have z4 := light_cons z3.2
    have g3 := split2 (n := 1) (m := 1) (cs := cs.toList.drop 34) (a := [.string s]) (b := [.string u]) (by rw [List.length_drop]; omega) (by rw [List.drop_zero]; exact e3) (by rw [List.drop_drop]; exact e4)
    have g2 := split2 (n := 1) (m := 2) (cs := cs.toList.drop 33) (a := [.int .u64 tm]) (b := [.string s] ++ [.string u]) (by rw [List.length_drop]; omega) (by rw [List.drop_zero]; exact e2) (by rw [List.drop_drop, List.take_of_length_le (by rw [List.length_drop]; omega)]; exact g3)
    have g1 := split2 (n := 1) (m := 3) (cs := cs.toList.drop 32) (a := [.slice PA pn pc]) (b := [.int .u64 tm] ++ ([.string s] ++ [.string u])) (by rw [List.length_drop]; omega) (by rw [List.drop_zero]; exact e1) (by rw [List.drop_drop, List.take_of_length_le (by rw [List.length_drop]; omega)]; exact g2)
    have e := split2 (n := 32) (m := 4) (b := [.slice PA pn pc] ++ ([.int .u64 tm] ++ ([.string s] ++ [.string u]))) hl e0 (by rw [List.take_of_length_le (by rw [List.length_drop]; omega)]; exact g1)
    refine ⟨⟨l, PA, pn, pc, P, tm, s, u⟩, ?_, ⟨hl1, hp1, hp2⟩, hp3, isB_mem fun z hz => u8_ofB (hwf z hz), (u64_ofN wf2).1, (u64_ofN wf2).2, light_str z3.1, light_str z4.1⟩
    obtain ⟨cl⟩ := cs
    change cl = _ at e
    subst e
    rfl
end Go.Proofs.YtoompcgdhokdlaaDoor

set_option linter.unusedSimpArgs false
set_option linter.unusedVariables false
namespace Go.Proofs.YtoompcgdhokdlaaDoor
open Go.RowKit Go.ChangeShapes Go.WideShapes Go.Deep

set_option maxRecDepth 100000 in
theorem obj_arg {H : Type} {enc : TypeId × Value → H} {w : World} {base : Nat} {r : Reach} {b0 : Nat} {spare : Nat → Bool} {held : Bool} {v : Value} {d : DataW H} {p : List MemPlace} (hv : Value.okWide Tryd.prog w r b0 35 v)
    (h : DataW.Trod enc Tryd.prog w base spare held 35 v d p) : ∃ (k : Int) (s : Sl), v = .agg (objC k s.val) ∧ s.Full w := by
  obtain ⟨cs, rfl, hsz⟩ := okWide_struct Tryd.underlying35 hv
  obtain ⟨fuel, hf⟩ := h
  have cM : Tryd.prog.cellsOf 35 = 2 := by kernel_rfl
  have cI : Tryd.prog.cellsOf 3 = 1 := by kernel_rfl
  have cB : Tryd.prog.cellsOf 33 = 1 := by kernel_rfl
  obtain ⟨xs, k, _, hxe, hl, hlen, hx⟩ := DataW.trod_struct Tryd.underlying35 hf
  rw [cM] at hl
  change cs.toList.length = 2 at hl
  match xs, hlen with
  | [y0, y1], _ =>
    have f0 : DataW.trod enc Tryd.prog w base spare held k 3 ((cs.toList.drop 0).take (Tryd.prog.cellsOf 3)) = some y0 := hx 0 _ rfl
    have f1 : DataW.trod enc Tryd.prog w base spare held k 33 ((cs.toList.drop 1).take (Tryd.prog.cellsOf 33)) = some y1 := hx 1 _ rfl
    rw [cI] at f0
    rw [cB] at f1
    obtain ⟨kk, e0, _⟩ := DataW.trod_int Tryd.underlying3 f0
    obtain ⟨v1, e1⟩ := one_takeN (cs := cs.toList) (n := 1) (by omega)
    rw [e1] at f1
    obtain ⟨s, rfl, hs⟩ := sl_ofB Tryd.underlying33 Tryd.underlying5 (by kernel_rfl) f1
    have e := split2 (n := 1) (m := 1) hl e0 e1
    have e2 : cs = objC kk s.val := by
      apply Array.toList_inj.1
      rw [e]; rfl
    exact ⟨kk, s, by rw [e2], hs⟩
end Go.Proofs.YtoompcgdhokdlaaDoor

set_option linter.unusedVariables false
namespace Go.Proofs.YtoompcgdhokdlaaDoor
open Go

theorem handed_laid {H : Type} {enc : TypeId × Value → H} {a : Assume} {C : Checked} {os : Os} {f : FuncId} {fn : Func} {s : ChangeSpec} {conds : List PathCond} {apart fresh handsOn again : Bool} {X : World → Array Value → Prop}
    (hX : ∀ (w w' : World) (args : Array Value), w.heap = w'.heap → X w args → X w' args)
    (own : ownKnob C.prog.godebug = none) (started : os.Started) (noInit : C.prog.inits.idxOf? f = none) (hfn : C.prog.funcs[f]? = some fn)
    (witness : ∃ (w : World) (tape : Tape) (i : Input), w.os = os ∧ (w.forCall tape i).Shaped C.prog ∧ i.vars = [] ∧ Input.okWide C.prog (w.forCall tape i) .any w.heap.size f i ∧
      ((s.pre enc C.prog fn conds apart (w.forCall tape i).memory i.args ∧ X (w.forCall tape i).memory i.args) ∧ sizedMet enc C.prog fn (OpenSpec.ofChange s) apart (w.forCall tape i).memory i.args) ∧ a.holds C.prog (lone (Frame.enter C.prog f i.args .normal) [] (w.forCall tape i)))
    (contract : ∀ (W : World) (base : Nat) (args : Array Value) (ds gs : List (DataW H)) (before : List MemPlace),
      (∀ (j : Nat) t v, fn.params[j]? = some t → args[j]? = some v → Value.okWide C.prog W .any base t v) →
      DataW.Whole enc C.prog fn.params.toList s.vars apart W args.toList ds gs before →
      (DataW.weightsEach C.prog (fn.params.toList ++ s.plain.varTypes C.prog) (ds ++ gs)).all (· ≤ reachBytes) = true → X W args → W.ShapedOpen C.prog →
      a.holds C.prog (lone (Frame.enter C.prog f args .normal) [] W) →
      Calls C.prog f args W fun e W' => ∃ v, e = .returned v ∧ s.post enc C.prog fn apart fresh handsOn again W args v W') :
    ReturnsInHanded a C os f .any (fun w args => (s.pre enc C.prog fn conds apart w args ∧ X w args) ∧ sizedMet enc C.prog fn (OpenSpec.ofChange s) apart w args) (s.post enc C.prog fn apart fresh handsOn again) := by
  refine returnsInHanded_of_calls own started noInit witness ?_
  intro w tape i _ hsh _ hok hpre hholds
  obtain ⟨_, _, _, fn', hfn', _, _, _, _, hval⟩ := hok
  have e : fn' = fn := Option.some.inj (hfn'.symm.trans hfn)
  subst e
  obtain ⟨⟨⟨ds, gs, before, hw, hc⟩, hx⟩, hz⟩ := hpre
  have hw' := DataW.Whole.of_heap (w' := w.forCall tape i) (by rfl) hw
  refine (contract (w.forCall tape i) w.heap.size i.args ds gs before hval hw' (hz.weights hw) (hX _ _ _ (by rfl) hx) hsh hholds).mono fun e W' ⟨v, he, hp⟩ => ?_
  subst he
  exact ChangeSpec.post_blind hp
set_option maxRecDepth 100000 in
theorem strg_of {H : Type} {enc : TypeId × Value → H} {w : World} {base : Nat} {r : Reach} {b0 : Nat} {spare : Nat → Bool} {held : Bool} {v : Value} {d : DataW H} {p : List MemPlace} (hv : Value.okWide Tryd.prog w r b0 9 v)
    (h : DataW.Trod enc Tryd.prog w base spare held 9 v d p) : ∃ s : ByteArray, v = .string s ∧ s.size ≤ maxLen ∧ d = .lit (.string s.data.toList) := by
  obtain ⟨s, rfl, rfl, rfl, ws⟩ := Go.ChangeMaps.open_string Tryd.underlying9 hv h
  exact ⟨s, rfl, ws, rfl⟩
theorem reach_str {H : Type} {P : Program} {t : TypeId} {ts : List TypeId} {ds : List (DataW H)} {s : ByteArray} (h : (DataW.weightsEach P (t :: ts) (.lit (.string s.data.toList) :: ds)).all (· ≤ reachBytes) = true) :
    s.size ≤ reachBytes ∧ (DataW.weightsEach P ts ds).all (· ≤ reachBytes) = true := by
  simp only [DataW.weightsEach, DataW.weights, List.all_append, List.all_cons, List.all_nil, Bool.and_true, Bool.and_eq_true, decide_eq_true_eq] at h
  exact ⟨by simpa using h.1, h.2⟩
end Go.Proofs.YtoompcgdhokdlaaDoor
