/- Maps keyed by whole numbers, whatever their elements: what a look-up, a store and a delete do. No program in it. -/
import Derived.Test.YthnommoljikaiaaDoorAid
import Derived.MapFrom
import Derived.ChangeMaps4
import Derived.Maps.OwnSet
set_option linter.unusedSimpArgs false
set_option linter.unusedVariables false
namespace Go.Proofs.YthnommoljikaiaaDoor
open Go.RowKit Go.MapKept

/-- Block b is a map that holds f's values. -/
def MapI (q : IntKind) (w : World) (b : Nat) (f : Int → Option Value) : Prop :=
  ∃ es clock, w.heap[b]? = some (.map es clock) ∧ Stamped es clock ∧ (∀ x ∈ es.toList, IsKey (.int q) x.key) ∧ ∀ k v, f k = some v ↔ ∃ x ∈ es.toList, x.key = .int q k ∧ x.val = v
theorem MapI.lt {q : IntKind} {w : World} {b : Nat} {f : Int → Option Value} (h : MapI q w b f) : b < w.heap.size := by
  obtain ⟨es, c, h, _⟩ := h
  exact blk_lt h
theorem MapI.same {q : IntKind} {w w' : World} {b : Nat} {f : Int → Option Value} (h : MapI q w b f) (he : w'.heap[b]? = w.heap[b]?) : MapI q w' b f := by
  obtain ⟨es, c, h, h2⟩ := h
  exact ⟨es, c, by rw [he, h], h2⟩
theorem MapI.none_of {q : IntKind} {w : World} {b : Nat} {f : Int → Option Value} {es : Array MapEntry} {k : Int} (hf : ∀ k v, f k = some v ↔ ∃ x ∈ es.toList, x.key = .int q k ∧ x.val = v) (h : ∀ x ∈ es.toList, x.key ≠ .int q k) : f k = none := by
  cases hk : f k with
  | none => rfl
  | some v => obtain ⟨x, hx, e, _⟩ := (hf k v).1 hk; exact absurd e (h x hx)
theorem mapI_made (q : IntKind) (w : World) : MapI q (w.alloc (.map #[] 0)) w.heap.size fun _ => none :=
  ⟨#[], 0, blk_new w _, stamped_empty 0, by simp, fun k v => by simp⟩
def setB (w : World) (b : Nat) (o : Obj) : World := { w with heap := w.heap.setIfInBounds b o }
theorem upd_setB {w : World} {b : Nat} {es : Array MapEntry} {c : Nat} (hb : w.heap[b]? = some (.map es c)) (o : Obj) : Upd w (setB w b o) b o :=
  ⟨rfl, rfl, rfl, by simp [setB], (heap_set hb).1, (heap_set hb).2⟩

section
variable {P : Program} {t k e : TypeId} {q : IntKind} {w : World} {b : Nat} {f : Int → Option Value}
theorem mapI_lookup (ht : P.underlying t = some (.map k e)) (hk : P.underlying k = some (.int q)) (h : MapI q w b f) (x : Int) (z : Value) (hz : (zeroValue e).run P w = .ok z w) (ok : Bool) :
    (Instr.lookup t (.map (some b)) (.int q x) ok).run P w = .ok (if ok then .tuple #[(f x).getD z, .bool (f x).isSome] else (f x).getD z) w := by
  obtain ⟨es, clock, hb, hs, hks, hf⟩ := h
  have hkey : IsKey (.int q) (.int q x) := rfl
  rcases findNow_spec hkey es.toList 0 hks with ⟨h1, h2⟩ | ⟨j, e0, h1, h2, h3⟩
  · have hn : f x = none := MapI.none_of (w := w) (b := b) hf h2
    rw [hn]
    cases ok <;> simp [Instr.lookup, run_underlying ht, MapKept.run_getObj_map hb, run_checkKey hk hkey, run_findKey hk h1, Result.andThen, hz]
  · have hn : f x = some e0.val := (hf x e0.val).2 ⟨e0, List.mem_of_getElem? h2, h3, rfl⟩
    rw [hn]
    cases ok <;> simp [Instr.lookup, run_underlying ht, MapKept.run_getObj_map hb, run_checkKey hk hkey, run_findKey hk h1, Result.andThen]
theorem mapI_update (ht : P.underlying t = some (.map k e)) (hk : P.underlying k = some (.int q)) (h : MapI q w b f) (x : Int) (v : Value) :
    ∃ w' o, (Instr.mapUpdate t (.map (some b)) (.int q x) v).run P w = .ok () w' ∧ Upd w w' b o ∧ MapI q w' b fun y => if y = x then some v else f y := by
  obtain ⟨es, clock, hb, hs, hks, hf⟩ := h
  have hkey : IsKey (.int q) (.int q x) := rfl
  rcases findNow_spec hkey es.toList 0 hks with ⟨h1, h2⟩ | ⟨j, e0, h1, h2, h3⟩
  · refine ⟨setB w b (.map (es.push ⟨.int q x, v, clock⟩) (clock + 1)), .map (es.push ⟨.int q x, v, clock⟩) (clock + 1), by simp [Instr.mapUpdate, run_underlying ht, MapKept.run_getObj_map hb, run_checkKey hk hkey, run_findKey hk h1, MapKept.run_setObj_map _ hb, Result.andThen, setB], upd_setB hb _, ?_⟩
    refine ⟨_, _, (upd_setB hb _).same, stamped_push hs h2, ?_, fun y u => ?_⟩
    · intro a ha
      simp only [Array.toList_push, List.mem_append, List.mem_singleton] at ha
      rcases ha with ha | rfl
      · exact hks a ha
      · rfl
    · dsimp only
      simp only [Array.toList_push, List.mem_append, List.mem_singleton]
      by_cases hy : y = x
      · subst hy
        rw [if_pos rfl]
        constructor
        · intro e; cases e; exact ⟨_, .inr rfl, rfl, rfl⟩
        · rintro ⟨a, ha | rfl, h4, h5⟩
          · exact absurd h4 (h2 a ha)
          · exact congrArg some h5
      · rw [if_neg hy, hf]
        constructor
        · rintro ⟨a, ha, h4⟩; exact ⟨a, .inl ha, h4⟩
        · rintro ⟨a, ha | rfl, h4, h5⟩
          · exact ⟨a, ha, h4, h5⟩
          · exact absurd (by simpa using h4.symm) hy
  · have hj : es[j]? = some e0 := by simpa using h2
    have hjl : j < es.size := (Array.getElem?_eq_some_iff.1 hj).1
    have hkeyf : ∀ e', es[j]? = some e' → ({ e' with key := .int q x, val := v } : MapEntry).key = e'.key := fun e' he' => by rw [hj] at he'; cases he'; exact h3.symm
    refine ⟨setB w b (.map (es.modify j fun e' => { e' with key := .int q x, val := v }) clock), .map (es.modify j fun e' => { e' with key := .int q x, val := v }) clock, by simp [Instr.mapUpdate, run_underlying ht, MapKept.run_getObj_map hb, run_checkKey hk hkey, run_findKey hk h1, hj, h3, run_keyThatStays hkey, MapKept.run_setObj_map _ hb, Result.andThen, setB], upd_setB hb _, ?_⟩
    refine ⟨es.modify j fun e' => ({ e' with key := .int q x, val := v } : MapEntry), clock, (upd_setB hb _).same, stamped_modify hs _ _ (fun _ _ => rfl) (fun e' _ he' => hkeyf e' he'), isKey_modify hks _ _ hkeyf, fun y u => ?_⟩
    dsimp only
    have hmem : ∀ a, a ∈ (es.modify j fun e' => ({ e' with key := .int q x, val := v } : MapEntry)).toList ↔ a = { e0 with key := .int q x, val := v } ∨ ∃ i, i ≠ j ∧ es[i]? = some a := by
      intro a
      rw [Array.mem_toList_iff, Array.mem_iff_getElem?]
      constructor
      · rintro ⟨i, hi⟩
        rw [Array.getElem?_modify] at hi
        by_cases hij : j = i
        · subst hij; rw [if_pos rfl, hj] at hi; exact .inl (by simpa using hi.symm)
        · rw [if_neg hij] at hi; exact .inr ⟨i, fun e => hij e.symm, hi⟩
      · rintro (rfl | ⟨i, hij, hi⟩)
        · exact ⟨j, by rw [Array.getElem?_modify, if_pos rfl, hj]; rfl⟩
        · exact ⟨i, by rw [Array.getElem?_modify, if_neg (fun e => hij e.symm), hi]⟩
    have hapart : ∀ i a, i ≠ j → es[i]? = some a → a.key ≠ .int q x := by
      intro i a hij hi e
      have hn := hs.2.2
      have hil : i < es.size := (Array.getElem?_eq_some_iff.1 hi).1
      have e1 : (es.toList.map (·.key))[i]? = (es.toList.map (·.key))[j]? := by simp [hi, hj, e, h3]
      exact hij ((List.getElem?_inj (by simpa using hil) hn).1 e1)
    by_cases hy : y = x
    · subst hy
      rw [if_pos rfl]
      constructor
      · intro e; cases e; exact ⟨_, (hmem _).2 (.inl rfl), rfl, rfl⟩
      · rintro ⟨a, ha, h4, h5⟩
        rcases (hmem a).1 ha with rfl | ⟨i, hij, hi⟩
        · exact congrArg some h5
        · exact absurd h4 (hapart i a hij hi)
    · rw [if_neg hy, hf]
      constructor
      · rintro ⟨a, ha, h4, h5⟩
        rw [Array.mem_toList_iff, Array.mem_iff_getElem?] at ha
        obtain ⟨i, hi⟩ := ha
        refine ⟨a, (hmem a).2 (.inr ⟨i, fun e => ?_, hi⟩), h4, h5⟩
        subst e
        rw [hj] at hi
        cases hi
        rw [h3] at h4
        exact hy (by simpa using h4.symm)
      · rintro ⟨a, ha, h4, h5⟩
        rcases (hmem a).1 ha with rfl | ⟨i, hij, hi⟩
        · exact absurd (by simpa using h4.symm) hy
        · exact ⟨a, by rw [Array.mem_toList_iff, Array.mem_iff_getElem?]; exact ⟨i, hi⟩, h4, h5⟩
theorem mapI_delete (ht : P.underlying t = some (.map k e)) (hk : P.underlying k = some (.int q)) (h : MapI q w b f) (x : Int) (ty : TypeId) :
    ∃ w' o, (Builtin.delete_ #[t, k] ty #[.map (some b), .int q x]).run P w = .ok (.tuple #[]) w' ∧ Upd w w' b o ∧ MapI q w' b fun y => if y = x then none else f y := by
  obtain ⟨es, clock, hb, hs, hks, hf⟩ := h
  have hkey : IsKey (.int q) (.int q x) := rfl
  rcases findNow_spec hkey es.toList 0 hks with ⟨h1, h2⟩ | ⟨j, e0, h1, h2, h3⟩
  · refine ⟨setB w b (.map es clock), .map es clock, by simp [Builtin.delete_, run_underlying ht, MapKept.run_getObj_map hb, run_checkKey hk hkey, run_findKey hk h1, MapKept.run_setObj_map _ hb, Result.andThen, setB], upd_setB hb _, ?_⟩
    refine ⟨_, _, (upd_setB hb _).same, hs, hks, fun y u => ?_⟩
    dsimp only
    by_cases hy : y = x
    · subst hy
      rw [if_pos rfl]
      constructor
      · intro e; cases e
      · rintro ⟨a, ha, h4, _⟩; exact absurd h4 (h2 a ha)
    · rw [if_neg hy, hf]
  · have hj : es[j]? = some e0 := by simpa using h2
    have hjl : j < es.size := (Array.getElem?_eq_some_iff.1 hj).1
    refine ⟨setB w b (.map (es.eraseIdxIfInBounds j) clock), .map (es.eraseIdxIfInBounds j) clock, by simp [Builtin.delete_, run_underlying ht, MapKept.run_getObj_map hb, run_checkKey hk hkey, run_findKey hk h1, MapKept.run_setObj_map _ hb, Result.andThen, setB], upd_setB hb _, ?_⟩
    have hl : (es.eraseIdxIfInBounds j).toList = es.toList.eraseIdx j := by
      unfold Array.eraseIdxIfInBounds
      rw [dif_pos hjl, Array.toList_eraseIdx]
    have hmem : ∀ a, a ∈ (es.eraseIdxIfInBounds j).toList ↔ ∃ i, i ≠ j ∧ es[i]? = some a := by
      intro a
      rw [hl, List.mem_eraseIdx_iff_getElem?]
      constructor
      · rintro ⟨i, h5, h6⟩; exact ⟨i, h5, by simpa using h6⟩
      · rintro ⟨i, h5, h6⟩; exact ⟨i, h5, by simpa using h6⟩
    have hapart : ∀ i a, i ≠ j → es[i]? = some a → a.key ≠ .int q x := by
      intro i a hij hi e
      have hn := hs.2.2
      have hil : i < es.size := (Array.getElem?_eq_some_iff.1 hi).1
      have e1 : (es.toList.map (·.key))[i]? = (es.toList.map (·.key))[j]? := by simp [hi, hj, e, h3]
      exact hij ((List.getElem?_inj (by simpa using hil) hn).1 e1)
    refine ⟨_, _, (upd_setB hb _).same, stamped_erase hs j, fun a ha => ?_, fun y u => ?_⟩
    · obtain ⟨i, _, hi⟩ := (hmem a).1 ha
      exact hks a (by rw [Array.mem_toList_iff, Array.mem_iff_getElem?]; exact ⟨i, hi⟩)
    · dsimp only
      by_cases hy : y = x
      · subst hy
        rw [if_pos rfl]
        constructor
        · intro e; cases e
        · rintro ⟨a, ha, h4, _⟩
          obtain ⟨i, hij, hi⟩ := (hmem a).1 ha
          exact absurd h4 (hapart i a hij hi)
      · rw [if_neg hy, hf]
        constructor
        · rintro ⟨a, ha, h4, h5⟩
          rw [Array.mem_toList_iff, Array.mem_iff_getElem?] at ha
          obtain ⟨i, hi⟩ := ha
          refine ⟨a, (hmem a).2 ⟨i, fun e => ?_, hi⟩, h4, h5⟩
          subst e
          rw [hj] at hi
          cases hi
          rw [h3] at h4
          exact hy (by simpa using h4.symm)
        · rintro ⟨a, ha, h4, h5⟩
          obtain ⟨i, _, hi⟩ := (hmem a).1 ha
          exact ⟨a, by rw [Array.mem_toList_iff, Array.mem_iff_getElem?]; exact ⟨i, hi⟩, h4, h5⟩
end
end Go.Proofs.YthnommoljikaiaaDoor
