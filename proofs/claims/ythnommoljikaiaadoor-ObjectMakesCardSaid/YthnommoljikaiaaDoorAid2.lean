/- Plain aids: arrays and structs of numbers held against each other. -/
import Derived.Test.YthnommoljikaiaaDoorAid
import Derived.ChangeKeysEq
import Derived.DeepKeys
set_option linter.unusedSimpArgs false
set_option linter.unusedVariables false
namespace Go.Proofs.YthnommoljikaiaaDoor
open Go.RowKit

theorem part_int {P : Program} {e : TypeId} {k : IntKind} {xs : Array Value} {off : Nat} {x : Value} (hu : P.underlying e = some (.int k)) (hx : xs[off]? = some x) (w : World) : (part e xs off).run P w = .ok x w := by
  simp [part, isAgg, run_underlying hu, hx, Result.andThen]
theorem eqItems_ints {P : Program} {e : TypeId} {k : IntKind} (hu : P.underlying e = some (.int k)) (d : Nat) (w : World) : ∀ (is : List Nat) (a b : List Int), (∀ i ∈ is, i < a.length ∧ i < b.length) →
    (Op.eqItems (d + 1) e 1 (ints k a) (ints k b) is).run P w = .ok (is.all fun i => a.getD i 0 == b.getD i 0) w
  | [], a, b, _ => by simp [Op.eqItems]
  | i :: is, a, b, h => by
    have hi := h i (by simp)
    have p1 : (part e (ints k a) (i * 1)).run P w = .ok (.int k (a.getD i 0)) w := part_int hu (by rw [Nat.mul_one]; exact ints_get k a i hi.1) w
    have p2 : (part e (ints k b) (i * 1)).run P w = .ok (.int k (b.getD i 0)) w := part_int hu (by rw [Nat.mul_one]; exact ints_get k b i hi.2) w
    have p3 := run_equalIn_int (P := P) w d e k k (a.getD i 0) (b.getD i 0) hu
    have ih := eqItems_ints hu d w is a b (fun j hj => h j (by simp [hj]))
    simp only [Op.eqItems, Sem.run_bind, p1, p2, p3, Result.andThen_ok, List.all_cons]
    cases a.getD i 0 == b.getD i 0
    · simp
    · simpa using ih
theorem all_range_eq {a b : List Int} {n : Nat} (ha : a.length = n) (hb : b.length = n) : ((List.range n).all fun i => a.getD i 0 == b.getD i 0) = decide (a = b) := by
  rw [Bool.eq_iff_iff]
  simp only [List.all_eq_true, List.mem_range, beq_iff_eq, decide_eq_true_eq]
  constructor
  · intro h
    apply List.ext_getElem (by omega)
    intro i h1 h2
    have := h i (by omega)
    simpa [List.getD_eq_getElem?_getD, List.getElem?_eq_getElem h1, List.getElem?_eq_getElem h2] using this
  · rintro rfl _ _
    rfl
/-- Two arrays of numbers. -/
theorem eq_ints {P : Program} {t e : TypeId} {N : Nat} {k : IntKind} (hu : P.underlying t = some (.array N e)) (he : P.underlying e = some (.int k)) (hi : (P.info? e).map (·.size) = some 1) (d : Nat) (a b : List Int) (ha : a.length = N) (hb : b.length = N) (w : World) :
    (Op.equalIn (d + 2) t (.agg (ints k a)) (.agg (ints k b))).run P w = .ok (decide (a = b)) w := by
  cases hq : P.info? e with
  | none => simp [hq] at hi
  | some i =>
    have hs : P.cellsOf e = 1 := by simpa [Program.cellsOf, hq] using hi
    rw [run_equalIn_array w (d + 1) _ _ hu hq, hs, eqItems_ints he d w _ a b (fun j hj => by rw [List.mem_range] at hj; omega), all_range_eq ha hb]
theorem eql_ints {P : Program} {t e : TypeId} {N : Nat} {k : IntKind} (hu : P.underlying t = some (.array N e)) (he : P.underlying e = some (.int k)) (hi : (P.info? e).map (·.size) = some 1) (a b : List Int) (ha : a.length = N) (hb : b.length = N) (w : World) :
    (binOp .eql t (.agg (ints k a)) (.agg (ints k b))).run P w = .ok (.bool (decide (a = b))) w := by
  rw [run_eql_struct, eq_ints hu he hi 9998 a b ha hb]; rfl
theorem neq_ints {P : Program} {t e : TypeId} {N : Nat} {k : IntKind} (hu : P.underlying t = some (.array N e)) (he : P.underlying e = some (.int k)) (hi : (P.info? e).map (·.size) = some 1) (a b : List Int) (ha : a.length = N) (hb : b.length = N) (w : World) :
    (binOp .neq t (.agg (ints k a)) (.agg (ints k b))).run P w = .ok (.bool (!decide (a = b))) w := by
  rw [run_neq_struct, eq_ints hu he hi 9998 a b ha hb]; rfl

/-! ### Structs held against each other, field by field -/
theorem part_agg {P : Program} {e : TypeId} {d : TypeDesc} {xs : Array Value} {off n : Nat} (hu : P.underlying e = some d) (hd : (match d with | .struct _ | .array _ _ => true | _ => false) = true) (hi : (P.info? e).map (·.size) = some n) (w : World) :
    (part e xs off).run P w = .ok (.agg (xs.extract off (off + n))) w := by
  cases hq : P.info? e with
  | none => simp [hq] at hi
  | some i =>
    have hs : i.size = n := by simpa [hq] using hi
    have hagg : (isAgg e).run P w = .ok true w := by
      unfold isAgg
      rw [Sem.run_bind, run_underlying hu w]
      cases d <;> simp_all
    simp [part, Sem.run_bind, hagg, sizeOf, typeInfo, hq, hs, Result.andThen]
theorem part_str {P : Program} {e : TypeId} {xs : Array Value} {off : Nat} {x : Value} (hu : P.underlying e = some .string) (hx : xs[off]? = some x) (w : World) : (part e xs off).run P w = .ok x w := by
  simp [part, isAgg, run_underlying hu, hx, Result.andThen]
theorem fields_of {P : Program} {t : TypeId} {fs : Array Field} (hu : P.underlying t = some (.struct fs)) : P.fieldsOf t = fs := by simp [Program.fieldsOf, hu]
theorem eqIn_struct {P : Program} {t : TypeId} {fs : Array Field} (hu : P.underlying t = some (.struct fs)) (hp : P.stoodInHeld t = false) (d : Nat) (xs ys : Array Value) (w : World) :
    (Op.equalIn (d + 1) t (.agg xs) (.agg ys)).run P w = (Op.eqFields d xs ys fs.toList).run P w := by
  rw [run_equalIn_struct w d t xs ys (by rw [fields_of hu]; exact hu) hp, fields_of hu]
theorem eqf_nil {P : Program} {d : Nat} {xs ys : Array Value} {w : World} : (Op.eqFields d xs ys []).run P w = .ok true w := by simp [Op.eqFields]
theorem eqf_step {P : Program} {d : Nat} {xs ys : Array Value} {f : Field} {fs : List Field} {a b : Value} {r s : Bool} {w : World} (hn : f.name ≠ "_") (ha : (part f.type xs f.offset).run P w = .ok a w) (hb : (part f.type ys f.offset).run P w = .ok b w)
    (he : (Op.equalIn d f.type a b).run P w = .ok r w) (hr : (Op.eqFields d xs ys fs).run P w = .ok s w) : (Op.eqFields d xs ys (f :: fs)).run P w = .ok (r && s) w := by
  rw [Op.eqFields]
  simp only [if_pos hn, Sem.run_bind, ha, hb, he, Result.andThen_ok]
  cases r
  · simp
  · simpa using hr

/-! ### Structs and arrays that are built -/
theorem wpList_build2 {P : Program} {ops : Array Oper} {rest : List Oper} {o : Oper} {a : Act} {w : World} {Q : Exit → Act → World → Prop} (hg : o.guard = none) (t : TypeId) (parts : List (Nat × Operand)) (ho : o.op = .build t parts.toArray)
    (vals : List (Nat × Value)) (hvals : (parts.map fun p => (p.1, a.eval p.2)) = vals) (vs : Array Value) (hv : P.built t vals = some vs)
    (h : wpList P ops Q rest (a.put o.dst (.agg vs)) w) : wpList P ops Q (o :: rest) a w := by
  subst hvals
  refine wpList_build_val hg t _ ho vs ?_ h
  rw [Array.toList_map]
  exact hv

theorem zip_putRow (vs : List Value) : ∀ (cells : Array Value) (off n : Nat), (vs.zipIdx n).foldl (fun cs (c, j) => cs.setIfInBounds (off + j) c) cells = putRow cells (off + n) vs := by
  induction vs with
  | nil => intro cells off n; rfl
  | cons v vs ih =>
    intro cells off n
    simp only [List.zipIdx_cons, List.foldl_cons, putRow]
    rw [ih, Nat.add_assoc]
theorem fill_cons {place : Nat → Option (Nat × Nat)} {cells : Array Value} {i off size : Nat} {v : Value} {rest : List (Nat × Value)} (hp : place i = some (off, size)) (hs : v.cells.size = size) (ho : off + size ≤ cells.size) :
    Instr.fill place cells ((i, v) :: rest) = Instr.fill place (putRow cells off v.cells.toList) rest := by
  have h1 : ¬ ((decide (v.cells.size ≠ size) || decide (off + v.cells.size > cells.size)) = true) := by simp; omega
  have := zip_putRow v.cells.toList cells off 0
  rw [Nat.add_zero] at this
  rw [← this, Instr.fill, hp]
  dsimp only
  rw [if_neg h1, ← Array.foldl_toList]
  simp
theorem fill_nil {place : Nat → Option (Nat × Nat)} {cells : Array Value} : Instr.fill place cells [] = some cells := rfl
theorem putRow_one (cur : Array Value) (off : Nat) (v : Value) : putRow cur off [v] = cur.setIfInBounds off v := rfl
/-- A row laid over the end of a row. -/
theorem putRow_tail (a b vs : List Value) (h : vs.length = b.length) : putRow (a ++ b).toArray a.length vs = (a ++ vs).toArray := by
  apply Array.ext_getElem?
  intro k
  rw [putRow_get]
  simp only [List.getElem?_toArray, List.size_toArray, List.length_append]
  by_cases h1 : k < a.length
  · rw [if_neg (by omega), List.getElem?_append_left h1, List.getElem?_append_left h1]
  · rw [List.getElem?_append_right (by omega)]
    by_cases h2 : k < a.length + b.length
    · rw [if_pos (by omega), List.getElem?_append_right (by omega)]
    · rw [if_neg (by omega), List.getElem?_append_right (by omega), List.getElem?_eq_none (by omega), List.getElem?_eq_none (by omega)]

/-- One operation of a region that draws: a whole array or struct is loaded. -/
theorem step_load_agg {P : Program} {ops : Array Oper} {o : Oper} {a : Act} {w : World} {K : Act → World → Prop} {Q : Exit → Act → World → Prop} {E : Prop} (hgd : Region.wanted o (yielded ops a.tmps) = true) (ty : TypeId) (x : Operand) (ho : o.op = .load ty x)
    (g off : Nat) (hx : a.eval x = .pointer (some ⟨g, off, none⟩)) (t : TypeId) (cs : Array Value) (n : Nat) (d : TypeDesc) (hg : w.heap[g]? = some (.cells cs t (0, 0)))
    (hu : P.underlying ty = some d) (hd : (match d with | .struct _ | .array _ _ => true | _ => false) = true) (hi : (P.info? ty).map (·.size) = some n) (hn : off + n ≤ cs.size)
    (vs : Array Value) (hv : cs.extract off (off + n) = vs)
    (h : K (a.put o.dst (.agg vs)) w) : if Region.wanted o (yielded ops a.tmps) = true then Oper.wp P o a w K Q else E := by
  rw [if_pos hgd]
  subst hv
  unfold Oper.wp execOp
  simp only [ho, hx, Instr.loadAt, Instr.sureAddr, Sem.run_bind, Sem.run_pure, Result.andThen_ok, run_loadVar_span w g off t ty cs n d hg hu hd hi hn]
  exact h

/-- Two results: the first in a block of its own, the second in a slot. -/
theorem results_ct {P : Program} {fn : Func} {p q : Tmp} {ty : TypeId} (h : fn.results = #[.cell p ty, .tmp q]) (tmps : Array Value) (w : World) (g : Nat) (t : TypeId) (cs : Array Value) (d : TypeDesc) (v : Value)
    (hp : tmps.getD p undef = .pointer (some ⟨g, 0, none⟩)) (hq : tmps.getD q undef = v) (hg : w.heap[g]? = some (.cells cs t (0, 0)))
    (hu : P.underlying ty = some d) (hd : (match d with | .struct _ | .array _ _ => true | _ => false) = true) (hi : (P.info? ty).map (·.size) = some cs.size) :
    (results fn tmps).run P w = .ok (.tuple #[.agg cs, v]) w := by
  have hp' : tmps[p]?.getD undef = .pointer (some ⟨g, 0, none⟩) := by simpa using hp
  have hq' : tmps[q]?.getD undef = v := by simpa using hq
  simp [results, h, hp', hq', asAddr, run_loadVar_row w g t ty cs (0, 0) d hg hu hd hi]
end Go.Proofs.YthnommoljikaiaaDoor
