/- Plain aids for walks: blocks of cells, slices of arrays. No program in it. -/
import Derived.WalkKit
import Derived.WalkSpells
import Derived.WalkLawsBesides
import Derived.Lib.Hide
import Derived.Lib.SlBuf
import Derived.Lib.SlBytesConst
import Derived.Laws.CopyRow
import Derived.Deep.RegionLaw
import Derived.Deep.RegionHeld3
import Derived.Deep.QuietTactic
import Derived.BigQuiet
import Derived.Deep.DeepCutAuto
import Derived.Deep.LoopGhost
set_option linter.unusedSimpArgs false
set_option linter.unusedVariables false
namespace Go.Proofs.YthnommoljikaiaaDoor
open Go.RowKit

/-- A fact that no tactic looks into. -/
structure Bx (p : Prop) : Prop where
  out : p
theorem bx {p : Prop} (h : p) : Bx p := ⟨h⟩
theorem addr_add (g off n : Nat) : (⟨g, off, none⟩ : Addr).add n = ⟨g, off + n, none⟩ := by unfold Addr.add; split <;> simp_all
theorem blk_cell {w : World} {b j : Nat} {c : Array Value} {T : TypeId} {v : Value} (h : w.heap[b]? = some (.cells c T (0, 0))) (hv : c[j]? = some v) : w.cell? ⟨b, j, none⟩ = some v := by
  rw [cell_of_row w b j c T (0, 0) h, hv]
theorem blk_cell' {w : World} {b j : Nat} {c : Array Value} {T : TypeId} {fr : Nat × Nat} {v : Value} (h : w.heap[b]? = some (.cells c T fr)) (hv : c[j]? = some v) : w.cell? ⟨b, j, none⟩ = some v := by
  rw [cell_of_row w b j c T fr h, hv]
theorem blk_frozen {w : World} {b : Nat} (j : Nat) {c : Array Value} {T : TypeId} (h : w.heap[b]? = some (.cells c T (0, 0))) : w.frozen? ⟨b, j, none⟩ = false := frozen_of_row w b j c T h
theorem blk_lt {w : World} {b : Nat} {o : Obj} (h : w.heap[b]? = some o) : b < w.heap.size := (Array.getElem?_eq_some_iff.1 h).1

/-- The part of an array from l to h, of one cell an element. -/
theorem arr_slice_lh {P : Program} {t E N : Nat} (hu : P.underlying t = some (.array N E)) (hs : ∀ w, (sizeOf E).run P w = .ok 1 w) (g off l h : Nat) (hl : l ≤ h) (hh : h ≤ N)
    (kl kh : IntKind) (L H : Int) (eL : L = l) (eH : H = h) (w : World) :
    (Instr.sliceAt t (.pointer (some ⟨g, off, none⟩)) (some (.int kl L)) (some (.int kh H)) none).run P w = .ok (.slice (some (if N = l then ⟨g, off, none⟩ else ⟨g, off + l, none⟩)) (h - l) (N - l)) w := by
  subst eL eH
  have e : P.arrayLen t = N := by simp [Program.arrayLen, hu]
  have e' : P.elem t = E := by simp [Program.elem, hu]
  rw [run_sliceAt_array_lh w t ⟨g, off, none⟩ (by rw [hu, e, e']) kl kh l h (by omega) (by omega) (by rw [e]; omega), e', hs]
  simp [slicedAt, e, addr_add, Result.andThen]
theorem arr_slice_h {P : Program} {t E N : Nat} (hu : P.underlying t = some (.array N E)) (hs : ∀ w, (sizeOf E).run P w = .ok 1 w) (g off h : Nat) (hh : h ≤ N)
    (kh : IntKind) (H : Int) (eH : H = h) (w : World) :
    (Instr.sliceAt t (.pointer (some ⟨g, off, none⟩)) none (some (.int kh H)) none).run P w = .ok (.slice (some ⟨g, off, none⟩) h N) w := by
  subst eH
  have e : P.arrayLen t = N := by simp [Program.arrayLen, hu]
  have e' : P.elem t = E := by simp [Program.elem, hu]
  rw [run_sliceAt_array_h w t ⟨g, off, none⟩ (by rw [hu, e, e']) kh h (by omega) (by rw [e]; omega), e', hs]
  simp [slicedAt, e, addr_add, Result.andThen]
theorem arr_slice_l {P : Program} {t E N : Nat} (hu : P.underlying t = some (.array N E)) (hs : ∀ w, (sizeOf E).run P w = .ok 1 w) (g off l : Nat) (hh : l ≤ N)
    (kl : IntKind) (L : Int) (eL : L = l) (w : World) :
    (Instr.sliceAt t (.pointer (some ⟨g, off, none⟩)) (some (.int kl L)) none none).run P w = .ok (.slice (some (if N = l then ⟨g, off, none⟩ else ⟨g, off + l, none⟩)) (N - l) (N - l)) w := by
  subst eL
  have e : P.arrayLen t = N := by simp [Program.arrayLen, hu]
  have e' : P.elem t = E := by simp [Program.elem, hu]
  rw [run_sliceAt_array_l w t ⟨g, off, none⟩ (by rw [hu, e, e']) kl l (by omega) (by rw [e]; omega), e', hs]
  simp [slicedAt, e, addr_add, Result.andThen]
theorem arr_slice_all {P : Program} {t E N : Nat} (hu : P.underlying t = some (.array N E)) (hs : ∀ w, (sizeOf E).run P w = .ok 1 w) (g off : Nat) (w : World) :
    (Instr.sliceAt t (.pointer (some ⟨g, off, none⟩)) none none none).run P w = .ok (.slice (some ⟨g, off, none⟩) N N) w := by
  have e : P.arrayLen t = N := by simp [Program.arrayLen, hu]
  have e' : P.elem t = E := by simp [Program.elem, hu]
  rw [run_sliceAt_array_all w t ⟨g, off, none⟩ (by rw [hu, e, e']), e', hs]
  simp [slicedAt, e, addr_add, Result.andThen]

/-- The parts of a slice. -/
theorem sl_l {P : Program} {t E : Nat} (hu : P.underlying t = some (.slice E)) (hs : ∀ w, (sizeOf E).run P w = .ok 1 w) (A : Option Addr) (len cap l : Nat) (hl : l ≤ len) (kl : IntKind) (L : Int) (eL : L = l) (w : World) :
    (Instr.sliceAt t (.slice A len cap) (some (.int kl L)) none none).run P w = .ok (.slice (if cap = l then A else A.map (·.add l)) (len - l) (cap - l)) w := by
  subst eL
  have e' : P.elem t = E := by simp [Program.elem, hu]
  rw [run_sliceAt_slice w t _ _ _ _ (by rw [hu, e']), run_slice_l w t A len cap (by rw [hu, e']) kl l (by omega) (by omega), e', hs]
  simp [sliced, Result.andThen]
theorem sl_h {P : Program} {t E : Nat} (hu : P.underlying t = some (.slice E)) (hs : ∀ w, (sizeOf E).run P w = .ok 1 w) (A : Option Addr) (len cap h : Nat) (hh : h ≤ cap) (kh : IntKind) (H : Int) (eH : H = h) (w : World) :
    (Instr.sliceAt t (.slice A len cap) none (some (.int kh H)) none).run P w = .ok (.slice A h cap) w := by
  subst eH
  have e' : P.elem t = E := by simp [Program.elem, hu]
  rw [run_sliceAt_slice w t _ _ _ _ (by rw [hu, e']), run_slice_h w t A len cap (by rw [hu, e']) kh h (by omega) (by omega), e', hs]
  cases A <;> simp [sliced, Result.andThen, Addr.add]
theorem sl_lh {P : Program} {t E : Nat} (hu : P.underlying t = some (.slice E)) (hs : ∀ w, (sizeOf E).run P w = .ok 1 w) (A : Option Addr) (len cap l h : Nat) (hl : l ≤ h) (hh : h ≤ cap) (kl kh : IntKind) (L H : Int) (eL : L = l) (eH : H = h) (w : World) :
    (Instr.sliceAt t (.slice A len cap) (some (.int kl L)) (some (.int kh H)) none).run P w = .ok (.slice (if cap = l then A else A.map (·.add l)) (h - l) (cap - l)) w := by
  subst eL eH
  have e' : P.elem t = E := by simp [Program.elem, hu]
  rw [run_sliceAt_slice w t _ _ _ _ (by rw [hu, e']), run_slice_lh w t A len cap (by rw [hu, e']) kl kh l h (by omega) (by omega) (by omega), e', hs]
  simp [sliced, Result.andThen]

/-- The cells of a row of numbers. -/
def ints (k : IntKind) (l : List Int) : Array Value := (l.map (Value.int k)).toArray
theorem ints_get (k : IntKind) (l : List Int) (j : Nat) (h : j < l.length) : (ints k l)[j]? = some (.int k (l.getD j 0)) := by
  simp [ints, List.getElem?_eq_getElem h, List.getD_eq_getElem?_getD]
theorem ints_set (k : IntKind) (l : List Int) (j : Nat) (x : Int) : (ints k l).setIfInBounds j (.int k x) = ints k (l.set j x) := by
  simp [ints, List.map_set]
theorem ints_size (k : IntKind) (l : List Int) : (ints k l).size = l.length := by simp [ints]
theorem blk_int {w : World} {b : Nat} {k : IntKind} {l : List Int} {T : TypeId} (h : w.heap[b]? = some (.cells (ints k l) T (0, 0))) (j : Nat) (hj : j < l.length) : w.cell? ⟨b, j, none⟩ = some (.int k (l.getD j 0)) := blk_cell h (ints_get k l j hj)
theorem blk_set {w : World} {b : Nat} {k : IntKind} {l : List Int} {T : TypeId} (h : w.heap[b]? = some (.cells (ints k l) T (0, 0))) (j : Nat) (x : Int) :
    (w.setCell ⟨b, j, none⟩ (.int k x)).heap[b]? = some (.cells (ints k (l.set j x)) T (0, 0)) := by
  rw [heap_setCell_same w b j _ T _ h, ints_set]
theorem blk_other {w : World} {a : Addr} {v : Value} {b : Nat} {o : Obj} (h : w.heap[b]? = some o) (hne : b ≠ a.block) : (w.setCell a v).heap[b]? = some o := by
  rw [heap_setCell_other w a b v hne, h]
theorem blk_alloc {w : World} {b : Nat} {o o' : Obj} (h : w.heap[b]? = some o) : (w.alloc o').heap[b]? = some o := by
  rw [Below.heap_alloc w o' b (blk_lt h), h]
theorem blk_new (w : World) (o : Obj) : (w.alloc o).heap[w.heap.size]? = some o := heap_alloc_new w o

theorem quiet2 {P : Program} {f : FuncId} {args : Array Value} {w : World} {a n : Nat} {v : Value}
    (h : Calls P f args (w.drewN (a + n)) fun e w' => e = .returned v ∧ w.drewN (a + n) = w') :
    Calls P f args (w.drewN (a + n)) fun e w'' => e = .returned v ∧ ∃ m, w'' = w.drewN (a + m) :=
  h.mono fun _ _ ⟨he, hm⟩ => ⟨he, n, hm.symm⟩
theorem quiet1 {P : Program} {f : FuncId} {args : Array Value} {w : World} {n : Nat} {v : Value}
    (h : Calls P f args (w.drewN n) fun e w' => e = .returned v ∧ w.drewN n = w') : Calls P f args (w.drewN n) fun e w'' => e = .returned v ∧ ∃ m, w'' = w.drewN m :=
  h.mono fun _ _ ⟨he, hm⟩ => ⟨he, n, hm.symm⟩
theorem drewN_below {B : Nat} {w w' : World} (h : Below B w w') (n : Nat) : Below B w (w'.drewN n) := ⟨h.os, h.tape, h.output, h.size, h.block⟩

/-- Guards: the operation that stands next is this one. -/
theorem at_load {P : Program} {ops : Array Oper} {rest : List Oper} {ty T : TypeId} {x : Operand} {pos : String} {after : Array Edge} {gd : Option (Nat × Bool)} {a : Act} {w : World} {Q : Exit → Act → World → Prop} (d : Nat)
    (h : wpList P ops Q ({ dst := some d, op := .load ty x, type := T, pos := pos, after := after, guard := gd } :: rest) a w) : wpList P ops Q ({ dst := some d, op := .load ty x, type := T, pos := pos, after := after, guard := gd } :: rest) a w := h
theorem at_store {P : Program} {ops : Array Oper} {rest : List Oper} {ty T : TypeId} {dst : Option Nat} {pos : String} {after : Array Edge} {gd : Option (Nat × Bool)} {a : Act} {w : World} {Q : Exit → Act → World → Prop} (x y : Operand)
    (h : wpList P ops Q ({ dst := dst, op := .store ty x y, type := T, pos := pos, after := after, guard := gd } :: rest) a w) : wpList P ops Q ({ dst := dst, op := .store ty x y, type := T, pos := pos, after := after, guard := gd } :: rest) a w := h

theorem at_build {P : Program} {ops : Array Oper} {rest : List Oper} {ty T : TypeId} {x : Array (Nat × Operand)} {pos : String} {after : Array Edge} {gd : Option (Nat × Bool)} {a : Act} {w : World} {Q : Exit → Act → World → Prop} (d : Nat)
    (h : wpList P ops Q ({ dst := some d, op := .build ty x, type := T, pos := pos, after := after, guard := gd } :: rest) a w) : wpList P ops Q ({ dst := some d, op := .build ty x, type := T, pos := pos, after := after, guard := gd } :: rest) a w := h

/-- One block has been written; nothing else has turned. -/
structure Upd (w w' : World) (g : Nat) (o : Obj) : Prop where
  os : w'.os = w.os
  tape : w'.tape = w.tape
  output : w'.output = w.output
  size : w'.heap.size = w.heap.size
  same : w'.heap[g]? = some o
  other : ∀ k, k ≠ g → w'.heap[k]? = w.heap[k]?
theorem Upd.below {w w' : World} {g : Nat} {o : Obj} (h : Upd w w' g o) {B : Nat} (hg : B ≤ g) : Below B w w' :=
  ⟨h.os, h.tape, h.output, by rw [h.size]; exact Nat.le_refl _, fun k hk => h.other k (by omega)⟩
theorem Upd.blk {w w' : World} {g : Nat} {o : Obj} (h : Upd w w' g o) {b : Nat} {o' : Obj} (hb : w.heap[b]? = some o') (hne : b ≠ g) : w'.heap[b]? = some o' := by rw [h.other b hne, hb]
theorem upd_setRow {w : World} {g : Nat} {old cs : Array Value} {t : TypeId} {fr : Nat × Nat} (hg : w.heap[g]? = some (.cells old t fr)) : Upd w (w.setRow g cs) g (.cells cs t fr) :=
  ⟨rfl, rfl, rfl, by simp, setRow_heap w g old cs t fr hg, fun k hk => setRow_other w g k cs hk⟩

/-- Cells are laid over a row, from a place on. -/
def putRow (cur : Array Value) (off : Nat) : List Value → Array Value
  | [] => cur
  | v :: vs => putRow (cur.setIfInBounds off v) (off + 1) vs
theorem putRow_size (vs : List Value) : ∀ (cur : Array Value) (off : Nat), (putRow cur off vs).size = cur.size := by
  induction vs with
  | nil => intro cur off; rfl
  | cons v vs ih => intro cur off; simp [putRow, ih]
theorem putRow_get (vs : List Value) : ∀ (cur : Array Value) (off k : Nat), (putRow cur off vs)[k]? = if off ≤ k ∧ k < off + vs.length ∧ k < cur.size then vs[k - off]? else cur[k]? := by
  induction vs with
  | nil => intro cur off k; simp only [putRow, List.length_nil]; rw [if_neg (by omega)]
  | cons v vs ih =>
    intro cur off k
    simp only [putRow, ih, List.length_cons, Array.size_setIfInBounds]
    by_cases h1 : k < cur.size
    · by_cases h2 : k = off
      · subst h2
        rw [if_neg (by omega), if_pos (by omega)]
        simp [h1]
      · by_cases h3 : off ≤ k ∧ k < off + (vs.length + 1)
        · rw [if_pos (by omega), if_pos (by omega)]
          obtain ⟨d, rfl⟩ : ∃ d, k = off + d + 1 := ⟨k - off - 1, by omega⟩
          simp [show off + d + 1 - (off + 1) = d by omega, show off + d + 1 - off = d + 1 by omega]
        · rw [if_neg (by omega), if_neg (by omega), Array.getElem?_setIfInBounds_ne (by omega)]
    · rw [if_neg (by omega), if_neg (by omega)]
      simp [Array.getElem?_eq_none (show (cur.setIfInBounds off v).size ≤ k by simp; omega), Array.getElem?_eq_none (show cur.size ≤ k by omega)]
theorem putRow_all (cur : Array Value) (vs : List Value) (h : vs.length = cur.size) : putRow cur 0 vs = vs.toArray := by
  apply Array.ext_getElem?
  intro k
  rw [putRow_get]
  by_cases hk : k < cur.size
  · rw [if_pos (by omega)]; simp
  · rw [if_neg (by omega), Array.getElem?_eq_none (by omega), Array.getElem?_eq_none (by simp; omega)]
theorem run_storeCells_span {P : Program} (g off : Nat) (t : TypeId) : ∀ (vs : List Value) (i : Nat) (cur : Array Value) (w : World), w.heap[g]? = some (.cells cur t (0, 0)) → off + i + vs.length ≤ cur.size → (∀ v ∈ vs, v.oneCell' = true) →
    (storeCells ⟨g, off, none⟩ vs i).run P w = .ok () (w.setRow g (putRow cur (off + i) vs))
  | [], i, cur, w, hg, hl, _ => by
    have := run_storeCells_from (P := P) g t [] cur.size cur w hg (by simp) (by simp)
    rw [List.append_nil] at this
    simp only [storeCells, putRow] at this ⊢
    rw [this]
    congr 2
    rw [List.take_of_length_le (by simp)]
  | v :: rest, i, cur, w, hg, hl, h1 => by
    have hi : off + i < cur.size := by simp at hl; omega
    have hcell : w.cell? ⟨g, off + i, none⟩ = some cur[off + i] := by simp [World.cell?, hg, hi]
    have hfro : w.frozen? ⟨g, off + i, none⟩ = false := by simp [World.frozen?, hg]
    have hst : (store ((⟨g, off, none⟩ : Addr).add i) v).run P w = .ok () (w.setRow g (cur.setIfInBounds (off + i) v)) := by
      rw [addr_add, run_store P w _ v _ (h1 v (by simp)), hcell]
      simp [hfro, setCell_eq_setRow w g (off + i) cur t (0, 0) v hg]
    have ih := run_storeCells_span (P := P) g off t rest (i + 1) (cur.setIfInBounds (off + i) v) (w.setRow g (cur.setIfInBounds (off + i) v)) (setRow_heap w g cur _ t _ hg) (by simp at hl ⊢; omega) (fun x hx => h1 x (by simp [hx]))
    simp only [storeCells, Sem.run_bind, hst, Result.andThen_ok, ih, setRow_setRow, putRow, Nat.add_assoc]

theorem run_storeVar_span {P : Program} (w : World) (g off : Nat) (t ty : TypeId) (cur cells : Array Value) (hg : w.heap[g]? = some (.cells cur t (0, 0))) (hi : (P.info? ty).map (·.size) = some cells.size)
    (ho : off + cells.size ≤ cur.size) (h1 : ∀ v ∈ cells.toList, v.oneCell' = true) :
    (storeVar ty ⟨g, off, none⟩ (.agg cells)).run P w = .ok () (w.setRow g (putRow cur off cells.toList)) := by
  have := run_storeCells_span (P := P) g off t cells.toList 0 cur w hg (by simp; omega) h1
  cases hq : P.info? ty with
  | none => simp [hq] at hi
  | some i =>
    have hs : cells.size = i.size := by simp [hq] at hi; omega
    simp [storeVar, sizeOf, typeInfo, hq, Value.cells, hs] at this ⊢
    exact this
/-- A whole array or struct is stored, wherever it lies. -/
theorem wpList_want {P : Program} {ops : Array Oper} {rest : List Oper} {o : Oper} {a : Act} {w : World} {Q : Exit → Act → World → Prop} (hw : Region.wanted o (yielded ops a.tmps) = true)
    (h : ∀ K : Act → World → Prop, (∀ a w, wpList P ops Q rest a w → K a w) → o.wp P a w K Q) : wpList P ops Q (o :: rest) a w :=
  wpList_step fun K hK => by rw [if_pos hw]; exact h K hK
theorem wpList_store_agg {P : Program} {ops : Array Oper} {rest : List Oper} {o : Oper} {a : Act} {w : World} {Q : Exit → Act → World → Prop} (hgd : Region.wanted o (yielded ops a.tmps) = true) (ty : TypeId) (x y : Operand) (ho : o.op = .store ty x y)
    (g off : Nat) (cells : Array Value) (hx : a.eval x = .pointer (some ⟨g, off, none⟩)) (hy : a.eval y = .agg cells)
    (t : TypeId) (cur : Array Value) (hg : w.heap[g]? = some (.cells cur t (0, 0))) (hi : (P.info? ty).map (·.size) = some cells.size)
    (hold : off + cells.size ≤ cur.size) (h1 : ∀ v ∈ cells.toList, v.oneCell' = true) (new : Array Value) (hnew : putRow cur off cells.toList = new)
    (h : ∀ w', Upd w w' g (.cells new t (0, 0)) → wpList P ops Q rest (a.put o.dst undef) w') : wpList P ops Q (o :: rest) a w :=
  wpList_want hgd fun K hK => by
    subst hnew
    unfold Oper.wp execOp
    simp only [ho, hx, hy, Instr.storeAt, Instr.sureAddr, Sem.run_bind, Sem.run_pure, Result.andThen_ok, run_storeVar_span w g off t ty cur cells hg hi hold h1]
    exact hK _ _ (h _ (upd_setRow hg))
theorem run_loadVar_span {P : Program} (w : World) (g off : Nat) (t ty : TypeId) (cs : Array Value) (n : Nat) (d : TypeDesc) (hg : w.heap[g]? = some (.cells cs t (0, 0)))
    (hu : P.underlying ty = some d) (hd : (match d with | .struct _ | .array _ _ => true | _ => false) = true) (hi : (P.info? ty).map (·.size) = some n) (hn : off + n ≤ cs.size) :
    (loadVar ty ⟨g, off, none⟩).run P w = .ok (.agg (cs.extract off (off + n))) w := by
  have hsz : (cs.extract off (off + n)).size = n := by simp; omega
  have hl : (loadCells ⟨g, off, none⟩ (cs.extract off (off + n)).toList.length).run P w = .ok (cs.extract off (off + n)).toList.toArray w :=
    run_loadCells_list (P := P) w ⟨g, off, none⟩ (cs.extract off (off + n)).toList (fun j v hv => by
      rw [addr_add, cell_of_row w g (off + j) cs t (0, 0) hg]
      have hj : j < n := by
        have := (List.getElem?_eq_some_iff.1 hv).1
        simp at this
        omega
      rw [Array.getElem?_toList, Array.getElem?_extract, if_pos (by omega)] at hv
      exact hv)
  cases hq : P.info? ty with
  | none => simp [hq] at hi
  | some i =>
    have hs : i.size = n := by simpa [hq] using hi
    have hagg : (isAgg ty).run P w = .ok true w := by
      unfold isAgg
      rw [Sem.run_bind, run_underlying hu w]
      cases d <;> simp_all
    simp only [Array.length_toList, Array.toArray_toList] at hl
    rw [hsz] at hl
    simp [loadVar, Sem.run_bind, hagg, sizeOf, typeInfo, hq, hs, hl]
/-- A whole array or struct is loaded, wherever it lies. -/
theorem wpList_load_agg {P : Program} {ops : Array Oper} {rest : List Oper} {o : Oper} {a : Act} {w : World} {Q : Exit → Act → World → Prop} (hgd : Region.wanted o (yielded ops a.tmps) = true) (ty : TypeId) (x : Operand) (ho : o.op = .load ty x)
    (g off : Nat) (hx : a.eval x = .pointer (some ⟨g, off, none⟩)) (t : TypeId) (cs : Array Value) (n : Nat) (d : TypeDesc) (hg : w.heap[g]? = some (.cells cs t (0, 0)))
    (hu : P.underlying ty = some d) (hd : (match d with | .struct _ | .array _ _ => true | _ => false) = true) (hi : (P.info? ty).map (·.size) = some n) (hn : off + n ≤ cs.size)
    (vs : Array Value) (hv : cs.extract off (off + n) = vs)
    (h : wpList P ops Q rest (a.put o.dst (.agg vs)) w) : wpList P ops Q (o :: rest) a w :=
  wpList_want hgd fun K hK => by
    subst hv
    unfold Oper.wp execOp
    simp only [ho, hx, Instr.loadAt, Instr.sureAddr, Sem.run_bind, Sem.run_pure, Result.andThen_ok, run_loadVar_span w g off t ty cs n d hg hu hd hi hn]
    exact hK _ _ h
theorem wpList_build_val {P : Program} {ops : Array Oper} {rest : List Oper} {o : Oper} {a : Act} {w : World} {Q : Exit → Act → World → Prop} (hg : o.guard = none) (t : TypeId) (parts : Array (Nat × Operand)) (ho : o.op = .build t parts)
    (vs : Array Value) (hv : P.built t (parts.map fun (i, x) => (i, a.eval x)).toList = some vs)
    (h : wpList P ops Q rest (a.put o.dst (.agg vs)) w) : wpList P ops Q (o :: rest) a w :=
  wpList_build hg t parts ho (by rw [hv]; rfl) (by rw [hv]; exact h)
theorem ints_oneCell (k : IntKind) (l : List Int) : ∀ v ∈ (ints k l).toList, v.oneCell' = true := by
  intro v hv
  simp [ints] at hv
  obtain ⟨x, _, rfl⟩ := hv
  rfl
theorem ints_extract (k : IntKind) (l : List Int) (i n : Nat) : (ints k l).extract i n = ints k ((l.take n).drop i) := by
  simp [ints, List.extract_eq_take_drop, List.map_take, List.map_drop, List.drop_take]
theorem ints_extract_all (k : IntKind) (l : List Int) (n : Nat) (h : l.length = n) : (ints k l).extract 0 (0 + n) = ints k l := by
  subst h
  simp only [ints, List.extract_toArray, List.extract_eq_take_drop, List.drop_zero]
  rw [List.take_of_length_le (by simp)]
theorem ints_toList (k : IntKind) (l : List Int) : (ints k l).toList = l.map (Value.int k) := by simp [ints]
/-- A result that lies in a block of its own. -/
theorem results_agg {P : Program} {fn : Func} {p : Tmp} {ty : TypeId} (h : fn.results = #[.cell p ty]) (tmps : Array Value) (w : World) (g : Nat) (t : TypeId) (cs : Array Value) (d : TypeDesc)
    (hp : tmps.getD p undef = .pointer (some ⟨g, 0, none⟩)) (hg : w.heap[g]? = some (.cells cs t (0, 0)))
    (hu : P.underlying ty = some d) (hd : (match d with | .struct _ | .array _ _ => true | _ => false) = true) (hi : (P.info? ty).map (·.size) = some cs.size) :
    (results fn tmps).run P w = .ok (.agg cs) w := results_cell_row h tmps w g t cs (0, 0) d hp hg hu hd hi

theorem splice_putRow (cur : Array Value) (o : Nat) (cs : List Value) (h : o + cs.length ≤ cur.size) : (cur.toList.take o ++ cs ++ cur.toList.drop (o + cs.length)).toArray = putRow cur o cs := by
  apply Array.ext_getElem?
  intro k
  rw [putRow_get]
  simp only [List.getElem?_toArray, List.getElem?_append, List.length_append, List.length_take, Array.length_toList]
  have em : min o cur.size = o := by omega
  rw [em]
  by_cases h1 : k < o
  · rw [if_pos (by omega), if_pos h1, if_neg (by omega), List.getElem?_take, if_pos h1]; simp
  · by_cases h2 : k < o + cs.length
    · rw [if_pos (by omega), if_neg h1, if_pos (by omega)]
    · rw [if_neg h2, if_neg (by omega), List.getElem?_drop]
      rw [show o + cs.length + (k - (o + cs.length)) = k by omega]
      simp

/-- copy, whatever overlaps: one block is written. -/
theorem step_copy_upd {P : Program} {ops : Array Oper} {o : Oper} {a : Act} {w : World} {K : Act → World → Prop} {Q : Exit → Act → World → Prop} {E : Prop} (hgd : o.guard = none) (d s : Operand) (dT sT : TypeId)
    (ho : o.op = .call { callee := .builtin .copy, args := #[d, s], argTypes := #[dT, sT] }) (elem : TypeId) (hu : P.underlying dT = some (.slice elem)) (hsz : (P.info? elem).map (·.size) = some 1)
    (g off : Nat) (ad : Addr) (dLen dCap sLen sCap : Nat) (hd : a.eval d = .slice (some ⟨g, off, none⟩) dLen dCap) (hs : a.eval s = .slice (some ad) sLen sCap)
    (cur : Array Value) (t : TypeId) (hg : w.heap[g]? = some (.cells cur t (0, 0))) (cs : List Value) (hn : cs.length = Nat.min sLen dLen)
    (hsrc : ∀ j v, cs[j]? = some v → w.cell? (ad.add j) = some v)
    (hfit : off + cs.length ≤ cur.size) (h1 : ∀ v ∈ cs, v.oneCell' = true)
    (h : ∀ w', Upd w w' g (.cells (putRow cur off cs) t (0, 0)) → K (a.put o.dst (goInt cs.length)) w') :
    if Region.wanted o (yielded ops a.tmps) = true then Oper.wp P o a w K Q else E := by
  have hw : Region.wanted o (yielded ops a.tmps) = true := by simp [Region.wanted, hgd]
  rw [if_pos hw]
  have hrun := run_copy_row (P := P) w dT sT o.type elem g off dLen dCap ad sLen sCap cur t cs hu hsz hg hn hsrc hfit h1
  rw [splice_putRow cur off cs hfit] at hrun
  exact Lib.wp_copy_run w d s dT sT ho _ _ hd hs hrun (h _ (upd_setRow hg))
theorem wpList_copy_upd {P : Program} {ops : Array Oper} {rest : List Oper} {o : Oper} {a : Act} {w : World} {Q : Exit → Act → World → Prop} (hgd : o.guard = none) (d s : Operand) (dT sT : TypeId)
    (ho : o.op = .call { callee := .builtin .copy, args := #[d, s], argTypes := #[dT, sT] }) (elem : TypeId) (hu : P.underlying dT = some (.slice elem)) (hsz : (P.info? elem).map (·.size) = some 1)
    (g off : Nat) (ad : Addr) (dLen dCap sLen sCap : Nat) (hd : a.eval d = .slice (some ⟨g, off, none⟩) dLen dCap) (hs : a.eval s = .slice (some ad) sLen sCap)
    (cur : Array Value) (t : TypeId) (hg : w.heap[g]? = some (.cells cur t (0, 0))) (cs : List Value) (hn : cs.length = Nat.min sLen dLen)
    (hsrc : ∀ j v, cs[j]? = some v → w.cell? (ad.add j) = some v)
    (hfit : off + cs.length ≤ cur.size) (h1 : ∀ v ∈ cs, v.oneCell' = true)
    (h : ∀ w', Upd w w' g (.cells (putRow cur off cs) t (0, 0)) → wpList P ops Q rest (a.put o.dst (goInt cs.length)) w') : wpList P ops Q (o :: rest) a w := by
  have hrun := run_copy_row (P := P) w dT sT o.type elem g off dLen dCap ad sLen sCap cur t cs hu hsz hg hn hsrc hfit h1
  rw [splice_putRow cur off cs hfit] at hrun
  exact Lib.wpList_copy_run w hgd d s dT sT ho _ _ hd hs hrun (h _ (upd_setRow hg))
theorem copy_src {w : World} {D : Nat} {k : IntKind} {V : List Int} {T : TypeId} (h : w.heap[D]? = some (.cells (ints k V) T (0, 0))) (o n : Nat) :
    ∀ j v, (((V.drop o).take n).map (Value.int k))[j]? = some v → w.cell? ((⟨D, o, none⟩ : Addr).add j) = some v := by
  intro j v hv
  rw [addr_add, cell_of_row w D (o + j) _ T (0, 0) h]
  simp only [List.getElem?_map, List.getElem?_take, List.getElem?_drop, ints, List.getElem?_toArray] at hv ⊢
  split at hv
  · exact hv
  · simp at hv
theorem eight (V : List Int) (h : V.length = 8) : ∃ a0 a1 a2 a3 a4 a5 a6 a7, V = [a0, a1, a2, a3, a4, a5, a6, a7] := by
  match V, h with
  | [a0, a1, a2, a3, a4, a5, a6, a7], _ => exact ⟨_, _, _, _, _, _, _, _, rfl⟩
theorem oneCell_map_int (k : IntKind) (l : List Int) : ∀ v ∈ l.map (Value.int k), v.oneCell' = true := by
  intro v hv
  simp at hv
  obtain ⟨x, _, rfl⟩ := hv
  rfl
end Go.Proofs.YthnommoljikaiaaDoor
