/- Plain aids for walks: blocks of cells, slices of arrays. No program in it. Plain aids: arrays and structs of numbers held against each other. Aids for a region whose frame behind it is found by its walk. Walks over the small functions of sha. The walk over sha's block. The walk over sha's Write. The walk over sha's Write. The walks over sha's New, Sum, Of. The walks over sha's Of and Sum. -/
import Derived.WalkKit
import Derived.WalkSpells
import Derived.WalkLawsBesides
import Derived.Lib.Hide
import Derived.Lib.SlBuf
import Derived.Lib.SlBytesConst
import Derived.Laws.CopyRow
import Derived.Deep.RegionLaw
import Derived.Deep.RegionHeld3
import Derived.Deep.QuietTactic
import Derived.BigQuiet
import Derived.Deep.DeepCutAuto
import Derived.Deep.LoopGhost
import Derived.ChangeKeysEq
import Derived.DeepKeys
import Derived.Test.YtoompcgdhokdlaaDoorRows
import Derived.Deep.RegionWith
set_option linter.unusedSimpArgs false
set_option linter.unusedVariables false
namespace Go.Proofs.YtoompcgdhokdlaaDoor
open Go.RowKit

/-- A fact that no tactic looks into. -/
structure Bx (p : Prop) : Prop where
  out : p
theorem bx {p : Prop} (h : p) : Bx p := ⟨h⟩
theorem addr_add (g off n : Nat) : (⟨g, off, none⟩ : Addr).add n = ⟨g, off + n, none⟩ := by unfold Addr.add; split <;> simp_all
theorem blk_cell {w : World} {b j : Nat} {c : Array Value} {T : TypeId} {v : Value} (h : w.heap[b]? = some (.cells c T (0, 0))) (hv : c[j]? = some v) : w.cell? ⟨b, j, none⟩ = some v := by
  rw [cell_of_row w b j c T (0, 0) h, hv]
theorem blk_cell' {w : World} {b j : Nat} {c : Array Value} {T : TypeId} {fr : Nat × Nat} {v : Value} (h : w.heap[b]? = some (.cells c T fr)) (hv : c[j]? = some v) : w.cell? ⟨b, j, none⟩ = some v := by
  rw [cell_of_row w b j c T fr h, hv]
theorem blk_frozen {w : World} {b : Nat} (j : Nat) {c : Array Value} {T : TypeId} (h : w.heap[b]? = some (.cells c T (0, 0))) : w.frozen? ⟨b, j, none⟩ = false := frozen_of_row w b j c T h
theorem blk_lt {w : World} {b : Nat} {o : Obj} (h : w.heap[b]? = some o) : b < w.heap.size := (Array.getElem?_eq_some_iff.1 h).1

/-- The part of an array from l to h, of one cell an element. -/
theorem arr_slice_lh {P : Program} {t E N : Nat} (hu : P.underlying t = some (.array N E)) (hs : ∀ w, (sizeOf E).run P w = .ok 1 w) (g off l h : Nat) (hl : l ≤ h) (hh : h ≤ N)
    (kl kh : IntKind) (L H : Int) (eL : L = l) (eH : H = h) (w : World) :
    (Instr.sliceAt t (.pointer (some ⟨g, off, none⟩)) (some (.int kl L)) (some (.int kh H)) none).run P w = .ok (.slice (some (if N = l then ⟨g, off, none⟩ else ⟨g, off + l, none⟩)) (h - l) (N - l)) w := by
  subst eL eH
  have e : P.arrayLen t = N := by simp [Program.arrayLen, hu]
  have e' : P.elem t = E := by simp [Program.elem, hu]
  rw [run_sliceAt_array_lh w t ⟨g, off, none⟩ (by rw [hu, e, e']) kl kh l h (by omega) (by omega) (by rw [e]; omega), e', hs]
  simp [slicedAt, e, addr_add, Result.andThen]
theorem arr_slice_h {P : Program} {t E N : Nat} (hu : P.underlying t = some (.array N E)) (hs : ∀ w, (sizeOf E).run P w = .ok 1 w) (g off h : Nat) (hh : h ≤ N)
    (kh : IntKind) (H : Int) (eH : H = h) (w : World) :
    (Instr.sliceAt t (.pointer (some ⟨g, off, none⟩)) none (some (.int kh H)) none).run P w = .ok (.slice (some ⟨g, off, none⟩) h N) w := by
  subst eH
  have e : P.arrayLen t = N := by simp [Program.arrayLen, hu]
  have e' : P.elem t = E := by simp [Program.elem, hu]
  rw [run_sliceAt_array_h w t ⟨g, off, none⟩ (by rw [hu, e, e']) kh h (by omega) (by rw [e]; omega), e', hs]
  simp [slicedAt, e, addr_add, Result.andThen]
theorem arr_slice_l {P : Program} {t E N : Nat} (hu : P.underlying t = some (.array N E)) (hs : ∀ w, (sizeOf E).run P w = .ok 1 w) (g off l : Nat) (hh : l ≤ N)
    (kl : IntKind) (L : Int) (eL : L = l) (w : World) :
    (Instr.sliceAt t (.pointer (some ⟨g, off, none⟩)) (some (.int kl L)) none none).run P w = .ok (.slice (some (if N = l then ⟨g, off, none⟩ else ⟨g, off + l, none⟩)) (N - l) (N - l)) w := by
  subst eL
  have e : P.arrayLen t = N := by simp [Program.arrayLen, hu]
  have e' : P.elem t = E := by simp [Program.elem, hu]
  rw [run_sliceAt_array_l w t ⟨g, off, none⟩ (by rw [hu, e, e']) kl l (by omega) (by rw [e]; omega), e', hs]
  simp [slicedAt, e, addr_add, Result.andThen]
theorem arr_slice_all {P : Program} {t E N : Nat} (hu : P.underlying t = some (.array N E)) (hs : ∀ w, (sizeOf E).run P w = .ok 1 w) (g off : Nat) (w : World) :
    (Instr.sliceAt t (.pointer (some ⟨g, off, none⟩)) none none none).run P w = .ok (.slice (some ⟨g, off, none⟩) N N) w := by
  have e : P.arrayLen t = N := by simp [Program.arrayLen, hu]
  have e' : P.elem t = E := by simp [Program.elem, hu]
  rw [run_sliceAt_array_all w t ⟨g, off, none⟩ (by rw [hu, e, e']), e', hs]
  simp [slicedAt, e, addr_add, Result.andThen]

/-- The parts of a slice. -/
theorem sl_l {P : Program} {t E : Nat} (hu : P.underlying t = some (.slice E)) (hs : ∀ w, (sizeOf E).run P w = .ok 1 w) (A : Option Addr) (len cap l : Nat) (hl : l ≤ len) (kl : IntKind) (L : Int) (eL : L = l) (w : World) :
    (Instr.sliceAt t (.slice A len cap) (some (.int kl L)) none none).run P w = .ok (.slice (if cap = l then A else A.map (·.add l)) (len - l) (cap - l)) w := by
  subst eL
  have e' : P.elem t = E := by simp [Program.elem, hu]
  rw [run_sliceAt_slice w t _ _ _ _ (by rw [hu, e']), run_slice_l w t A len cap (by rw [hu, e']) kl l (by omega) (by omega), e', hs]
  simp [sliced, Result.andThen]
theorem sl_h {P : Program} {t E : Nat} (hu : P.underlying t = some (.slice E)) (hs : ∀ w, (sizeOf E).run P w = .ok 1 w) (A : Option Addr) (len cap h : Nat) (hh : h ≤ cap) (kh : IntKind) (H : Int) (eH : H = h) (w : World) :
    (Instr.sliceAt t (.slice A len cap) none (some (.int kh H)) none).run P w = .ok (.slice A h cap) w := by
  subst eH
  have e' : P.elem t = E := by simp [Program.elem, hu]
  rw [run_sliceAt_slice w t _ _ _ _ (by rw [hu, e']), run_slice_h w t A len cap (by rw [hu, e']) kh h (by omega) (by omega), e', hs]
  cases A <;> simp [sliced, Result.andThen, Addr.add]
theorem sl_lh {P : Program} {t E : Nat} (hu : P.underlying t = some (.slice E)) (hs : ∀ w, (sizeOf E).run P w = .ok 1 w) (A : Option Addr) (len cap l h : Nat) (hl : l ≤ h) (hh : h ≤ cap) (kl kh : IntKind) (L H : Int) (eL : L = l) (eH : H = h) (w : World) :
    (Instr.sliceAt t (.slice A len cap) (some (.int kl L)) (some (.int kh H)) none).run P w = .ok (.slice (if cap = l then A else A.map (·.add l)) (h - l) (cap - l)) w := by
  subst eL eH
  have e' : P.elem t = E := by simp [Program.elem, hu]
  rw [run_sliceAt_slice w t _ _ _ _ (by rw [hu, e']), run_slice_lh w t A len cap (by rw [hu, e']) kl kh l h (by omega) (by omega) (by omega), e', hs]
  simp [sliced, Result.andThen]

/-- The cells of a row of numbers. -/
def ints (k : IntKind) (l : List Int) : Array Value := (l.map (Value.int k)).toArray
theorem ints_get (k : IntKind) (l : List Int) (j : Nat) (h : j < l.length) : (ints k l)[j]? = some (.int k (l.getD j 0)) := by
  simp [ints, List.getElem?_eq_getElem h, List.getD_eq_getElem?_getD]
theorem ints_set (k : IntKind) (l : List Int) (j : Nat) (x : Int) : (ints k l).setIfInBounds j (.int k x) = ints k (l.set j x) := by
  simp [ints, List.map_set]
theorem ints_size (k : IntKind) (l : List Int) : (ints k l).size = l.length := by simp [ints]
theorem blk_int {w : World} {b : Nat} {k : IntKind} {l : List Int} {T : TypeId} (h : w.heap[b]? = some (.cells (ints k l) T (0, 0))) (j : Nat) (hj : j < l.length) : w.cell? ⟨b, j, none⟩ = some (.int k (l.getD j 0)) := blk_cell h (ints_get k l j hj)
theorem blk_set {w : World} {b : Nat} {k : IntKind} {l : List Int} {T : TypeId} (h : w.heap[b]? = some (.cells (ints k l) T (0, 0))) (j : Nat) (x : Int) :
    (w.setCell ⟨b, j, none⟩ (.int k x)).heap[b]? = some (.cells (ints k (l.set j x)) T (0, 0)) := by
  rw [heap_setCell_same w b j _ T _ h, ints_set]
theorem blk_other {w : World} {a : Addr} {v : Value} {b : Nat} {o : Obj} (h : w.heap[b]? = some o) (hne : b ≠ a.block) : (w.setCell a v).heap[b]? = some o := by
  rw [heap_setCell_other w a b v hne, h]
theorem blk_alloc {w : World} {b : Nat} {o o' : Obj} (h : w.heap[b]? = some o) : (w.alloc o').heap[b]? = some o := by
  rw [Below.heap_alloc w o' b (blk_lt h), h]
theorem blk_new (w : World) (o : Obj) : (w.alloc o).heap[w.heap.size]? = some o := heap_alloc_new w o

theorem quiet2 {P : Program} {f : FuncId} {args : Array Value} {w : World} {a n : Nat} {v : Value}
    (h : Calls P f args (w.drewN (a + n)) fun e w' => e = .returned v ∧ w.drewN (a + n) = w') :
    Calls P f args (w.drewN (a + n)) fun e w'' => e = .returned v ∧ ∃ m, w'' = w.drewN (a + m) :=
  h.mono fun _ _ ⟨he, hm⟩ => ⟨he, n, hm.symm⟩
theorem quiet1 {P : Program} {f : FuncId} {args : Array Value} {w : World} {n : Nat} {v : Value}
    (h : Calls P f args (w.drewN n) fun e w' => e = .returned v ∧ w.drewN n = w') : Calls P f args (w.drewN n) fun e w'' => e = .returned v ∧ ∃ m, w'' = w.drewN m :=
  h.mono fun _ _ ⟨he, hm⟩ => ⟨he, n, hm.symm⟩
theorem drewN_below {B : Nat} {w w' : World} (h : Below B w w') (n : Nat) : Below B w (w'.drewN n) := ⟨h.os, h.tape, h.output, h.size, h.block⟩

/-- Guards: the operation that stands next is this one. -/
theorem at_load {P : Program} {ops : Array Oper} {rest : List Oper} {ty T : TypeId} {x : Operand} {pos : String} {after : Array Edge} {gd : Option (Nat × Bool)} {a : Act} {w : World} {Q : Exit → Act → World → Prop} (d : Nat)
    (h : wpList P ops Q ({ dst := some d, op := .load ty x, type := T, pos := pos, after := after, guard := gd } :: rest) a w) : wpList P ops Q ({ dst := some d, op := .load ty x, type := T, pos := pos, after := after, guard := gd } :: rest) a w := h
theorem at_store {P : Program} {ops : Array Oper} {rest : List Oper} {ty T : TypeId} {dst : Option Nat} {pos : String} {after : Array Edge} {gd : Option (Nat × Bool)} {a : Act} {w : World} {Q : Exit → Act → World → Prop} (x y : Operand)
    (h : wpList P ops Q ({ dst := dst, op := .store ty x y, type := T, pos := pos, after := after, guard := gd } :: rest) a w) : wpList P ops Q ({ dst := dst, op := .store ty x y, type := T, pos := pos, after := after, guard := gd } :: rest) a w := h

theorem at_build {P : Program} {ops : Array Oper} {rest : List Oper} {ty T : TypeId} {x : Array (Nat × Operand)} {pos : String} {after : Array Edge} {gd : Option (Nat × Bool)} {a : Act} {w : World} {Q : Exit → Act → World → Prop} (d : Nat)
    (h : wpList P ops Q ({ dst := some d, op := .build ty x, type := T, pos := pos, after := after, guard := gd } :: rest) a w) : wpList P ops Q ({ dst := some d, op := .build ty x, type := T, pos := pos, after := after, guard := gd } :: rest) a w := h

/-- One block has been written; nothing else has turned. -/
structure Upd (w w' : World) (g : Nat) (o : Obj) : Prop where
  os : w'.os = w.os
  tape : w'.tape = w.tape
  output : w'.output = w.output
  size : w'.heap.size = w.heap.size
  same : w'.heap[g]? = some o
  other : ∀ k, k ≠ g → w'.heap[k]? = w.heap[k]?
theorem Upd.below {w w' : World} {g : Nat} {o : Obj} (h : Upd w w' g o) {B : Nat} (hg : B ≤ g) : Below B w w' :=
  ⟨h.os, h.tape, h.output, by rw [h.size]; exact Nat.le_refl _, fun k hk => h.other k (by omega)⟩
theorem Upd.blk {w w' : World} {g : Nat} {o : Obj} (h : Upd w w' g o) {b : Nat} {o' : Obj} (hb : w.heap[b]? = some o') (hne : b ≠ g) : w'.heap[b]? = some o' := by rw [h.other b hne, hb]
theorem upd_setRow {w : World} {g : Nat} {old cs : Array Value} {t : TypeId} {fr : Nat × Nat} (hg : w.heap[g]? = some (.cells old t fr)) : Upd w (w.setRow g cs) g (.cells cs t fr) :=
  ⟨rfl, rfl, rfl, by simp, setRow_heap w g old cs t fr hg, fun k hk => setRow_other w g k cs hk⟩

/-- Cells are laid over a row, from a place on. -/
def putRow (cur : Array Value) (off : Nat) : List Value → Array Value
  | [] => cur
  | v :: vs => putRow (cur.setIfInBounds off v) (off + 1) vs
theorem putRow_size (vs : List Value) : ∀ (cur : Array Value) (off : Nat), (putRow cur off vs).size = cur.size := by
  induction vs with
  | nil => intro cur off; rfl
  | cons v vs ih => intro cur off; simp [putRow, ih]
theorem putRow_get (vs : List Value) : ∀ (cur : Array Value) (off k : Nat), (putRow cur off vs)[k]? = if off ≤ k ∧ k < off + vs.length ∧ k < cur.size then vs[k - off]? else cur[k]? := by
  induction vs with
  | nil => intro cur off k; simp only [putRow, List.length_nil]; rw [if_neg (by omega)]
  | cons v vs ih =>
    intro cur off k
    simp only [putRow, ih, List.length_cons, Array.size_setIfInBounds]
    by_cases h1 : k < cur.size
    · by_cases h2 : k = off
      · subst h2
        rw [if_neg (by omega), if_pos (by omega)]
        simp [h1]
      · by_cases h3 : off ≤ k ∧ k < off + (vs.length + 1)
        · rw [if_pos (by omega), if_pos (by omega)]
          obtain ⟨d, rfl⟩ : ∃ d, k = off + d + 1 := ⟨k - off - 1, by omega⟩
          simp [show off + d + 1 - (off + 1) = d by omega, show off + d + 1 - off = d + 1 by omega]
        · rw [if_neg (by omega), if_neg (by omega), Array.getElem?_setIfInBounds_ne (by omega)]
    · rw [if_neg (by omega), if_neg (by omega)]
      simp [Array.getElem?_eq_none (show (cur.setIfInBounds off v).size ≤ k by simp; omega), Array.getElem?_eq_none (show cur.size ≤ k by omega)]
theorem putRow_all (cur : Array Value) (vs : List Value) (h : vs.length = cur.size) : putRow cur 0 vs = vs.toArray := by
  apply Array.ext_getElem?
  intro k
  rw [putRow_get]
  by_cases hk : k < cur.size
  · rw [if_pos (by omega)]; simp
  · rw [if_neg (by omega), Array.getElem?_eq_none (by omega), Array.getElem?_eq_none (by simp; omega)]
theorem run_storeCells_span {P : Program} (g off : Nat) (t : TypeId) : ∀ (vs : List Value) (i : Nat) (cur : Array Value) (w : World), w.heap[g]? = some (.cells cur t (0, 0)) → off + i + vs.length ≤ cur.size → (∀ v ∈ vs, v.oneCell' = true) →
    (storeCells ⟨g, off, none⟩ vs i).run P w = .ok () (w.setRow g (putRow cur (off + i) vs))
  | [], i, cur, w, hg, hl, _ => by
    have := run_storeCells_from (P := P) g t [] cur.size cur w hg (by simp) (by simp)
    rw [List.append_nil] at this
    simp only [storeCells, putRow] at this ⊢
    rw [this]
    congr 2
    rw [List.take_of_length_le (by simp)]
  | v :: rest, i, cur, w, hg, hl, h1 => by
    have hi : off + i < cur.size := by simp at hl; omega
    have hcell : w.cell? ⟨g, off + i, none⟩ = some cur[off + i] := by simp [World.cell?, hg, hi]
    have hfro : w.frozen? ⟨g, off + i, none⟩ = false := by simp [World.frozen?, hg]
    have hst : (store ((⟨g, off, none⟩ : Addr).add i) v).run P w = .ok () (w.setRow g (cur.setIfInBounds (off + i) v)) := by
      rw [addr_add, run_store P w _ v _ (h1 v (by simp)), hcell]
      simp [hfro, setCell_eq_setRow w g (off + i) cur t (0, 0) v hg]
    have ih := run_storeCells_span (P := P) g off t rest (i + 1) (cur.setIfInBounds (off + i) v) (w.setRow g (cur.setIfInBounds (off + i) v)) (setRow_heap w g cur _ t _ hg) (by simp at hl ⊢; omega) (fun x hx => h1 x (by simp [hx]))
    simp only [storeCells, Sem.run_bind, hst, Result.andThen_ok, ih, setRow_setRow, putRow, Nat.add_assoc]

theorem run_storeVar_span {P : Program} (w : World) (g off : Nat) (t ty : TypeId) (cur cells : Array Value) (hg : w.heap[g]? = some (.cells cur t (0, 0))) (hi : (P.info? ty).map (·.size) = some cells.size)
    (ho : off + cells.size ≤ cur.size) (h1 : ∀ v ∈ cells.toList, v.oneCell' = true) :
    (storeVar ty ⟨g, off, none⟩ (.agg cells)).run P w = .ok () (w.setRow g (putRow cur off cells.toList)) := by
  have := run_storeCells_span (P := P) g off t cells.toList 0 cur w hg (by simp; omega) h1
  cases hq : P.info? ty with
  | none => simp [hq] at hi
  | some i =>
    have hs : cells.size = i.size := by simp [hq] at hi; omega
    simp [storeVar, sizeOf, typeInfo, hq, Value.cells, hs] at this ⊢
    exact this
/-- A whole array or struct is stored, wherever it lies. -/
theorem wpList_want {P : Program} {ops : Array Oper} {rest : List Oper} {o : Oper} {a : Act} {w : World} {Q : Exit → Act → World → Prop} (hw : Region.wanted o (yielded ops a.tmps) = true)
    (h : ∀ K : Act → World → Prop, (∀ a w, wpList P ops Q rest a w → K a w) → o.wp P a w K Q) : wpList P ops Q (o :: rest) a w :=
  wpList_step fun K hK => by rw [if_pos hw]; exact h K hK
theorem wpList_store_agg {P : Program} {ops : Array Oper} {rest : List Oper} {o : Oper} {a : Act} {w : World} {Q : Exit → Act → World → Prop} (hgd : Region.wanted o (yielded ops a.tmps) = true) (ty : TypeId) (x y : Operand) (ho : o.op = .store ty x y)
    (g off : Nat) (cells : Array Value) (hx : a.eval x = .pointer (some ⟨g, off, none⟩)) (hy : a.eval y = .agg cells)
    (t : TypeId) (cur : Array Value) (hg : w.heap[g]? = some (.cells cur t (0, 0))) (hi : (P.info? ty).map (·.size) = some cells.size)
    (hold : off + cells.size ≤ cur.size) (h1 : ∀ v ∈ cells.toList, v.oneCell' = true) (new : Array Value) (hnew : putRow cur off cells.toList = new)
    (h : ∀ w', Upd w w' g (.cells new t (0, 0)) → wpList P ops Q rest (a.put o.dst undef) w') : wpList P ops Q (o :: rest) a w :=
  wpList_want hgd fun K hK => by
    subst hnew
    unfold Oper.wp execOp
    simp only [ho, hx, hy, Instr.storeAt, Instr.sureAddr, Sem.run_bind, Sem.run_pure, Result.andThen_ok, run_storeVar_span w g off t ty cur cells hg hi hold h1]
    exact hK _ _ (h _ (upd_setRow hg))
theorem run_loadVar_span {P : Program} (w : World) (g off : Nat) (t ty : TypeId) (cs : Array Value) (n : Nat) (d : TypeDesc) (hg : w.heap[g]? = some (.cells cs t (0, 0)))
    (hu : P.underlying ty = some d) (hd : (match d with | .struct _ | .array _ _ => true | _ => false) = true) (hi : (P.info? ty).map (·.size) = some n) (hn : off + n ≤ cs.size) :
    (loadVar ty ⟨g, off, none⟩).run P w = .ok (.agg (cs.extract off (off + n))) w := by
  have hsz : (cs.extract off (off + n)).size = n := by simp; omega
  have hl : (loadCells ⟨g, off, none⟩ (cs.extract off (off + n)).toList.length).run P w = .ok (cs.extract off (off + n)).toList.toArray w :=
    run_loadCells_list (P := P) w ⟨g, off, none⟩ (cs.extract off (off + n)).toList (fun j v hv => by
      rw [addr_add, cell_of_row w g (off + j) cs t (0, 0) hg]
      have hj : j < n := by
        have := (List.getElem?_eq_some_iff.1 hv).1
        simp at this
        omega
      rw [Array.getElem?_toList, Array.getElem?_extract, if_pos (by omega)] at hv
      exact hv)
  cases hq : P.info? ty with
  | none => simp [hq] at hi
  | some i =>
    have hs : i.size = n := by simpa [hq] using hi
    have hagg : (isAgg ty).run P w = .ok true w := by
      unfold isAgg
      rw [Sem.run_bind, run_underlying hu w]
      cases d <;> simp_all
    simp only [Array.length_toList, Array.toArray_toList] at hl
    rw [hsz] at hl
    simp [loadVar, Sem.run_bind, hagg, sizeOf, typeInfo, hq, hs, hl]
/-- A whole array or struct is loaded, wherever it lies. -/
theorem wpList_load_agg {P : Program} {ops : Array Oper} {rest : List Oper} {o : Oper} {a : Act} {w : World} {Q : Exit → Act → World → Prop} (hgd : Region.wanted o (yielded ops a.tmps) = true) (ty : TypeId) (x : Operand) (ho : o.op = .load ty x)
    (g off : Nat) (hx : a.eval x = .pointer (some ⟨g, off, none⟩)) (t : TypeId) (cs : Array Value) (n : Nat) (d : TypeDesc) (hg : w.heap[g]? = some (.cells cs t (0, 0)))
    (hu : P.underlying ty = some d) (hd : (match d with | .struct _ | .array _ _ => true | _ => false) = true) (hi : (P.info? ty).map (·.size) = some n) (hn : off + n ≤ cs.size)
    (vs : Array Value) (hv : cs.extract off (off + n) = vs)
    (h : wpList P ops Q rest (a.put o.dst (.agg vs)) w) : wpList P ops Q (o :: rest) a w :=
  wpList_want hgd fun K hK => by
    subst hv
    unfold Oper.wp execOp
    simp only [ho, hx, Instr.loadAt, Instr.sureAddr, Sem.run_bind, Sem.run_pure, Result.andThen_ok, run_loadVar_span w g off t ty cs n d hg hu hd hi hn]
    exact hK _ _ h
theorem wpList_build_val {P : Program} {ops : Array Oper} {rest : List Oper} {o : Oper} {a : Act} {w : World} {Q : Exit → Act → World → Prop} (hg : o.guard = none) (t : TypeId) (parts : Array (Nat × Operand)) (ho : o.op = .build t parts)
    (vs : Array Value) (hv : P.built t (parts.map fun (i, x) => (i, a.eval x)).toList = some vs)
    (h : wpList P ops Q rest (a.put o.dst (.agg vs)) w) : wpList P ops Q (o :: rest) a w :=
  wpList_build hg t parts ho (by rw [hv]; rfl) (by rw [hv]; exact h)
theorem ints_oneCell (k : IntKind) (l : List Int) : ∀ v ∈ (ints k l).toList, v.oneCell' = true := by
  intro v hv
  simp [ints] at hv
  obtain ⟨x, _, rfl⟩ := hv
  rfl
theorem ints_extract (k : IntKind) (l : List Int) (i n : Nat) : (ints k l).extract i n = ints k ((l.take n).drop i) := by
  simp [ints, List.extract_eq_take_drop, List.map_take, List.map_drop, List.drop_take]
theorem ints_extract_all (k : IntKind) (l : List Int) (n : Nat) (h : l.length = n) : (ints k l).extract 0 (0 + n) = ints k l := by
  subst h
  simp only [ints, List.extract_toArray, List.extract_eq_take_drop, List.drop_zero]
  rw [List.take_of_length_le (by simp)]
theorem ints_toList (k : IntKind) (l : List Int) : (ints k l).toList = l.map (Value.int k) := by simp [ints]
/-- A result that lies in a block of its own. -/
theorem results_agg {P : Program} {fn : Func} {p : Tmp} {ty : TypeId} (h : fn.results = #[.cell p ty]) (tmps : Array Value) (w : World) (g : Nat) (t : TypeId) (cs : Array Value) (d : TypeDesc)
    (hp : tmps.getD p undef = .pointer (some ⟨g, 0, none⟩)) (hg : w.heap[g]? = some (.cells cs t (0, 0)))
    (hu : P.underlying ty = some d) (hd : (match d with | .struct _ | .array _ _ => true | _ => false) = true) (hi : (P.info? ty).map (·.size) = some cs.size) :
    (results fn tmps).run P w = .ok (.agg cs) w := results_cell_row h tmps w g t cs (0, 0) d hp hg hu hd hi

theorem splice_putRow (cur : Array Value) (o : Nat) (cs : List Value) (h : o + cs.length ≤ cur.size) : (cur.toList.take o ++ cs ++ cur.toList.drop (o + cs.length)).toArray = putRow cur o cs := by
  apply Array.ext_getElem?
  intro k
  rw [putRow_get]
  simp only [List.getElem?_toArray, List.getElem?_append, List.length_append, List.length_take, Array.length_toList]
  have em : min o cur.size = o := by omega
  rw [em]
  by_cases h1 : k < o
  · rw [if_pos (by omega), if_pos h1, if_neg (by omega), List.getElem?_take, if_pos h1]; simp
  · by_cases h2 : k < o + cs.length
    · rw [if_pos (by omega), if_neg h1, if_pos (by omega)]
    · rw [if_neg h2, if_neg (by omega), List.getElem?_drop]
      rw [show o + cs.length + (k - (o + cs.length)) = k by omega]
      simp

/-- copy, whatever overlaps: one block is written. -/
theorem step_copy_upd {P : Program} {ops : Array Oper} {o : Oper} {a : Act} {w : World} {K : Act → World → Prop} {Q : Exit → Act → World → Prop} {E : Prop} (hgd : o.guard = none) (d s : Operand) (dT sT : TypeId)
    (ho : o.op = .call { callee := .builtin .copy, args := #[d, s], argTypes := #[dT, sT] }) (elem : TypeId) (hu : P.underlying dT = some (.slice elem)) (hsz : (P.info? elem).map (·.size) = some 1)
    (g off : Nat) (ad : Addr) (dLen dCap sLen sCap : Nat) (hd : a.eval d = .slice (some ⟨g, off, none⟩) dLen dCap) (hs : a.eval s = .slice (some ad) sLen sCap)
    (cur : Array Value) (t : TypeId) (hg : w.heap[g]? = some (.cells cur t (0, 0))) (cs : List Value) (hn : cs.length = Nat.min sLen dLen)
    (hsrc : ∀ j v, cs[j]? = some v → w.cell? (ad.add j) = some v)
    (hfit : off + cs.length ≤ cur.size) (h1 : ∀ v ∈ cs, v.oneCell' = true)
    (h : ∀ w', Upd w w' g (.cells (putRow cur off cs) t (0, 0)) → K (a.put o.dst (goInt cs.length)) w') :
    if Region.wanted o (yielded ops a.tmps) = true then Oper.wp P o a w K Q else E := by
  have hw : Region.wanted o (yielded ops a.tmps) = true := by simp [Region.wanted, hgd]
  rw [if_pos hw]
  have hrun := run_copy_row (P := P) w dT sT o.type elem g off dLen dCap ad sLen sCap cur t cs hu hsz hg hn hsrc hfit h1
  rw [splice_putRow cur off cs hfit] at hrun
  exact Lib.wp_copy_run w d s dT sT ho _ _ hd hs hrun (h _ (upd_setRow hg))
theorem wpList_copy_upd {P : Program} {ops : Array Oper} {rest : List Oper} {o : Oper} {a : Act} {w : World} {Q : Exit → Act → World → Prop} (hgd : o.guard = none) (d s : Operand) (dT sT : TypeId)
    (ho : o.op = .call { callee := .builtin .copy, args := #[d, s], argTypes := #[dT, sT] }) (elem : TypeId) (hu : P.underlying dT = some (.slice elem)) (hsz : (P.info? elem).map (·.size) = some 1)
    (g off : Nat) (ad : Addr) (dLen dCap sLen sCap : Nat) (hd : a.eval d = .slice (some ⟨g, off, none⟩) dLen dCap) (hs : a.eval s = .slice (some ad) sLen sCap)
    (cur : Array Value) (t : TypeId) (hg : w.heap[g]? = some (.cells cur t (0, 0))) (cs : List Value) (hn : cs.length = Nat.min sLen dLen)
    (hsrc : ∀ j v, cs[j]? = some v → w.cell? (ad.add j) = some v)
    (hfit : off + cs.length ≤ cur.size) (h1 : ∀ v ∈ cs, v.oneCell' = true)
    (h : ∀ w', Upd w w' g (.cells (putRow cur off cs) t (0, 0)) → wpList P ops Q rest (a.put o.dst (goInt cs.length)) w') : wpList P ops Q (o :: rest) a w := by
  have hrun := run_copy_row (P := P) w dT sT o.type elem g off dLen dCap ad sLen sCap cur t cs hu hsz hg hn hsrc hfit h1
  rw [splice_putRow cur off cs hfit] at hrun
  exact Lib.wpList_copy_run w hgd d s dT sT ho _ _ hd hs hrun (h _ (upd_setRow hg))
theorem copy_src {w : World} {D : Nat} {k : IntKind} {V : List Int} {T : TypeId} (h : w.heap[D]? = some (.cells (ints k V) T (0, 0))) (o n : Nat) :
    ∀ j v, (((V.drop o).take n).map (Value.int k))[j]? = some v → w.cell? ((⟨D, o, none⟩ : Addr).add j) = some v := by
  intro j v hv
  rw [addr_add, cell_of_row w D (o + j) _ T (0, 0) h]
  simp only [List.getElem?_map, List.getElem?_take, List.getElem?_drop, ints, List.getElem?_toArray] at hv ⊢
  split at hv
  · exact hv
  · simp at hv
theorem eight (V : List Int) (h : V.length = 8) : ∃ a0 a1 a2 a3 a4 a5 a6 a7, V = [a0, a1, a2, a3, a4, a5, a6, a7] := by
  match V, h with
  | [a0, a1, a2, a3, a4, a5, a6, a7], _ => exact ⟨_, _, _, _, _, _, _, _, rfl⟩
theorem oneCell_map_int (k : IntKind) (l : List Int) : ∀ v ∈ l.map (Value.int k), v.oneCell' = true := by
  intro v hv
  simp at hv
  obtain ⟨x, _, rfl⟩ := hv
  rfl
end Go.Proofs.YtoompcgdhokdlaaDoor

set_option linter.unusedSimpArgs false
set_option linter.unusedVariables false
namespace Go.Proofs.YtoompcgdhokdlaaDoor
open Go.RowKit

theorem part_int {P : Program} {e : TypeId} {k : IntKind} {xs : Array Value} {off : Nat} {x : Value} (hu : P.underlying e = some (.int k)) (hx : xs[off]? = some x) (w : World) : (part e xs off).run P w = .ok x w := by
  simp [part, isAgg, run_underlying hu, hx, Result.andThen]
theorem eqItems_ints {P : Program} {e : TypeId} {k : IntKind} (hu : P.underlying e = some (.int k)) (d : Nat) (w : World) : ∀ (is : List Nat) (a b : List Int), (∀ i ∈ is, i < a.length ∧ i < b.length) →
    (Op.eqItems (d + 1) e 1 (ints k a) (ints k b) is).run P w = .ok (is.all fun i => a.getD i 0 == b.getD i 0) w
  | [], a, b, _ => by simp [Op.eqItems]
  | i :: is, a, b, h => by
    have hi := h i (by simp)
    have p1 : (part e (ints k a) (i * 1)).run P w = .ok (.int k (a.getD i 0)) w := part_int hu (by rw [Nat.mul_one]; exact ints_get k a i hi.1) w
    have p2 : (part e (ints k b) (i * 1)).run P w = .ok (.int k (b.getD i 0)) w := part_int hu (by rw [Nat.mul_one]; exact ints_get k b i hi.2) w
    have p3 := run_equalIn_int (P := P) w d e k k (a.getD i 0) (b.getD i 0) hu
    have ih := eqItems_ints hu d w is a b (fun j hj => h j (by simp [hj]))
    simp only [Op.eqItems, Sem.run_bind, p1, p2, p3, Result.andThen_ok, List.all_cons]
    cases a.getD i 0 == b.getD i 0
    · simp
    · simpa using ih
theorem all_range_eq {a b : List Int} {n : Nat} (ha : a.length = n) (hb : b.length = n) : ((List.range n).all fun i => a.getD i 0 == b.getD i 0) = decide (a = b) := by
  rw [Bool.eq_iff_iff]
  simp only [List.all_eq_true, List.mem_range, beq_iff_eq, decide_eq_true_eq]
  constructor
  · intro h
    apply List.ext_getElem (by omega)
    intro i h1 h2
    have := h i (by omega)
    simpa [List.getD_eq_getElem?_getD, List.getElem?_eq_getElem h1, List.getElem?_eq_getElem h2] using this
  · rintro rfl _ _
    rfl
/-- Two arrays of numbers. -/
theorem eq_ints {P : Program} {t e : TypeId} {N : Nat} {k : IntKind} (hu : P.underlying t = some (.array N e)) (he : P.underlying e = some (.int k)) (hi : (P.info? e).map (·.size) = some 1) (d : Nat) (a b : List Int) (ha : a.length = N) (hb : b.length = N) (w : World) :
    (Op.equalIn (d + 2) t (.agg (ints k a)) (.agg (ints k b))).run P w = .ok (decide (a = b)) w := by
  cases hq : P.info? e with
  | none => simp [hq] at hi
  | some i =>
    have hs : P.cellsOf e = 1 := by simpa [Program.cellsOf, hq] using hi
    rw [run_equalIn_array w (d + 1) _ _ hu hq, hs, eqItems_ints he d w _ a b (fun j hj => by rw [List.mem_range] at hj; omega), all_range_eq ha hb]
theorem eql_ints {P : Program} {t e : TypeId} {N : Nat} {k : IntKind} (hu : P.underlying t = some (.array N e)) (he : P.underlying e = some (.int k)) (hi : (P.info? e).map (·.size) = some 1) (a b : List Int) (ha : a.length = N) (hb : b.length = N) (w : World) :
    (binOp .eql t (.agg (ints k a)) (.agg (ints k b))).run P w = .ok (.bool (decide (a = b))) w := by
  rw [run_eql_struct, eq_ints hu he hi 9998 a b ha hb]; rfl
theorem neq_ints {P : Program} {t e : TypeId} {N : Nat} {k : IntKind} (hu : P.underlying t = some (.array N e)) (he : P.underlying e = some (.int k)) (hi : (P.info? e).map (·.size) = some 1) (a b : List Int) (ha : a.length = N) (hb : b.length = N) (w : World) :
    (binOp .neq t (.agg (ints k a)) (.agg (ints k b))).run P w = .ok (.bool (!decide (a = b))) w := by
  rw [run_neq_struct, eq_ints hu he hi 9998 a b ha hb]; rfl

/-! ### Structs held against each other, field by field -/
theorem part_agg {P : Program} {e : TypeId} {d : TypeDesc} {xs : Array Value} {off n : Nat} (hu : P.underlying e = some d) (hd : (match d with | .struct _ | .array _ _ => true | _ => false) = true) (hi : (P.info? e).map (·.size) = some n) (w : World) :
    (part e xs off).run P w = .ok (.agg (xs.extract off (off + n))) w := by
  cases hq : P.info? e with
  | none => simp [hq] at hi
  | some i =>
    have hs : i.size = n := by simpa [hq] using hi
    have hagg : (isAgg e).run P w = .ok true w := by
      unfold isAgg
      rw [Sem.run_bind, run_underlying hu w]
      cases d <;> simp_all
    simp [part, Sem.run_bind, hagg, sizeOf, typeInfo, hq, hs, Result.andThen]
theorem part_str {P : Program} {e : TypeId} {xs : Array Value} {off : Nat} {x : Value} (hu : P.underlying e = some .string) (hx : xs[off]? = some x) (w : World) : (part e xs off).run P w = .ok x w := by
  simp [part, isAgg, run_underlying hu, hx, Result.andThen]
theorem fields_of {P : Program} {t : TypeId} {fs : Array Field} (hu : P.underlying t = some (.struct fs)) : P.fieldsOf t = fs := by simp [Program.fieldsOf, hu]
theorem eqIn_struct {P : Program} {t : TypeId} {fs : Array Field} (hu : P.underlying t = some (.struct fs)) (hp : P.stoodInHeld t = false) (d : Nat) (xs ys : Array Value) (w : World) :
    (Op.equalIn (d + 1) t (.agg xs) (.agg ys)).run P w = (Op.eqFields d xs ys fs.toList).run P w := by
  rw [run_equalIn_struct w d t xs ys (by rw [fields_of hu]; exact hu) hp, fields_of hu]
theorem eqf_nil {P : Program} {d : Nat} {xs ys : Array Value} {w : World} : (Op.eqFields d xs ys []).run P w = .ok true w := by simp [Op.eqFields]
theorem eqf_step {P : Program} {d : Nat} {xs ys : Array Value} {f : Field} {fs : List Field} {a b : Value} {r s : Bool} {w : World} (hn : f.name ≠ "_") (ha : (part f.type xs f.offset).run P w = .ok a w) (hb : (part f.type ys f.offset).run P w = .ok b w)
    (he : (Op.equalIn d f.type a b).run P w = .ok r w) (hr : (Op.eqFields d xs ys fs).run P w = .ok s w) : (Op.eqFields d xs ys (f :: fs)).run P w = .ok (r && s) w := by
  rw [Op.eqFields]
  simp only [if_pos hn, Sem.run_bind, ha, hb, he, Result.andThen_ok]
  cases r
  · simp
  · simpa using hr

/-! ### Structs and arrays that are built -/
theorem wpList_build2 {P : Program} {ops : Array Oper} {rest : List Oper} {o : Oper} {a : Act} {w : World} {Q : Exit → Act → World → Prop} (hg : o.guard = none) (t : TypeId) (parts : List (Nat × Operand)) (ho : o.op = .build t parts.toArray)
    (vals : List (Nat × Value)) (hvals : (parts.map fun p => (p.1, a.eval p.2)) = vals) (vs : Array Value) (hv : P.built t vals = some vs)
    (h : wpList P ops Q rest (a.put o.dst (.agg vs)) w) : wpList P ops Q (o :: rest) a w := by
  subst hvals
  refine wpList_build_val hg t _ ho vs ?_ h
  rw [Array.toList_map]
  exact hv

theorem zip_putRow (vs : List Value) : ∀ (cells : Array Value) (off n : Nat), (vs.zipIdx n).foldl (fun cs (c, j) => cs.setIfInBounds (off + j) c) cells = putRow cells (off + n) vs := by
  induction vs with
  | nil => intro cells off n; rfl
  | cons v vs ih =>
    intro cells off n
    simp only [List.zipIdx_cons, List.foldl_cons, putRow]
    rw [ih, Nat.add_assoc]
theorem fill_cons {place : Nat → Option (Nat × Nat)} {cells : Array Value} {i off size : Nat} {v : Value} {rest : List (Nat × Value)} (hp : place i = some (off, size)) (hs : v.cells.size = size) (ho : off + size ≤ cells.size) :
    Instr.fill place cells ((i, v) :: rest) = Instr.fill place (putRow cells off v.cells.toList) rest := by
  have h1 : ¬ ((decide (v.cells.size ≠ size) || decide (off + v.cells.size > cells.size)) = true) := by simp; omega
  have := zip_putRow v.cells.toList cells off 0
  rw [Nat.add_zero] at this
  rw [← this, Instr.fill, hp]
  dsimp only
  rw [if_neg h1, ← Array.foldl_toList]
  simp
theorem fill_nil {place : Nat → Option (Nat × Nat)} {cells : Array Value} : Instr.fill place cells [] = some cells := rfl
theorem putRow_one (cur : Array Value) (off : Nat) (v : Value) : putRow cur off [v] = cur.setIfInBounds off v := rfl
/-- A row laid over the end of a row. -/
theorem putRow_tail (a b vs : List Value) (h : vs.length = b.length) : putRow (a ++ b).toArray a.length vs = (a ++ vs).toArray := by
  apply Array.ext_getElem?
  intro k
  rw [putRow_get]
  simp only [List.getElem?_toArray, List.size_toArray, List.length_append]
  by_cases h1 : k < a.length
  · rw [if_neg (by omega), List.getElem?_append_left h1, List.getElem?_append_left h1]
  · rw [List.getElem?_append_right (by omega)]
    by_cases h2 : k < a.length + b.length
    · rw [if_pos (by omega), List.getElem?_append_right (by omega)]
    · rw [if_neg (by omega), List.getElem?_append_right (by omega), List.getElem?_eq_none (by omega), List.getElem?_eq_none (by omega)]

/-- One operation of a region that draws: a whole array or struct is loaded. -/
theorem step_load_agg {P : Program} {ops : Array Oper} {o : Oper} {a : Act} {w : World} {K : Act → World → Prop} {Q : Exit → Act → World → Prop} {E : Prop} (hgd : Region.wanted o (yielded ops a.tmps) = true) (ty : TypeId) (x : Operand) (ho : o.op = .load ty x)
    (g off : Nat) (hx : a.eval x = .pointer (some ⟨g, off, none⟩)) (t : TypeId) (cs : Array Value) (n : Nat) (d : TypeDesc) (hg : w.heap[g]? = some (.cells cs t (0, 0)))
    (hu : P.underlying ty = some d) (hd : (match d with | .struct _ | .array _ _ => true | _ => false) = true) (hi : (P.info? ty).map (·.size) = some n) (hn : off + n ≤ cs.size)
    (vs : Array Value) (hv : cs.extract off (off + n) = vs)
    (h : K (a.put o.dst (.agg vs)) w) : if Region.wanted o (yielded ops a.tmps) = true then Oper.wp P o a w K Q else E := by
  rw [if_pos hgd]
  subst hv
  unfold Oper.wp execOp
  simp only [ho, hx, Instr.loadAt, Instr.sureAddr, Sem.run_bind, Sem.run_pure, Result.andThen_ok, run_loadVar_span w g off t ty cs n d hg hu hd hi hn]
  exact h

/-- Two results: the first in a block of its own, the second in a slot. -/
theorem results_ct {P : Program} {fn : Func} {p q : Tmp} {ty : TypeId} (h : fn.results = #[.cell p ty, .tmp q]) (tmps : Array Value) (w : World) (g : Nat) (t : TypeId) (cs : Array Value) (d : TypeDesc) (v : Value)
    (hp : tmps.getD p undef = .pointer (some ⟨g, 0, none⟩)) (hq : tmps.getD q undef = v) (hg : w.heap[g]? = some (.cells cs t (0, 0)))
    (hu : P.underlying ty = some d) (hd : (match d with | .struct _ | .array _ _ => true | _ => false) = true) (hi : (P.info? ty).map (·.size) = some cs.size) :
    (results fn tmps).run P w = .ok (.tuple #[.agg cs, v]) w := by
  have hp' : tmps[p]?.getD undef = .pointer (some ⟨g, 0, none⟩) := by simpa using hp
  have hq' : tmps[q]?.getD undef = v := by simpa using hq
  simp [results, h, hp', hq', asAddr, run_loadVar_row w g t ty cs (0, 0) d hg hu hd hi]
end Go.Proofs.YtoompcgdhokdlaaDoor

set_option linter.unusedVariables false
namespace Go.Proofs.YtoompcgdhokdlaaDoor
open Go.RowKit

theorem region_mid {P : Program} {Q : Exit → Act → World → Prop} {code : Code} {a A : Act} {w : World} {S : World → Prop}
    (hreg : code.wp P (fun e a' w' => e = .normal ∧ a' = A ∧ S w') a w) (tail : ∀ w', S w' → Q .normal A w') : code.wp P Q a w :=
  Code.wp_mono (fun e a' w' ⟨h1, h2, h3⟩ => h1 ▸ h2 ▸ tail w' h3) hreg

/-- An operation taken first, its slot named. -/
theorem takeH {P : Program} {ops : Array Oper} {Q : Exit → Act → World → Prop} {md : Region.Mode} {S : World → Prop} {i d : Nat} {oi : Oper} {v : Value} {fuel : Nat} {listed : Array Bool} {a : Act} {w : World} (hi : ops[i]? = some oi) (hd : oi.dst = some d)
    (hs : Region.noSelect ops = true) (hf : Region.free md ops listed i = true) (hr : (Region.ready md ops listed).contains i = true)
    (hQ : ∀ c a w, Q (.panic c) (a.put oi.dst v) w → Q (.panic c) a w) (hy : YieldsIf P ops S oi v a) (hS : S w)
    (h : wpAnyH P md ops Q S fuel (listed.setIfInBounds i true) { tmps := a.tmps.setIfInBounds d v, defers := a.defers } w) : wpAnyH P md ops Q S (fuel + 1) listed a w :=
  wpAnyH_take hi hs hf hr hQ hy hS (by rw [hd]; exact h)
theorem blk_range {w : World} {b o : Nat} {cs : Array Value} {T : TypeId} {l : List Value} (h : w.heap[b]? = some (.cells cs T (0, 0))) (hl : ∀ j v, l[j]? = some v → cs[o + j]? = some v) : w.rangeAt b o l :=
  fun j v hv => blk_cell h (hl j v hv)
/-- A struct that is built where a guard allows it. -/
theorem wpList_build3 {P : Program} {ops : Array Oper} {rest : List Oper} {o : Oper} {a : Act} {w : World} {Q : Exit → Act → World → Prop} (hg : Region.wanted o (yielded ops a.tmps) = true) (t : TypeId) (parts : List (Nat × Operand)) (ho : o.op = .build t parts.toArray)
    (vals : List (Nat × Value)) (hvals : (parts.map fun p => (p.1, a.eval p.2)) = vals) (vs : Array Value) (hv : P.built t vals = some vs)
    (h : wpList P ops Q rest (a.put o.dst (.agg vs)) w) : wpList P ops Q (o :: rest) a w := by
  subst hvals
  have e : P.built t (parts.toArray.map fun (i, x) => (i, a.eval x)).toList = some vs := by rw [Array.toList_map]; exact hv
  exact wpList_want hg fun K hK => wp_build t _ ho (by rw [e]; rfl) (by rw [e]; exact hK _ _ h)
end Go.Proofs.YtoompcgdhokdlaaDoor

set_option linter.unusedSimpArgs false
set_option linter.unusedVariables false
namespace Go.Proofs.YtoompcgdhokdlaaDoor
open Go.RowKit

def rotr (x : Int) (n : Nat) : Int := bits .or .u32 ((x * 2 ^ (32 - n) % 4294967296)) (x / 2 ^ n)

theorem rotl_any (x : Int) (n : Nat) (h0 : 0 < n) (h1 : n < 32) (w : World) :
    Calls Tryd.prog 95 #[.int .u32 x, .int .i64 (-(n : Int))] w fun e w' => e = .returned (.int .u32 (rotr x n)) ∧ w = w' := by
  have e1 : bits .and .u64 (IntKind.u64.wrap (-(n : Int))) 31 = ((32 - n : Nat) : Int) := by
    have : n = 1 ∨ n = 2 ∨ n = 3 ∨ n = 4 ∨ n = 5 ∨ n = 6 ∨ n = 7 ∨ n = 8 ∨ n = 9 ∨ n = 10 ∨ n = 11 ∨ n = 12 ∨ n = 13 ∨ n = 14 ∨ n = 15 ∨ n = 16 ∨ n = 17 ∨ n = 18 ∨ n = 19 ∨ n = 20 ∨ n = 21 ∨ n = 22 ∨ n = 23 ∨ n = 24 ∨ n = 25 ∨ n = 26 ∨ n = 27 ∨ n = 28 ∨ n = 29 ∨ n = 30 ∨ n = 31 := by omega
    rcases this with rfl | rfl | rfl | rfl | rfl | rfl | rfl | rfl | rfl | rfl | rfl | rfl | rfl | rfl | rfl | rfl | rfl | rfl | rfl | rfl | rfl | rfl | rfl | rfl | rfl | rfl | rfl | rfl | rfl | rfl | rfl <;> decide
  have e2 : IntKind.u64.wrap (32 - ((32 - n : Nat) : Int)) = n := by unfold IntKind.wrap; simp [IntKind.bits]; omega
  go_enter Tryd.func95, Tryd.ntmps95
  go_wp2
  go_ret
  exact ⟨rfl, rfl⟩


theorem turned_any (x N : Int) (h0 : 0 < N) (h1 : N < 32) (w : World) :
    Calls Tryd.prog 88 #[.int .u32 x, .int .i64 N] w fun e w' => e = .returned (.int .u32 (rotr x N.toNat)) ∧ w = w' := by
  obtain ⟨n, rfl⟩ := Int.eq_ofNat_of_zero_le (Int.le_of_lt h0)
  rw [Int.toNat_natCast]
  go_enter Tryd.func88, Tryd.ntmps88
  go_wp2_with (go_at_call 95; refine (rotl_any _ _ (by omega) (by omega) _).mono ?_; rintro e w' ⟨rfl, rfl⟩)
  go_ret
  exact ⟨rfl, rfl⟩

/-- The words of the rounds, so far as t goes. -/
def word (bs : List Int) (t : Nat) : Int := (List.range 4).foldl (fun x j => bits .or .u32 (x * 256 % 4294967296) (bs.getD (4 * t + j) 0)) 0
def low (x : Int) : Int := bits .xor .u32 (bits .xor .u32 (rotr x 7) (rotr x 18)) (x / 8)
def high (y : Int) : Int := bits .xor .u32 (bits .xor .u32 (rotr y 17) (rotr y 19)) (y / 1024)
def nextw (bs : List Int) (w : List Int) (t : Nat) : Int :=
  if t < 16 then word bs t else (w[t - 16]?.getD 0 + low (w[t - 15]?.getD 0) + w[t - 7]?.getD 0 + high (w[t - 2]?.getD 0)) % 4294967296
def sched (bs : List Int) : Nat → List Int
  | 0 => List.replicate 64 0
  | t + 1 => (sched bs t).set t (nextw bs (sched bs t) t)

theorem sched_length (bs : List Int) (t : Nat) : (sched bs t).length = 64 := by
  induction t with
  | zero => simp [sched]
  | succ t ih => simp [sched, ih]
def word' (bs : List Int) (t n : Nat) : Int := (List.range n).foldl (fun x j => bits .or .u32 (x * 256 % 4294967296) (bs.getD (4 * t + j) 0)) 0
theorem word'_succ (bs : List Int) (t n : Nat) : word' bs t (n + 1) = bits .or .u32 (word' bs t n * 256 % 4294967296) (bs.getD (4 * t + n) 0) := by
  simp [word', List.range_succ]

theorem sched_fresh (bs : List Int) (t j : Nat) (h : t ≤ j) : (sched bs t).getD j 0 = 0 := by
  induction t with
  | zero =>
    simp only [sched, List.getD_eq_getElem?_getD, List.getElem?_replicate]
    split <;> rfl
  | succ t ih =>
    have := ih (by omega)
    simp only [sched, List.getD_eq_getElem?_getD] at this ⊢
    rw [List.getElem?_set_ne (by omega)]
    exact this
theorem sched_next (bs : List Int) (m : Nat) : sched bs (m + 16 + 1) = (sched bs (m + 16)).set (m + 16) (((sched bs (m + 16))[m]?.getD 0 +
    bits .xor .u32 (bits .xor .u32 (rotr ((sched bs (m + 16))[m + 1]?.getD 0) 7) (rotr ((sched bs (m + 16))[m + 1]?.getD 0) 18)) ((sched bs (m + 16))[m + 1]?.getD 0 / 8) +
    (sched bs (m + 16))[m + 9]?.getD 0 +
    bits .xor .u32 (bits .xor .u32 (rotr ((sched bs (m + 16))[m + 14]?.getD 0) 17) (rotr ((sched bs (m + 16))[m + 14]?.getD 0) 19)) ((sched bs (m + 16))[m + 14]?.getD 0 / 1024)) % 4294967296) := by
  show (sched bs (m + 16)).set (m + 16) (nextw bs (sched bs (m + 16)) (m + 16)) = _
  generalize sched bs (m + 16) = S
  unfold nextw low high
  rw [if_neg (by omega)]
  have e1 : m + 16 - 15 = m + 1 := by omega
  have e2 : m + 16 - 7 = m + 9 := by omega
  have e3 : m + 16 - 2 = m + 14 := by omega
  have e4 : m + 16 - 16 = m := by omega
  simp only [e1, e2, e3, e4]
theorem set_same (l : List Int) (t : Nat) (x : Int) (h : t < l.length) (hx : l.getD t 0 = x) : l.set t x = l := by
  apply List.ext_getElem (by simp)
  intro i h1 h2
  rw [List.getElem_set]
  split
  · rename_i e
    subst e
    rw [← hx, List.getD_eq_getElem?_getD, List.getElem?_eq_getElem h]
    rfl
  · rfl

theorem getD_set_self (l : List Int) (t : Nat) (x : Int) (h : t < l.length) : (l.set t x).getD t 0 = x := by
  simp [List.getD_eq_getElem?_getD, h]
set_option maxRecDepth 100000 in
set_option maxHeartbeats 2000000 in
theorem schedule_any (g off : Nat) (bs : List Int) (w : World) (hb : ∀ j, j < 64 → w.cell? ⟨g, off + j, none⟩ = some (.int .u8 (bs.getD j 0))) (hr : ∀ j, 0 ≤ bs.getD j 0 ∧ bs.getD j 0 < 256)
    (hg : g < w.heap.size) :
    Calls Tryd.prog 86 #[.pointer (some ⟨g, off, none⟩)] w fun e w' => e = .returned (.agg (ints .u32 (sched bs 64))) ∧ Below w.heap.size w w' := by
  go_enter Tryd.func86, Tryd.ntmps86
  go_wp2
  obtain ⟨B, hB⟩ : ∃ B, B = w.heap.size := ⟨_, rfl⟩
  rw [← hB]
  have hgB : g < B := by omega
  have HB := Lib.hid hB
  clear hB hg
  go_loopw [11] (fun i wr => ∃ t : Nat, t ≤ 64 ∧ i = .int .i64 t ∧ wr.heap[B + 1]? = some (.cells (ints .u32 (sched bs t)) 151 (0, 0)) ∧ (∃ c, c.size = 64 ∧ wr.heap[B]? = some (.cells c 151 (0, 0))) ∧ Below B w wr)
    (fun i _ => 64 - (intOf i).toNat)
  case atStart =>
    refine ⟨0, by omega, rfl, ?_, ⟨(List.replicate 64 (Value.int .u32 0)).toArray, by decide, ?_⟩, ?_⟩
    · rw [HB.out]; exact heap_alloc2_new w _ _
    · rw [HB.out]; exact heap_alloc2_old w _ _
    · exact ((Below.refl _ _).alloc (Nat.le_of_eq HB.out) _).alloc (by rw [HB.out]; simp) _
  case round =>
    obtain ⟨t, ht, rfl, hW, ⟨c0, hc0, hC0⟩, hbel⟩ := hrel
    by_cases hlt : t < 64
    · by_cases h16 : t < 16
      · have hs := arr_slice_lh Tryd.underlying133 Tryd.sizeOf5 g off (4 * t) (4 * t + 4) (by omega) (by omega) .i64 .i64 (4 * (t : Int)) (4 * (t : Int) + 4) (by omega) (by omega)
        have e64 : ¬ (64 : Nat) = 4 * t := by omega
        simp only [e64, if_false] at hs
        have hs2 : 4 * t + 4 - 4 * t = 4 := by omega
        rw [hs2] at hs
        clear hs2 e64
        go_wp2
        go_loopw [25] (fun i ws => ∃ n : Nat, n ≤ 4 ∧ i = .int .i64 n ∧ ws.heap[B + 1]? = some (.cells (ints .u32 ((sched bs t).set t (word' bs t n))) 151 (0, 0)) ∧ ws.heap[B]? = some (.cells c0 151 (0, 0)) ∧ Below B w ws)
          (fun i _ => 4 - (intOf i).toNat)
        case atStart =>
          refine ⟨0, by omega, rfl, ?_, hC0, hbel⟩
          rw [set_same _ _ _ (by rw [sched_length]; omega) (by rw [sched_fresh _ _ _ (Nat.le_refl _)]; rfl)]
          exact hW
        case round =>
          obtain ⟨n, hn, rfl, hWn, hCn, hbn⟩ := hrel
          by_cases hn4 : n < 4
          · have hcell := (hbn.cell (p := ⟨g, off + (4 * t + n), none⟩) hgB).trans (hb (4 * t + n) (by omega))
            rw [← Nat.add_assoc] at hcell
            have hrn := hr (4 * t + n)
            have hw1 := blk_int hWn t (by simp [sched_length]; omega)
            rw [getD_set_self _ _ _ (by rw [sched_length]; omega)] at hw1
            have hw2 := blk_frozen t hWn
            go_wp2
            go_roundw
            case rel =>
              refine ⟨n + 1, by omega, by go_num, ?_, blk_other hCn (by simp), hbn.setCell (by simp) _⟩
              rw [blk_set hWn, List.set_set, word'_succ]
              rw [← List.getD_eq_getElem?_getD, Int.emod_eq_of_lt (b := 4294967296) (a := bs.getD (4 * t + n) 0) (by omega) (by omega)]
            case measure => simp [intOf]; omega
          · go_wp2
            obtain rfl : n = 4 := by omega
            go_roundw
            case rel => exact ⟨t + 1, by omega, by go_num, by simp only [sched, nextw, if_pos h16]; exact hWn, ⟨c0, hc0, hCn⟩, hbn⟩
            case measure => simp [intOf]; omega
      · obtain ⟨m, rfl⟩ : ∃ m, t = m + 16 := ⟨t - 16, by omega⟩
        have c1 := blk_int hW (m + 1) (by rw [sched_length]; omega)
        have c2 := blk_int hW (m + 14) (by rw [sched_length]; omega)
        have c3 := blk_int hW m (by rw [sched_length]; omega)
        have c4 := blk_int hW (m + 9) (by rw [sched_length]; omega)
        have c5 := blk_frozen (m + 16) hW
        have c6 := blk_int hW (m + 16) (by rw [sched_length]; omega)
        go_wp2
        go_quiet (fail)
        go_wp2_with (go_at_call 88; refine (turned_any _ _ (by omega) (by omega) _).mono ?_; rintro e w' ⟨rfl, rfl⟩)
        have d3 : (wr.drewN nq).cell? ⟨B + 1, m, none⟩ = some (Value.int .u32 ((sched bs (m + 16)).getD m 0)) := c3
        go_region
        all_goals
          go_wp2
          go_roundw
          case rel =>
            refine ⟨m + 16 + 1, by omega, by go_num, ?_, ⟨c0, hc0, blk_other hC0 (by simp)⟩, (drewN_below hbel _).setCell (by simp) _⟩
            have hW' : (wr.drewN (nq + 1)).heap[B + 1]? = some (.cells (ints .u32 (sched bs (m + 16))) 151 (0, 0)) := hW
            rw [sched_next]
            exact blk_set hW' _ _
          case measure => simp [intOf]; omega
    · obtain rfl : t = 64 := by omega
      have hl : (sched bs 64).length = 64 := sched_length bs 64
      have hsz : (ints .u32 (sched bs 64)).size = 64 := by rw [ints_size, hl]
      have hex : (ints .u32 (sched bs 64)).extract 0 (0 + 64) = ints .u32 (sched bs 64) := ints_extract_all .u32 _ 64 hl
      have hpr : putRow c0 0 (ints .u32 (sched bs 64)).toList = ints .u32 (sched bs 64) := by rw [putRow_all _ _ (by rw [Array.length_toList, hsz, hc0])]
      have hin : (Tryd.prog.info? 151).map (·.size) = some 64 := by kernel_rfl
      have hin' : (Tryd.prog.info? 151).map (·.size) = some (ints .u32 (sched bs 64)).size := by rw [hsz]; exact hin
      have h1c := ints_oneCell .u32 (sched bs 64)
      generalize hV : ints .u32 (sched bs 64) = V at *
      have HV := Lib.hid hV; clear hV
      have H1 := Lib.hid hex; have H2 := Lib.hid hpr; have H3 := Lib.hid hin; have H4 := Lib.hid hin'; have H5 := Lib.hid hsz; have H6 := Lib.hid hc0; have H7 := Lib.hid h1c
      clear hex hpr hin hin' hsz hc0 hl h1c
      go_wp2_with (first
        | ((with_reducible refine at_load 79 ?_); have q1 := H3.out; have q2 := H5.out; refine wpList_load_agg rfl 151 (.tmp 3) rfl (B + 1) 0 rfl 151 V 64 _ hW Tryd.underlying151 rfl q1 (by rw [q2]; decide) V H1.out ?_; clear q1 q2)
        | ((with_reducible refine at_store (.tmp 2) (.tmp 79) ?_); have q1 := H4.out; have q2 := H5.out; have q3 := H6.out; have q4 := H7.out; have q5 := H2.out; refine wpList_store_agg (cells := V) rfl 151 (.tmp 2) (.tmp 79) rfl B 0 rfl rfl 151 c0 hC0 q1 (by rw [q2, q3]; decide) q4 V q5 ?_; clear q1 q2 q3 q4 q5; intro w' hu))
      refine bodyPost_ret (v := .agg V) (results_agg rfl _ _ B 151 _ _ rfl hu.same Tryd.underlying151 rfl H4.out) rfl ⟨by rw [HV.out], ?_⟩
      rw [← HB.out]
      exact hbel.trans (hu.below (Nat.le_refl _))

def iv : List Int := [0x6a09e667, 0xbb67ae85, 0x3c6ef372, 0xa54ff53a, 0x510e527f, 0x9b05688c, 0x1f83d9ab, 0x5be0cd19]
def ks : List Int := [
    0x428a2f98, 0x71374491, 0xb5c0fbcf, 0xe9b5dba5, 0x3956c25b, 0x59f111f1, 0x923f82a4, 0xab1c5ed5,
    0xd807aa98, 0x12835b01, 0x243185be, 0x550c7dc3, 0x72be5d74, 0x80deb1fe, 0x9bdc06a7, 0xc19bf174,
    0xe49b69c1, 0xefbe4786, 0x0fc19dc6, 0x240ca1cc, 0x2de92c6f, 0x4a7484aa, 0x5cb0a9dc, 0x76f988da,
    0x983e5152, 0xa831c66d, 0xb00327c8, 0xbf597fc7, 0xc6e00bf3, 0xd5a79147, 0x06ca6351, 0x14292967,
    0x27b70a85, 0x2e1b2138, 0x4d2c6dfc, 0x53380d13, 0x650a7354, 0x766a0abb, 0x81c2c92e, 0x92722c85,
    0xa2bfe8a1, 0xa81a664b, 0xc24b8b70, 0xc76c51a3, 0xd192e819, 0xd6990624, 0xf40e3585, 0x106aa070,
    0x19a4c116, 0x1e376c08, 0x2748774c, 0x34b0bcb5, 0x391c0cb3, 0x4ed8aa4a, 0x5b9cca4f, 0x682e6ff3,
    0x748f82ee, 0x78a5636f, 0x84c87814, 0x8cc70208, 0x90befffa, 0xa4506ceb, 0xbef9a3f7, 0xc67178f2]

theorem below_new {w w' : World} (o : Obj) (h : Below w.heap.size (w.alloc o) w') : Below w.heap.size w w' := ((Below.refl _ _).alloc (Nat.le_refl _) o).trans h
set_option maxRecDepth 100000 in
theorem begin_any (w : World) :
    Calls Tryd.prog 81 #[] w fun e w' => e = .returned (.agg (ints .u32 iv)) ∧ Below w.heap.size w w' := by
  go_enter Tryd.func81, Tryd.ntmps81
  go_wp2
  refine bodyPost_ret (v := .agg (ints .u32 iv)) (results_agg (cs := ints .u32 iv) rfl _ _ w.heap.size 131 _ rfl (blk_new w _) Tryd.underlying131 rfl (by kernel_rfl)) rfl ⟨rfl, ?_⟩
  exact (Below.refl _ _).alloc (Nat.le_refl _) _

set_option maxRecDepth 100000 in
theorem constants_any (w : World) :
    Calls Tryd.prog 87 #[] w fun e w' => e = .returned (.agg (ints .u32 ks)) ∧ Below w.heap.size w w' := by
  go_enter Tryd.func87, Tryd.ntmps87
  have hin : (Tryd.prog.info? 151).map (·.size) = some (ints .u32 ks).size := by kernel_rfl
  have h1c := ints_oneCell .u32 ks
  have hp : putRow (List.replicate 64 (Value.int .u32 0)).toArray 0 (ints .u32 ks).toList = ints .u32 ks := by rw [putRow_all _ _ (by decide)]
  have hsz : 0 + (ints .u32 ks).size ≤ 64 := by decide
  have H1 := Lib.hid hin; have H2 := Lib.hid h1c; have H3 := Lib.hid hp; have H4 := Lib.hid hsz
  clear hin h1c hp hsz
  go_wp2_with (first
    | ((with_reducible refine at_build 1 ?_); refine wpList_build_val rfl 151 _ rfl (ints .u32 ks) (by kernel_rfl) ?_)
    | ((with_reducible refine at_store (.tmp 0) (.tmp 1) ?_); refine wpList_store_agg (cells := ints .u32 ks) rfl 151 (.tmp 0) (.tmp 1) rfl w.heap.size 0 rfl rfl 151 (List.replicate 64 (Value.int .u32 0)).toArray (blk_new w _) H1.out (by simpa using H4.out) H2.out (ints .u32 ks) H3.out ?_; intro w' hu))
  refine bodyPost_ret (v := .agg (ints .u32 ks)) (results_agg (cs := ints .u32 ks) rfl _ _ w.heap.size 151 _ rfl hu.same Tryd.underlying151 rfl H1.out) rfl ⟨rfl, ?_⟩
  exact below_new _ (hu.below (Nat.le_refl _))
end Go.Proofs.YtoompcgdhokdlaaDoor

set_option linter.unusedSimpArgs false
set_option linter.unusedVariables false
namespace Go.Proofs.YtoompcgdhokdlaaDoor
open Go.RowKit

/-- One block that was there has been written; new ones may have come. -/
structure Put1 (w w' : World) (g : Nat) (o : Obj) : Prop where
  os : w'.os = w.os
  tape : w'.tape = w.tape
  output : w'.output = w.output
  size : w.heap.size ≤ w'.heap.size
  same : w'.heap[g]? = some o
  other : ∀ k, k < w.heap.size → k ≠ g → w'.heap[k]? = w.heap[k]?

def hashCells (made : Bool) (st rest : List Int) (n : Int) : Array Value := (Value.bool made :: (st.map (Value.int .u32) ++ rest.map (Value.int .u8) ++ [Value.int .u64 n])).toArray

def rnd (v : List Int) (k w : Int) : List Int :=
  let e := v[4]?.getD 0
  let a := v[0]?.getD 0
  let choice := bits .xor .u32 (v[6]?.getD 0) (bits .and .u32 e (bits .xor .u32 (v[5]?.getD 0) (v[6]?.getD 0)))
  let most := bits .or .u32 (bits .and .u32 a (v[1]?.getD 0)) (bits .and .u32 (v[2]?.getD 0) (bits .or .u32 a (v[1]?.getD 0)))
  let x := v[7]?.getD 0 + bits .xor .u32 (bits .xor .u32 (rotr e 6) (rotr e 11)) (rotr e 25) + choice + k + w
  let y := bits .xor .u32 (bits .xor .u32 (rotr a 2) (rotr a 13)) (rotr a 22) + most
  [(x + y) % 4294967296, a, v[1]?.getD 0, v[2]?.getD 0, (v[3]?.getD 0 + x) % 4294967296, e, v[5]?.getD 0, v[6]?.getD 0]
def rounds (st sc : List Int) : Nat → List Int
  | 0 => st
  | t + 1 => rnd (rounds st sc t) (ks[t]?.getD 0) (sc[t]?.getD 0)
theorem rounds_length (st sc : List Int) (h : st.length = 8) (t : Nat) : (rounds st sc t).length = 8 := by
  cases t with
  | zero => exact h
  | succ t => simp [rounds, rnd]
def addAll (st v : List Int) : Nat → List Int
  | 0 => st
  | i + 1 => (addAll st v i).set i (((addAll st v i)[i]?.getD 0 + v[i]?.getD 0) % 4294967296)
theorem addAll_length (st v : List Int) (i : Nat) : (addAll st v i).length = st.length := by
  induction i with
  | zero => rfl
  | succ i ih => simp [addAll, ih]
def blockOf (st bs : List Int) : List Int := addAll st (rounds st (sched bs 64) 64) 8

theorem hash_u8 {made : Bool} {st rest : List Int} {n : Int} (hst : st.length = 8) (j : Nat) (hj : j < rest.length) : (hashCells made st rest n)[9 + j]? = some (.int .u8 (rest.getD j 0)) := by
  simp only [hashCells, List.getElem?_toArray, show 9 + j = (8 + j) + 1 by omega, List.getElem?_cons_succ]
  rw [List.getElem?_append_left (by simp; omega), List.getElem?_append_right (by simp; omega)]
  simp [hst, List.getElem?_eq_getElem hj, List.getD_eq_getElem?_getD]
theorem hash_u32 {made : Bool} {st rest : List Int} {n : Int} (j : Nat) (hj : j < st.length) : (hashCells made st rest n)[1 + j]? = some (.int .u32 (st.getD j 0)) := by
  simp only [hashCells, List.getElem?_toArray, show 1 + j = j + 1 by omega, List.getElem?_cons_succ]
  rw [List.getElem?_append_left (by simp; omega), List.getElem?_append_left (by simp; omega)]
  simp [List.getElem?_eq_getElem hj, List.getD_eq_getElem?_getD]
theorem hash_n {made : Bool} {st rest : List Int} {n : Int} (hst : st.length = 8) (hr : rest.length = 64) : (hashCells made st rest n)[73]? = some (.int .u64 n) := by
  simp only [hashCells, List.getElem?_toArray, show 73 = 72 + 1 by omega, List.getElem?_cons_succ]
  rw [List.getElem?_append_right (by simp; omega)]
  simp [hst, hr]
theorem hash_size {made : Bool} {st rest : List Int} {n : Int} (hst : st.length = 8) (hr : rest.length = 64) : (hashCells made st rest n).size = 74 := by
  simp [hashCells, hst, hr]
theorem hash_state {made : Bool} {st rest : List Int} {n : Int} (hst : st.length = 8) : (hashCells made st rest n).extract 1 (1 + 8) = ints .u32 st := by
  simp only [hashCells, List.extract_toArray, List.extract_eq_take_drop, List.drop_succ_cons, List.drop_zero]
  rw [List.append_assoc, List.take_append_of_le_length (by simp; omega), List.take_of_length_le (by simp; omega)]
  rfl

theorem hash_set {made : Bool} {st rest : List Int} {n : Int} (j : Nat) (hj : j < st.length) (x : Int) : (hashCells made st rest n).setIfInBounds (1 + j) (.int .u32 x) = hashCells made (st.set j x) rest n := by
  have hj' : j < (st.map (Value.int .u32)).length := by simpa using hj
  simp only [hashCells, show 1 + j = j + 1 by omega, List.setIfInBounds_toArray, List.set_cons_succ, List.append_assoc, List.map_set]
  rw [List.set_append_left _ _ hj']
theorem Put1.setCell {w w' : World} {g j : Nat} {c : Array Value} {T : TypeId} (h : Put1 w w' g (.cells c T (0, 0))) (v : Value) : Put1 w (w'.setCell ⟨g, j, none⟩ v) g (.cells (c.setIfInBounds j v) T (0, 0)) :=
  ⟨h.os, h.tape, h.output, by have := h.size; simpa [World.setCell] using this, heap_setCell_same w' g j c T v h.same, fun k hk hne => by rw [heap_setCell_other w' _ k v hne]; exact h.other k hk hne⟩
theorem Put1.trans {w w1 w2 : World} {g : Nat} {o1 o2 : Obj} (h : Put1 w w1 g o1) (k : Put1 w1 w2 g o2) : Put1 w w2 g o2 :=
  ⟨k.os.trans h.os, k.tape.trans h.tape, k.output.trans h.output, Nat.le_trans h.size k.size, k.same, fun b hb hne => (k.other b (Nat.lt_of_lt_of_le hb h.size) hne).trans (h.other b hb hne)⟩
theorem Put1.upd {w w1 w2 : World} {g : Nat} {o1 o2 : Obj} (h : Put1 w w1 g o1) (k : Upd w1 w2 g o2) : Put1 w w2 g o2 :=
  ⟨k.os.trans h.os, k.tape.trans h.tape, k.output.trans h.output, by rw [k.size]; exact h.size, k.same, fun b hb hne => (k.other b hne).trans (h.other b hb hne)⟩
theorem Put1.drew {w w' : World} {g : Nat} {o : Obj} (h : Put1 w w' g o) : Put1 w w'.drew g o := ⟨h.os, h.tape, h.output, h.size, h.same, h.other⟩

set_option maxRecDepth 100000 in
set_option maxHeartbeats 1000000 in
theorem take_any (g : Nat) (made : Bool) (st rest : List Int) (n : Int) (T : TypeId) (w : World) (hst : st.length = 8) (hrest : rest.length = 64) (hr : ∀ j, 0 ≤ rest.getD j 0 ∧ rest.getD j 0 < 256)
    (hg : w.heap[g]? = some (.cells (hashCells made st rest n) T (0, 0))) :
    Calls Tryd.prog 82 #[.pointer (some ⟨g, 1, none⟩), .pointer (some ⟨g, 9, none⟩)] w fun e w' =>
      e = .returned (.tuple #[]) ∧ Put1 w w' g (.cells (hashCells made (blockOf st rest) rest n) T (0, 0)) := by
  have hgs : g < w.heap.size := blk_lt hg
  have hbytes : ∀ j, j < 64 → w.cell? ⟨g, 9 + j, none⟩ = some (.int .u8 (rest.getD j 0)) := fun j hj => blk_cell hg (hash_u8 hst j (by omega))
  go_enter Tryd.func82, Tryd.ntmps82
  have Hg := Lib.hid hg; have Hst := Lib.hid hst; have Hrest := Lib.hid hrest; have Hb := Lib.hid hbytes
  clear hg hst hrest hbytes
  go_wp2_with fail
  refine (schedule_any g 9 rest w Hb.out hr hgs).mono ?_
  rintro e w1 ⟨rfl, hb1⟩
  go_wp2_with fail
  refine (constants_any w1).mono ?_
  rintro e w2 ⟨rfl, hb2⟩
  have hg2 : g < w2.heap.size := Nat.lt_of_lt_of_le hgs (Nat.le_trans hb1.size hb2.size)
  have G2 : Hid (w2.heap[g]? = some (.cells (hashCells made st rest n) T (0, 0))) := by
    show _ = _
    rw [hb2.block g (Nat.lt_of_lt_of_le hgs hb1.size), hb1.block g hgs, Hg.out]
  have I64 : Hid ((Tryd.prog.info? 151).map (·.size) = some 64) := by show _ = _; kernel_rfl
  have IS : Hid ((Tryd.prog.info? 151).map (·.size) = some (ints .u32 (sched rest 64)).size) := by show _ = _; rw [ints_size, sched_length]; exact I64.out
  have IK : Hid ((Tryd.prog.info? 151).map (·.size) = some (ints .u32 ks).size) := I64
  have I8 : Hid ((Tryd.prog.info? 131).map (·.size) = some 8) := by show _ = _; kernel_rfl
  have I8' : Hid ((Tryd.prog.info? 131).map (·.size) = some (ints .u32 st).size) := by show _ = _; rw [ints_size, Hst.out]; exact I8.out
  have P1 : Hid (putRow (List.replicate 64 (Value.int .u32 0)).toArray 0 (ints .u32 (sched rest 64)).toList = ints .u32 (sched rest 64)) := by
    show _ = _; rw [putRow_all _ _ (by rw [Array.length_toList, ints_size, sched_length]; rfl)]
  have P2 : Hid (putRow (List.replicate 64 (Value.int .u32 0)).toArray 0 (ints .u32 ks).toList = ints .u32 ks) := by
    show _ = _; rw [putRow_all _ _ (by decide)]
  have P3 : Hid (putRow (List.replicate 8 (Value.int .u32 0)).toArray 0 (ints .u32 st).toList = ints .u32 st) := by
    show _ = _; rw [putRow_all _ _ (by rw [Array.length_toList, ints_size, Hst.out]; rfl)]
  have F1 : Hid (0 + (ints .u32 (sched rest 64)).size ≤ (List.replicate 64 (Value.int .u32 0)).toArray.size) := by show _ ≤ _; rw [ints_size, sched_length]; decide
  have F2 : Hid (0 + (ints .u32 ks).size ≤ (List.replicate 64 (Value.int .u32 0)).toArray.size) := by show _ ≤ _; decide
  have F3 : Hid (0 + (ints .u32 st).size ≤ (List.replicate 8 (Value.int .u32 0)).toArray.size) := by show _ ≤ _; rw [ints_size, Hst.out]; decide
  go_wp2_with (first
    | ((with_reducible refine at_store (.tmp 4) (.tmp 16) ?_); go_must (refine wpList_store_agg (cells := ints .u32 (sched rest 64)) rfl 151 (.tmp 4) (.tmp 16) rfl w2.heap.size 0 rfl rfl 151 (List.replicate 64 (Value.int .u32 0)).toArray (heap_alloc2_old w2 _ _) IS.out F1.out (ints_oneCell _ _) _ P1.out ?_; intro w3 hu3; have q : w2.heap.size + 1 ≠ w2.heap.size := Nat.succ_ne_self _; have q2 := hu3.other (w2.heap.size + 1) q; have K3 : Hid (w3.heap[w2.heap.size + 1]? = some (.cells (List.replicate 64 (Value.int .u32 0)).toArray 151 (0, 0))) := q2.trans (heap_alloc2_new w2 _ _); have G3 : Hid (w3.heap[g]? = some (.cells (hashCells made st rest n) T (0, 0))) := hu3.blk (blk_alloc (blk_alloc G2.out)) (by omega)))
    | ((with_reducible refine at_store (.tmp 5) (.tmp 17) ?_); go_must (refine wpList_store_agg (cells := ints .u32 ks) rfl 151 (.tmp 5) (.tmp 17) rfl (w2.heap.size + 1) 0 rfl rfl 151 (List.replicate 64 (Value.int .u32 0)).toArray K3.out IK.out F2.out (ints_oneCell _ _) _ P2.out ?_; intro w4 hu4; have G4 : Hid (w4.heap[g]? = some (.cells (hashCells made st rest n) T (0, 0))) := hu4.blk G3.out (by omega)))
    | ((with_reducible refine at_load 20 ?_); go_must (refine wpList_load_agg rfl 131 (.tmp 19) rfl g 1 rfl T (hashCells made st rest n) 8 _ G4.out Tryd.underlying131 rfl I8.out (by rw [hash_size Hst.out Hrest.out]; decide) (ints .u32 st) (hash_state Hst.out) ?_))
    | ((with_reducible refine at_store (.tmp 6) (.tmp 20) ?_); go_must (refine wpList_store_agg (cells := ints .u32 st) rfl 131 (.tmp 6) (.tmp 20) rfl w4.heap.size 0 rfl rfl 131 (List.replicate 8 (Value.int .u32 0)).toArray (blk_new w4 _) I8'.out F3.out (ints_oneCell _ _) _ P3.out ?_; intro w5 hu5; have G5 : Hid (w5.heap[g]? = some (.cells (hashCells made st rest n) T (0, 0))) := hu5.blk (blk_alloc G4.out) (by have := hu4.size; have := hu3.size; simp at this; omega))))
  have s3 := hu3.size; have s4 := hu4.size; simp at s3
  have S5 : w5.heap[w2.heap.size]? = some (.cells (ints .u32 (sched rest 64)) 151 (0, 0)) := hu5.blk (blk_alloc (hu4.blk hu3.same (by omega))) (by omega)
  have K5 : w5.heap[w2.heap.size + 1]? = some (.cells (ints .u32 ks) 151 (0, 0)) := hu5.blk (blk_alloc hu4.same) (by omega)
  have V5 := hu5.same
  have B5 : Below w.heap.size w w5 := by
    have z1 := hb1.size; have z2 := hb2.size
    exact (((((hb1.trans (hb2.mono z1)).alloc (by omega) _).alloc (by simp; omega) _).trans (hu3.below (by omega))).trans (hu4.below (by omega))).alloc (by omega) _ |>.trans (hu5.below (by omega))
  have hC : w.heap.size ≤ w2.heap.size := Nat.le_trans hb1.size hb2.size
  have hD : w2.heap.size + 2 ≤ w4.heap.size := by omega
  have hGC : g < w2.heap.size := hg2
  clear hu3 hu4 hu5 q q2 K3 G3 G4 s3 s4 P1 P2 P3 F1 F2 F3 IS IK I8 I8' I64 G2 hb1 hb2 hg2
  generalize w4.heap.size = D at *
  generalize w2.heap.size = C at *
  go_loopw [21] (fun i wr => ∃ t : Nat, t ≤ 64 ∧ i = .int .i64 t ∧ wr.heap[D]? = some (.cells (ints .u32 (rounds st (sched rest 64) t)) 131 (0, 0)) ∧ wr.heap[C]? = some (.cells (ints .u32 (sched rest 64)) 151 (0, 0)) ∧ wr.heap[C + 1]? = some (.cells (ints .u32 ks) 151 (0, 0)) ∧ Below w.heap.size w wr)
    (fun i _ => 64 - (intOf i).toNat)
  case atStart => exact ⟨0, by omega, rfl, V5, S5, K5, B5⟩
  case round =>
    clear G5 V5 S5 K5 B5
    obtain ⟨t, ht, rfl, hV, hS, hK, hbel⟩ := hrel
    by_cases hlt : t < 64
    · have hw := blk_int hS t (by rw [sched_length]; omega)
      have hk := blk_int hK t (by exact hlt)
      have hVl := rounds_length st (sched rest 64) Hst.out t
      have HN : Hid (rounds st (sched rest 64) (t + 1) = rnd (rounds st (sched rest 64) t) (ks[t]?.getD 0) ((sched rest 64)[t]?.getD 0)) := rfl
      generalize rounds st (sched rest 64) t = V at *
      obtain ⟨a0, a1, a2, a3, a4, a5, a6, a7, rfl⟩ := eight V hVl
      have v0 : wr.cell? ⟨D, 0, none⟩ = some (.int .u32 a0) := blk_int hV 0 (by simp)
      have v1 : wr.cell? ⟨D, 1, none⟩ = some (.int .u32 a1) := blk_int hV 1 (by simp)
      have v2 : wr.cell? ⟨D, 2, none⟩ = some (.int .u32 a2) := blk_int hV 2 (by simp)
      have v3 : wr.cell? ⟨D, 3, none⟩ = some (.int .u32 a3) := blk_int hV 3 (by simp)
      have v4 : wr.cell? ⟨D, 4, none⟩ = some (.int .u32 a4) := blk_int hV 4 (by simp)
      have v5 : wr.cell? ⟨D, 5, none⟩ = some (.int .u32 a5) := blk_int hV 5 (by simp)
      have v6 : wr.cell? ⟨D, 6, none⟩ = some (.int .u32 a6) := blk_int hV 6 (by simp)
      have v7 : wr.cell? ⟨D, 7, none⟩ = some (.int .u32 a7) := blk_int hV 7 (by simp)
      have sl1 := arr_slice_l Tryd.underlying131 Tryd.sizeOf129 D 0 1 (by omega) .i64 1 rfl
      have sl2 := arr_slice_h Tryd.underlying131 Tryd.sizeOf129 D 0 7 (by omega) .i64 7 rfl
      simp only [show ¬ (8 : Nat) = 1 by decide, if_false, Nat.reduceSub, Nat.reduceAdd] at sl1
      have I1 : Hid ((Tryd.prog.info? 129).map (·.size) = some 1) := by show _ = _; kernel_rfl
      have HS := Lib.hid hS; have HK := Lib.hid hK; have HV := Lib.hid hV
      clear hVl hS hK hV Hb
      go_wp2
      go_quiet (fail)
      go_wp2
      go_quiet ((go_at_call 88; exact quiet2 (turned_any _ _ (by omega) (by omega) _)))
      go_wp2_with (go_at_call 88; refine (turned_any _ _ (by omega) (by omega) _).mono ?_; rintro e w' ⟨rfl, rfl⟩)
      go_region_law (refine step_copy_upd rfl (.tmp 81) (.tmp 82) 155 155 rfl 129 Tryd.underlying155 I1.out D 1 ⟨D, 0, none⟩ 7 7 7 8 rfl rfl (ints .u32 [a0, a1, a2, a3, a4, a5, a6, a7]) 131 HV.out ([a0, a1, a2, a3, a4, a5, a6].map (Value.int .u32)) rfl (copy_src HV.out 0 7) (by simp [ints]) (oneCell_map_int _ _) ?_; intro w6 hu6)
      all_goals
        have e6 : w6.heap[D]? = some (.cells (ints .u32 [a0, a0, a1, a2, a3, a4, a5, a6]) 131 (0, 0)) := hu6.same
        have x4 : w6.cell? ⟨D, 4, none⟩ = some (.int .u32 a3) := blk_int e6 4 (by simp)
        have x0 : w6.cell? ⟨D, 0, none⟩ = some (.int .u32 a0) := blk_int e6 0 (by simp)
        have y4 := blk_frozen 4 e6
        have y0 := blk_frozen 0 e6
        have E6 := Lib.hid e6
        clear e6
        go_wp2
        go_roundw
        case rel =>
          refine ⟨t + 1, by omega, by go_num, ?_, ?_, ?_, ?_⟩
          · rw [HN.out]; exact blk_set (blk_set E6.out 4 _) 0 _
          · exact blk_other (blk_other (hu6.blk HS.out (by omega)) (by show C ≠ D; omega)) (by show C ≠ D; omega)
          · exact blk_other (blk_other (hu6.blk HK.out (by omega)) (by show C + 1 ≠ D; omega)) (by show C + 1 ≠ D; omega)
          · exact ((((drewN_below hbel _).drew).trans (hu6.below (by omega))).setCell (by show _ ≤ D; omega) _).setCell (by show _ ≤ D; omega) _
        case measure => simp [intOf]; omega
    · obtain rfl : t = 64 := by omega
      have hVl := rounds_length st (sched rest 64) Hst.out 64
      have HF : Hid (blockOf st rest = addAll st (rounds st (sched rest 64) 64) 8) := rfl
      generalize rounds st (sched rest 64) 64 = V at *
      have P0 : Put1 w wr g (.cells (hashCells made (addAll st V 0) rest n) T (0, 0)) := ⟨hbel.os, hbel.tape, hbel.output, hbel.size, by rw [hbel.block g hgs]; exact Hg.out, fun k hk _ => hbel.block k hk⟩
      have HVl := Lib.hid hVl
      have HV := Lib.hid hV
      clear hVl hV hS hK Hb hbel Hg
      go_wp2
      go_loopw [94] (fun i ws => ∃ j : Nat, j ≤ 8 ∧ i = .int .i64 j ∧ ws.heap[D]? = some (.cells (ints .u32 V) 131 (0, 0)) ∧ Put1 w ws g (.cells (hashCells made (addAll st V j) rest n) T (0, 0)))
        (fun i _ => 8 - (intOf i).toNat)
      case atStart => exact ⟨0, by omega, rfl, HV.out, P0⟩
      case round =>
        obtain ⟨j, hj, rfl, hV, hP⟩ := hrel
        by_cases hlt : j < 8
        · have cv := blk_int hV j (by rw [HVl.out]; exact hlt)
          have hl := addAll_length st V j
          have cs := blk_cell hP.same (hash_u32 (made := made) (rest := rest) (n := n) (st := addAll st V j) j (by rw [hl, Hst.out]; exact hlt))
          have cf := blk_frozen (1 + j) hP.same
          have Hl := Lib.hid hl
          have HVj := Lib.hid hV
          clear hl hV P0 HV
          go_wp2
          go_region
          all_goals
            go_wp2
            go_roundw
            case rel =>
              refine ⟨j + 1, by omega, by go_num, blk_other HVj.out (by show D ≠ g; omega), ?_⟩
              have := (hP.setCell (j := 1 + j) (.int .u32 (((addAll st V j)[j]?.getD 0 + V[j]?.getD 0) % 4294967296))).drew
              rw [hash_set j (by rw [Hl.out, Hst.out]; exact hlt)] at this
              exact this
            case measure => simp [intOf]; omega
        · obtain rfl : j = 8 := by omega
          go_wp2
          go_end0
          exact ⟨rfl, by rw [HF.out]; exact hP⟩
end Go.Proofs.YtoompcgdhokdlaaDoor

set_option linter.unusedSimpArgs false
set_option linter.unusedVariables false
namespace Go.Proofs.YtoompcgdhokdlaaDoor
open Go.RowKit

/-- A slice of bytes reads so, in a block other than g. -/
def RdX (w : World) (g : Nat) (A : Option Addr) (n : Nat) (bs : List Int) : Prop :=
  bs.length = n ∧ (0 < n → ∃ b o, A = some ⟨b, o, none⟩ ∧ b ≠ g ∧ b < w.heap.size ∧ ∀ j, j < n → w.cell? ⟨b, o + j, none⟩ = some (.int .u8 (bs.getD j 0)))
theorem RdX.put1 {w w' : World} {g : Nat} {A : Option Addr} {n : Nat} {bs : List Int} {o : Obj} (h : RdX w g A n bs) (hp : Put1 w w' g o) : RdX w' g A n bs :=
  ⟨h.1, fun hn => by
    obtain ⟨b, o, e, hne, hlt, hc⟩ := h.2 hn
    exact ⟨b, o, e, hne, Nat.lt_of_lt_of_le hlt hp.size, fun j hj => by rw [World.cell?_of_block (w := w) (hp.other b hlt hne)]; exact hc j hj⟩⟩
theorem RdX.upd {w w' : World} {g : Nat} {A : Option Addr} {n : Nat} {bs : List Int} {o : Obj} (h : RdX w g A n bs) (hp : Upd w w' g o) : RdX w' g A n bs :=
  ⟨h.1, fun hn => by
    obtain ⟨b, o, e, hne, hlt, hc⟩ := h.2 hn
    exact ⟨b, o, e, hne, by rw [hp.size]; exact hlt, fun j hj => by rw [World.cell?_of_block (w := w) (hp.other b hne)]; exact hc j hj⟩⟩
theorem RdX.drop {w : World} {g : Nat} {A : Option Addr} {n : Nat} {bs : List Int} (h : RdX w g A n bs) (k cap : Nat) (hk : k ≤ n) (hnc : n ≤ cap) : RdX w g (if cap = k then A else A.map (·.add k)) (n - k) (bs.drop k) :=
  ⟨by rw [List.length_drop, h.1], fun hn => by
    obtain ⟨b, o, e, hne, hlt, hc⟩ := h.2 (by omega)
    refine ⟨b, o + k, ?_, hne, hlt, fun j hj => ?_⟩
    · rw [if_neg (by omega), e]; simp [addr_add]
    · have := hc (k + j) (by omega)
      rw [Nat.add_assoc, this]
      simp [List.getD_eq_getElem?_getD]⟩

/-- A hash's state: the words, the bytes that wait, how many there were. -/
structure Hs where
  st : List Int
  rest : List Int
  n : Nat
def absorb (h : Hs) (c : Int) : Hs :=
  { st := if (h.n + 1) % 64 = 0 then blockOf h.st (h.rest.set (h.n % 64) c) else h.st, rest := h.rest.set (h.n % 64) c, n := h.n + 1 }
def absorbs (h : Hs) (bs : List Int) : Hs := bs.foldl absorb h
def over (r : List Int) (off : Nat) (cs : List Int) : List Int := r.take off ++ cs ++ r.drop (off + cs.length)
theorem over_nil (r : List Int) (off : Nat) : over r off [] = r := by simp [over]
theorem over_length (r : List Int) (off : Nat) (cs : List Int) (h : off + cs.length ≤ r.length) : (over r off cs).length = r.length := by simp [over]; omega
theorem over_cons (r : List Int) (off : Nat) (c : Int) (cs : List Int) (h : off + cs.length + 1 ≤ r.length) : over r off (c :: cs) = over (r.set off c) (off + 1) cs := by
  apply List.ext_getElem?
  intro k
  simp only [over, List.getElem?_append, List.getElem?_take, List.getElem?_drop, List.length_append, List.length_take, List.length_cons, List.length_set, List.getElem?_set, List.getElem?_cons]
  repeat' split
  all_goals first | rfl | omega | (congr 1; omega) | (simp_all; done)
theorem absorb_chunk (cs : List Int) : ∀ (h : Hs), 0 < cs.length → h.n % 64 + cs.length ≤ 64 → h.rest.length = 64 →
    absorbs h cs = { st := if (h.n + cs.length) % 64 = 0 then blockOf h.st (over h.rest (h.n % 64) cs) else h.st, rest := over h.rest (h.n % 64) cs, n := h.n + cs.length } := by
  induction cs with
  | nil => intro h h0; simp at h0
  | cons c cs ih =>
    intro h _ h1 h2
    simp only [List.length_cons] at h1
    rcases Nat.eq_zero_or_pos cs.length with h3 | h3
    · obtain rfl : cs = [] := List.eq_nil_of_length_eq_zero h3
      simp only [absorbs, List.foldl_cons, List.foldl_nil, absorb, List.length_cons, List.length_nil, Nat.zero_add]
      rw [over_cons _ _ _ _ (by simp; omega), over_nil]
    · have h4 : ¬ (h.n + 1) % 64 = 0 := by omega
      have h5 : (h.n + 1) % 64 = h.n % 64 + 1 := by omega
      have e : absorbs h (c :: cs) = absorbs (absorb h c) cs := rfl
      have e2 : absorb h c = { st := h.st, rest := h.rest.set (h.n % 64) c, n := h.n + 1 } := by simp only [absorb, if_neg h4]
      rw [e, e2, ih _ h3 (by simp only [h5]; omega) (by simp [h2])]
      simp only [h5, List.length_cons]
      rw [over_cons _ _ _ _ (by omega), show h.n + 1 + cs.length = h.n + (cs.length + 1) by omega]
theorem absorbs_append (h : Hs) (a b : List Int) : absorbs h (a ++ b) = absorbs (absorbs h a) b := by simp [absorbs]
theorem absorbs_rest (bs : List Int) : ∀ (h : Hs), h.rest.length = 64 → (absorbs h bs).rest.length = 64 := by
  induction bs with
  | nil => intro h h1; exact h1
  | cons c bs ih => intro h h1; exact ih (absorb h c) (by simp [absorb, h1])
theorem blockOf_length (st bs : List Int) : (blockOf st bs).length = st.length := addAll_length _ _ _
theorem absorbs_st (bs : List Int) : ∀ (h : Hs), h.st.length = 8 → (absorbs h bs).st.length = 8 := by
  induction bs with
  | nil => intro h h1; exact h1
  | cons c bs ih => intro h h1; exact ih (absorb h c) (by simp only [absorb]; split <;> simp [blockOf_length, h1])
theorem absorbs_n (bs : List Int) : ∀ (h : Hs), (absorbs h bs).n = h.n + bs.length := by
  induction bs with
  | nil => intro h; rfl
  | cons c bs ih => intro h; have := ih (absorb h c); simp only [absorb] at this; simp only [absorbs, List.foldl_cons, List.length_cons] at this ⊢; rw [show h.n + (bs.length + 1) = h.n + 1 + bs.length by omega]; exact this
def IsB (l : List Int) : Prop := ∀ j, 0 ≤ l.getD j 0 ∧ l.getD j 0 < 256
theorem IsB.set {l : List Int} (h : IsB l) (i : Nat) {c : Int} (hc : 0 ≤ c ∧ c < 256) : IsB (l.set i c) := by
  intro j
  have := h j
  simp only [List.getD_eq_getElem?_getD, List.getElem?_set] at this ⊢
  split
  · split
    · exact hc
    · exact ⟨by decide, by decide⟩
  · exact this
theorem IsB.tail {c : Int} {l : List Int} (h : IsB (c :: l)) : IsB l := fun j => h (j + 1)
theorem absorbs_isB (bs : List Int) : ∀ (h : Hs), IsB h.rest → IsB bs → IsB (absorbs h bs).rest := by
  induction bs with
  | nil => intro h h1 _; exact h1
  | cons c bs ih => intro h h1 h2; exact ih (absorb h c) (h1.set _ (h2 0)) h2.tail
theorem hash_get {made : Bool} {st rest : List Int} {n : Int} (hst : st.length = 8) (k : Nat) :
    (hashCells made st rest n)[k]? = if k = 0 then some (.bool made) else if k < 9 then (st[k - 1]?).map (Value.int .u32) else if k < 9 + rest.length then (rest[k - 9]?).map (Value.int .u8) else if k = 9 + rest.length then some (.int .u64 n) else none := by
  simp only [hashCells, List.getElem?_toArray]
  cases k with
  | zero => simp
  | succ k =>
    simp only [List.getElem?_cons_succ, Nat.add_sub_cancel, List.append_assoc]
    rw [if_neg (by omega)]
    by_cases h1 : k + 1 < 9
    · rw [if_pos h1, List.getElem?_append_left (by simp; omega), List.getElem?_map]
    · rw [if_neg h1, List.getElem?_append_right (by simp; omega), List.length_map, hst]
      by_cases h2 : k + 1 < 9 + rest.length
      · rw [if_pos h2, List.getElem?_append_left (by simp; omega), List.getElem?_map, show k - 8 = k + 1 - 9 by omega]
      · rw [if_neg h2, List.getElem?_append_right (by simp; omega), List.length_map]
        by_cases h3 : k + 1 = 9 + rest.length
        · rw [if_pos h3, show k - 8 - rest.length = 0 by omega]; rfl
        · rw [if_neg h3, List.getElem?_eq_none (by simp; omega)]
theorem hash_over {made : Bool} {st rest : List Int} {n : Int} (hst : st.length = 8) (off : Nat) (cs : List Int) (h : off + cs.length ≤ rest.length) :
    putRow (hashCells made st rest n) (9 + off) (cs.map (Value.int .u8)) = hashCells made st (over rest off cs) n := by
  apply Array.ext_getElem?
  intro k
  rw [putRow_get, hash_get hst, hash_get hst, over_length _ _ _ h, List.length_map]
  have hsz : (hashCells made st rest n).size = 10 + rest.length := by simp [hashCells, hst]; omega
  rw [hsz]
  by_cases h1 : 9 + off ≤ k ∧ k < 9 + off + cs.length
  · rw [if_pos (by omega), if_neg (by omega), if_neg (by omega), if_pos (by omega), over]
    rw [List.getElem?_append_left (by simp; omega), List.getElem?_append_right (by simp; omega), List.getElem?_map]
    congr 2
    simp
    omega
  · rw [if_neg (by omega)]
    by_cases h2 : k = 0
    · rw [if_pos h2, if_pos h2]
    · rw [if_neg h2, if_neg h2]
      by_cases h3 : k < 9
      · rw [if_pos h3, if_pos h3]
      · rw [if_neg h3, if_neg h3]
        by_cases h4 : k < 9 + rest.length
        · rw [if_pos h4, if_pos h4]
          congr 1
          rw [over]
          by_cases h5 : k < 9 + off
          · rw [List.append_assoc, List.getElem?_append_left (by simp; omega), List.getElem?_take, if_pos (by omega)]
          · rw [List.getElem?_append_right (by simp; omega), List.getElem?_drop]
            congr 1
            simp
            omega
        · rw [if_neg h4, if_neg h4]
theorem hash_setn {made : Bool} {st rest : List Int} {n : Int} (hst : st.length = 8) (hr : rest.length = 64) (x : Int) : (hashCells made st rest n).setIfInBounds 73 (.int .u64 x) = hashCells made st rest x := by
  apply Array.ext_getElem?
  intro k
  rw [Array.getElem?_setIfInBounds, hash_get hst, hash_get hst, hash_size hst hr, hr]
  by_cases h1 : 73 = k
  · subst h1
    simp
  · rw [if_neg h1]
    by_cases h2 : k = 0
    · rw [if_pos h2, if_pos h2]
    · rw [if_neg h2, if_neg h2]
      by_cases h3 : k < 9
      · rw [if_pos h3, if_pos h3]
      · rw [if_neg h3, if_neg h3]
        by_cases h4 : k < 9 + 64
        · rw [if_pos h4, if_pos h4]
        · rw [if_neg h4, if_neg h4, if_neg (by omega), if_neg (by omega)]
end Go.Proofs.YtoompcgdhokdlaaDoor

set_option linter.unusedSimpArgs false
set_option linter.unusedVariables false
namespace Go.Proofs.YtoompcgdhokdlaaDoor
open Go.RowKit

def sliceLen : Value → Nat | .slice _ n _ => n | _ => 0
def hsCells (h : Hs) : Array Value := hashCells true h.st h.rest h.n

theorem isB_take {l : List Int} (h : IsB l) (n : Nat) : IsB (l.take n) := by
  intro j
  have := h j
  simp only [List.getD_eq_getElem?_getD, List.getElem?_take] at this ⊢
  split
  · exact this
  · exact ⟨by decide, by decide⟩
theorem isB_drop {l : List Int} (h : IsB l) (n : Nat) : IsB (l.drop n) := by
  intro j
  have := h (n + j)
  simp only [List.getD_eq_getElem?_getD, List.getElem?_drop] at this ⊢
  exact this
theorem isB_append {a b : List Int} (h : IsB a) (k : IsB b) : IsB (a ++ b) := by
  intro j
  have h1 := h j; have h2 := k (j - a.length)
  simp only [List.getD_eq_getElem?_getD, List.getElem?_append] at h1 h2 ⊢
  split <;> assumption
theorem isB_over {r cs : List Int} (h : IsB r) (off : Nat) (k : IsB cs) (_hl : off + cs.length ≤ r.length) : IsB (over r off cs) :=
  isB_append (isB_append (isB_take h off) k) (isB_drop h _)
theorem upd_setCell {w : World} {g : Nat} {c : Array Value} {T : TypeId} (h : w.heap[g]? = some (.cells c T (0, 0))) (j : Nat) (v : Value) : Upd w (w.setCell ⟨g, j, none⟩ v) g (.cells (c.setIfInBounds j v) T (0, 0)) :=
  ⟨rfl, rfl, rfl, by simp [World.setCell], heap_setCell_same w g j c T v h, fun k hk => heap_setCell_other w _ k v hk⟩

set_option maxRecDepth 100000 in
set_option maxHeartbeats 2000000 in
theorem write_any (g : Nat) (h : Hs) (A : Option Addr) (n cap : Nat) (bs : List Int) (T : TypeId) (w : World) (hst : h.st.length = 8) (hrest : h.rest.length = 64) (hB : IsB h.rest) (hbs : IsB bs)
    (hrd : RdX w g A n bs) (hcap : n ≤ cap) (hbig : h.n + n ≤ 4611686018427387904) (hg : w.heap[g]? = some (.cells (hsCells h) T (0, 0))) :
    Calls Tryd.prog 71 #[.pointer (some ⟨g, 0, none⟩), .slice A n cap] w fun e w' =>
      e = .returned (.tuple #[]) ∧ Put1 w w' g (.cells (hsCells (absorbs h bs)) T (0, 0)) := by
  have hgs : g < w.heap.size := blk_lt hg
  have c0 : w.cell? ⟨g, 0, none⟩ = some (.bool true) := blk_cell hg rfl
  have P0 : Put1 w w g (.cells (hsCells h) T (0, 0)) := ⟨rfl, rfl, rfl, Nat.le_refl _, hg, fun _ _ _ => rfl⟩
  have Hst := Lib.hid hst; have Hrest := Lib.hid hrest; have HB := Lib.hid hB; have Hbs := Lib.hid hbs; have Hrd := Lib.hid hrd; have HP0 := Lib.hid P0
  have Hln := Lib.hid hrd.1
  clear hst hrest hB hbs hrd P0 hg
  go_enter Tryd.func71, Tryd.ntmps71
  go_wp2
  clear c0
  go_loopw [1, 4] (fun b k wr => ∃ i : Nat, i ≤ n ∧ ∃ A' : Option Addr, b = .slice A' (n - i) (cap - i) ∧ RdX wr g A' (n - i) (bs.drop i) ∧ Put1 w wr g (.cells (hsCells (absorbs h (bs.take i))) T (0, 0)))
    (fun b _ _ => sliceLen b)
  case atStart => exact ⟨0, by omega, A, rfl, Hrd.out, HP0.out⟩
  case round =>
    obtain ⟨i, hi, A', rfl, hR, hP⟩ := hrel
    by_cases hlt : i < n
    · have hl1 := absorbs_st (bs.take i) h Hst.out
      have hl2 := absorbs_rest (bs.take i) h Hrest.out
      have hn : (absorbs h (bs.take i)).n = h.n + i := by rw [absorbs_n, List.length_take, Hln.out]; omega
      have hHB := absorbs_isB (bs.take i) h HB.out (isB_take Hbs.out i)
      generalize hK : absorbs h (bs.take i) = K at *
      have HK := Lib.hid hK; clear hK
      have hN : K.n ≤ 4611686018427387904 - (n - i) := by omega
      have c73 : wr.cell? ⟨g, 73, none⟩ = some (.int .u64 K.n) := blk_cell hP.same (hash_n hl1 hl2)
      have f73 := blk_frozen 73 hP.same
      have hm : K.n % 64 < 64 := Nat.mod_lt _ (by decide)
      have H1 := Lib.hid hl1; have H2 := Lib.hid hl2; have H3 := Lib.hid hn; have H4 := Lib.hid hHB
      clear hl1 hl2 hn hHB
      obtain ⟨b, o, rfl, hne, hblt, hcell⟩ := hR.2 (by omega)
      have hRl := hR.1
      have sl4 := arr_slice_l Tryd.underlying133 Tryd.sizeOf5 g 9 (K.n % 64) (by omega) .u64 ((K.n : Int).tmod 64) (by rw [Int.tmod_eq_emod_of_nonneg (by omega)]; omega)
      have ne64 : ¬ (64 : Nat) = K.n % 64 := by omega
      simp only [ne64, if_false] at sl4
      clear ne64
      obtain ⟨CS, hCS⟩ : ∃ CS, CS = (bs.drop i).take (Nat.min (n - i) (64 - K.n % 64)) := ⟨_, rfl⟩
      have hcl : CS.length = Nat.min (n - i) (64 - K.n % 64) := by rw [hCS, List.length_take, hRl]; simp only [Nat.min_def]; split <;> split <;> omega
      have hc1 : CS.length ≤ n - i := by rw [hcl]; exact Nat.min_le_left _ _
      have hc2 : K.n % 64 + CS.length ≤ 64 := by have h' : CS.length = min (n - i) (64 - K.n % 64) := hcl; omega
      have hc3 : 0 < CS.length := by have h' : CS.length = min (n - i) (64 - K.n % 64) := hcl; omega
      have hsrc : ∀ j v, (CS.map (Value.int .u8))[j]? = some v → wr.cell? ((⟨b, o, none⟩ : Addr).add j) = some v := by
        intro j v hv
        have hj : j < CS.length := by have := (List.getElem?_eq_some_iff.1 hv).1; simpa using this
        rw [addr_add, hcell j (by omega), ← hv, hCS]
        rw [hCS] at hj
        simp only [List.length_take] at hj
        simp only [List.getElem?_map, List.getElem?_take, List.getD_eq_getElem?_getD]
        rw [if_pos (by omega), List.getElem?_eq_getElem (by omega)]
        rfl
      have hfit : 9 + K.n % 64 + (CS.map (Value.int .u8)).length ≤ (hsCells K).size := by rw [List.length_map]; show _ ≤ (hashCells _ _ _ _).size; rw [hash_size H1.out H2.out]; omega
      have hlen : (CS.map (Value.int .u8)).length = Nat.min (n - i) (64 - K.n % 64) := by rw [List.length_map, hcl]
      have I1 : Hid ((Tryd.prog.info? 5).map (·.size) = some 1) := by show _ = _; kernel_rfl
      have hHB2 : IsB (over K.rest (K.n % 64) CS) := isB_over H4.out _ (by rw [hCS]; exact isB_take (isB_drop Hbs.out i) _) (by rw [H2.out]; omega)
      have hab : absorbs h (bs.take (i + CS.length)) = { st := if (K.n + CS.length) % 64 = 0 then blockOf K.st (over K.rest (K.n % 64) CS) else K.st, rest := over K.rest (K.n % 64) CS, n := K.n + CS.length } := by
        rw [← absorb_chunk CS K hc3 hc2 H2.out, ← HK.out, ← absorbs_append, List.take_add]
        congr 2
        have e : CS.length = Nat.min (n - i) (64 - K.n % 64) := hcl
        rw [e, hCS]
      have hA2 := hR.drop CS.length (cap - i) hc1 (by omega)
      have sl5 := sl_l Tryd.underlying33 Tryd.sizeOf5 (some ⟨b, o, none⟩) (n - i) (cap - i) CS.length hc1 .i64 (CS.length : Int) rfl
      generalize hA2e : (if cap - i = CS.length then some (⟨b, o, none⟩ : Addr) else Option.map (fun x : Addr => x.add CS.length) (some (⟨b, o, none⟩ : Addr))) = A2 at *
      have HA2 := Lib.hid hA2; have Hab := Lib.hid hab; have HHB2 := Lib.hid hHB2
      clear hA2 hA2e hab hHB2
      have HCS := Lib.hid hCS; have Hcl := Lib.hid hcl; have Hsrc := Lib.hid hsrc; have Hfit := Lib.hid hfit; have Hlen := Lib.hid hlen
      have hPs := Lib.hid hP.same; have HR := Lib.hid hR
      clear hCS hcl hsrc hfit hlen hcell hRl hR
      go_wp2
      go_region_law (refine step_copy_upd rfl (.tmp 30) (.tmp 31) 33 33 rfl 5 Tryd.underlying33 I1.out g (9 + K.n % 64) ⟨b, o, none⟩ (64 - K.n % 64) (64 - K.n % 64) (n - i) (cap - i) rfl rfl (hsCells K) T hPs.out (CS.map (Value.int .u8)) Hlen.out Hsrc.out Hfit.out (oneCell_map_int _ _) ?_; intro w6 hu6)
      all_goals
        have e6 : w6.heap[g]? = some (.cells (hashCells true K.st (over K.rest (K.n % 64) CS) K.n) T (0, 0)) := by
          have := hu6.same
          rw [hsCells, hash_over H1.out _ _ (by rw [H2.out]; omega)] at this
          exact this
        have hol : (over K.rest (K.n % 64) CS).length = 64 := by rw [over_length _ _ _ (by rw [H2.out]; omega)]; exact H2.out
        have c73' : w6.cell? ⟨g, 73, none⟩ = some (.int .u64 K.n) := blk_cell e6 (hash_n H1.out hol)
        have f73' := blk_frozen 73 e6
        have e7 : (w6.setCell ⟨g, 73, none⟩ (.int .u64 ((K.n : Int) + CS.length))).heap[g]? = some (.cells (hashCells true K.st (over K.rest (K.n % 64) CS) ((K.n : Int) + CS.length)) T (0, 0)) := by
          rw [heap_setCell_same w6 g 73 _ T _ e6, hash_setn H1.out hol]
        have p6 : Put1 w w6 g _ := hP.drew.upd hu6
        have r6 : RdX w6 g A2 (n - i - CS.length) ((bs.drop i).drop CS.length) := RdX.upd (w := wr.drew) HA2.out hu6
        have p7 := p6.setCell (j := 73) (.int .u64 ((K.n : Int) + CS.length))
        have r7 : RdX (w6.setCell ⟨g, 73, none⟩ (.int .u64 ((K.n : Int) + CS.length))) g A2 (n - i - CS.length) ((bs.drop i).drop CS.length) := r6.upd (upd_setCell e6 73 _)
        have E7 := Lib.hid e7; have Hol := Lib.hid hol; have P7 := Lib.hid p7; have R7 := Lib.hid r7
        clear e6 e7 hol c73 f73 p6 p7 r6 r7 hP hu6
        by_cases hz : (K.n + CS.length) % 64 = 0
        · have hz1 : (((K.n : Int) + CS.length) % 64 == 0) = true := by rw [beq_iff_eq]; omega
          have Hz := Lib.hid hz; clear hz
          go_wp2
          go_region_with ((go_at_call 82; refine (take_any g true K.st (over K.rest (K.n % 64) CS) ((K.n : Int) + CS.length) T _ H1.out Hol.out HHB2.out ?_).mono ?_; exact E7.out; rintro e w7 ⟨rfl, hp7⟩))
          all_goals
            go_wp2
            go_roundw
            case rel =>
              refine ⟨i + CS.length, by omega, A2, by rw [Nat.sub_sub, Nat.sub_sub], ?_, ?_⟩
              · have := RdX.put1 (w := (w6.setCell ⟨g, 73, none⟩ (.int .u64 ((K.n : Int) + CS.length))).drew) R7.out hp7
                rw [Nat.sub_sub, List.drop_drop] at this
                exact this
              · have := Put1.trans (w1 := (w6.setCell ⟨g, 73, none⟩ (.int .u64 ((K.n : Int) + CS.length))).drew) P7.out.drew hp7
                rw [Hab.out, if_pos Hz.out]
                exact this
            case measure => simp [sliceLen]; omega
        · have hz1 : (((K.n : Int) + CS.length) % 64 == 0) = false := by rw [beq_eq_false_iff_ne]; omega
          have Hz := Lib.hid hz; clear hz
          go_wp2
          go_roundw
          case rel =>
            refine ⟨i + CS.length, by omega, A2, by rw [Nat.sub_sub, Nat.sub_sub], ?_, ?_⟩
            · have := R7.out
              rw [Nat.sub_sub, List.drop_drop] at this
              exact this
            · rw [Hab.out, if_neg Hz.out]
              have := P7.out
              rw [hsCells, hash_over H1.out _ _ (by rw [H2.out]; omega), hash_setn H1.out Hol.out] at this
              exact this
          case measure => simp [sliceLen]; omega
    · obtain rfl : i = n := by omega
      have hz : i - i = 0 := by omega
      go_wp2
      go_end0
      refine ⟨rfl, ?_⟩
      have := hP
      rw [List.take_of_length_le (by rw [Hln.out]; exact Nat.le_refl _)] at this
      exact this
end Go.Proofs.YtoompcgdhokdlaaDoor

set_option linter.unusedSimpArgs false
set_option linter.unusedVariables false
namespace Go.Proofs.YtoompcgdhokdlaaDoor
open Go.RowKit

def hs0 : Hs := { st := iv, rest := List.replicate 64 0, n := 0 }
theorem hash_oneCell (made : Bool) (st rest : List Int) (n : Int) : ∀ v ∈ (hashCells made st rest n).toList, v.oneCell' = true := by
  intro v hv
  simp only [hashCells, List.mem_cons, List.mem_append, List.mem_map, List.mem_singleton, List.not_mem_nil, or_false] at hv
  rcases hv with rfl | (⟨x, _, rfl⟩ | ⟨x, _, rfl⟩) | rfl <;> rfl
def Stop (p : Prop) : Prop := p
theorem stop_here {p : Prop} (h : Stop p) : p := h
theorem isB_zeros (n : Nat) : IsB (List.replicate n 0) := by
  intro j
  simp only [List.getD_eq_getElem?_getD, List.getElem?_replicate]
  split <;> exact ⟨by decide, by decide⟩
theorem isB_one {c : Int} (h : 0 ≤ c ∧ c < 256) : IsB [c] := by
  intro j
  match j with
  | 0 => exact h
  | j + 1 => exact ⟨by simp, by simp⟩

set_option maxRecDepth 100000 in
set_option maxHeartbeats 600000 in
theorem new_any (w : World) :
    Calls Tryd.prog 70 #[] w fun e w' => ∃ B, e = .returned (.pointer (some ⟨B, 0, none⟩)) ∧ w.heap.size ≤ B ∧ w'.heap[B]? = some (.cells (hsCells hs0) 135 (0, 0)) ∧ Below w.heap.size w w' := by
  go_enter Tryd.func70, Tryd.ntmps70
  go_wp2_with fail
  refine (begin_any w).mono ?_
  rintro e w1 ⟨rfl, hb1⟩
  go_wp2_with (first
    | ((with_reducible refine at_build 2 ?_); go_must (refine wpList_build_val rfl 135 _ rfl (hsCells hs0) (by kernel_rfl) ?_)))
  go_ret
  exact ⟨w1.heap.size, rfl, hb1.size, blk_new w1 _, hb1.alloc hb1.size _⟩

theorem rdX_one {w : World} {g b : Nat} {c : Int} (hne : b ≠ g) (hbl : b < w.heap.size) (hcell : w.cell? ⟨b, 0, none⟩ = some (.int .u8 c)) : RdX w g (some ⟨b, 0, none⟩) 1 [c] := by
  refine ⟨rfl, fun _ => ⟨b, 0, rfl, hne, hbl, fun j hj => ?_⟩⟩
  have hj0 : j = 0 := by omega
  subst hj0
  exact hcell
theorem write1_any (g : Nat) (h : Hs) (b : Nat) (c : Int) (T : TypeId) (w : World) (hst : h.st.length = 8) (hrest : h.rest.length = 64) (hB : IsB h.rest) (hc : 0 ≤ c ∧ c < 256)
    (hne : b ≠ g) (hbl : b < w.heap.size) (hcell : w.cell? ⟨b, 0, none⟩ = some (.int .u8 c)) (hbig : h.n + 1 ≤ 4611686018427387904) (hg : w.heap[g]? = some (.cells (hsCells h) T (0, 0))) :
    Calls Tryd.prog 71 #[.pointer (some ⟨g, 0, none⟩), .slice (some ⟨b, 0, none⟩) 1 1] w fun e w' =>
      e = .returned (.tuple #[]) ∧ Put1 w w' g (.cells (hsCells (absorb h c)) T (0, 0)) :=
  write_any g h _ 1 1 [c] T w hst hrest hB (isB_one hc) (rdX_one hne hbl hcell) (by omega) hbig hg

def zerosOf (n : Nat) : Nat := (120 - (n + 1) % 64) % 64
def lenByte (count : Int) (j : Nat) : Int := count / 2 ^ (8 * (7 - j)) % 256
def lenBytes (count : Int) (k : Nat) : List Int := (List.range k).map (lenByte count)
def h1 (h : Hs) : Hs := absorb h 128
def h2 (h : Hs) (j : Nat) : Hs := absorbs (h1 h) (List.replicate j 0)
def h3 (h : Hs) (k : Nat) : Hs := absorbs (h2 h (zerosOf h.n)) (lenBytes (h.n * 8) k)
def outByte (st : List Int) (i : Nat) : Int := (st[i / 4]?.getD 0) / 2 ^ (8 * (3 - i % 4)) % 256
def outBytes (st : List Int) : Nat → List Int
  | 0 => List.replicate 32 0
  | i + 1 => (outBytes st i).set i (outByte st i)
def digest (h : Hs) : List Int := outBytes (h3 h 8).st 32
theorem outBytes_length (st : List Int) (i : Nat) : (outBytes st i).length = 32 := by
  induction i with
  | zero => simp [outBytes]
  | succ i ih => simp [outBytes, ih]
/-- A hash as it must be. -/
structure Hs.Ok (h : Hs) : Prop where
  st : h.st.length = 8
  rest : h.rest.length = 64
  isB : IsB h.rest
theorem Hs.Ok.absorb {h : Hs} (k : h.Ok) {c : Int} (hc : 0 ≤ c ∧ c < 256) : (absorb h c).Ok :=
  ⟨absorbs_st [c] h k.st, absorbs_rest [c] h k.rest, absorbs_isB [c] h k.isB (isB_one hc)⟩
theorem Hs.Ok.absorbs {h : Hs} (k : h.Ok) {bs : List Int} (hc : IsB bs) : (absorbs h bs).Ok :=
  ⟨absorbs_st bs h k.st, absorbs_rest bs h k.rest, absorbs_isB bs h k.isB hc⟩
theorem hs0_ok : hs0.Ok := ⟨rfl, rfl, isB_zeros 64⟩
theorem zerosOf_lt (n : Nat) : zerosOf n < 64 := Nat.mod_lt _ (by decide)
theorem zeros_cases (n : Nat) : ∃ q r, n + 1 = 64 * q + r ∧ r < 64 ∧ ((r ≤ 56 ∧ zerosOf n = 56 - r) ∨ (57 ≤ r ∧ zerosOf n = 120 - r)) := by
  obtain ⟨q, r, h, hr⟩ : ∃ q r, n + 1 = 64 * q + r ∧ r < 64 := ⟨(n + 1) / 64, (n + 1) % 64, by omega, by omega⟩
  have e : (n + 1) % 64 = r := by omega
  refine ⟨q, r, h, hr, ?_⟩
  unfold zerosOf
  rw [e]
  rcases Nat.lt_or_ge r 57 with h1 | h1
  · exact .inl ⟨by omega, by omega⟩
  · exact .inr ⟨by omega, by omega⟩
theorem zeros_ne (n j : Nat) (h : j < zerosOf n) : (((n : Int) + 1 + j) % 64 != 56) = true := by
  obtain ⟨q, r, h1, h2, h3⟩ := zeros_cases n
  rw [bne_iff_ne]
  rcases h3 with ⟨a, b⟩ | ⟨a, b⟩ <;> rw [b] at h <;> omega
theorem zeros_eq (n : Nat) : (((n : Int) + 1 + (zerosOf n : Nat)) % 64 != 56) = false := by
  obtain ⟨q, r, h1, h2, h3⟩ := zeros_cases n
  rw [bne_eq_false_iff_eq]
  rcases h3 with ⟨a, b⟩ | ⟨a, b⟩ <;> rw [b] <;> omega
theorem put1_below {w w' : World} {g : Nat} {o : Obj} (h : Put1 w w' g o) {B : Nat} (hB : B ≤ g) (hs : B ≤ w.heap.size := by omega) : Below B w w' :=
  ⟨h.os, h.tape, h.output, h.size, fun k hk => h.other k (by omega) (by omega)⟩
theorem h2_succ (h : Hs) (j : Nat) : h2 h (j + 1) = absorb (h2 h j) 0 := by
  simp only [h2, List.replicate_succ', absorbs_append]; rfl
theorem h2_n (h : Hs) (j : Nat) : (h2 h j).n = h.n + 1 + j := by simp [h2, absorbs_n, h1, Go.Proofs.YtoompcgdhokdlaaDoor.absorb]
theorem h3_succ (h : Hs) (k : Nat) : h3 h (k + 1) = absorb (h3 h k) (lenByte (h.n * 8) k) := by
  simp only [h3, lenBytes, List.range_succ, List.map_append, absorbs_append]; rfl
theorem lenByte_range (c : Int) (j : Nat) : 0 ≤ lenByte c j ∧ lenByte c j < 256 := ⟨Int.emod_nonneg _ (by decide), Int.emod_lt_of_pos _ (by decide)⟩
theorem lenBytes_isB (c : Int) (k : Nat) : IsB (lenBytes c k) := by
  intro j
  simp only [lenBytes, List.getD_eq_getElem?_getD, List.getElem?_map]
  by_cases hj : j < k
  · rw [List.getElem?_range hj]; exact lenByte_range c j
  · rw [List.getElem?_eq_none (by simp; omega)]; exact ⟨Int.le_refl 0, by show (0 : Int) < 256; decide⟩
theorem h2_ok {h : Hs} (k : h.Ok) (j : Nat) : (h2 h j).Ok := (k.absorb (c := 128) (by decide)).absorbs (isB_zeros j)
theorem h3_ok {h : Hs} (k : h.Ok) (j : Nat) : (h3 h j).Ok := (h2_ok k _).absorbs (lenBytes_isB _ j)
theorem h3_n (h : Hs) (k : Nat) : (h3 h k).n = h.n + 1 + zerosOf h.n + k := by simp [h3, absorbs_n, h2_n, lenBytes]

set_option maxRecDepth 100000 in
set_option maxHeartbeats 600000 in
theorem hsum_any (g : Nat) (h : Hs) (w : World) (hok : h.Ok) (hbig : h.n ≤ 1152921504606846976) (hg : w.heap[g]? = some (.cells (hsCells h) 135 (0, 0))) :
    Calls Tryd.prog 72 #[.pointer (some ⟨g, 0, none⟩)] w fun e w' => e = .returned (.agg (ints .u8 (digest h))) ∧ Below w.heap.size w w' := by
  have hgs : g < w.heap.size := blk_lt hg
  have c0 : w.cell? ⟨g, 0, none⟩ = some (.bool true) := blk_cell hg rfl
  have Hg := Lib.hid hg; have Hok := Lib.hid hok
  clear hg hok
  go_enter Tryd.func72, Tryd.ntmps72
  go_wp2_with fail
  refine (new_any _).mono ?_
  rintro e w1 ⟨E, rfl, hE, hE1, hb1⟩
  have hR1 : w1.heap[w.heap.size]? = some (.cells (List.replicate 32 (Value.int .u8 0)).toArray 23 (0, 0)) := (hb1.block w.heap.size (by simp)).trans (blk_new w _)
  have hg1 : w1.heap[g]? = some (.cells (hsCells h) 135 (0, 0)) := (hb1.block g (by simp; omega)).trans (blk_alloc Hg.out)
  have d0 : w1.cell? ⟨g, 0, none⟩ = some (.bool true) := blk_cell hg1 rfl
  have hb1' : Below w.heap.size w w1 := ((Below.refl _ _).alloc (Nat.le_refl _) _).trans (hb1.mono (by simp))
  have hE' : w.heap.size < E := by simp at hE; omega
  have HE1 := Lib.hid hE1; have HR1 := Lib.hid hR1; have Hg1 := Lib.hid hg1
  clear hE1 hR1 hg1 hb1 hE c0
  have I74 : Hid ((Tryd.prog.info? 135).map (·.size) = some 74) := by show _ = _; kernel_rfl
  have S74 : Hid ((hsCells h).size = 74) := hash_size Hok.out.st Hok.out.rest
  have I74' : Hid ((Tryd.prog.info? 135).map (·.size) = some (hsCells h).size) := by show _ = _; rw [S74.out]; exact I74.out
  have X74 : Hid ((hsCells h).extract 0 (0 + 74) = hsCells h) := by show _ = _; rw [← S74.out, Nat.zero_add, Array.extract_size]
  have O74 : Hid (∀ v ∈ (hsCells h).toList, v.oneCell' = true) := hash_oneCell _ _ _ _
  have R74 : Hid (putRow (hsCells hs0) 0 (hsCells h).toList = hsCells h) := by show _ = _; rw [putRow_all _ _ (by rw [Array.length_toList, S74.out]; rfl)]
  go_wp2_with (first
    | ((with_reducible refine at_load 20 ?_); go_must (have q1 := I74.out; have q2 := S74.out; refine wpList_load_agg rfl 135 (.tmp 19) rfl g 0 rfl 135 (hsCells h) 74 _ Hg1.out Tryd.underlying135 rfl q1 (by rw [q2]; decide) (hsCells h) X74.out ?_; clear q1 q2))
    | ((with_reducible refine at_store (.tmp 21) (.tmp 20) ?_); go_must (have q1 := I74'.out; have q2 := S74.out; refine wpList_store_agg (cells := hsCells h) rfl 135 (.tmp 21) (.tmp 20) rfl E 0 rfl rfl 135 (hsCells hs0) HE1.out q1 (by rw [q2]; decide) O74.out (hsCells h) R74.out ?_; intro w2 hu2; have e73 : w2.cell? ⟨E, 73, none⟩ = some (.int .u64 h.n) := blk_cell hu2.same (hash_n Hok.out.st Hok.out.rest); clear q1 q2)))
  have g2 := Lib.hid (hu2.blk Hg1.out (by omega)); have r2 := Lib.hid (hu2.blk HR1.out (by omega))
  have b2 : Below w.heap.size w w2 := hb1'.trans (hu2.below (by omega))
  have hE2 : E < w2.heap.size := blk_lt hu2.same
  have ea : (w2.alloc (.cells #[Value.int .u8 128] 5)).heap[E]? = some (.cells (hsCells h) 135 (0, 0)) := blk_alloc hu2.same
  refine (write1_any E h w2.heap.size 128 135 _ Hok.out.st Hok.out.rest Hok.out.isB (by decide) (by omega) (by simp) (blk_cell (blk_new w2 _) rfl) (by omega) ea).mono ?_
  rintro e w3 ⟨rfl, p3⟩
  have b3 : Below w.heap.size w w3 := (b2.alloc b2.size _).trans (put1_below p3 (by omega) (by simp; omega))
  have r3 : w3.heap[w.heap.size]? = some (.cells (List.replicate 32 (Value.int .u8 0)).toArray 23 (0, 0)) := (p3.other w.heap.size (by simp; omega) (by omega)).trans (blk_alloc r2.out)
  have e3 := p3.same
  have hs3 : w.heap.size ≤ w3.heap.size := b3.size
  have B3 := Lib.hid b3; have R3 := Lib.hid r3; have E3 := Lib.hid e3
  have hz := zerosOf_lt h.n
  clear b3 r3 e3 p3 ea b2 hu2 e73 d0 hb1' hE2
  go_wp2
  go_loopg [30] (zerosOf h.n) (fun gk a wr => ∃ j : Nat, j ≤ zerosOf h.n ∧ gk = zerosOf h.n - j ∧ wr.heap[E]? = some (.cells (hsCells (h2 h j)) 135 (0, 0)) ∧ wr.heap[w.heap.size]? = some (.cells (List.replicate 32 (Value.int .u8 0)).toArray 23 (0, 0)) ∧ Below w.heap.size w wr)
  case atStart => exact ⟨0, by omega, rfl, E3.out, R3.out, B3.out⟩
  case round =>
    obtain ⟨j, hj1, rfl, hEj, hRj, hbj⟩ := hrel
    have hnj := h2_n h j
    have hok2 := h2_ok Hok.out j
    have e73 : wr.cell? ⟨E, 73, none⟩ = some (.int .u64 ((h.n + 1 + j : Nat) : Int)) := by rw [← hnj]; exact blk_cell hEj (hash_n hok2.st hok2.rest)
    have Hnj := Lib.hid hnj; have Hok2 := Lib.hid hok2; have HEj := Lib.hid hEj; have HRj := Lib.hid hRj; have Hbj := Lib.hid hbj
    clear hnj hok2 hEj hRj hbj B3 R3 E3
    by_cases hlt1 : j < zerosOf h.n
    · have hne := zeros_ne h.n j hlt1
      go_wp2_with fail
      have hE2 : E < wr.heap.size := blk_lt HEj.out
      refine (write1_any E (h2 h j) wr.heap.size 0 135 _ Hok2.out.st Hok2.out.rest Hok2.out.isB (by decide) (by omega) (by simp) (blk_cell (blk_new wr _) rfl) (by rw [Hnj.out]; omega) (blk_alloc HEj.out)).mono ?_
      rintro e w4 ⟨rfl, p4⟩
      have b4 := Lib.hid ((Hbj.out.alloc Hbj.out.size _).trans (put1_below p4 (by omega) (by have := Hbj.out.size; simp; omega)))
      have r4 := Lib.hid ((p4.other w.heap.size (by simp; omega) (by omega)).trans (blk_alloc HRj.out))
      have e4 := Lib.hid p4.same
      clear p4 hne
      go_wp2
      go_roundg (zerosOf h.n - (j + 1))
      case rel => exact ⟨j + 1, by omega, rfl, by rw [h2_succ]; exact e4.out, r4.out, b4.out⟩
      case measure => omega
    · obtain rfl : j = zerosOf h.n := by omega
      have hne := zeros_eq h.n
      clear hj1 hlt1
      go_wp2
      clear hz
      go_loopg [5] 8 (fun gk i wr => ∃ k : Nat, k ≤ 8 ∧ gk = 8 - k ∧ i = .int .i64 (7 - (k : Int)) ∧ wr.heap[E]? = some (.cells (hsCells (h3 h k)) 135 (0, 0)) ∧ wr.heap[w.heap.size]? = some (.cells (List.replicate 32 (Value.int .u8 0)).toArray 23 (0, 0)) ∧ Below w.heap.size w wr)
      case atStart => exact ⟨0, by omega, rfl, rfl, HEj.out, HRj.out, Hbj.out⟩
      case round =>
        clear HEj HRj Hbj Hok2 Hnj e73 hne
        obtain ⟨k, hk, rfl, rfl, hEk, hRk, hbk⟩ := hrel
        have hnk := h3_n h k
        have hok3 := h3_ok Hok.out k
        have Hnk := Lib.hid hnk; have Hok3 := Lib.hid hok3; have HEk := Lib.hid hEk; have HRk := Lib.hid hRk; have Hbk := Lib.hid hbk
        clear hnk hok3 hEk hRk hbk
        by_cases hlt2 : k < 8
        · go_wp2_with fail
          have hE2 : E < wr.heap.size := blk_lt HEk.out
          refine (write1_any E (h3 h k) wr.heap.size (lenByte (h.n * 8) k) 135 _ Hok3.out.st Hok3.out.rest Hok3.out.isB (lenByte_range _ _) (by omega) (by simp) (blk_cell (blk_new wr _) rfl) (by rw [Hnk.out]; have := zerosOf_lt h.n; omega) (blk_alloc HEk.out)).mono ?_
          rintro e w4 ⟨rfl, p4⟩
          have b4 := Lib.hid ((Hbk.out.alloc Hbk.out.size _).trans (put1_below p4 (by omega) (by have := Hbk.out.size; simp; omega)))
          have r4 := Lib.hid ((p4.other w.heap.size (by simp; omega) (by omega)).trans (blk_alloc HRk.out))
          have e4 := Lib.hid p4.same
          clear p4
          go_wp2
          go_roundg (8 - (k + 1))
          case rel => exact ⟨k + 1, by omega, rfl, by go_num, by rw [h3_succ]; exact e4.out, r4.out, b4.out⟩
          case measure => omega
        · obtain rfl : k = 8 := by omega
          clear hlt2 hk
          have hst := Hok3.out.st
          have hE2 : E < wr.heap.size := blk_lt HEk.out
          have HD : Bx (digest h = outBytes (h3 h 8).st 32) := ⟨rfl⟩
          have HC : Hid (∀ i, i < 8 → wr.cell? ⟨E, 1 + i, none⟩ = some (.int .u32 ((h3 h 8).st.getD i 0))) := fun i hi => blk_cell HEk.out (hash_u32 i (by rw [hst]; exact hi))
          generalize (h3 h 8).st = st at *
          clear HEk Hnk Hok3 hst
          go_wp2
          have hO : (wr.alloc (.cells (ints .u8 (outBytes st 0)) 23)).heap[wr.heap.size]? = some (.cells (ints .u8 (outBytes st 0)) 23 (0, 0)) := blk_new wr _
          have HO := Lib.hid hO
          clear hO
          go_loopw [51] (fun i ws => ∃ j : Nat, j ≤ 32 ∧ i = .int .i64 j ∧ ws.heap[wr.heap.size]? = some (.cells (ints .u8 (outBytes st j)) 23 (0, 0)) ∧ Below wr.heap.size wr ws)
            (fun i _ => 32 - (intOf i).toNat)
          case atStart => exact ⟨0, by omega, rfl, HO.out, (Below.refl _ _).alloc (Nat.le_refl _) _⟩
          case round =>
            obtain ⟨j, hj, rfl, hOj, hbj⟩ := hrel
            by_cases hlt : j < 32
            · have hc := (hbj.cell (p := ⟨E, 1 + j / 4, none⟩) hE2).trans (HC.out (j / 4) (by omega))
              have ho := blk_int hOj j (by rw [outBytes_length]; exact hlt)
              have hf := blk_frozen j hOj
              have HOj := Lib.hid hOj
              clear hOj
              clear HE1 HR1 Hg1 I74 S74 I74' X74 O74 R74 g2 r2
              go_wp2
              go_roundw
              case rel => exact ⟨j + 1, by omega, by go_num, blk_set HOj.out j _, hbj.setCell (Nat.le_refl _) _⟩
              case measure => simp [intOf]; omega
            · obtain rfl : j = 32 := by omega
              have hR : _ = _ := (hbj.block w.heap.size (by omega)).trans HRk.out
              have hfb := Hbk.out.trans (hbj.mono Hbk.out.size)
              generalize hV : ints .u8 (outBytes st 32) = V at *
              have hsz : V.size = 32 := by rw [← hV, ints_size, outBytes_length]
              have ho := ints_oneCell .u8 (outBytes st 32)
              rw [hV] at ho
              have hsz' : (Tryd.prog.info? 23).map (·.size) = some V.size := by rw [hsz]; kernel_rfl
              have hV' := bx hV; have HS := bx hsz; have HS' := bx hsz'; have HO2 := bx ho; have HR2 := bx hR; have HO3 := bx hOj; have HF := bx hfb
              clear hV hsz hsz' ho hR hOj hfb HO HC hbj HRk Hbk
              go_wp2_with (first
                | ((with_reducible refine at_load 70 ?_); go_must (refine wpList_load_agg rfl 23 (.tmp 6) rfl _ 0 rfl 23 V 32 _ HO3.out Tryd.underlying23 rfl (by kernel_rfl) (by rw [HS.out]; decide) V (by rw [← HS.out, Nat.zero_add, Array.extract_size]) ?_))
                | ((with_reducible refine at_store (.tmp 2) (.tmp 70) ?_); go_must (have q1 := HS'.out; have q2 := HS.out; refine wpList_store_agg (cells := V) rfl 23 (.tmp 2) (.tmp 70) rfl w.heap.size 0 rfl rfl 23 _ HR2.out q1 (by rw [q2]; decide) HO2.out V (by rw [putRow_all _ _ (by rw [Array.length_toList, q2]; decide)]) ?_; intro w9 hu9; clear q1 q2)))
              refine bodyPost_ret (v := .agg V) (results_agg (cs := V) rfl _ _ w.heap.size 23 _ rfl hu9.same Tryd.underlying23 rfl HS'.out) rfl ⟨by rw [HD.out, hV'.out], ?_⟩
              exact HF.out.trans (hu9.below (Nat.le_refl _))
end Go.Proofs.YtoompcgdhokdlaaDoor

set_option linter.unusedSimpArgs false
set_option linter.unusedVariables false
namespace Go.Proofs.YtoompcgdhokdlaaDoor
open Go.RowKit

/-- A slice of bytes reads so. -/
def RdB (w : World) (A : Option Addr) (n : Nat) (bs : List Int) : Prop :=
  bs.length = n ∧ (0 < n → ∃ b o, A = some ⟨b, o, none⟩ ∧ b < w.heap.size ∧ ∀ j, j < n → w.cell? ⟨b, o + j, none⟩ = some (.int .u8 (bs.getD j 0)))
theorem RdB.below {w w' : World} {A : Option Addr} {n : Nat} {bs : List Int} (h : RdB w A n bs) (hb : Below w.heap.size w w') : RdB w' A n bs :=
  ⟨h.1, fun hn => by
    obtain ⟨b, o, e, hlt, hc⟩ := h.2 hn
    exact ⟨b, o, e, Nat.lt_of_lt_of_le hlt hb.size, fun j hj => (hb.cell (p := ⟨b, o + j, none⟩) hlt).trans (hc j hj)⟩⟩
theorem RdB.toX {w w' : World} {A : Option Addr} {n g : Nat} {bs : List Int} (h : RdB w A n bs) (hb : Below w.heap.size w w') (hg : w.heap.size ≤ g) : RdX w' g A n bs :=
  ⟨h.1, fun hn => by
    obtain ⟨b, o, e, hlt, hc⟩ := h.2 hn
    exact ⟨b, o, e, by omega, Nat.lt_of_lt_of_le hlt hb.size, fun j hj => (hb.cell (p := ⟨b, o + j, none⟩) hlt).trans (hc j hj)⟩⟩
structure Sl where
  A : Option Addr
  n : Nat
  cap : Nat
  bs : List Int
def Sl.val (s : Sl) : Value := .slice s.A s.n s.cap
def Sl.Ok (w : World) (s : Sl) : Prop := RdB w s.A s.n s.bs ∧ IsB s.bs ∧ s.n ≤ s.cap
def cat (L : List Sl) : List Int := L.flatMap (·.bs)
def shaOf (bs : List Int) : List Int := digest (absorbs hs0 bs)
theorem cat_take_succ (L : List Sl) (i : Nat) (h : i < L.length) : cat (L.take (i + 1)) = cat (L.take i) ++ L[i].bs := by
  rw [List.take_succ_eq_append_getElem h, cat, cat, List.flatMap_append]
  simp
theorem cat_take_le (L : List Sl) (i : Nat) : (cat (L.take i)).length ≤ (cat L).length := by
  have h : cat L = cat (L.take i) ++ cat (L.drop i) := by rw [cat, cat, cat, ← List.flatMap_append, List.take_append_drop]
  rw [h, List.length_append]
  exact Nat.le_add_right _ _
theorem cat_isB {w : World} : ∀ (L : List Sl), (∀ s ∈ L, s.Ok w) → IsB (cat L)
  | [], _ => fun j => ⟨by simp [cat], by simp [cat]⟩
  | s :: L, h => by
    have : cat (s :: L) = s.bs ++ cat L := by simp [cat]
    rw [this]
    exact isB_append (h s (by simp)).2.1 (cat_isB L fun x hx => h x (by simp [hx]))

set_option maxRecDepth 100000 in
set_option maxHeartbeats 600000 in
theorem of_any (b0 o0 c0 : Nat) (L : List Sl) (w : World) (hcells : ∀ i, (hi : i < L.length) → w.cell? ⟨b0, o0 + i, none⟩ = some L[i].val) (hb0 : b0 < w.heap.size) (hok : ∀ s ∈ L, s.Ok w) (hbig : (cat L).length ≤ 1152921504606846976) (hL : L.length ≤ 1000000) :
    Calls Tryd.prog 56 #[.slice (some ⟨b0, o0, none⟩) L.length c0] w fun e w' => e = .returned (.agg (ints .u8 (shaOf (cat L)))) ∧ Below w.heap.size w w' := by
  have Hc := bx hcells; have Hok := bx hok
  clear hcells hok
  go_enter Tryd.func56, Tryd.ntmps56
  go_wp2_with fail
  refine (new_any _).mono ?_
  rintro e w1 ⟨E, rfl, hE, hE1, hb1⟩
  have hR1 : w1.heap[w.heap.size]? = some (.cells (List.replicate 32 (Value.int .u8 0)).toArray 23 (0, 0)) := (hb1.block w.heap.size (by simp)).trans (blk_new w _)
  have hb1' : Below w.heap.size w w1 := ((Below.refl _ _).alloc (Nat.le_refl _) _).trans (hb1.mono (by simp))
  have hE' : w.heap.size < E := by simp at hE; omega
  have HE1 := bx hE1; have HR1 := bx hR1; have HB1 := bx hb1'
  clear hE1 hR1 hb1 hE hb1'
  go_wp2
  go_loopw [9] (fun i wr => ∃ j : Nat, j ≤ L.length ∧ i = .int .i64 j ∧ wr.heap[E]? = some (.cells (hsCells (absorbs hs0 (cat (L.take j)))) 135 (0, 0)) ∧ wr.heap[w.heap.size]? = some (.cells (List.replicate 32 (Value.int .u8 0)).toArray 23 (0, 0)) ∧ Below w.heap.size w wr)
    (fun i _ => L.length - (intOf i).toNat)
  case atStart => exact ⟨0, by omega, rfl, HE1.out, HR1.out, HB1.out⟩
  case round =>
    obtain ⟨j, hj, rfl, hEj, hRj, hbj⟩ := hrel
    have HEj := bx hEj; have HRj := bx hRj; have Hbj := bx hbj
    clear hEj hRj hbj HE1 HR1 HB1
    by_cases hlt : j < L.length
    · have hcj : wr.cell? ⟨b0, o0 + j, none⟩ = some (.slice L[j].A L[j].n L[j].cap) := (Hbj.out.cell (p := ⟨b0, o0 + j, none⟩) hb0).trans (Hc.out j hlt)
      have hsucc := bx (cat_take_succ L j hlt)
      have hsok := bx (Hok.out L[j] (List.getElem_mem hlt))
      have hle := bx (cat_take_le L (j + 1))
      have htok := bx (cat_isB (L.take j) fun s hs => Hok.out s (List.mem_of_mem_take hs))
      obtain ⟨s, hs⟩ : ∃ s, s = L[j] := ⟨_, rfl⟩
      rw [← hs] at hcj hsucc hsok
      have Hs := bx hs
      clear hs
      go_wp2_with fail
      refine (write_any E (absorbs hs0 (cat (L.take j))) s.A s.n s.cap s.bs 135 _ (hs0_ok.absorbs htok.out).st (hs0_ok.absorbs htok.out).rest (hs0_ok.absorbs htok.out).isB hsok.out.2.1 (hsok.out.1.toX Hbj.out (by omega)) hsok.out.2.2 ?_ HEj.out).mono ?_
      · have h1 := hle.out
        rw [hsucc.out, List.length_append, hsok.out.1.1] at h1
        rw [absorbs_n]
        show 0 + _ + _ ≤ _
        omega
      rintro e w4 ⟨rfl, p4⟩
      have b4 := bx (Hbj.out.trans (put1_below p4 (by omega) (by have := Hbj.out.size; omega)))
      have r4 := bx ((p4.other w.heap.size (blk_lt HRj.out) (by omega)).trans HRj.out)
      have e4 := bx p4.same
      clear p4
      go_wp2
      go_roundw
      case rel => exact ⟨j + 1, by omega, by go_num, by rw [hsucc.out, absorbs_append]; exact e4.out, r4.out, b4.out⟩
      case measure => simp [intOf]; omega
    · obtain rfl : j = L.length := by omega
      have hall : absorbs hs0 (cat (L.take L.length)) = absorbs hs0 (cat L) := by rw [List.take_of_length_le (Nat.le_refl _)]
      have hok1 := bx (hs0_ok.absorbs (cat_isB L Hok.out))
      have hE2 := HEj.out
      rw [hall] at hE2
      have HE2 := bx hE2
      have hn := bx (absorbs_n (cat L) hs0)
      clear hE2 hall HEj
      go_wp2_with fail
      refine (hsum_any E (absorbs hs0 (cat L)) _ hok1.out (by rw [hn.out]; show 0 + _ ≤ _; omega) HE2.out).mono ?_
      rintro e w5 ⟨rfl, hb5⟩
      obtain ⟨V, hV⟩ : ∃ V, V = ints .u8 (digest (absorbs hs0 (cat L))) := ⟨_, rfl⟩
      have hsz : V.size = 32 := by rw [hV, ints_size]; exact outBytes_length _ _
      have ho := ints_oneCell .u8 (digest (absorbs hs0 (cat L)))
      rw [← hV] at ho ⊢
      have hsz' : (Tryd.prog.info? 23).map (·.size) = some V.size := by rw [hsz]; kernel_rfl
      have HR5 := bx ((hb5.block w.heap.size (blk_lt HRj.out)).trans HRj.out)
      have HB5 := bx (Hbj.out.trans (hb5.mono Hbj.out.size))
      have HV := bx hV; have HS := bx hsz; have HO := bx ho; have HS' := bx hsz'
      clear hV hsz ho hsz' hb5
      go_wp2_with ((with_reducible refine at_store (.tmp 2) (.tmp 18) ?_); go_must (have q1 := HS'.out; have q2 := HS.out; refine wpList_store_agg (cells := V) rfl 23 (.tmp 2) (.tmp 18) rfl w.heap.size 0 rfl rfl 23 _ HR5.out q1 (by rw [q2]; decide) HO.out V (by rw [putRow_all _ _ (by rw [Array.length_toList, q2]; decide)]) ?_; intro w9 hu9; clear q1 q2))
      refine bodyPost_ret (v := .agg V) (results_agg (cs := V) rfl _ _ w.heap.size 23 _ rfl hu9.same Tryd.underlying23 rfl HS'.out) rfl ⟨by rw [HV.out]; rfl, ?_⟩
      exact HB5.out.trans (hu9.below (Nat.le_refl _))

set_option maxRecDepth 100000 in
set_option maxHeartbeats 600000 in
theorem sum_any (A : Option Addr) (n cap : Nat) (bs : List Int) (w : World) (hrd : RdB w A n bs) (hB : IsB bs) (hcap : n ≤ cap) (hbig : n ≤ 1152921504606846976) :
    Calls Tryd.prog 29 #[.slice A n cap] w fun e w' => e = .returned (.agg (ints .u8 (shaOf bs))) ∧ Below w.heap.size w w' := by
  have Hrd := bx hrd; have HB := bx hB
  clear hrd hB
  go_enter Tryd.func29, Tryd.ntmps29
  go_wp2_with fail
  obtain ⟨w1, hw1⟩ : ∃ w1, w1 = (w.alloc (.cells (List.replicate 32 (Value.int .u8 0)).toArray 23)).alloc (.cells #[Value.slice A n cap] 33) := ⟨_, rfl⟩
  have hb1 : Below w.heap.size w w1 := by rw [hw1]; exact ((Below.refl _ _).alloc (Nat.le_refl _) _).alloc (by simp) _
  have hz : w1.heap.size = w.heap.size + 2 := by rw [hw1]; simp
  have hcell : w1.cell? ⟨w.heap.size + 1, 0, none⟩ = some (.slice A n cap) := by rw [hw1]; exact blk_cell (heap_alloc2_new w _ _) rfl
  have hR : w1.heap[w.heap.size]? = some (.cells (List.replicate 32 (Value.int .u8 0)).toArray 23 (0, 0)) := by rw [hw1]; exact heap_alloc2_old w _ _
  have e : Calls Tryd.prog 56 #[.slice (some ⟨w.heap.size + 1, 0, none⟩) 1 1] w1 fun e w' => e = .returned (.agg (ints .u8 (shaOf bs))) ∧ Below w1.heap.size w1 w' := by
    have := of_any (w.heap.size + 1) 0 1 [⟨A, n, cap, bs⟩] w1 (fun i hi => by
      have h0 : i = 0 := by simpa using hi
      subst h0
      exact hcell) (by omega) (fun s hs => by
      have h0 : s = ⟨A, n, cap, bs⟩ := by simpa using hs
      subst h0
      exact ⟨Hrd.out.below hb1, HB.out, hcap⟩) (by simp [cat]; rw [Hrd.out.1]; exact hbig) (by simp)
    have ec : cat [⟨A, n, cap, bs⟩] = bs := by simp [cat]
    rw [ec] at this
    exact this
  have E1 := bx e; have HR := bx hR; have HB1 := bx hb1
  rw [hw1] at E1
  refine E1.out.mono ?_
  rw [← hw1]
  clear e hR hb1 hcell E1
  rintro e w2 ⟨rfl, hb2⟩
  obtain ⟨V, hV⟩ : ∃ V, V = ints .u8 (shaOf bs) := ⟨_, rfl⟩
  have hsz : V.size = 32 := by rw [hV, ints_size]; exact outBytes_length _ _
  have ho := ints_oneCell .u8 (shaOf bs)
  rw [← hV] at ho ⊢
  have hsz' : (Tryd.prog.info? 23).map (·.size) = some V.size := by rw [hsz]; kernel_rfl
  have HR5 := bx ((hb2.block w.heap.size (by omega)).trans HR.out)
  have HB5 := bx (HB1.out.trans (hb2.mono (by omega)))
  have HV := bx hV; have HS := bx hsz; have HO := bx ho; have HS' := bx hsz'
  clear hV hsz ho hsz' hb2 hw1 hz
  go_wp2_with ((with_reducible refine at_store (.tmp 2) (.tmp 5) ?_); go_must (have q1 := HS'.out; have q2 := HS.out; refine wpList_store_agg (cells := V) rfl 23 (.tmp 2) (.tmp 5) rfl w.heap.size 0 rfl rfl 23 _ HR5.out q1 (by rw [q2]; decide) HO.out V (by rw [putRow_all _ _ (by rw [Array.length_toList, q2]; decide)]) ?_; intro w9 hu9; clear q1 q2))
  refine bodyPost_ret (v := .agg V) (results_agg (cs := V) rfl _ _ w.heap.size 23 _ rfl hu9.same Tryd.underlying23 rfl HS'.out) rfl ⟨by rw [HV.out], ?_⟩
  exact HB5.out.trans (hu9.below (Nat.le_refl _))
theorem shaOf_length (bs : List Int) : (shaOf bs).length = 32 := outBytes_length _ _
end Go.Proofs.YtoompcgdhokdlaaDoor
