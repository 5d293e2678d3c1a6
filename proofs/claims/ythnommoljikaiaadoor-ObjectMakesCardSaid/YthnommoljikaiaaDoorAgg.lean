/- Whole blocks: an array or struct that is loaded, or stored, as a whole. No program in it. -/
import Derived.Test.YthnommoljikaiaaDoorReg4
set_option linter.unusedVariables false
namespace Go.Proofs.YthnommoljikaiaaDoor
open Go.RowKit

section
variable {P : Program} {ops : Array Oper} {rest : List Oper} {o : Oper} {a : Act} {w : World} {Q : Exit → Act → World → Prop}
theorem extract_whole (cs : Array Value) : cs.extract 0 (0 + cs.size) = cs := by rw [Nat.zero_add]; exact Array.extract_size
theorem putRow_whole (cs old : Array Value) (h : cs.size = old.size) : putRow old 0 cs.toList = cs := by rw [putRow_all _ _ (by simpa using h), Array.toArray_toList]
/-- A whole block is loaded. -/
theorem load_all (ty : TypeId) (x : Operand) {g : Nat} {t : TypeId} {cs : Array Value} {d : TypeDesc} (hgd : Region.wanted o (yielded ops a.tmps) = true) (ho : o.op = .load ty x) (hx : a.eval x = .pointer (some ⟨g, 0, none⟩)) (hg : w.heap[g]? = some (.cells cs t (0, 0)))
    (hu : P.underlying ty = some d) (hd : (match d with | .struct _ | .array _ _ => true | _ => false) = true) (hi : (P.info? ty).map (·.size) = some cs.size)
    (h : wpList P ops Q rest (a.put o.dst (.agg cs)) w) : wpList P ops Q (o :: rest) a w :=
  wpList_load_agg hgd ty x ho g 0 hx t cs cs.size d hg hu hd hi (by omega) cs (extract_whole cs) h
/-- A whole block is stored. -/
theorem store_all (ty : TypeId) (x y : Operand) {g : Nat} {t : TypeId} {cs old : Array Value} (hgd : Region.wanted o (yielded ops a.tmps) = true) (ho : o.op = .store ty x y) (hx : a.eval x = .pointer (some ⟨g, 0, none⟩)) (hy : a.eval y = .agg cs) (hg : w.heap[g]? = some (.cells old t (0, 0)))
    (hi : (P.info? ty).map (·.size) = some cs.size) (hs : cs.size = old.size) (h1 : ∀ v ∈ cs.toList, v.oneCell' = true)
    (h : ∀ w', Upd w w' g (.cells cs t (0, 0)) → wpList P ops Q rest (a.put o.dst undef) w') : wpList P ops Q (o :: rest) a w :=
  wpList_store_agg hgd ty x y ho g 0 cs hx hy t old hg hi (by omega) h1 cs (putRow_whole cs old hs) h
/-- Quietly. -/
theorem quiet_load_all {C : World → Prop} (ty : TypeId) (x : Operand) {g : Nat} {t : TypeId} {cs : Array Value} {d : TypeDesc} (ho : o.op = .load ty x) (hx : a.eval x = .pointer (some ⟨g, 0, none⟩)) (hg : w.heap[g]? = some (.cells cs t (0, 0)))
    (hu : P.underlying ty = some d) (hd : (match d with | .struct _ | .array _ _ => true | _ => false) = true) (hi : (P.info? ty).map (·.size) = some cs.size) : o.quietAt P a C w (.agg cs) :=
  quietAt_load_agg ty x ho g 0 hx t cs cs.size d hg hu hd hi (by omega) cs (extract_whole cs)
end
end Go.Proofs.YthnommoljikaiaaDoor
