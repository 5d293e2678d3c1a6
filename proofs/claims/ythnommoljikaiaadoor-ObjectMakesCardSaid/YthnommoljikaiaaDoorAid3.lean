/- Aids for a region whose frame behind it is found by its walk. -/
import Derived.Test.YthnommoljikaiaaDoorAid2
import Derived.Deep.RegionHeld3
set_option linter.unusedVariables false
namespace Go.Proofs.YthnommoljikaiaaDoor
open Go.RowKit

theorem region_mid {P : Program} {Q : Exit → Act → World → Prop} {code : Code} {a A : Act} {w : World} {S : World → Prop}
    (hreg : code.wp P (fun e a' w' => e = .normal ∧ a' = A ∧ S w') a w) (tail : ∀ w', S w' → Q .normal A w') : code.wp P Q a w :=
  Code.wp_mono (fun e a' w' ⟨h1, h2, h3⟩ => h1 ▸ h2 ▸ tail w' h3) hreg

/-- An operation taken first, its slot named. -/
theorem takeH {P : Program} {ops : Array Oper} {Q : Exit → Act → World → Prop} {md : Region.Mode} {S : World → Prop} {i d : Nat} {oi : Oper} {v : Value} {fuel : Nat} {listed : Array Bool} {a : Act} {w : World} (hi : ops[i]? = some oi) (hd : oi.dst = some d)
    (hs : Region.noSelect ops = true) (hf : Region.free md ops listed i = true) (hr : (Region.ready md ops listed).contains i = true)
    (hQ : ∀ c a w, Q (.panic c) (a.put oi.dst v) w → Q (.panic c) a w) (hy : YieldsIf P ops S oi v a) (hS : S w)
    (h : wpAnyH P md ops Q S fuel (listed.setIfInBounds i true) { tmps := a.tmps.setIfInBounds d v, defers := a.defers } w) : wpAnyH P md ops Q S (fuel + 1) listed a w :=
  wpAnyH_take hi hs hf hr hQ hy hS (by rw [hd]; exact h)
theorem blk_range {w : World} {b o : Nat} {cs : Array Value} {T : TypeId} {l : List Value} (h : w.heap[b]? = some (.cells cs T (0, 0))) (hl : ∀ j v, l[j]? = some v → cs[o + j]? = some v) : w.rangeAt b o l :=
  fun j v hv => blk_cell h (hl j v hv)
/-- A struct that is built where a guard allows it. -/
theorem wpList_build3 {P : Program} {ops : Array Oper} {rest : List Oper} {o : Oper} {a : Act} {w : World} {Q : Exit → Act → World → Prop} (hg : Region.wanted o (yielded ops a.tmps) = true) (t : TypeId) (parts : List (Nat × Operand)) (ho : o.op = .build t parts.toArray)
    (vals : List (Nat × Value)) (hvals : (parts.map fun p => (p.1, a.eval p.2)) = vals) (vs : Array Value) (hv : P.built t vals = some vs)
    (h : wpList P ops Q rest (a.put o.dst (.agg vs)) w) : wpList P ops Q (o :: rest) a w := by
  subst hvals
  have e : P.built t (parts.toArray.map fun (i, x) => (i, a.eval x)).toList = some vs := by rw [Array.toList_map]; exact hv
  exact wpList_want hg fun K hK => wp_build t _ ho (by rw [e]; rfl) (by rw [e]; exact hK _ _ h)
end Go.Proofs.YthnommoljikaiaaDoor
