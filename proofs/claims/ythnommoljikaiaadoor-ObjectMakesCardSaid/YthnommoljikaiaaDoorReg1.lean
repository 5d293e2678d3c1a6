/- Aids for a region that draws: one walk in the text's order, over a class of worlds. -/
import Derived.Test.YthnommoljikaiaaDoorAid3
import Derived.Deep.Quiet
import Derived.BigQuiet
set_option linter.unusedVariables false
namespace Go.Proofs.YthnommoljikaiaaDoor
open Go.RowKit

theorem region_quietC {P : Program} {id : Nat} {Q : Exit → Act → World → Prop} {a : Act} {w : World} {l : List Oper} (C : World → Prop) (hm : P.follows .mixedOrders = true) (hB : Region.lexB .any l.toArray = true) (hC : C w.drew)
    (h : wpQuiet P l.toArray C (fun a' => ∀ w', C w' → Q .normal a' w') l a) : (Code.region id l.toArray true).wp P Q a w :=
  wp_region_quiet hm hB hC (by simpa using h)
theorem quiet_take {P : Program} {ops : Array Oper} {C : World → Prop} {Q : Act → Prop} {a : Act} {o : Oper} {rest : List Oper} {v : Value} (d : Nat) (hd : o.dst = some d) (hw : Region.wanted o (yielded ops a.tmps) = true)
    (h : ∀ w', C w' → o.quietAt P a C w' v) (hr : wpQuiet P ops C Q rest { tmps := a.tmps.setIfInBounds d v, defers := a.defers }) : wpQuiet P ops C Q (o :: rest) a :=
  BigFrame.wpQuiet_want hw fun K hK => ⟨v, h, hK _ (by simpa [Act.put, hd] using hr)⟩
/-- A whole array or struct is loaded. -/
theorem quietAt_load_agg {P : Program} {o : Oper} {a : Act} {C : World → Prop} {w : World} (ty : TypeId) (x : Operand) (ho : o.op = .load ty x)
    (g off : Nat) (hx : a.eval x = .pointer (some ⟨g, off, none⟩)) (t : TypeId) (cs : Array Value) (n : Nat) (d : TypeDesc) (hg : w.heap[g]? = some (.cells cs t (0, 0)))
    (hu : P.underlying ty = some d) (hd : (match d with | .struct _ | .array _ _ => true | _ => false) = true) (hi : (P.info? ty).map (·.size) = some n) (hn : off + n ≤ cs.size)
    (vs : Array Value) (hv : cs.extract off (off + n) = vs) : o.quietAt P a C w (.agg vs) := by
  subst hv
  unfold Oper.quietAt execOp
  simp only [ho, hx, Instr.loadAt, Instr.sureAddr, Sem.run_bind, Sem.run_pure, Result.andThen_ok, run_loadVar_span w g off t ty cs n d hg hu hd hi hn]
  exact ⟨rfl, rfl⟩
theorem quiet_skip {P : Program} {ops : Array Oper} {C : World → Prop} {Q : Act → Prop} {a : Act} {o : Oper} {rest : List Oper} (d : Nat) (hd : o.dst = some d) (hw : Region.wanted o (yielded ops a.tmps) = false)
    (hr : wpQuiet P ops C Q rest { tmps := a.tmps.setIfInBounds d undef, defers := a.defers }) : wpQuiet P ops C Q (o :: rest) a :=
  BigFrame.wpQuiet_skip hw (by simpa [Act.put, hd] using hr)
end Go.Proofs.YthnommoljikaiaaDoor
