/- A region's step by a law over a list of operations: an append inside a region that draws. -/
import Derived.Test.YthnommoljikaiaaDoorAid3
set_option linter.unusedVariables false
namespace Go.Proofs.YthnommoljikaiaaDoor
open Go.RowKit

/-- Behind the operation K, else Q. -/
def thenQ (K : Act → World → Prop) (Q : Exit → Act → World → Prop) : Exit → Act → World → Prop
  | .normal, a, w => K a w
  | e, a, w => Q e a w
theorem wp_thenQ {P : Program} {o : Oper} {a : Act} {w : World} {N K : Act → World → Prop} {Q : Exit → Act → World → Prop} (hh : o.wp P a w N (thenQ K Q)) : o.wp P a w N Q := by
  unfold Oper.wp at *
  generalize (execOp a.eval o).run P w = r at *
  cases r with
  | ok n w' =>
    cases n <;> simp only [Oper.upon] at hh ⊢ <;>
      first
        | exact hh
        | exact Calls.mono hh (fun e w'' he => by cases e <;> exact he)
  | halt x w' => cases x <;> simp only [Oper.upon] at hh ⊢ <;> exact hh
section
variable {P : Program} {ops : Array Oper} {Q : Exit → Act → World → Prop} {md : Region.Mode} {S : World → Prop}
theorem wpOp_ofList {i : Nat} {o : Oper} {K : Act → World → Prop} {a : Act} {w : World} (ho : ops[i]? = some o) (h : wpList P ops (thenQ K Q) [o] a w) : wpOp P ops Q i K a w := by
  unfold wpOp
  rw [ho]
  show if Region.wanted o (yielded ops a.tmps) = true then _ else _
  have h' : if Region.wanted o (yielded ops a.tmps) = true then (o.wp P a w K (thenQ K Q) ∨ (o.asks P a w ∧ LetsOut (thenQ K Q))) else K (a.put o.dst undef) w := h
  split
  · rename_i hw
    rw [if_pos hw] at h'
    exact h'.imp wp_thenQ id
  · rename_i hw
    rw [if_neg hw] at h'
    exact h'
theorem readyH_list {fuel : Nat} {listed : Array Bool} {a : Act} {w : World} {i : Nat} {o : Oper} {rs : List Nat} (ho : ops[i]? = some o)
    (h : ∀ Q' : Exit → Act → World → Prop, Shut (∀ a w, S w → (S w → wpAnyH P md ops Q S fuel (listed.setIfInBounds i true) a w) → wpList P ops Q' [] a w) → wpList P ops Q' [o] a w)
    (hs : AllReadyH P md ops Q S fuel listed a w rs) : AllReadyH P md ops Q S fuel listed a w (i :: rs) := fun j hj => by
  rcases List.mem_cons.1 hj with rfl | hj
  · exact wpOp_ofList ho (h _ (fun a w hS hW => ⟨hS, hW hS⟩))
  · exact hs j hj
end
end Go.Proofs.YthnommoljikaiaaDoor
