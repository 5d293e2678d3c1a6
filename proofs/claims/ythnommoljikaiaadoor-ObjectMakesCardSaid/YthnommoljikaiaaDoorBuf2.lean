/- The walks over slices.Clone and wire.Put. -/
import Derived.Test.YthnommoljikaiaaDoorBuf1
set_option linter.unusedSimpArgs false
set_option linter.unusedVariables false
namespace Go.Proofs.YthnommoljikaiaaDoor
open Go.RowKit

set_option maxRecDepth 100000 in
set_option maxHeartbeats 400000 in
theorem clone_any (A : Option Addr) (n cap : Nat) (bs : List Int) (w : World) (hrd : RdB w A n bs) (hnil : A = none → cap = 0) (hbig : n ≤ 35184372088832) :
    Calls Tryd.prog 77 #[.slice A n cap] w fun e w' => ∃ v, e = .returned v ∧ OwB w' w.heap.size v bs ∧ Below w.heap.size w w' := by
  have HRD := bx hrd; have HNIL := bx hnil
  clear hrd hnil
  cases A with
  | none =>
    have hn : n = 0 := by
      rcases Nat.eq_zero_or_pos n with h0 | h0
      · exact h0
      · obtain ⟨b, o, e, _⟩ := HRD.out.2 h0
        cases e
    subst hn
    have hbs : bs = [] := List.eq_nil_of_length_eq_zero HRD.out.1
    subst hbs
    have hE := fun w => eql_nil w none 0 cap
    go_enter Tryd.func77, Tryd.ntmps77
    go_wp2_with fail
    go_ret
    exact ⟨_, rfl, OwB.nil _ _, Below.refl _ _⟩
  | some ad =>
    have hE := fun w => eql_nil w (some ad) n cap
    have hm := OwB.made w w.heap.size [] (Nat.le_refl _) (by decide)
    have HM := bx hm; have H1 := bx (HRD.out.below ((Below.refl w.heap.size w).alloc (Nat.le_refl _) (.cells (ints .u8 []) 5)))
    clear hm
    go_enter Tryd.func77, Tryd.ntmps77
    go_wp2_with (first
      | ((with_reducible refine at_call 7 ?_); go_must (refine wpList_app rfl (.tmp 5) (.tmp 6) rfl w.heap.size _ [] rfl HM.out (some ad) n cap bs rfl H1.out HNIL.out (by simp; omega) (by simp) ?_; intro v' w' h1 h2; have K1 := bx h1; have K2 := bx h2; clear h1 h2)))
    go_ret
    exact ⟨_, rfl, K1.out, HM.out.below K2.out ((Below.refl w.heap.size w).alloc (Nat.le_refl _) (.cells (ints .u8 []) 5)) (Nat.le_refl _) (by simp)⟩
end Go.Proofs.YthnommoljikaiaaDoor
