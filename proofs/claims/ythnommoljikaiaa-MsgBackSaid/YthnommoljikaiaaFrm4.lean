/- The walks over bytes.Clone and frame.Read. -/
import Derived.Test.YthnommoljikaiaaFrm3
set_option linter.unusedSimpArgs false
set_option linter.unusedVariables false
namespace Go.Proofs.Ythnommoljikaiaa
open Go.RowKit

set_option maxRecDepth 100000 in
set_option maxHeartbeats 400000 in
theorem bclone_any (A : Option Addr) (n cap : Nat) (bs : List Int) (w : World) (hrd : RdB w A n bs) (hnil : A = none → cap = 0) (hbig : n ≤ 35184372088832) :
    Calls Try.prog 93 #[.slice A n cap] w fun e w' => ∃ v, e = .returned v ∧ OwB w' w.heap.size v bs ∧ Below w.heap.size w w' := by
  have HRD := bx hrd; have HNIL := bx hnil
  clear hrd hnil
  cases A with
  | none =>
    have hn : n = 0 := by
      rcases Nat.eq_zero_or_pos n with h0 | h0
      · exact h0
      · obtain ⟨b, o, e, _⟩ := HRD.out.2 h0
        cases e
    subst hn
    have hbs : bs = [] := List.eq_nil_of_length_eq_zero HRD.out.1
    subst hbs
    have hE := fun w => eql_nil w none 0 cap
    go_enter Try.func93, Try.ntmps93
    go_wp2_with fail
    go_ret
    exact ⟨_, rfl, OwB.nil _ _, Below.refl _ _⟩
  | some ad =>
    have hE := fun w => eql_nil w (some ad) n cap
    have hm := OwB.made w w.heap.size [] (Nat.le_refl _) (by decide)
    have HM := bx hm; have H1 := bx (HRD.out.below ((Below.refl w.heap.size w).alloc (Nat.le_refl _) (.cells (ints .u8 []) 5)))
    clear hm
    go_enter Try.func93, Try.ntmps93
    go_wp2_with (first
      | ((with_reducible refine at_call 7 ?_); go_must (refine wpList_app rfl (.tmp 5) (.tmp 6) rfl w.heap.size _ [] rfl HM.out (some ad) n cap bs rfl H1.out HNIL.out (by simp; omega) (by simp) ?_; intro v' w' h1 h2; have K1 := bx h1; have K2 := bx h2; clear h1 h2)))
    go_ret
    exact ⟨_, rfl, K1.out, HM.out.below K2.out ((Below.refl w.heap.size w).alloc (Nat.le_refl _) (.cells (ints .u8 []) 5)) (Nat.le_refl _) (by simp)⟩

/-- What is read of bytes: the kind, what is within, how many bytes, and what is wrong. -/
def readOf (bs : List Int) : Int × List Int × Int × Int :=
  if (lenOf bs).2 ≠ 0 then (0, [], 0, (lenOf bs).2)
  else if (bs.length : Int) < (lenOf bs).1 then (0, [], 0, 10)
  else if (shaOf (bs.take ((lenOf bs).1.toNat - 4))).take 4 ≠ (bs.drop ((lenOf bs).1.toNat - 4)).take 4 then (0, [], 0, 12)
  else (bs.getD 3 0, (bs.drop 8).take ((lenOf bs).1.toNat - 12), (lenOf bs).1, 0)
theorem lenOf_ok {bs : List Int} (hB : IsB bs) (h : (lenOf bs).2 = 0) : 8 ≤ bs.length ∧ 12 ≤ (lenOf bs).1 ∧ (lenOf bs).1 ≤ 65548 := by
  unfold lenOf at *
  split at h
  · exact absurd h (by decide)
  · split at h
    · exact absurd h (by decide)
    · split at h
      · exact absurd h (by decide)
      · split at h
        · exact absurd h (by decide)
        · rename_i h1 h2 h3 h4
          rw [if_neg h1, if_neg h2, if_neg h3, if_neg h4]
          have := (num_bounds ((bs.drop 4).take 4) 0 0 (isB_take (isB_drop hB 4) 4) (Int.le_refl _) (by decide)).1
          change 0 ≤ num _ at this
          exact ⟨by omega, by show 12 ≤ 12 + _; omega, by show 12 + _ ≤ 65548; omega⟩
end Go.Proofs.Ythnommoljikaiaa
