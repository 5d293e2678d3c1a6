/- Messages: what was put is read as it was, and as nothing else (plain laws for MsgBack). -/
import Derived.Test.YthnommoljikaiaaMsg10
import Derived.Test.YthnommoljikaiaaOpenM
set_option linter.unusedSimpArgs false
set_option linter.unusedVariables false
namespace Go.Proofs.Ythnommoljikaiaa
open Go.RowKit

theorem putM_zero {kind lo hi : Int} {named : Bool} {c k i g : Int} {nm : List Int} {n2 : Nat} {flat : List Int} {n3 : Nat} {ds : List Int} {L : List Int} (h : putM kind lo hi named c k i g nm n2 flat n3 ds = (L, 0)) :
    (1 ≤ c ∧ c ≤ 255 ∧ lo ≤ k ∧ k ≤ hi ∧ n2 ≤ 128 ∧ n3 ≤ 8192) ∧ L = frameOf kind (bodyM named c k i g nm n2 flat n3 ds) := by
  unfold putM at h
  split at h
  · rename_i hm
    cases h
    exact ⟨mayB_true hm, rfl⟩
  · cases h
theorem putM_kinds {kind lo hi : Int} {named : Bool} {c k i g : Int} {nm : List Int} {n2 : Nat} {flat : List Int} {n3 : Nat} {ds : List Int} {L : List Int} (h : putM kind lo hi named c k i g nm n2 flat n3 ds = (L, 0)) : L.getD 3 0 = kind := by
  rw [(putM_zero h).2, frameOf_eq]
  rfl
theorem good_kinds {k1 k2 : Int} (hk : k1 ≠ k2) (lo hi : Int) (named : Bool) (m : MsgR) (bs : List Int) : goodR k1 lo hi named m (frameOf k2 bs) = false := by
  rw [goodR]
  refine decide_eq_false fun h => ?_
  have := putM_kinds h
  rw [frameOf_eq] at this
  exact hk this.symm
theorem good_less {kind lo hi : Int} {named : Bool} {m : MsgR} (hc : m.c = 0) (bs : List Int) : goodR kind lo hi named m bs = false := by
  rw [goodR]
  refine decide_eq_false fun h => ?_
  have := (putM_zero h).1.1
  omega
theorem read_nil (named : Bool) : (readM named []).c = 0 := by cases named <;> rfl
theorem put_back {kind lo hi : Int} {named : Bool} {c k i g : Int} {nm : List Int} {n2 : Nat} {flat : List Int} {n3 : Nat} {ds : List Int} {L : List Int} (h : putM kind lo hi named c k i g nm n2 flat n3 ds = (L, 0)) (hkd : 1 ≤ kind) (hlo : 0 ≤ lo) (hhi : hi ≤ 255)
    (hi' : 0 ≤ i ∧ i < 18446744073709551616) (hg : 0 ≤ g ∧ g < 18446744073709551616) (hnm : nm.length = 16) (hz : named = false → nm = zero16) (h2 : flat.length = 16 * n2) (h3 : ds.length = n3) :
    readM named (openOf L).2.1 = ⟨c, k, i, g, nm, flat, ds⟩ ∧ goodR kind lo hi named ⟨c, k, i, g, nm, flat, ds⟩ L = true ∧ (readM named (openOf (L ++ [0])).2.1).c = 0 ∧ L.length ≤ 65536 := by
  obtain ⟨hm, hL⟩ := putM_zero h
  subst h3
  have hb : (bodyM named c k i g nm n2 flat ds.length ds).length ≤ 10300 := by rw [bodyM_length hnm h2 rfl]; split <;> omega
  have e1 := openOf_frame (kind := kind) (bs := bodyM named c k i g nm n2 flat ds.length ds) hkd (by omega)
  have e2 := openOf_more (kind := kind) (bs := bodyM named c k i g nm n2 flat ds.length ds) (more := [0]) hkd (by omega) (by decide)
  refine ⟨?_, ?_, ?_, ?_⟩
  · rw [hL, e1]
    exact read_put named (by omega) (by omega) hi' hg hnm hz h2 (by omega) (by omega)
  · rw [goodR]
    refine decide_eq_true ?_
    show putM kind lo hi named c k i g nm (flat.length / 16) flat ds.length ds = (L, 0)
    rw [h2, Nat.mul_div_cancel_left _ (by decide : 0 < 16)]
    exact h
  · rw [hL, e2]
    exact read_nil named
  · rw [hL, frameOf_length]
    omega
/-- 'x ^ 1' is not x. -/
theorem wrap_toInt (r : BitVec 64) : IntKind.i64.wrap (r.toNat : Int) = r.toInt := by
  have h : r.toNat < 18446744073709551616 := r.isLt
  rw [BitVec.toInt_eq_toNat_cond]
  unfold IntKind.wrap
  have e1 : (2 : Int) ^ IntKind.i64.bits = 18446744073709551616 := by decide
  have e2 : (2 : Int) ^ (IntKind.i64.bits - 1) = 9223372036854775808 := by decide
  have e3 : (2 : Nat) ^ 64 = 18446744073709551616 := by decide
  have e4 : IntKind.i64.signed = true := rfl
  have e5 : (r.toNat : Int) % 18446744073709551616 = r.toNat := by omega
  dsimp only
  rw [e1, e2, e3, e4, e5]
  simp only [Bool.true_and, decide_eq_true_eq]
  split <;> split <;> omega
theorem xor_one_ne (x : Int) : IntKind.i64.wrap ((BitVec.ofInt 64 x ^^^ BitVec.ofInt 64 1).toNat : Int) ≠ x := by
  intro h
  rw [wrap_toInt] at h
  have h2 := congrArg (BitVec.ofInt 64) h
  rw [BitVec.ofInt_toInt] at h2
  have h3 : BitVec.ofInt 64 x ^^^ (BitVec.ofInt 64 x ^^^ BitVec.ofInt 64 1) = BitVec.ofInt 64 x ^^^ BitVec.ofInt 64 x := by rw [h2]
  rw [← BitVec.xor_assoc, BitVec.xor_self, BitVec.zero_xor] at h3
  exact absurd h3 (by decide)
theorem u64_next_ne {x : Int} (h : 0 ≤ x ∧ x < 18446744073709551616) : IntKind.u64.wrap (x + 1) ≠ x := by
  unfold IntKind.wrap
  simp [IntKind.bits, IntKind.signed]
  omega
end Go.Proofs.Ythnommoljikaiaa
