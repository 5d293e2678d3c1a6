/- The walk over wire.Put. -/
import Derived.Test.YthnommoljikaiaaDoorBuf2
set_option linter.unusedSimpArgs false
set_option linter.unusedVariables false
namespace Go.Proofs.YthnommoljikaiaaDoor
open Go.RowKit

/-- The lowest k bytes of a number, the highest first. -/
def be (v : Int) : Nat → List Int
  | 0 => []
  | k + 1 => v / 2 ^ (8 * k) % 256 :: be v k
theorem be_length (v : Int) : ∀ k, (be v k).length = k
  | 0 => rfl
  | k + 1 => by rw [be, List.length_cons, be_length v k]
theorem be_isB (v : Int) : ∀ k, IsB (be v k)
  | 0 => fun j => by simp [be]
  | k + 1 => fun j => by
    cases j with
    | zero => simp only [be, List.getD_cons_zero]; omega
    | succ j => simp only [be, List.getD_cons_succ]; exact be_isB v k j
/-- What is laid so far: all but the last j bytes. -/
def beUp (v : Int) (m j : Nat) : List Int := (be v m).take (m - j)
theorem be_drop (v : Int) : ∀ (k d : Nat), (be v (d + k)).drop d = be v k
  | k, 0 => by simp
  | k, d + 1 => by rw [show d + 1 + k = (d + k) + 1 by omega, be, List.drop_succ_cons, be_drop v k d]
theorem beUp_zero (v : Int) (m : Nat) : beUp v m 0 = be v m := by rw [beUp, Nat.sub_zero, List.take_of_length_le (by rw [be_length]; omega)]
theorem beUp_all (v : Int) (m : Nat) : beUp v m m = [] := by simp [beUp]
theorem beUp_length (v : Int) (m j : Nat) (h : j ≤ m) : (beUp v m j).length = m - j := by rw [beUp, List.length_take, be_length]; omega
theorem beUp_step (v : Int) (m j : Nat) (h : j < m) : beUp v m (j + 1) ++ [v / 2 ^ (8 * j) % 256] = beUp v m j := by
  have e : (be v m)[m - (j + 1)]? = some (v / 2 ^ (8 * j) % 256) := by
    have h1 := be_drop v (j + 1) (m - (j + 1))
    rw [show m - (j + 1) + (j + 1) = m by omega] at h1
    have h2 : ((be v m).drop (m - (j + 1)))[0]? = some (v / 2 ^ (8 * j) % 256) := by rw [h1, be]; rfl
    simpa using h2
  rw [beUp, beUp, show m - j = m - (j + 1) + 1 by omega, List.take_add_one, e]
  rfl

set_option maxRecDepth 100000 in
set_option maxHeartbeats 800000 in
theorem wput_any (A : Option Addr) (n cap : Nat) (bs : List Int) (v : Int) (m : Nat) (w : World) (hrd : RdB w A n bs) (hnil : A = none → cap = 0) (hbig : n ≤ 17592186044416) (hm : m ≤ 8) :
    Calls Tryd.prog 50 #[.slice A n cap, .int .u64 v, .int .i64 m] w fun e w' => ∃ r, e = .returned r ∧ OwB w' w.heap.size r (bs ++ be v m) ∧ Below w.heap.size w w' := by
  have HRD := bx hrd; have HNIL := bx hnil
  clear hrd hnil
  have hmin : min (m : Int) 8 = m := by omega
  go_enter Tryd.func50, Tryd.ntmps50
  go_wp2_with fail
  refine (clone_any A n cap bs _ HRD.out HNIL.out (by omega)).mono ?_
  rintro e w1 ⟨r, rfl, ho, hb⟩
  have HO := bx ho; have B1 := bx hb
  clear ho hb
  go_wp2_with fail
  go_loopw [7, 8] (fun s i wr => ∃ j : Nat, j ≤ m ∧ i = .int .i64 ((j : Int) - 1) ∧ OwB wr w.heap.size s (bs ++ beUp v m j) ∧ Below w.heap.size w wr) (fun _ i _ => (intOf i + 1).toNat)
  case atStart => exact ⟨m, by omega, rfl, by rw [beUp_all, List.append_nil]; exact HO.out, B1.out⟩
  case round =>
    rename_i sl
    obtain ⟨j, hj, rfl, ho, hb⟩ := hrel
    have HO' := bx ho; have B := bx hb
    clear ho hb HO B1
    cases j with
    | zero =>
      go_wp2_with fail
      go_ret
      exact ⟨_, rfl, by have := HO'.out; rw [beUp_zero] at this; exact this, B.out⟩
    | succ k =>
      have e : (((k + 1 : Nat) : Int) - 1) = k := by omega
      rw [e]
      clear e
      have hx := bx (rdB_made wr 5 [v / 2 ^ (8 * k) % 256])
      have hlen : (bs ++ beUp v m (k + 1)).length + 1 ≤ 70368744177664 := by
        rw [List.length_append, beUp_length v m (k + 1) hj, HRD.out.1]
        omega
      have HL := bx hlen
      have B2 := bx (B.out.alloc B.out.size (.cells (ints .u8 [v / 2 ^ (8 * k) % 256]) 5))
      clear hlen
      go_wp2_with (first
        | ((with_reducible refine at_call 25 ?_); go_must (refine wpList_app rfl (.tmp 18) (.tmp 24) rfl w.heap.size _ (bs ++ beUp v m (k + 1)) rfl (HO'.out.alloc _) (some ⟨wr.heap.size, 0, none⟩) 1 1 [v / 2 ^ (8 * k) % 256] rfl hx.out (fun h => by cases h) HL.out B2.out.size ?_; intro v' w' h1 h2; have K1 := bx h1; have K2 := bx h2; clear h1 h2)))
      go_roundw
      case rel => exact ⟨k, by omega, rfl, by have := K1.out; rw [List.append_assoc, beUp_step v m k hj] at this; exact this, (HO'.out.alloc _).below K2.out B2.out (Nat.le_refl _) B2.out.size⟩
      case measure => simp [intOf]
end Go.Proofs.YthnommoljikaiaaDoor
