/- wire.Sized, bytes.Equal. -/
import Derived.Test.YthnommoljikaiaaDoorBuf3
set_option linter.unusedSimpArgs false
set_option linter.unusedVariables false
namespace Go.Proofs.YthnommoljikaiaaDoor
open Go.RowKit

set_option maxRecDepth 100000 in
set_option maxHeartbeats 400000 in
theorem sized_any (A : Option Addr) (n cap : Nat) (bs : List Int) (A2 : Option Addr) (n2 cap2 : Nat) (xs : List Int) (w : World) (hrd : RdB w A n bs) (hnil : A = none → cap = 0) (hrd2 : RdB w A2 n2 xs) (hnil2 : A2 = none → cap2 = 0) (hbig : n ≤ 8796093022208) (hbig2 : n2 ≤ 8796093022208) :
    Calls Tryd.prog 67 #[.slice A n cap, .slice A2 n2 cap2] w fun e w' => ∃ r, e = .returned r ∧ OwB w' w.heap.size r (bs ++ be n2 4 ++ xs) ∧ Below w.heap.size w w' := by
  have HRD := bx hrd; have HNIL := bx hnil; have HRD2 := bx hrd2; have HNIL2 := bx hnil2
  clear hrd hnil hrd2 hnil2
  have hw : (n2 : Int) % 18446744073709551616 = n2 := by omega
  go_enter Tryd.func67, Tryd.ntmps67
  go_wp2_with fail
  refine (wput_any A n cap bs n2 4 _ HRD.out HNIL.out (by omega) (by decide)).mono ?_
  rintro e w1 ⟨r, rfl, ho, hb⟩
  have HO := bx ho; have B1 := bx hb; have HRD3 := bx (HRD2.out.below hb)
  have hlen : (bs ++ be n2 4).length + n2 ≤ 70368744177664 := by rw [List.length_append, be_length, HRD.out.1]; omega
  have HL := bx hlen
  clear ho hb hlen
  go_wp2_with (first
    | ((with_reducible refine at_call 11 ?_); go_must (refine wpList_app rfl (.tmp 9) (.tmp 10) rfl w.heap.size _ (bs ++ be n2 4) rfl HO.out A2 n2 cap2 xs rfl HRD3.out HNIL2.out HL.out B1.out.size ?_; intro v' w' h1 h2; have K1 := bx h1; have K2 := bx h2; clear h1 h2)))
  go_ret
  exact ⟨_, rfl, K1.out, HO.out.below K2.out B1.out (Nat.le_refl _) B1.out.size⟩
set_option maxRecDepth 100000 in
set_option maxHeartbeats 400000 in
theorem equal_any (A : Option Addr) (n cap : Nat) (bs : List Int) (A2 : Option Addr) (n2 cap2 : Nat) (xs : List Int) (w : World) (hrd : RdB w A n bs) (hrd2 : RdB w A2 n2 xs) (hB : IsB bs) (hB2 : IsB xs) :
    Calls Tryd.prog 69 #[.slice A n cap, .slice A2 n2 cap2] w fun e w' => e = .returned (.bool (decide (bs = xs))) ∧ w = w' := by
  have h1 := str_of hrd cap
  have h2 := str_of hrd2 cap2
  have HD := bx (str_dec hB hB2)
  clear hrd hrd2 hB hB2
  generalize strOfNums bs = a at *
  generalize strOfNums xs = b at *
  go_enter Tryd.func69, Tryd.ntmps69
  go_wp2_with fail
  go_ret
  exact ⟨by rw [← HD.out]; rfl, rfl⟩
end Go.Proofs.YthnommoljikaiaaDoor
