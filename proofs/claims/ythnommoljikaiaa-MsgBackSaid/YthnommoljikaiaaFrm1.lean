/- The walks over wire.Sized, frame.check, frame.Put and bytes.Equal. -/
import Derived.Test.YthnommoljikaiaaBuf3
set_option linter.unusedSimpArgs false
set_option linter.unusedVariables false
namespace Go.Proofs.Ythnommoljikaiaa
open Go.RowKit

set_option maxRecDepth 100000 in
set_option maxHeartbeats 400000 in
theorem sized_any (A : Option Addr) (n cap : Nat) (bs : List Int) (A2 : Option Addr) (n2 cap2 : Nat) (xs : List Int) (w : World) (hrd : RdB w A n bs) (hnil : A = none → cap = 0) (hrd2 : RdB w A2 n2 xs) (hnil2 : A2 = none → cap2 = 0) (hbig : n ≤ 8796093022208) (hbig2 : n2 ≤ 8796093022208) :
    Calls Try.prog 87 #[.slice A n cap, .slice A2 n2 cap2] w fun e w' => ∃ r, e = .returned r ∧ OwB w' w.heap.size r (bs ++ be n2 4 ++ xs) ∧ Below w.heap.size w w' := by
  have HRD := bx hrd; have HNIL := bx hnil; have HRD2 := bx hrd2; have HNIL2 := bx hnil2
  clear hrd hnil hrd2 hnil2
  have hw : (n2 : Int) % 18446744073709551616 = n2 := by omega
  go_enter Try.func87, Try.ntmps87
  go_wp2_with fail
  refine (wput_any A n cap bs n2 4 _ HRD.out HNIL.out (by omega) (by decide)).mono ?_
  rintro e w1 ⟨r, rfl, ho, hb⟩
  have HO := bx ho; have B1 := bx hb; have HRD3 := bx (HRD2.out.below hb)
  have hlen : (bs ++ be n2 4).length + n2 ≤ 70368744177664 := by rw [List.length_append, be_length, HRD.out.1]; omega
  have HL := bx hlen
  clear ho hb hlen
  go_wp2_with (first
    | ((with_reducible refine at_call 11 ?_); go_must (refine wpList_app rfl (.tmp 9) (.tmp 10) rfl w.heap.size _ (bs ++ be n2 4) rfl HO.out A2 n2 cap2 xs rfl HRD3.out HNIL2.out HL.out B1.out.size ?_; intro v' w' h1 h2; have K1 := bx h1; have K2 := bx h2; clear h1 h2)))
  go_ret
  exact ⟨_, rfl, K1.out, HO.out.below K2.out B1.out (Nat.le_refl _) B1.out.size⟩

set_option maxRecDepth 100000 in
set_option maxHeartbeats 400000 in
theorem check_any (A : Option Addr) (n cap : Nat) (bs : List Int) (w : World) (hrd : RdB w A n bs) (hB : IsB bs) (hcap : n ≤ cap) (hbig : n ≤ 1152921504606846976) :
    Calls Try.prog 88 #[.slice A n cap] w fun e w' => ∃ g, e = .returned (.slice (some ⟨g, 0, none⟩) 4 32) ∧ RdB w' (some ⟨g, 0, none⟩) 4 ((shaOf bs).take 4) ∧ w.heap.size ≤ g ∧ Below w.heap.size w w' := by
  have HRD := bx hrd; have HB := bx hB
  clear hrd hB
  have hS := shaOf_length bs
  generalize hSe : shaOf bs = S at *
  have HS := bx hS; have HSe := bx hSe
  clear hS hSe
  have IS : Bx ((Try.prog.info? 81).map (·.size) = some (ints .u8 S).size) := ⟨by rw [ints_size, HS.out]; kernel_rfl⟩
  have sl := arr_slice_h Try.underlying81 Try.sizeOf5
  go_enter Try.func88, Try.ntmps88
  go_wp2_with fail
  refine (sum_any A n cap bs _ HRD.out HB.out hcap hbig).mono ?_
  rintro e w1 ⟨rfl, hb1⟩
  rw [HSe.out]
  have B1 := bx hb1
  have sl2 := sl w1.heap.size 0 4 (by decide) .i64 4 rfl
  clear hb1 sl
  go_wp2_with (first
    | ((with_reducible refine at_store (.tmp 3) (.tmp 5) ?_); go_must (refine wpList_store_agg (cells := ints .u8 S) rfl 81 (.tmp 3) (.tmp 5) rfl w1.heap.size 0 rfl rfl 81 (ints .u8 (List.replicate 32 0)) (blk_new w1 _) IS.out (by rw [ints_size, ints_size, HS.out]; decide) (ints_oneCell _ _) (ints .u8 S) (putRow_all _ _ (by rw [Array.length_toList, ints_size, ints_size, HS.out]; rfl)) ?_; intro w2 hu2; have Q2 := bx hu2.same; have B2 := bx ((B1.out.alloc B1.out.size _).trans (hu2.below B1.out.size)); clear hu2)))
  go_ret
  refine ⟨w1.heap.size, rfl, ⟨by rw [List.length_take, HS.out]; rfl, fun _ => ⟨_, 0, rfl, blk_lt Q2.out, fun j hj => ?_⟩⟩, B1.out.size, B2.out⟩
  rw [Nat.zero_add, blk_int Q2.out j (by rw [HS.out]; omega)]
  simp [List.getD_eq_getElem?_getD, List.getElem?_take, hj]

set_option maxRecDepth 100000 in
set_option maxHeartbeats 400000 in
theorem equal_any (A : Option Addr) (n cap : Nat) (bs : List Int) (A2 : Option Addr) (n2 cap2 : Nat) (xs : List Int) (w : World) (hrd : RdB w A n bs) (hrd2 : RdB w A2 n2 xs) (hB : IsB bs) (hB2 : IsB xs) :
    Calls Try.prog 92 #[.slice A n cap, .slice A2 n2 cap2] w fun e w' => e = .returned (.bool (decide (bs = xs))) ∧ w = w' := by
  have h1 := str_of hrd cap
  have h2 := str_of hrd2 cap2
  have HD := bx (str_dec hB hB2)
  clear hrd hrd2 hB hB2
  generalize strOfNums bs = a at *
  generalize strOfNums xs = b at *
  go_enter Try.func92, Try.ntmps92
  go_wp2_with fail
  go_ret
  exact ⟨by rw [← HD.out]; rfl, rfl⟩
end Go.Proofs.Ythnommoljikaiaa
