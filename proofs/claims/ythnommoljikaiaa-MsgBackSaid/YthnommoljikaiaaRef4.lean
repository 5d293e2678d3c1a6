/- The document's frame (coffretref01, coffretref19): the walks over Put and Sized, sum and Put; frame.Put where it tells an error. -/
import Derived.Test.YthnommoljikaiaaRef3
import Derived.Test.YthnommoljikaiaaFrm7
set_option linter.unusedSimpArgs false
set_option linter.unusedVariables false
namespace Go.Proofs.Ythnommoljikaiaa
open Go.RowKit

set_option maxRecDepth 100000 in
set_option maxHeartbeats 1000000 in
theorem rput_any (bs : List Int) (v : Int) (n : Nat) (h1 : 1 ≤ n) (h8 : n ≤ 8) (hv0 : 0 ≤ v) (hv1 : v < 18446744073709551616) (hbig : bs.length ≤ 1152921504606846976) (w : World) :
    Calls Try.prog 86 #[.string (strOfNums bs), .int .u64 v, .int .i64 n] w fun e w' => e = .returned (.string (strOfNums (bs ++ be v n))) ∧ Below w.heap.size w w' := by
  have hsz : (strOfNums bs).size = bs.length := strLen bs
  have g1 : ¬ (n : Int) < 1 := by omega
  have g2 : ¬ (8 : Int) < n := by omega
  have HF : Bx (strOfNums bs ++ strOfNums (be v n) = strOfNums (bs ++ be v n)) := ⟨(strApp _ _).symm⟩
  have HF2 : Bx ((strOfNums (be v n)).size = n) := ⟨by rw [strLen, be_length]⟩
  generalize strOfNums bs = s0 at *
  go_enter Try.func86, Try.ntmps86
  go_wp2_with fail
  go_loopw [7, 8, 1] (fun o q x wr => ∃ i : Nat, i ≤ n ∧ q = .int .i64 i ∧ o = .string (strOfNums (be v i)) ∧ x = .int .u64 (v / 2 ^ (8 * i)) ∧ Below w.heap.size w wr) (fun _ q _ _ => n - (intOf q).toNat)
  case atStart => exact ⟨0, Nat.zero_le _, rfl, rfl, by simp, Below.refl _ _⟩
  case round =>
    obtain ⟨i, hi, rfl, rfl, rfl, hb⟩ := hrel
    have BR := bx hb
    clear hb
    have hs2 : (strOfNums (be v i)).size = i := by rw [strLen, be_length]
    by_cases hlt : i < n
    · have hlt' : (i : Int) < n := by omega
      have cv : ∀ b : Int, (convert 22 9 (.slice (some ⟨wr.heap.size, 0, none⟩) 1 1)).run Try.prog (wr.alloc (.cells #[.int .u8 b] 5)) = .ok (.string (strOfNums [b])) (wr.alloc (.cells #[.int .u8 b] 5)) := fun b => str_of (rdB_made wr 5 [b]) 1
      have hs3 : ∀ b : Int, (strOfNums [b]).size = 1 := fun b => strLen [b]
      have HN : Bx (strOfNums [v / 2 ^ (8 * i) % 256] ++ strOfNums (be v i) = strOfNums (be v (i + 1))) := ⟨by rw [← strApp]; rfl⟩
      have x0 : 0 ≤ v / 2 ^ (8 * i) := Int.ediv_nonneg hv0 (Int.pow_nonneg (by decide))
      have HX : Bx (v / 2 ^ (8 * i) / 256 = v / 2 ^ (8 * (i + 1))) := ⟨by rw [Int.ediv_ediv_of_nonneg (Int.pow_nonneg (by decide)), show 8 * (i + 1) = 8 * i + 8 by omega, Int.pow_add]; rfl⟩
      have HX1 : Bx (v / 2 ^ (8 * i) < 18446744073709551616) := ⟨Int.lt_of_le_of_lt (Int.ediv_le_self _ hv0) hv1⟩
      generalize v / 2 ^ (8 * i) = X at *
      have HX2 : Bx (IntKind.u64.wrap (X.tdiv 256) = X / 256) := ⟨by
        rw [Int.tdiv_eq_ediv_of_nonneg x0]
        have := HX1.out
        unfold IntKind.wrap
        simp [IntKind.bits, IntKind.signed]
        omega⟩
      generalize strOfNums (be v i) = s' at *
      go_wp2_with fail
      rw [HN.out, HX2.out]
      exact ⟨⟨i + 1, by omega, by go_num, rfl, by rw [← HX.out], BR.out.alloc BR.out.size _⟩, by simp [intOf]; omega⟩
    · obtain rfl : i = n := by omega
      have hlt' : ¬ (i : Int) < i := by omega
      clear HF2
      generalize strOfNums (be v i) = s' at *
      go_wp2_with fail
      go_ret
      exact ⟨congrArg (fun x => Ending.returned (.string x)) HF.out, BR.out⟩
set_option maxRecDepth 100000 in
theorem rsized_any (bs xs : List Int) (hbig : bs.length ≤ 1152921504606846976) (hbig2 : xs.length ≤ 1152921504606846976) (w : World) :
    Calls Try.prog 89 #[.string (strOfNums bs), .string (strOfNums xs)] w fun e w' => e = .returned (.string (strOfNums (bs ++ be xs.length 4 ++ xs))) ∧ Below w.heap.size w w' := by
  have hsz : (strOfNums xs).size = xs.length := strLen xs
  have HC := bx (rput_any bs xs.length 4 (by decide) (by decide) (by omega) (by omega) hbig)
  have HF : Bx (strOfNums (bs ++ be xs.length 4) ++ strOfNums xs = strOfNums (bs ++ be xs.length 4 ++ xs)) := ⟨(strApp _ _).symm⟩
  have hs4 : (strOfNums (bs ++ be xs.length 4)).size = bs.length + 4 := by rw [strLen, List.length_append, be_length]
  generalize strOfNums bs = s0 at *
  generalize strOfNums xs = s1 at *
  generalize strOfNums (bs ++ be xs.length 4) = s2 at *
  go_enter Try.func89, Try.ntmps89
  go_wp2_with fail
  refine (HC.out w).mono ?_
  rintro e w1 ⟨rfl, hb1⟩
  have B1 := bx hb1
  clear hb1
  go_wp2_with fail
  go_ret
  exact ⟨congrArg (fun x => Ending.returned (.string x)) HF.out, B1.out⟩
set_option maxRecDepth 100000 in
theorem rsum19_any (bs : List Int) (hB : IsB bs) (hbig : bs.length ≤ 1152921504606846976) (w : World) :
    Calls Try.prog 90 #[.string (strOfNums bs)] w fun e w' => e = .returned (.string (strOfNums ((shaOf bs).take 4))) ∧ Below w.heap.size w w' := by
  have hS := shaOf_length bs
  have HC := bx (refsum_any bs hB hbig w)
  generalize shaOf bs = S at *
  have HS := bx hS
  clear hS
  have IS : Bx ((Try.prog.info? 81).map (·.size) = some (ints .u8 S).size) := ⟨by rw [ints_size, HS.out]; kernel_rfl⟩
  have sl := arr_slice_h Try.underlying81 Try.sizeOf5
  go_enter Try.func90, Try.ntmps90
  go_wp2_with fail
  refine HC.out.mono ?_
  rintro e w1 ⟨rfl, hb1⟩
  have B1 := bx hb1
  have sl2 := sl w1.heap.size 0 4 (by decide) .i64 4 rfl
  clear hb1 sl
  go_wp2_with (first
    | ((with_reducible refine at_store (.tmp 3) (.tmp 5) ?_); go_must (refine wpList_store_agg (cells := ints .u8 S) rfl 81 (.tmp 3) (.tmp 5) rfl w1.heap.size 0 rfl rfl 81 (ints .u8 (List.replicate 32 0)) (blk_new w1 _) IS.out (by rw [ints_size, ints_size, HS.out]; decide) (ints_oneCell _ _) (ints .u8 S) (by rw [putRow_all _ _ (by rw [Array.length_toList, ints_size, ints_size, HS.out]; decide), Array.toArray_toList]) ?_; intro w2 hu2; have cv := str_of (w := w2) (A := some ⟨w1.heap.size, 0, none⟩) (n := 4) (bs := S.take 4) ⟨by rw [List.length_take, HS.out]; rfl, fun _ => ⟨_, 0, rfl, blk_lt hu2.same, fun j hj => by rw [Nat.zero_add, blk_int hu2.same j (by rw [HS.out]; omega)]; simp [List.getD_eq_getElem?_getD, List.getElem?_take, hj]⟩⟩ 32; have B2 := bx (B1.out.trans (((Below.refl w1.heap.size w1).alloc (Nat.le_refl _) _).trans (hu2.below (Nat.le_refl _)) |>.mono B1.out.size)); clear hu2)))
  go_ret
  exact ⟨rfl, B2.out⟩
/-- What the document's Put tells. -/
def rput19 (kind : Int) (bs : List Int) : List Int × Int := if kind < 1 ∨ 255 < kind then ([], 2) else if 65536 < bs.length then ([], 3) else (frameOf kind bs, 0)
set_option maxRecDepth 100000 in
set_option maxHeartbeats 400000 in
theorem rput19_any (kind : Int) (bs : List Int) (hB : IsB bs) (hbig : bs.length ≤ 1152921504606846976) (w : World) :
    Calls Try.prog 49 #[.int .i64 kind, .string (strOfNums bs)] w fun e w' => e = .returned (.tuple #[.string (strOfNums (rput19 kind bs).1), .int .i64 (rput19 kind bs).2]) ∧ Below w.heap.size w w' := by
  have hsz : (strOfNums bs).size = bs.length := strLen bs
  by_cases hk : kind < 1 ∨ 255 < kind
  · rw [rput19, if_pos hk]
    have hk' : kind < 1 ∨ (¬ kind < 1 ∧ 255 < kind) := by omega
    clear hk
    generalize strOfNums bs = s0 at *
    rcases hk' with h1 | ⟨h1, h2⟩
    all_goals
      go_enter Try.func49, Try.ntmps49
      go_wp2_with fail
      go_ret2
      exact ⟨rfl, Below.refl _ _⟩
  · have h1 : ¬ kind < 1 := by omega
    have h2 : ¬ 255 < kind := by omega
    by_cases hl : 65536 < bs.length
    · rw [rput19, if_neg hk, if_pos hl]
      have hl' : (65536 : Int) < bs.length := by omega
      clear hk
      generalize strOfNums bs = s0 at *
      go_enter Try.func49, Try.ntmps49
      go_wp2_with fail
      go_ret2
      exact ⟨rfl, Below.refl _ _⟩
    · rw [rput19, if_neg hk, if_neg hl]
      have hl' : ¬ (65536 : Int) < bs.length := by omega
      have hk1 : kind % 256 = kind := by omega
      have HH : Bx ([67, 70, 49] ++ [kind] ++ be bs.length 4 ++ bs = frameHead kind bs) := ⟨rfl⟩
      have HFB := bx (frameHead_isB (kind := kind) ⟨by omega, by omega⟩ hB)
      have HFL : Bx ((frameHead kind bs).length ≤ 65544) := ⟨by rw [frameHead_length]; omega⟩
      have HCS := bx (rsized_any ([67, 70, 49] ++ [kind]) bs (by simp) hbig)
      have cv : (convert 22 9 (.slice (some ⟨w.heap.size, 0, none⟩) 1 1)).run Try.prog (w.alloc (.cells #[.int .u8 kind] 5)) = .ok (.string (strOfNums [kind])) (w.alloc (.cells #[.int .u8 kind] 5)) := str_of (rdB_made w 5 [kind]) 1
      have HA : Bx (⟨#[67, 70, 49]⟩ ++ strOfNums [kind] = strOfNums ([67, 70, 49] ++ [kind])) := ⟨by rw [strApp]; rfl⟩
      have hs3 : (strOfNums [kind]).size = 1 := strLen [kind]
      generalize strOfNums ([67, 70, 49] ++ [kind]) = sh at *
      generalize strOfNums [kind] = sk at *
      generalize strOfNums bs = s0 at *
      clear hk hB
      go_enter Try.func49, Try.ntmps49
      go_wp2_with fail
      rw [HA.out]
      refine (HCS.out _).mono ?_
      rintro e w1 ⟨rfl, hb1⟩
      rw [HH.out]
      have B1 := bx (((Below.refl w.heap.size w).alloc (Nat.le_refl _) (.cells #[.int .u8 kind] 5)).trans (hb1.mono (by simp)))
      clear hb1
      have HC2 := bx (rsum19_any (frameHead kind bs) HFB.out (by have := HFL.out; omega) w1)
      have HZ : Bx (strOfNums (frameHead kind bs) ++ strOfNums ((shaOf (frameHead kind bs)).take 4) = strOfNums (frameOf kind bs)) := ⟨(strApp _ _).symm⟩
      have hs5 : (strOfNums (frameHead kind bs)).size ≤ 65544 := by rw [strLen]; exact HFL.out
      have hs6 : (strOfNums ((shaOf (frameHead kind bs)).take 4)).size = 4 := by rw [strLen, List.length_take, shaOf_length]; rfl
      generalize strOfNums (frameHead kind bs) = sf at *
      generalize strOfNums ((shaOf (frameHead kind bs)).take 4) = sg at *
      go_wp2_with fail
      refine HC2.out.mono ?_
      rintro e w2 ⟨rfl, hb2⟩
      have B2 := bx (B1.out.trans (hb2.mono B1.out.size))
      clear hb2
      go_wp2_with fail
      go_ret2
      exact ⟨congrArg (fun x => Ending.returned (.tuple #[.string x, .int .i64 0])) HZ.out, B2.out⟩
set_option maxRecDepth 100000 in
theorem fput_bad (kind : Int) (A : Option Addr) (n cap : Nat) (w : World) (hk : kind < 1 ∨ 255 < kind) :
    Calls Try.prog 48 #[.int .i64 kind, .slice A n cap] w fun e w' => e = .returned (.tuple #[.slice none 0 0, .int .i64 2]) ∧ w = w' := by
  have hk' : kind < 1 ∨ (¬ kind < 1 ∧ 255 < kind) := by omega
  clear hk
  rcases hk' with h1 | ⟨h1, h2⟩
  all_goals
    go_enter Try.func48, Try.ntmps48
    go_wp2_with fail
    go_ret2
    exact ⟨rfl, rfl⟩
end Go.Proofs.Ythnommoljikaiaa
