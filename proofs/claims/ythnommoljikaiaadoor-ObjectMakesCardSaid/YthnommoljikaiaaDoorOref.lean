/- The document's Put and Sized; bytes of texts. -/
import Derived.Test.YthnommoljikaiaaDoorBuf3
import Derived.Test.YthnommoljikaiaaDoorOsz
set_option linter.unusedSimpArgs false
set_option linter.unusedVariables false
namespace Go.Proofs.YthnommoljikaiaaDoor
open Go.RowKit

/-- A string's bytes. -/
def bytesOf (s : ByteArray) : List Int := s.data.toList.map fun b => (b.toNat : Int)
theorem bytesOf_length (s : ByteArray) : (bytesOf s).length = s.size := by simp [bytesOf]
theorem bytesOf_get (s : ByteArray) (j : Nat) (h : j < s.size) : (bytesOf s).getD j 0 = (s[j].toNat : Int) := by
  have h' : j < s.data.size := h
  rw [bytesOf, List.getD_eq_getElem?_getD, List.getElem?_map, Array.getElem?_toList, Array.getElem?_eq_getElem h']
  rfl
theorem bytesOf_isB (s : ByteArray) : IsB (bytesOf s) := fun j => by
  by_cases h : j < s.size
  · rw [bytesOf_get s j h]
    have := s[j].toNat_lt
    omega
  · rw [List.getD_eq_getElem?_getD, List.getElem?_eq_none (by rw [bytesOf_length]; omega)]
    decide
theorem strApp (a b : List Int) : strOfNums (a ++ b) = strOfNums a ++ strOfNums b := by
  apply ByteArray.ext
  apply Array.toList_inj.1
  rw [strOfNums_data, ByteArray.data_append, Array.toList_append, strOfNums_data, strOfNums_data, List.map_append]
theorem strLen (a : List Int) : (strOfNums a).size = a.length := by
  have := congrArg List.length (strOfNums_data a)
  rw [List.length_map, Array.length_toList] at this
  exact this
theorem strExt (b : List Int) (i j : Nat) : (strOfNums b).extract i j = strOfNums ((b.take j).drop i) := by
  apply ByteArray.ext
  apply Array.toList_inj.1
  rw [ByteArray.data_extract, Array.toList_extract, strOfNums_data, strOfNums_data, List.map_drop, List.map_take]
  simp only [List.extract, List.drop_take]
theorem bytesOf_str (a : List Int) (h : IsB a) : bytesOf (strOfNums a) = a := by
  rw [bytesOf, strOfNums_data, List.map_map]
  apply List.ext_getElem (by simp)
  intro j h1 h2
  have := h j
  rw [List.getD_eq_getElem?_getD, List.getElem?_eq_getElem h2] at this
  simp at this ⊢
  omega
set_option maxRecDepth 100000 in
set_option maxHeartbeats 1000000 in
theorem rput_any (bs : List Int) (v : Int) (n : Nat) (h1 : 1 ≤ n) (h8 : n ≤ 8) (hv0 : 0 ≤ v) (hv1 : v < 18446744073709551616) (hbig : bs.length ≤ 1152921504606846976) (w : World) :
    Calls Tryd.prog 53 #[.string (strOfNums bs), .int .u64 v, .int .i64 n] w fun e w' => e = .returned (.string (strOfNums (bs ++ be v n))) ∧ Below w.heap.size w w' := by
  have hsz : (strOfNums bs).size = bs.length := strLen bs
  have g1 : ¬ (n : Int) < 1 := by omega
  have g2 : ¬ (8 : Int) < n := by omega
  have HF : Bx (strOfNums bs ++ strOfNums (be v n) = strOfNums (bs ++ be v n)) := ⟨(strApp _ _).symm⟩
  have HF2 : Bx ((strOfNums (be v n)).size = n) := ⟨by rw [strLen, be_length]⟩
  generalize strOfNums bs = s0 at *
  go_enter Tryd.func53, Tryd.ntmps53
  go_wp2_with fail
  go_loopw [7, 8, 1] (fun o q x wr => ∃ i : Nat, i ≤ n ∧ q = .int .i64 i ∧ o = .string (strOfNums (be v i)) ∧ x = .int .u64 (v / 2 ^ (8 * i)) ∧ Below w.heap.size w wr) (fun _ q _ _ => n - (intOf q).toNat)
  case atStart => exact ⟨0, Nat.zero_le _, rfl, rfl, by simp, Below.refl _ _⟩
  case round =>
    obtain ⟨i, hi, rfl, rfl, rfl, hb⟩ := hrel
    have BR := bx hb
    clear hb
    have hs2 : (strOfNums (be v i)).size = i := by rw [strLen, be_length]
    by_cases hlt : i < n
    · have hlt' : (i : Int) < n := by omega
      have cv : ∀ b : Int, (convert 41 9 (.slice (some ⟨wr.heap.size, 0, none⟩) 1 1)).run Tryd.prog (wr.alloc (.cells #[.int .u8 b] 5)) = .ok (.string (strOfNums [b])) (wr.alloc (.cells #[.int .u8 b] 5)) := fun b => str_of (rdB_made wr 5 [b]) 1
      have hs3 : ∀ b : Int, (strOfNums [b]).size = 1 := fun b => strLen [b]
      have HN : Bx (strOfNums [v / 2 ^ (8 * i) % 256] ++ strOfNums (be v i) = strOfNums (be v (i + 1))) := ⟨by rw [← strApp]; rfl⟩
      have x0 : 0 ≤ v / 2 ^ (8 * i) := Int.ediv_nonneg hv0 (Int.pow_nonneg (by decide))
      have HX : Bx (v / 2 ^ (8 * i) / 256 = v / 2 ^ (8 * (i + 1))) := ⟨by rw [Int.ediv_ediv_of_nonneg (Int.pow_nonneg (by decide)), show 8 * (i + 1) = 8 * i + 8 by omega, Int.pow_add]; rfl⟩
      have HX1 : Bx (v / 2 ^ (8 * i) < 18446744073709551616) := ⟨Int.lt_of_le_of_lt (Int.ediv_le_self _ hv0) hv1⟩
      generalize v / 2 ^ (8 * i) = X at *
      have HX2 : Bx (IntKind.u64.wrap (X.tdiv 256) = X / 256) := ⟨by
        rw [Int.tdiv_eq_ediv_of_nonneg x0]
        have := HX1.out
        unfold IntKind.wrap
        simp [IntKind.bits, IntKind.signed]
        omega⟩
      generalize strOfNums (be v i) = s' at *
      go_wp2_with fail
      rw [HN.out, HX2.out]
      exact ⟨⟨i + 1, by omega, by go_num, rfl, by rw [← HX.out], BR.out.alloc BR.out.size _⟩, by simp [intOf]; omega⟩
    · obtain rfl : i = n := by omega
      have hlt' : ¬ (i : Int) < i := by omega
      clear HF2
      generalize strOfNums (be v i) = s' at *
      go_wp2_with fail
      go_ret
      exact ⟨congrArg (fun x => Ending.returned (.string x)) HF.out, BR.out⟩
set_option maxRecDepth 100000 in
theorem rsized_any (bs xs : List Int) (hbig : bs.length ≤ 1152921504606846976) (hbig2 : xs.length ≤ 1152921504606846976) (w : World) :
    Calls Tryd.prog 54 #[.string (strOfNums bs), .string (strOfNums xs)] w fun e w' => e = .returned (.string (strOfNums (bs ++ be xs.length 4 ++ xs))) ∧ Below w.heap.size w w' := by
  have hsz : (strOfNums xs).size = xs.length := strLen xs
  have HC := bx (rput_any bs xs.length 4 (by decide) (by decide) (by omega) (by omega) hbig)
  have HF : Bx (strOfNums (bs ++ be xs.length 4) ++ strOfNums xs = strOfNums (bs ++ be xs.length 4 ++ xs)) := ⟨(strApp _ _).symm⟩
  have hs4 : (strOfNums (bs ++ be xs.length 4)).size = bs.length + 4 := by rw [strLen, List.length_append, be_length]
  generalize strOfNums bs = s0 at *
  generalize strOfNums xs = s1 at *
  generalize strOfNums (bs ++ be xs.length 4) = s2 at *
  go_enter Tryd.func54, Tryd.ntmps54
  go_wp2_with fail
  refine (HC.out w).mono ?_
  rintro e w1 ⟨rfl, hb1⟩
  have B1 := bx hb1
  clear hb1
  go_wp2_with fail
  go_ret
  exact ⟨congrArg (fun x => Ending.returned (.string x)) HF.out, B1.out⟩
end Go.Proofs.YthnommoljikaiaaDoor
