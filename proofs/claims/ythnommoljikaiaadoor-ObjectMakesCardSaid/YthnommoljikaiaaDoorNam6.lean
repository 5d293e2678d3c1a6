/- The walks over names: Less of both, the document's letter, good, Part. -/
import Derived.Test.YthnommoljikaiaaDoorNam5
import Derived.Sort.Walk0
import Derived.Test.YthnommoljikaiaaDoorAgg
set_option linter.unusedSimpArgs false
set_option linter.unusedVariables false
namespace Go.Proofs.YthnommoljikaiaaDoor
open Go.RowKit

set_option maxRecDepth 100000 in
theorem less_any (a b : ByteArray) (w : World) : Calls Tryd.prog 18 #[.string a, .string b] w fun e w' => e = .returned (.bool (Op.bytesLess a.data.toList b.data.toList)) ∧ w = w' := by
  rw [← ByteArray.toList_eq, ← ByteArray.toList_eq]
  go_enter Tryd.func18, Tryd.ntmps18
  go_wp2_with fail
  go_ret
  exact ⟨rfl, rfl⟩
theorem less_skip : ∀ (k : Nat) (a b : List UInt8), a.take k = b.take k → k ≤ a.length → k ≤ b.length → Op.bytesLess a b = Op.bytesLess (a.drop k) (b.drop k)
  | 0, a, b, _, _, _ => rfl
  | k + 1, [], b, _, h, _ => by simp at h
  | k + 1, _ :: _, [], _, _, h => by simp at h
  | k + 1, x :: a, y :: b, h, ha, hb => by
    simp only [List.take_succ_cons, List.cons.injEq] at h
    obtain ⟨rfl, h⟩ := h
    simp only [List.length_cons] at ha hb
    simp only [Op.bytesLess, List.drop_succ_cons]
    rw [less_skip k a b h (by omega) (by omega)]
    simp
set_option maxRecDepth 100000 in
set_option maxHeartbeats 400000 in
theorem rless_any (a b : ByteArray) (w : World) (ha : a.size ≤ 4294967281) (hb : b.size ≤ 4294967281) : Calls Tryd.prog 19 #[.string a, .string b] w fun e w' => e = .returned (.bool (Op.bytesLess a.data.toList b.data.toList)) ∧ Below w.heap.size w w' := by
  have hla : a.data.toList.length = a.size := by simp
  have hlb : b.data.toList.length = b.size := by simp
  have HLA := bx hla; have HLB := bx hlb
  clear hla hlb
  go_enter Tryd.func19, Tryd.ntmps19
  go_wp2_with fail
  go_loopw [5] (fun i wr => ∃ k : Nat, k ≤ a.size ∧ k ≤ b.size ∧ i = .int .i64 k ∧ Below w.heap.size w wr ∧ a.data.toList.take k = b.data.toList.take k) (fun i _ => a.size - (intOf i).toNat)
  case atStart => exact ⟨0, Nat.zero_le _, Nat.zero_le _, rfl, Below.refl _ _, rfl⟩
  case round =>
    rename_i wr
    obtain ⟨k, hka, hkb, rfl, hbel, heq⟩ := hrel
    have HB := bx hbel; have HE := bx heq
    have HS := bx (less_skip k a.data.toList b.data.toList heq (by rw [HLA.out]; exact hka) (by rw [HLB.out]; exact hkb))
    clear hbel heq
    by_cases h1 : k < a.size
    · have h1' : (k : Int) < a.size := by omega
      by_cases h2 : k < b.size
      · have h2' : (k : Int) < b.size := by omega
        have HD1 : Bx (a.data.toList.drop k = a[k] :: a.data.toList.drop (k + 1)) := ⟨by rw [List.drop_eq_getElem_cons (by rw [HLA.out]; exact h1)]; rfl⟩
        have HD2 : Bx (b.data.toList.drop k = b[k] :: b.data.toList.drop (k + 1)) := ⟨by rw [List.drop_eq_getElem_cons (by rw [HLB.out]; exact h2)]; rfl⟩
        have HT1 := bx (take_data a k h1); have HT2 := bx (take_data b k h2)
        have hk63 : (k : Int) + 1 ≤ 9223372036854775807 := by omega
        have ix : (Instr.index 9 (.string a) (.int .i64 k)).run Tryd.prog wr.drew = .ok (.int .u8 a[k].toNat) wr.drew := by go_simp
        have iy : (Instr.index 9 (.string b) (.int .i64 k)).run Tryd.prog wr.drew = .ok (.int .u8 b[k].toNat) wr.drew := by go_simp
        by_cases he : a[k] = b[k]
        · have he' : ((a[k].toNat : Int) != b[k].toNat) = false := by simp [he]
          have HQ := bx he
          clear he
          go_upto_region 4 with fail
          try simp only [Act.put]
          refine region_quietC (fun w' => w' = wr.drew) (by kernel_rfl) (by kernel_rfl) rfl ?_
          repeat (first
            | (refine quiet_take (v := ?_) _ rfl (by kernel_rfl) ?_ ?_; rotate_left 1; (focus (first | (intro w' hw'; clear hw'; unfold Oper.quietAt; go_simp; done) | (intro w' hw'; clear hw'; unfold Oper.quietAt; go_simp; with_reducible rfl) | (intro w' hw'; subst hw'; unfold Oper.quietAt; go_simp; first | done | with_reducible rfl))); try simp only [List.setIfInBounds_toArray, List.set_cons_zero, List.set_cons_succ]))
          refine wpQuiet_nil ?_
          rintro w' rfl
          clear ix iy he'
          go_wp2_with fail
          go_roundw
          case rel => exact ⟨k + 1, by omega, by omega, by go_num, HB.out.drew, by rw [HT1.out, HT2.out, HE.out, HQ.out]⟩
          case measure => simp [intOf]; omega
        · have he' : ((a[k].toNat : Int) != b[k].toNat) = true := by
            rw [bne_iff_ne]; exact fun e => he (UInt8.toNat_inj.1 (by omega))
          have HF : Bx (Op.bytesLess a.data.toList b.data.toList = decide (a[k].toNat < b[k].toNat)) := ⟨by
            rw [HS.out, HD1.out, HD2.out, Op.bytesLess, beq_eq_false_iff_ne.2 he, Bool.false_and, Bool.or_false]
            rw [Bool.eq_iff_iff]; simp [UInt8.lt_iff_toNat_lt]⟩
          clear he
          go_upto_region 4 with fail
          try simp only [Act.put]
          refine region_quietC (fun w' => w' = wr.drew) (by kernel_rfl) (by kernel_rfl) rfl ?_
          repeat (first
            | (refine quiet_take (v := ?_) _ rfl (by kernel_rfl) ?_ ?_; rotate_left 1; (focus (first | (intro w' hw'; clear hw'; unfold Oper.quietAt; go_simp; done) | (intro w' hw'; clear hw'; unfold Oper.quietAt; go_simp; with_reducible rfl) | (intro w' hw'; subst hw'; unfold Oper.quietAt; go_simp; first | done | with_reducible rfl))); try simp only [List.setIfInBounds_toArray, List.set_cons_zero, List.set_cons_succ]))
          refine wpQuiet_nil ?_
          rintro w' rfl
          clear ix iy he'
          go_upto_region 5 with fail
          have ix2 : (Instr.index 9 (.string a) (.int .i64 k)).run Tryd.prog wr.drew.drew = .ok (.int .u8 a[k].toNat) wr.drew.drew := by go_simp
          have iy2 : (Instr.index 9 (.string b) (.int .i64 k)).run Tryd.prog wr.drew.drew = .ok (.int .u8 b[k].toNat) wr.drew.drew := by go_simp
          try simp only [Act.put]
          refine region_quietC (fun w' => w' = wr.drew.drew) (by kernel_rfl) (by kernel_rfl) rfl ?_
          repeat (first
            | (refine quiet_take (v := ?_) _ rfl (by kernel_rfl) ?_ ?_; rotate_left 1; (focus (first | (intro w' hw'; clear hw'; unfold Oper.quietAt; go_simp; done) | (intro w' hw'; clear hw'; unfold Oper.quietAt; go_simp; with_reducible rfl) | (intro w' hw'; subst hw'; unfold Oper.quietAt; go_simp; first | done | with_reducible rfl))); try simp only [List.setIfInBounds_toArray, List.set_cons_zero, List.set_cons_succ]))
          refine wpQuiet_nil ?_
          rintro w' rfl
          clear ix2 iy2
          go_wp2_with fail
          go_ret
          rw [HF.out]
          exact ⟨rfl, HB.out.drew.drew⟩
      · have h2' : ¬ (k : Int) < b.size := by omega
        have h3' : ¬ (a.size : Int) < b.size := by omega
        have HF : Bx (Op.bytesLess a.data.toList b.data.toList = false) := ⟨by
          rw [HS.out, List.drop_of_length_le (l := b.data.toList) (by rw [HLB.out]; omega)]
          cases a.data.toList.drop k <;> rfl⟩
        go_wp2_with fail
        go_ret
        rw [HF.out]
        exact ⟨rfl, HB.out⟩
    · have h1' : ¬ (k : Int) < a.size := by omega
      have HF : Bx (Op.bytesLess a.data.toList b.data.toList = decide (a.size < b.size)) := ⟨by
        rw [HS.out, List.drop_of_length_le (l := a.data.toList) (by rw [HLA.out]; omega)]
        by_cases hb2 : k < b.size
        · rw [List.drop_eq_getElem_cons (by rw [HLB.out]; exact hb2), decide_eq_true (by omega)]; rfl
        · rw [List.drop_of_length_le (by rw [HLB.out]; omega), decide_eq_false (by omega)]; rfl⟩
      go_wp2_with fail
      go_ret
      rw [HF.out]
      exact ⟨rfl, HB.out⟩
end Go.Proofs.YthnommoljikaiaaDoor
