/- The walk over the law NamesTell. -/
import Derived.Test.YthnommoljikaiaaDoorNam13
set_option linter.unusedSimpArgs false
set_option linter.unusedVariables false
namespace Go.Proofs.YthnommoljikaiaaDoor
open Go.RowKit

set_option maxRecDepth 100000 in
set_option maxHeartbeats 2000000 in
theorem tell_long (s : ByteArray) (w : World) (hM : MaxAt w) (h : 3000 < s.size) :
    Calls Tryd.prog 3 #[.string s] w fun e w' => e = .returned (.bool true) ∧ Below w.heap.size w w' := by
  have hlen : (3000 : Int) < s.size := by omega
  have HM := bx hM
  have hs3 : ((s.extract 0 3000)).size ≤ 3000 := by rw [ByteArray.size_extract]; omega
  obtain ⟨t, ht⟩ : ∃ t, t = (s.extract 0 3000) := ⟨_, rfl⟩
  have HX : Bx ((s.extract 0 3000) = t) := ⟨ht.symm⟩
  rw [← ht] at hs3
  clear ht
  have HP := bx (fun w hM => path_any t w hM (by omega))
  have HQ := bx (fun w => rpath_any t w (by omega))
  have HK := bx (fun w hM => kind_any t w hM (by omega))
  have HRK := bx (fun w => rkind_any t w (by omega))
  have HA := bx (fun w hM => part_any t w hM (by omega))
  have HRA := bx (fun w => rpart_any t w)
  have HLN := bx (partsOf_sum t.data.toList).2
  have hln : t.data.toList.length = t.size := by simp
  rw [hln] at HLN
  clear hM h hln
  go_enter Tryd.func3, Tryd.ntmps3
  go_wp2_with fail
  rw [HX.out]
  refine (HP.out _ HM.out).mono ?_
  rintro e w1 ⟨v, rfl, hv, hb⟩
  have HB1 := bx hb; have HV1 := bx hv
  clear hb hv
  go_wp2_with fail
  refine (HQ.out _).mono ?_
  rintro e w2 ⟨v2, rfl, hv2, hb⟩
  have HV2 := bx hv2; have HV12 := bx (HV1.out.below hb); have HB2 := bx (HB1.out.trans (hb.mono HB1.out.size))
  clear hb hv2 HV1 HP HQ
  have HLS : Bx ((if pathB t.data.toList = true then partsOf t.data.toList else []).length ≤ 3001) := ⟨by
    have := HLN.out
    split
    · omega
    · simp⟩
  generalize (if pathB t.data.toList = true then partsOf t.data.toList else []) = ls at *
  obtain ⟨A, c, rfl, _, hc1⟩ := HV12.out
  obtain ⟨A2, c2, rfl, _, hc2⟩ := HV2.out
  have HC1 := bx hc1; have HC2 := bx hc2
  clear hc1 hc2 HV12 HV2
  generalize pathB t.data.toList = pb at *
  generalize kindB t.data.toList = K at *
  generalize partB t.data.toList = pt at *
  have hbb : (pb != pb) = false := by cases pb <;> rfl
  go_wp2_with fail
  go_loopw [7] (fun i wr => ∃ k : Nat, k ≤ ls.length ∧ i = .int .i64 k ∧ Below w2.heap.size w2 wr) (fun i _ => ls.length - (intOf i).toNat)
  case atStart => exact ⟨0, Nat.zero_le _, rfl, Below.refl _ _⟩
  case round =>
    rename_i wr
    obtain ⟨k, hk, rfl, hbel⟩ := hrel
    have HB := bx hbel
    clear hbel
    by_cases hlt : k < ls.length
    · have hlt' : (k : Int) < ls.length := by omega
      obtain ⟨b, o, rfl, hl1, hcell⟩ := HC1.out (by omega)
      obtain ⟨b2, o2, rfl, hl2, hcell2⟩ := HC2.out (by omega)
      obtain ⟨t, ht, htd⟩ := hcell k hlt
      obtain ⟨t2, ht2, htd2⟩ := hcell2 k hlt
      obtain rfl : t = t2 := str_eq (htd.trans htd2.symm)
      have z1 : wr.drew.cell? ⟨b, o + k, none⟩ = some (.string t) := (HB.out.cell (p := ⟨b, o + k, none⟩) hl1).trans ht
      have z2 : wr.drew.cell? ⟨b2, o2 + k, none⟩ = some (.string t) := (HB.out.cell (p := ⟨b2, o2 + k, none⟩) hl2).trans ht2
      have hk63 : (k : Int) + 1 ≤ 9223372036854775807 := by have := HLS.out; omega
      clear hcell hcell2 ht ht2 htd htd2 hl1 hl2
      go_upto_region 10 with fail
      try simp only [Act.put]
      refine region_quietC (fun w' => w' = wr.drew) (by kernel_rfl) (by kernel_rfl) rfl ?_
      repeat (first
        | (refine quiet_take (v := ?_) _ rfl (by kernel_rfl) ?_ ?_; rotate_left 1; (focus (first | (intro w' hw'; clear hw'; unfold Oper.quietAt; go_simp; done) | (intro w' hw'; clear hw'; unfold Oper.quietAt; go_simp; with_reducible rfl) | (intro w' hw'; subst hw'; unfold Oper.quietAt; go_simp; first | done | with_reducible rfl))); try simp only [List.setIfInBounds_toArray, List.set_cons_zero, List.set_cons_succ]))
      refine wpQuiet_nil ?_
      rintro w' rfl
      clear z1 z2
      go_wp2_with fail
      go_roundw
      case rel => exact ⟨k + 1, by omega, by go_num, HB.out.drew⟩
      case measure => simp [intOf]; omega
    · have hlt' : ¬ (k : Int) < ls.length := by omega
      have HB3 := bx (HB2.out.trans (HB.out.mono HB2.out.size))
      go_wp2_with fail
      refine (HK.out _ (HM.out.below HB3.out)).mono ?_
      rintro e w3 ⟨rfl, hb⟩
      have HB4 := bx (HB3.out.trans (hb.mono HB3.out.size))
      clear hb
      go_wp2_with fail
      refine (HRK.out _).mono ?_
      rintro e w4 ⟨rfl, hb⟩
      have HB5 := bx (HB4.out.trans (hb.mono HB4.out.size))
      clear hb
      go_wp2_with fail
      refine (HA.out _ (HM.out.below HB5.out)).mono ?_
      rintro e w5 ⟨rfl, rfl⟩
      go_wp2_with fail
      refine (HRA.out _).mono ?_
      rintro e w5 ⟨rfl, rfl⟩
      go_wp2_with fail
      refine (one09_any _ (HM.out.below HB5.out)).mono ?_
      rintro e w6 ⟨rfl, hb⟩
      have HB6 := bx (HB5.out.trans (hb.mono HB5.out.size))
      clear hb
      go_wp2_with fail
      go_ret
      exact ⟨rfl, HB6.out⟩
set_option maxRecDepth 100000 in
set_option maxHeartbeats 2000000 in
theorem tell_short (s : ByteArray) (w : World) (hM : MaxAt w) (h : ¬ 3000 < s.size) :
    Calls Tryd.prog 3 #[.string s] w fun e w' => e = .returned (.bool true) ∧ Below w.heap.size w w' := by
  have hlen : ¬ (3000 : Int) < s.size := by omega
  have HM := bx hM
  have hs3 : (s).size ≤ 3000 := by omega
  obtain ⟨t, ht⟩ : ∃ t, t = s := ⟨_, rfl⟩
  have HX : Bx (s = t) := ⟨ht.symm⟩
  rw [← ht] at hs3
  clear ht
  have HP := bx (fun w hM => path_any t w hM (by omega))
  have HQ := bx (fun w => rpath_any t w (by omega))
  have HK := bx (fun w hM => kind_any t w hM (by omega))
  have HRK := bx (fun w => rkind_any t w (by omega))
  have HA := bx (fun w hM => part_any t w hM (by omega))
  have HRA := bx (fun w => rpart_any t w)
  have HLN := bx (partsOf_sum t.data.toList).2
  have hln : t.data.toList.length = t.size := by simp
  rw [hln] at HLN
  clear hM h hln
  go_enter Tryd.func3, Tryd.ntmps3
  go_wp2_with fail
  rw [HX.out]
  refine (HP.out _ HM.out).mono ?_
  rintro e w1 ⟨v, rfl, hv, hb⟩
  have HB1 := bx hb; have HV1 := bx hv
  clear hb hv
  go_wp2_with fail
  refine (HQ.out _).mono ?_
  rintro e w2 ⟨v2, rfl, hv2, hb⟩
  have HV2 := bx hv2; have HV12 := bx (HV1.out.below hb); have HB2 := bx (HB1.out.trans (hb.mono HB1.out.size))
  clear hb hv2 HV1 HP HQ
  have HLS : Bx ((if pathB t.data.toList = true then partsOf t.data.toList else []).length ≤ 3001) := ⟨by
    have := HLN.out
    split
    · omega
    · simp⟩
  generalize (if pathB t.data.toList = true then partsOf t.data.toList else []) = ls at *
  obtain ⟨A, c, rfl, _, hc1⟩ := HV12.out
  obtain ⟨A2, c2, rfl, _, hc2⟩ := HV2.out
  have HC1 := bx hc1; have HC2 := bx hc2
  clear hc1 hc2 HV12 HV2
  generalize pathB t.data.toList = pb at *
  generalize kindB t.data.toList = K at *
  generalize partB t.data.toList = pt at *
  have hbb : (pb != pb) = false := by cases pb <;> rfl
  go_wp2_with fail
  go_loopw [7] (fun i wr => ∃ k : Nat, k ≤ ls.length ∧ i = .int .i64 k ∧ Below w2.heap.size w2 wr) (fun i _ => ls.length - (intOf i).toNat)
  case atStart => exact ⟨0, Nat.zero_le _, rfl, Below.refl _ _⟩
  case round =>
    rename_i wr
    obtain ⟨k, hk, rfl, hbel⟩ := hrel
    have HB := bx hbel
    clear hbel
    by_cases hlt : k < ls.length
    · have hlt' : (k : Int) < ls.length := by omega
      obtain ⟨b, o, rfl, hl1, hcell⟩ := HC1.out (by omega)
      obtain ⟨b2, o2, rfl, hl2, hcell2⟩ := HC2.out (by omega)
      obtain ⟨t, ht, htd⟩ := hcell k hlt
      obtain ⟨t2, ht2, htd2⟩ := hcell2 k hlt
      obtain rfl : t = t2 := str_eq (htd.trans htd2.symm)
      have z1 : wr.drew.cell? ⟨b, o + k, none⟩ = some (.string t) := (HB.out.cell (p := ⟨b, o + k, none⟩) hl1).trans ht
      have z2 : wr.drew.cell? ⟨b2, o2 + k, none⟩ = some (.string t) := (HB.out.cell (p := ⟨b2, o2 + k, none⟩) hl2).trans ht2
      have hk63 : (k : Int) + 1 ≤ 9223372036854775807 := by have := HLS.out; omega
      clear hcell hcell2 ht ht2 htd htd2 hl1 hl2
      go_upto_region 10 with fail
      try simp only [Act.put]
      refine region_quietC (fun w' => w' = wr.drew) (by kernel_rfl) (by kernel_rfl) rfl ?_
      repeat (first
        | (refine quiet_take (v := ?_) _ rfl (by kernel_rfl) ?_ ?_; rotate_left 1; (focus (first | (intro w' hw'; clear hw'; unfold Oper.quietAt; go_simp; done) | (intro w' hw'; clear hw'; unfold Oper.quietAt; go_simp; with_reducible rfl) | (intro w' hw'; subst hw'; unfold Oper.quietAt; go_simp; first | done | with_reducible rfl))); try simp only [List.setIfInBounds_toArray, List.set_cons_zero, List.set_cons_succ]))
      refine wpQuiet_nil ?_
      rintro w' rfl
      clear z1 z2
      go_wp2_with fail
      go_roundw
      case rel => exact ⟨k + 1, by omega, by go_num, HB.out.drew⟩
      case measure => simp [intOf]; omega
    · have hlt' : ¬ (k : Int) < ls.length := by omega
      have HB3 := bx (HB2.out.trans (HB.out.mono HB2.out.size))
      go_wp2_with fail
      refine (HK.out _ (HM.out.below HB3.out)).mono ?_
      rintro e w3 ⟨rfl, hb⟩
      have HB4 := bx (HB3.out.trans (hb.mono HB3.out.size))
      clear hb
      go_wp2_with fail
      refine (HRK.out _).mono ?_
      rintro e w4 ⟨rfl, hb⟩
      have HB5 := bx (HB4.out.trans (hb.mono HB4.out.size))
      clear hb
      go_wp2_with fail
      refine (HA.out _ (HM.out.below HB5.out)).mono ?_
      rintro e w5 ⟨rfl, rfl⟩
      go_wp2_with fail
      refine (HRA.out _).mono ?_
      rintro e w5 ⟨rfl, rfl⟩
      go_wp2_with fail
      refine (one09_any _ (HM.out.below HB5.out)).mono ?_
      rintro e w6 ⟨rfl, hb⟩
      have HB6 := bx (HB5.out.trans (hb.mono HB5.out.size))
      clear hb
      go_wp2_with fail
      go_ret
      exact ⟨rfl, HB6.out⟩
theorem tellLaw_any (s : ByteArray) (w : World) (hM : MaxAt w) :
    Calls Tryd.prog 3 #[.string s] w fun e w' => e = .returned (.bool true) ∧ Below w.heap.size w w' := by
  by_cases h : 3000 < s.size
  · exact tell_long s w hM h
  · exact tell_short s w hM h
end Go.Proofs.YthnommoljikaiaaDoor
