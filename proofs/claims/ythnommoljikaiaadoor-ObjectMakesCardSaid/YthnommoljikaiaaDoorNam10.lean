/- The walks over the document's names: Kind, Path. -/
import Derived.Test.YthnommoljikaiaaDoorNam9
set_option linter.unusedSimpArgs false
set_option linter.unusedVariables false
namespace Go.Proofs.YthnommoljikaiaaDoor
open Go.RowKit

theorem OwS.strs {w : World} {base : Nat} {v : Value} {pcs : List ByteArray} (h : OwS w base v pcs) (hp : 0 < pcs.length) : StrsV w v (datas pcs) := by
  obtain ⟨g, cap, rfl, hb, hlt, hc⟩ := h.nn hp
  refine ⟨some ⟨g, 0, none⟩, cap, by simp [datas], by simpa [datas] using hc, fun _ => ⟨g, 0, rfl, hlt, fun j hj => ?_⟩⟩
  have hj' : j < pcs.length := by simpa [datas] using hj
  exact ⟨pcs[j], by rw [Nat.zero_add]; exact h.cell j hj', by simp [datas]⟩
theorem datas_len (pcs : List ByteArray) : (datas pcs).length = pcs.length := by simp [datas]
theorem datas_take (pcs : List ByteArray) (k : Nat) (h : k < pcs.length) : (datas pcs).take (k + 1) = (datas pcs).take k ++ [pcs[k].data.toList] := by
  rw [List.take_succ_eq_append_getElem (by rw [datas_len]; exact h)]; simp [datas]
theorem datas_mem (pcs : List ByteArray) (k : Nat) (h : k < pcs.length) : pcs[k].data.toList ∈ datas pcs := List.mem_map_of_mem (List.getElem_mem h)
theorem piece_size {s : ByteArray} {pcs : List ByteArray} (hd : datas pcs = partsOf s.data.toList) (hs : s.size < 4294967281) (k : Nat) (h : k < pcs.length) : pcs[k].size < 4294967281 := by
  have h1 := datas_mem pcs k h
  rw [hd] at h1
  have h2 := part_le h1
  simp at h2
  omega
theorem pcs_len {s : ByteArray} {pcs : List ByteArray} (hd : datas pcs = partsOf s.data.toList) (hs : s.size < 4294967281) : 0 < pcs.length ∧ pcs.length ≤ 4294967281 := by
  have h1 := partsOf_pos s.data.toList
  have h2 := (partsOf_sum s.data.toList).2
  rw [← hd, datas_len] at h1 h2
  simp at h2
  omega
set_option maxRecDepth 100000 in
set_option maxHeartbeats 1000000 in
theorem rkind_any (s : ByteArray) (w : World) (hs : s.size < 4294967281) :
    Calls Tryd.prog 14 #[.string s] w fun e w' => e = .returned (.int .i64 (kindB s.data.toList)) ∧ Below w.heap.size w w' := by
  have hlen : s.data.toList.length = s.size := by simp
  have HK := bx (kindB_ref s.data.toList)
  rw [hlen] at HK
  generalize kindB s.data.toList = K at *
  by_cases h64 : 64 < s.size
  · obtain rfl : K = 0 := by rw [HK.out, if_pos h64]
    have h64' : (64 : Int) < s.size := by omega
    clear hlen
    go_enter Tryd.func14, Tryd.ntmps14
    go_wp2_with fail
    go_ret
    exact ⟨rfl, Below.refl _ _⟩
  · have h64' : ¬ (64 : Int) < s.size := by omega
    have HK2 : Bx (K = if (partsOf s.data.toList).all goodB = false then 0 else if (decide (1 < (partsOf s.data.toList).length) && (partsOf s.data.toList).getD 0 [] == headsL) = true then 1 else if (decide (1 < (partsOf s.data.toList).length) && (partsOf s.data.toList).getD 0 [] == tagsL) = true then 2 else 0) := ⟨by rw [HK.out, if_neg h64]⟩
    clear hlen HK h64
    go_enter Tryd.func14, Tryd.ntmps14
    go_wp2_with fail
    refine (parts_any s w hs).mono ?_
    rintro e w1 ⟨v, pcs, rfl, ho, hd, hb⟩
    obtain ⟨hl1, hl2⟩ := pcs_len hd hs
    obtain ⟨g, cap, rfl, hg1, hg2, hcap⟩ := ho.nn hl1
    have HS := bx (piece_size hd hs)
    have HO := bx ho; have HB := bx hb
    rw [← hd] at HK2
    have HC := bx ho.cell
    have HRG : Bx (∀ (k : Nat) (h : k < pcs.length), Calls Tryd.prog 48 #[.string pcs[k]] w1 fun e w' => e = .returned (.bool (goodB pcs[k].data.toList)) ∧ w1 = w') := ⟨fun k h => rgood_any pcs[k] w1 (HS.out k h)⟩
    clear hd ho hb hg1 hg2 hcap HS
    go_wp2_with fail
    go_loop [4] (fun i => ∃ k : Nat, k ≤ pcs.length ∧ i = .int .i64 k ∧ ((datas pcs).take k).all goodB = true) (fun i => pcs.length - (intOf i).toNat)
    case atStart => exact ⟨0, Nat.zero_le _, rfl, rfl⟩
    case round =>
      obtain ⟨k, hk, rfl, hall⟩ := hrel
      have HA := bx hall
      clear hall
      by_cases hlt : k < pcs.length
      · have hlt' : (k : Int) < pcs.length := by omega
        have hcell : w1.cell? ⟨g, k, none⟩ = some (.string pcs[k]) := HC.out k hlt
        have HRK := bx (HRG.out k hlt)
        have HT := bx (datas_take pcs k hlt)
        have HM := bx (datas_mem pcs k hlt)
        have hk63 : (k : Int) + 1 ≤ 4294967282 := by omega
        cases hgd : goodB pcs[k].data.toList with
        | true =>
          rw [hgd] at HRK
          have HGD := bx hgd
          clear hgd
          go_wp2_with fail
          refine HRK.out.mono ?_
          rintro e w' ⟨rfl, rfl⟩
          go_wp2_with fail
          go_round
          case rel => exact ⟨k + 1, by omega, by go_num, by rw [HT.out, List.all_append, HA.out]; simp [HGD.out]⟩
          case measure => simp [intOf]; omega
        | false =>
          rw [hgd] at HRK
          have HF : Bx (K = 0) := ⟨by
            rw [HK2.out, if_pos]
            rw [Bool.eq_false_iff]
            intro h
            have := List.all_eq_true.1 h _ HM.out
            rw [hgd] at this; cases this⟩
          clear hgd
          go_wp2_with fail
          refine HRK.out.mono ?_
          rintro e w' ⟨rfl, rfl⟩
          go_wp2_with fail
          go_ret
          rw [HF.out]
          exact ⟨rfl, HB.out⟩
      · have hlt' : ¬ (k : Int) < pcs.length := by omega
        obtain rfl : k = pcs.length := by omega
        have HA2 : Bx ((datas pcs).all goodB = true) := ⟨by have := HA.out; rwa [List.take_of_length_le (by rw [datas_len]; exact Nat.le_refl _)] at this⟩
        have hcell : w1.cell? ⟨g, 0, none⟩ = some (.string pcs[0]) := HC.out 0 hl1
        have hq : (datas pcs).getD 0 [] = pcs[0].toList := by rw [ByteArray.toList_eq]; simp [datas, List.getD_eq_getElem?_getD, List.getElem?_eq_getElem hl1]
        have HK3 : Bx (K = if (decide (1 < pcs.length) && (pcs[0].toList == [104, 101, 97, 100, 115])) = true then 1 else if (decide (1 < pcs.length) && (pcs[0].toList == [116, 97, 103, 115])) = true then 2 else 0) := ⟨by rw [HK2.out, HA2.out, if_neg (by decide), datas_len, hq]; rfl⟩
        clear hq HK2
        by_cases h1 : 1 < pcs.length
        · have h1' : (1 : Int) < pcs.length := by omega
          have HK4 : Bx (K = if (pcs[0].toList == [104, 101, 97, 100, 115]) = true then 1 else if (pcs[0].toList == [116, 97, 103, 115]) = true then 2 else 0) := ⟨by rw [HK3.out, decide_eq_true h1]; rfl⟩
          clear HK3
          cases hh : (pcs[0].toList == [104, 101, 97, 100, 115]) with
          | true =>
            have HF : Bx (K = 1) := ⟨by rw [HK4.out, hh]; rfl⟩
            go_wp2_with fail
            go_ret
            rw [HF.out]
            exact ⟨rfl, HB.out⟩
          | false =>
            cases ht : (pcs[0].toList == [116, 97, 103, 115]) with
            | true =>
              have HF : Bx (K = 2) := ⟨by rw [HK4.out, hh, ht]; rfl⟩
              go_wp2_with fail
              go_ret
              rw [HF.out]
              exact ⟨rfl, HB.out⟩
            | false =>
              have HF : Bx (K = 0) := ⟨by rw [HK4.out, hh, ht]; rfl⟩
              go_wp2_with fail
              go_ret
              rw [HF.out]
              exact ⟨rfl, HB.out⟩
        · have h1' : ¬ (1 : Int) < pcs.length := by omega
          have HF : Bx (K = 0) := ⟨by rw [HK3.out, decide_eq_false h1]; rfl⟩
          go_wp2_with fail
          go_ret
          rw [HF.out]
          exact ⟨rfl, HB.out⟩
set_option maxRecDepth 100000 in
set_option maxHeartbeats 1000000 in
theorem rpath_any (s : ByteArray) (w : World) (hs : s.size < 4294967281) :
    Calls Tryd.prog 12 #[.string s] w (PathOut s.data.toList w) := by
  have hlen : s.data.toList.length = s.size := by simp
  have HPB : Bx (pathB s.data.toList = (decide (s.size ≤ 65536) && (partsOf s.data.toList).all partB)) := ⟨by rw [← hlen]; rfl⟩
  by_cases h64 : 65536 < s.size
  · have HF : Bx (pathB s.data.toList = false) := ⟨by rw [HPB.out, decide_eq_false (by omega)]; rfl⟩
    have h64' : (65536 : Int) < s.size := by omega
    clear hlen
    go_enter Tryd.func12, Tryd.ntmps12
    go_wp2_with fail
    go_ret2
    refine ⟨.slice none 0 0, by rw [HF.out]; rfl, ?_, Below.refl _ _⟩
    rw [HF.out]
    exact strsV_nil _
  · have h64' : ¬ (65536 : Int) < s.size := by omega
    have HPB2 : Bx (pathB s.data.toList = (partsOf s.data.toList).all partB) := ⟨by rw [HPB.out, decide_eq_true (by omega)]; rfl⟩
    clear hlen HPB h64
    go_enter Tryd.func12, Tryd.ntmps12
    go_wp2_with fail
    refine (parts_any s w hs).mono ?_
    rintro e w1 ⟨v, pcs, rfl, ho, hd, hb⟩
    obtain ⟨hl1, hl2⟩ := pcs_len hd hs
    obtain ⟨g, cap, rfl, hg1, hg2, hcap⟩ := ho.nn hl1
    have HO := bx ho; have HB := bx hb; have HD := bx hd
    rw [← hd] at HPB2
    have HC := bx ho.cell
    have HRG : Bx (∀ (k : Nat) (h : k < pcs.length), Calls Tryd.prog 16 #[.string pcs[k]] w1 fun e w' => e = .returned (.bool (partB pcs[k].data.toList)) ∧ w1 = w') := ⟨fun k h => rpart_any pcs[k] w1⟩
    clear hd ho hb hg1 hg2 hcap
    go_wp2_with fail
    go_loop [5] (fun i => ∃ k : Nat, k ≤ pcs.length ∧ i = .int .i64 k ∧ ((datas pcs).take k).all partB = true) (fun i => pcs.length - (intOf i).toNat)
    case atStart => exact ⟨0, Nat.zero_le _, rfl, rfl⟩
    case round =>
      obtain ⟨k, hk, rfl, hall⟩ := hrel
      have HA := bx hall
      clear hall
      by_cases hlt : k < pcs.length
      · have hlt' : (k : Int) < pcs.length := by omega
        have hcell : w1.cell? ⟨g, k, none⟩ = some (.string pcs[k]) := HC.out k hlt
        have HRK := bx (HRG.out k hlt)
        have HT := bx (datas_take pcs k hlt)
        have HM := bx (datas_mem pcs k hlt)
        have hk63 : (k : Int) + 1 ≤ 4294967282 := by omega
        cases hgd : partB pcs[k].data.toList with
        | true =>
          rw [hgd] at HRK
          have HGD := bx hgd
          clear hgd
          go_wp2_with fail
          refine HRK.out.mono ?_
          rintro e w' ⟨rfl, rfl⟩
          go_wp2_with fail
          go_round
          case rel => exact ⟨k + 1, by omega, by go_num, by rw [HT.out, List.all_append, HA.out]; simp [HGD.out]⟩
          case measure => simp [intOf]; omega
        | false =>
          rw [hgd] at HRK
          have HF : Bx (pathB s.data.toList = false) := ⟨by
            rw [HPB2.out, Bool.eq_false_iff]
            intro h
            have := List.all_eq_true.1 h _ HM.out
            rw [hgd] at this; cases this⟩
          clear hgd
          go_wp2_with fail
          refine HRK.out.mono ?_
          rintro e w' ⟨rfl, rfl⟩
          go_wp2_with fail
          go_ret2
          refine ⟨.slice none 0 0, by rw [HF.out]; rfl, ?_, HB.out⟩
          rw [HF.out]
          exact strsV_nil _
      · have hlt' : ¬ (k : Int) < pcs.length := by omega
        obtain rfl : k = pcs.length := by omega
        have HF : Bx (pathB s.data.toList = true) := ⟨by rw [HPB2.out]; have := HA.out; rwa [List.take_of_length_le (by rw [datas_len]; exact Nat.le_refl _)] at this⟩
        go_wp2_with fail
        go_ret2
        refine ⟨.slice (some ⟨g, 0, none⟩) pcs.length cap, by rw [HF.out]; rfl, ?_, HB.out⟩
        rw [HF.out, if_pos rfl, ← HD.out]
        exact HO.out.strs hl1
end Go.Proofs.YthnommoljikaiaaDoor
