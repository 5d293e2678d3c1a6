/- The walks over the laws NamesTell and NamesParts. -/
import Derived.Test.YthnommoljikaiaaDoorNam12
import Derived.Test.YthnommoljikaiaaDoorSeq
set_option linter.unusedSimpArgs false
set_option linter.unusedVariables false
namespace Go.Proofs.YthnommoljikaiaaDoor
open Go.RowKit

/-! ### NamesParts, plainly -/
theorem kindB_pos {l : List UInt8} (h : kindB l ≠ 0) : l.length ≤ 64 ∧ (partsOf l).all goodB = true ∧ ((1 < (partsOf l).length ∧ (partsOf l).getD 0 [] = headsL ∧ kindB l = 1) ∨ (1 < (partsOf l).length ∧ (partsOf l).getD 0 [] = tagsL ∧ kindB l = 2)) := by
  have hk := kindB_ref l
  by_cases h1 : 64 < l.length
  · rw [if_pos h1] at hk; exact absurd hk h
  · rw [if_neg h1] at hk
    by_cases h2 : (partsOf l).all goodB = false
    · rw [if_pos h2] at hk; exact absurd hk h
    · rw [if_neg h2] at hk
      refine ⟨by omega, by simpa using h2, ?_⟩
      by_cases h3 : (decide (1 < (partsOf l).length) && (partsOf l).getD 0 [] == headsL) = true
      · rw [if_pos h3] at hk
        simp only [Bool.and_eq_true, decide_eq_true_eq, beq_iff_eq] at h3
        exact .inl ⟨h3.1, h3.2, hk⟩
      · rw [if_neg h3] at hk
        by_cases h4 : (decide (1 < (partsOf l).length) && (partsOf l).getD 0 [] == tagsL) = true
        · rw [if_pos h4] at hk
          simp only [Bool.and_eq_true, decide_eq_true_eq, beq_iff_eq] at h4
          exact .inr ⟨h4.1, h4.2, hk⟩
        · rw [if_neg h4] at hk; exact absurd hk h
theorem let_no (c : UInt8) (h : letB c = true) : c ≠ 47 ∧ c ≠ 0 := by
  constructor <;> (rintro rfl; revert h; decide)
theorem good_part {p : List UInt8} (h : goodB p = true) (hl : p.length ≤ 64) : partB p = true := by
  unfold goodB at h
  simp only [Bool.and_eq_true, Bool.not_eq_true', beq_eq_false_iff_ne] at h
  obtain ⟨h1, h2, h3, h4, h5, h6, h7⟩ := h
  have n47 : 47 ∉ p := fun hm => (let_no 47 (List.all_eq_true.1 h5 _ hm)).1 rfl
  have n0 : 0 ∉ p := fun hm => (let_no 0 (List.all_eq_true.1 h5 _ hm)).2 rfl
  unfold partB
  rw [h1, decide_eq_true hl, decide_eq_false n47, decide_eq_false n0]
  have e1 : (p == [46]) = false := by rw [beq_eq_false_iff_ne]; rintro rfl; exact h3 rfl
  have e2 : (p == [46, 46]) = false := by rw [beq_eq_false_iff_ne]; rintro rfl; exact h3 rfl
  rw [e1, e2]; rfl
theorem path_of_kind {l : List UInt8} (h : kindB l ≠ 0) : pathB l = true := by
  obtain ⟨h1, h2, _⟩ := kindB_pos h
  unfold pathB
  rw [decide_eq_true (by omega), Bool.true_and, List.all_eq_true]
  intro p hp
  exact good_part (List.all_eq_true.1 h2 p hp) (by have := part_le hp; omega)
theorem kind_first {l : List UInt8} : kindB ((partsOf l).getD 0 []) = 0 := by
  have hpos := partsOf_pos l
  have hm : (partsOf l).getD 0 [] ∈ partsOf l := by rw [List.getD_eq_getElem?_getD, List.getElem?_eq_getElem hpos]; exact List.getElem_mem _
  have hn := partsOf_no l _ hm
  generalize (partsOf l).getD 0 [] = p at hn
  rcases Decidable.em (kindB p = 0) with h | h
  · exact h
  · obtain ⟨_, _, h3⟩ := kindB_pos h
    rw [partsOf_plain p hn] at h3
    simp at h3
theorem good_heads : goodB headsL = true := by decide
theorem getD_app (a b : List (List UInt8)) (h : 0 < a.length) : (a ++ b).getD 0 [] = a.getD 0 [] := by
  rw [List.getD_eq_getElem?_getD, List.getD_eq_getElem?_getD, List.getElem?_append_left h]
/-- A part more. -/
theorem kind_more {l m : List UInt8} (h : kindB l ≠ 0) (hl : l.length + 1 + m.length ≤ 64) (hm : kindB (headsL ++ 47 :: m) = 1) : kindB (l ++ 47 :: m) = kindB l := by
  obtain ⟨h1, h2, h3⟩ := kindB_pos h
  obtain ⟨_, g2, _⟩ := kindB_pos (l := headsL ++ 47 :: m) (by rw [hm]; decide)
  rw [partsOf_join, List.all_append, Bool.and_eq_true] at g2
  have hp := partsOf_pos l
  have hp2 := partsOf_pos m
  have hlen : (l ++ 47 :: m).length ≤ 64 := by simp; omega
  have hall : (partsOf (l ++ 47 :: m)).all goodB = true := by rw [partsOf_join, List.all_append, h2, g2.2]; rfl
  have hln : 1 < (partsOf (l ++ 47 :: m)).length := by rw [partsOf_join, List.length_append]; omega
  have hgd : (partsOf (l ++ 47 :: m)).getD 0 [] = (partsOf l).getD 0 [] := by rw [partsOf_join, getD_app _ _ hp]
  rw [kindB_ref, if_neg (by omega), if_neg (by rw [hall]; decide), decide_eq_true hln, hgd]
  rcases h3 with ⟨_, e, k⟩ | ⟨_, e, k⟩
  · rw [e, k]; decide
  · rw [e, k]; decide
theorem kind_none {l m : List UInt8} (h : kindB l ≠ 0) (hn : ¬ (kindB (headsL ++ 47 :: m) = 1 ∧ l.length + 1 + m.length ≤ 64)) : kindB (l ++ 47 :: m) = 0 := by
  rcases Decidable.em (kindB (l ++ 47 :: m) = 0) with e | e
  · exact e
  · exfalso
    obtain ⟨h1, h2, h3⟩ := kindB_pos h
    obtain ⟨g1, g2, _⟩ := kindB_pos e
    rw [partsOf_join, List.all_append, Bool.and_eq_true] at g2
    simp at g1
    refine hn ⟨?_, by omega⟩
    have hp2 := partsOf_pos m
    have hl6 : 5 ≤ l.length := by
      rcases h3 with ⟨_, e3, k⟩ | ⟨_, e3, k⟩
      · have hpos := partsOf_pos l
        have hm : (partsOf l).getD 0 [] ∈ partsOf l := by rw [List.getD_eq_getElem?_getD, List.getElem?_eq_getElem hpos]; exact List.getElem_mem _
        have := part_le hm
        rw [e3] at this
        simpa [headsL] using this
      · have hx : kindB l = 2 := k
        unfold kindB at hx
        split at hx
        · cases hx
        · split at hx
          · cases hx
          · split at hx
            · cases hx
            · split at hx
              · rename_i hpre
                have := List.IsPrefix.length_le (List.isPrefixOf_iff_prefix.1 hpre)
                simpa [tagsL] using this
              · cases hx
    have hall : (partsOf (headsL ++ 47 :: m)).all goodB = true := by rw [partsOf_join, List.all_append, partsOf_plain headsL heads_no, g2.2]; simp [good_heads]
    have hln : 1 < (partsOf (headsL ++ 47 :: m)).length := by rw [partsOf_join, List.length_append, partsOf_plain headsL heads_no]; simp; omega
    have hgd : (partsOf (headsL ++ 47 :: m)).getD 0 [] = headsL := by rw [partsOf_join, partsOf_plain headsL heads_no]; rfl
    rw [kindB_ref, if_neg (by simp [headsL]; omega), if_neg (by rw [hall]; decide), decide_eq_true hln, hgd]
    rfl
set_option maxRecDepth 100000 in
set_option maxHeartbeats 2000000 in
theorem partsLaw_any (s m : ByteArray) (w : World) (hM : MaxAt w) :
    Calls Tryd.prog 4 #[.string s, .string m] w fun e w' => e = .returned (.bool true) ∧ Below w.heap.size w w' := by
  have HM := bx hM
  clear hM
  by_cases h1 : 200 < s.size
  · have h1' : (200 : Int) < s.size := by omega
    go_enter Tryd.func4, Tryd.ntmps4
    go_wp2_with fail
    go_ret
    exact ⟨rfl, Below.refl _ _⟩
  · have h1' : ¬ (200 : Int) < s.size := by omega
    by_cases h2 : 200 < m.size
    · have h2' : (200 : Int) < m.size := by omega
      go_enter Tryd.func4, Tryd.ntmps4
      go_wp2_with fail
      go_ret
      exact ⟨rfl, Below.refl _ _⟩
    · have h2' : ¬ (200 : Int) < m.size := by omega
      have hls : s.data.toList.length = s.size := by simp
      have hlm : m.data.toList.length = m.size := by simp
      have HK := bx (fun w hM => kind_any s w hM (by omega))
      by_cases hk : kindB s.data.toList = 0
      · rw [hk] at HK
        clear hls hlm hk
        go_enter Tryd.func4, Tryd.ntmps4
        go_wp2_with fail
        refine (HK.out _ HM.out).mono ?_
        rintro e w1 ⟨rfl, hb⟩
        have HB := bx hb
        clear hb
        go_wp2_with fail
        refine (one09_any _ (HM.out.below HB.out)).mono ?_
        rintro e w2 ⟨rfl, hb⟩
        have HB2 := bx (HB.out.trans (hb.mono HB.out.size))
        clear hb
        go_wp2_with fail
        go_ret
        exact ⟨rfl, HB2.out⟩
      · have HP := bx (fun w hM => path_any s w hM (by omega))
        have hpb := path_of_kind hk
        have h64 : s.size ≤ 64 := by have := (kindB_pos hk).1; omega
        have h64' : ¬ (64 : Int) < s.size := by omega
        have hl2 : 2 ≤ (partsOf s.data.toList).length := by rcases (kindB_pos hk).2.2 with h | h <;> omega
        have hk0 : (kindB s.data.toList == 0) = false := by simpa using hk
        have HF1 := bx (kind_first (l := s.data.toList))
        have HSZ : Bx (∀ p ∈ partsOf s.data.toList, p.length ≤ 200) := ⟨fun p hp => by have := part_le hp; omega⟩
        have hx1 : (s ++ ⟨#[47]⟩ ++ m).data.toList = s.data.toList ++ 47 :: m.data.toList := by simp [ByteArray.data_append, Array.toList_append]
        have hx2 : ((⟨#[104, 101, 97, 100, 115, 47]⟩ : ByteArray) ++ m).data.toList = headsL ++ 47 :: m.data.toList := by simp [ByteArray.data_append, Array.toList_append, headsL]
        have hz1 : (s ++ ⟨#[47]⟩ ++ m).size = s.size + 1 + m.size := by rw [ByteArray.size_append, ByteArray.size_append]; rfl
        have hz2 : ((⟨#[104, 101, 97, 100, 115, 47]⟩ : ByteArray) ++ m).size = 6 + m.size := by rw [ByteArray.size_append]; rfl
        have HKW := bx (fun w hM => kind_any (s ++ ⟨#[47]⟩ ++ m) w hM (by rw [hz1]; omega))
        have HKH := bx (fun w hM => kind_any ((⟨#[104, 101, 97, 100, 115, 47]⟩ : ByteArray) ++ m) w hM (by rw [hz2]; omega))
        rw [hx1] at HKW
        rw [hx2] at HKH
        have HMO : Bx (kindB (headsL ++ 47 :: m.data.toList) = 1 → s.size + 1 + m.size ≤ 64 → kindB (s.data.toList ++ 47 :: m.data.toList) = kindB s.data.toList) := ⟨fun a b => kind_more hk (by omega) a⟩
        have HNO : Bx (¬ (kindB (headsL ++ 47 :: m.data.toList) = 1 ∧ s.size + 1 + m.size ≤ 64) → kindB (s.data.toList ++ 47 :: m.data.toList) = 0) := ⟨fun a => kind_none hk (by rw [hls, hlm]; exact a)⟩
        have HPB := bx hpb; have HL2 := bx hl2; have HZ1 := bx hz1
        generalize kindB s.data.toList = K at *
        generalize kindB (s.data.toList ++ 47 :: m.data.toList) = KW at *
        generalize kindB (headsL ++ 47 :: m.data.toList) = KH at *
        clear hx1 hx2 hz2 hls hlm hk hpb hl2 h1 h2 hz1
        have t1 : ¬ 9223372036854775807 < s.size + 1 := by omega
        have t2 : ¬ 9223372036854775807 < s.size + 1 + m.size := by omega
        have t3 : ¬ 9223372036854775807 < 6 + m.size := by omega
        have t4 : (s ++ ⟨#[47]⟩).size = s.size + 1 := by rw [ByteArray.size_append]; rfl
        go_enter Tryd.func4, Tryd.ntmps4
        go_wp2_with fail
        refine (HK.out _ HM.out).mono ?_
        rintro e w1 ⟨rfl, hb⟩
        have HB1 := bx hb
        clear hb HK
        go_wp2_with fail
        refine (HP.out _ (HM.out.below HB1.out)).mono ?_
        rintro e w2 ⟨v, rfl, hv, hb⟩
        rw [HPB.out, if_pos rfl] at hv
        rw [HPB.out]
        have hfst : ∃ p0 ps, partsOf s.data.toList = p0 :: ps := by
          cases hh : partsOf s.data.toList with
          | nil => exact absurd hh (partsOf_ne _)
          | cons a b => exact ⟨a, b, rfl⟩
        obtain ⟨p0, ps, hps⟩ := hfst
        rw [hps] at hv HL2 HF1 HSZ
        obtain ⟨A, c, rfl, hc, h3⟩ := hv
        obtain ⟨b, o, rfl, hlt, hcell⟩ := h3 (by simp)
        obtain ⟨t, ht, htd⟩ := hcell 0 (by simp)
        have HB2 := bx (HB1.out.trans (hb.mono HB1.out.size))
        have hn2 : ¬ ((p0 :: ps).length : Int) < 2 := by have := HL2.out; omega
        have hn0 : 0 < (p0 :: ps).length := by simp
        have ht' : w2.cell? ⟨b, o, none⟩ = some (.string t) := by simpa using ht
        have HKT := bx (fun w hM => kind_any t w hM (by
          have := HSZ.out p0 (by simp)
          rw [show p0 = t.data.toList from htd.symm] at this
          simp at this; omega))
        rw [show t.data.toList = p0 from htd, show p0 = (p0 :: ps).getD 0 [] from rfl, HF1.out] at HKT
        clear hc h3 hcell ht htd hlt hb hps HSZ HF1 HL2
        generalize (p0 :: ps).length = N at *
        go_wp2_with fail
        refine (HKT.out _ (HM.out.below HB2.out)).mono ?_
        rintro e w3 ⟨rfl, hb⟩
        have HB3 := bx (HB2.out.trans (hb.mono HB2.out.size))
        clear hb ht'
        go_wp2_with fail
        refine (HKH.out _ (HM.out.below HB3.out)).mono ?_
        rintro e w4 ⟨rfl, hb⟩
        have HB4 := bx (HB3.out.trans (hb.mono HB3.out.size))
        clear hb
        by_cases hh : KH = 1 ∧ s.size + 1 + m.size ≤ 64
        · obtain ⟨rfl, hsz⟩ := hh
          obtain rfl : KW = K := HMO.out rfl hsz
          have q := HZ1.out
          have hsz' : (s.size : Int) + 1 + m.size ≤ 64 := by omega
          clear HNO HMO
          go_wp2_with fail
          refine (HKW.out _ (HM.out.below HB4.out)).mono ?_
          rintro e w5 ⟨rfl, hb⟩
          have HB5 := bx (HB4.out.trans (hb.mono HB4.out.size))
          clear hb
          go_wp2_with fail
          refine (one09_any _ (HM.out.below HB5.out)).mono ?_
          rintro e w6 ⟨rfl, hb⟩
          have HB6 := bx (HB5.out.trans (hb.mono HB5.out.size))
          clear hb
          go_wp2_with fail
          go_ret
          exact ⟨rfl, HB6.out⟩
        · obtain rfl : KW = 0 := HNO.out hh
          have q := HZ1.out
          have hways : (KH == 1) = false ∨ ((KH == 1) = true ∧ ¬ (s.size : Int) + 1 + m.size ≤ 64) := by
            by_cases e : KH = 1
            · exact .inr ⟨by simp [e], fun h => hh ⟨e, by omega⟩⟩
            · exact .inl (by simp [e])
          clear HNO HMO hh
          rcases hways with e1 | ⟨e1, e2⟩
          all_goals
            go_wp2_with fail
            refine (HKW.out _ (HM.out.below HB4.out)).mono ?_
            rintro e w5 ⟨rfl, hb⟩
            have HB5 := bx (HB4.out.trans (hb.mono HB4.out.size))
            clear hb
            go_wp2_with fail
            refine (one09_any _ (HM.out.below HB5.out)).mono ?_
            rintro e w6 ⟨rfl, hb⟩
            have HB6 := bx (HB5.out.trans (hb.mono HB5.out.size))
            clear hb
            go_wp2_with fail
            go_ret
            exact ⟨rfl, HB6.out⟩
end Go.Proofs.YthnommoljikaiaaDoor
