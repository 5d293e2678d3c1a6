/- The walks over one, and the laws NamesLess and NamesOrder. -/
import Derived.Test.YthnommoljikaiaaDoorNam10
set_option linter.unusedSimpArgs false
set_option linter.unusedVariables false
namespace Go.Proofs.YthnommoljikaiaaDoor
open Go.RowKit

theorem pathB_ab : pathB [97, 47, 98] = true := by decide
theorem parts_ab : partsOf [97, 47, 98] = [[97], [98]] := by decide
theorem kind_main : kindB [104, 101, 97, 100, 115, 47, 109, 97, 105, 110] = 1 := by decide
theorem kind_tag : kindB [116, 97, 103, 115, 47, 49, 46, 48] = 2 := by decide
theorem kind_bad : kindB [104, 101, 97, 100, 115, 47, 97, 46, 46, 98] = 0 := by decide
set_option maxRecDepth 100000 in
set_option maxHeartbeats 1000000 in
theorem one09_any (w : World) (hM : MaxAt w) : Calls Tryd.prog 17 #[] w fun e w' => e = .returned (.bool true) ∧ Below w.heap.size w w' := by
  have HP := bx (fun w hM => path_any ⟨#[97, 47, 98]⟩ w hM (by decide))
  have HK1 := bx (fun w hM => kind_any ⟨#[104, 101, 97, 100, 115, 47, 109, 97, 105, 110]⟩ w hM (by decide))
  have HK2 := bx (fun w hM => kind_any ⟨#[116, 97, 103, 115, 47, 49, 46, 48]⟩ w hM (by decide))
  have HK3 := bx (fun w hM => kind_any ⟨#[104, 101, 97, 100, 115, 47, 97, 46, 46, 98]⟩ w hM (by decide))
  rw [show (⟨#[104, 101, 97, 100, 115, 47, 109, 97, 105, 110]⟩ : ByteArray).data.toList = [104, 101, 97, 100, 115, 47, 109, 97, 105, 110] from rfl, kind_main] at HK1
  rw [show (⟨#[116, 97, 103, 115, 47, 49, 46, 48]⟩ : ByteArray).data.toList = [116, 97, 103, 115, 47, 49, 46, 48] from rfl, kind_tag] at HK2
  rw [show (⟨#[104, 101, 97, 100, 115, 47, 97, 46, 46, 98]⟩ : ByteArray).data.toList = [104, 101, 97, 100, 115, 47, 97, 46, 46, 98] from rfl, kind_bad] at HK3
  have HM := bx hM
  clear hM
  go_enter Tryd.func17, Tryd.ntmps17
  go_wp2_with fail
  refine (HP.out _ HM.out).mono ?_
  rintro e w1 ⟨v, rfl, hv, hb⟩
  rw [pathB_ab, if_pos rfl, parts_ab] at hv
  rw [pathB_ab]
  obtain ⟨A, c, rfl, hc, h3⟩ := hv
  obtain ⟨b, o, rfl, hlt, hcell⟩ := h3 (by decide)
  obtain ⟨t, ht, htd⟩ := hcell 1 (by decide)
  obtain rfl : t = ⟨#[98]⟩ := ByteArray.ext (Array.toList_inj.1 htd)
  have HB1 := bx hb; have HT := bx ht; have HLT := bx hlt
  clear hc h3 hcell ht htd hlt hb
  go_wp2_with fail
  refine (HK1.out _ (HM.out.below HB1.out)).mono ?_
  rintro e w2 ⟨rfl, hb⟩
  have HB2 := bx (HB1.out.trans (hb.mono HB1.out.size)); have HT2 := bx ((hb.cell (p := ⟨b, o + 1, none⟩) HLT.out).trans HT.out); have HL2 := bx (Nat.lt_of_lt_of_le HLT.out hb.size)
  clear hb
  go_wp2_with fail
  refine (HK2.out _ (HM.out.below HB2.out)).mono ?_
  rintro e w3 ⟨rfl, hb⟩
  have HB3 := bx (HB2.out.trans (hb.mono HB2.out.size)); have HT3 := bx ((hb.cell (p := ⟨b, o + 1, none⟩) HL2.out).trans HT2.out); have HL3 := bx (Nat.lt_of_lt_of_le HL2.out hb.size)
  clear hb
  go_wp2_with fail
  refine (HK3.out _ (HM.out.below HB3.out)).mono ?_
  rintro e w4 ⟨rfl, hb⟩
  have HB4 := bx (HB3.out.trans (hb.mono HB3.out.size)); have ht4 := (hb.cell (p := ⟨b, o + 1, none⟩) HL3.out).trans HT3.out
  clear hb
  go_wp2_with fail
  go_ret
  exact ⟨rfl, HB4.out⟩

/-! ### The order -/
theorem less_iff (x y : List UInt8) : Op.bytesLess x y = decide (x < y) := bytesLess_eq x y
theorem less_irrefl (x : List UInt8) : Op.bytesLess x x = false := by
  induction x with
  | nil => rfl
  | cons a x ih => simp [Op.bytesLess, ih]
theorem less_asymm : ∀ (x y : List UInt8), Op.bytesLess x y = true → Op.bytesLess y x = false
  | x, [], h => by cases x <;> simp [Op.bytesLess] at h
  | [], y :: ys, _ => rfl
  | a :: x, b :: y, h => by
    simp only [Op.bytesLess, Bool.or_eq_true, decide_eq_true_eq, Bool.and_eq_true, beq_iff_eq, Bool.or_eq_false_iff, decide_eq_false_iff_not, Bool.and_eq_false_iff, beq_eq_false_iff_ne] at h ⊢
    rcases h with h | ⟨rfl, h⟩
    · exact ⟨UInt8.not_lt.2 (UInt8.le_of_lt h), .inl fun e => by subst e; exact absurd h (UInt8.lt_irrefl _)⟩
    · exact ⟨UInt8.lt_irrefl _, .inr (less_asymm x y h)⟩
theorem less_total : ∀ (x y : List UInt8), Op.bytesLess x y = false → Op.bytesLess y x = false → x = y
  | [], [], _, _ => rfl
  | [], y :: ys, h, _ => by simp [Op.bytesLess] at h
  | x :: xs, [], _, h => by simp [Op.bytesLess] at h
  | a :: x, b :: y, h, h' => by
    simp only [Op.bytesLess, Bool.or_eq_false_iff, decide_eq_false_iff_not, Bool.and_eq_false_iff, beq_eq_false_iff_ne] at h h'
    have e : a = b := UInt8.le_antisymm (UInt8.not_lt.1 h'.1) (UInt8.not_lt.1 h.1)
    subst e
    rw [less_total x y (h.2.resolve_left fun e => e rfl) (h'.2.resolve_left fun e => e rfl)]
theorem less_trans : ∀ (x y z : List UInt8), Op.bytesLess x y = true → Op.bytesLess y z = true → Op.bytesLess x z = true
  | x, [], z, h, _ => by cases x <;> simp [Op.bytesLess] at h
  | x, y :: ys, [], _, h => by simp [Op.bytesLess] at h
  | [], y :: ys, z :: zs, _, _ => rfl
  | a :: x, b :: y, c :: z, h, h' => by
    simp only [Op.bytesLess, Bool.or_eq_true, decide_eq_true_eq, Bool.and_eq_true, beq_iff_eq] at h h' ⊢
    rcases h with h | ⟨rfl, h⟩
    · rcases h' with h' | ⟨rfl, h'⟩
      · exact .inl (UInt8.lt_trans h h')
      · exact .inl h
    · rcases h' with h' | ⟨rfl, h'⟩
      · exact .inl h'
      · exact .inr ⟨rfl, less_trans x y z h h'⟩
theorem less_pre : ∀ (m x y : List UInt8), Op.bytesLess (m ++ x) (m ++ y) = Op.bytesLess x y
  | [], _, _ => rfl
  | a :: m, x, y => by simp [Op.bytesLess, less_pre m x y]
theorem less_more : ∀ (x m : List UInt8), Op.bytesLess x (x ++ m) = !m.isEmpty
  | [], m => by cases m <;> rfl
  | a :: x, m => by simp [Op.bytesLess, less_more x m]
end Go.Proofs.YthnommoljikaiaaDoor
