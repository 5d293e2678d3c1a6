/- Frames as lists: what is put is read, whatever stands behind it; a beginning of it is none. No program in it. -/
import Derived.Test.YthnommoljikaiaaFrm4
set_option linter.unusedSimpArgs false
set_option linter.unusedVariables false
namespace Go.Proofs.Ythnommoljikaiaa
open Go.RowKit

theorem num_be4 {v : Int} (h0 : 0 ≤ v) (h1 : v < 4294967296) : num (be v 4) = v := by
  simp only [be, num, List.foldl_cons, List.foldl_nil, Nat.reduceMul, Int.reducePow]
  omega
theorem num_be8 {v : Int} (h0 : 0 ≤ v) (h1 : v < 18446744073709551616) : num (be v 8) = v := by
  simp only [be, num, List.foldl_cons, List.foldl_nil, Nat.reduceMul, Int.reducePow]
  omega
theorem num_be2 {v : Int} (h0 : 0 ≤ v) (h1 : v < 65536) : num (be v 2) = v := by
  simp only [be, num, List.foldl_cons, List.foldl_nil, Nat.reduceMul, Int.reducePow]
  omega
theorem num_be1 {v : Int} (h0 : 0 ≤ v) (h1 : v < 256) : num (be v 1) = v := by
  simp only [be, num, List.foldl_cons, List.foldl_nil, Nat.reduceMul, Int.reducePow]
  omega

/-- A frame, part by part. -/
theorem frameOf_eq (kind : Int) (bs : List Int) : frameOf kind bs = 67 :: 70 :: 49 :: kind :: (be bs.length 4 ++ (bs ++ (shaOf (frameHead kind bs)).take 4)) := by
  simp [frameOf, frameHead]
theorem frame_get3 (kind : Int) (bs more : List Int) : (frameOf kind bs ++ more).getD 3 0 = kind := by rw [frameOf_eq]; rfl
theorem frame_len4 (kind : Int) (bs more : List Int) : ((frameOf kind bs ++ more).drop 4).take 4 = be bs.length 4 := by
  rw [frameOf_eq]
  simp only [List.cons_append, List.drop_succ_cons, List.drop_zero, List.append_assoc]
  rw [List.take_append_of_le_length (by rw [be_length]; exact Nat.le_refl _), List.take_of_length_le (by rw [be_length]; exact Nat.le_refl _)]
theorem goodUp_frame (kind : Int) (bs more : List Int) (k : Nat) (hk : k ≤ 3) : goodUp (frameOf kind bs ++ more) k := fun j hj hl => by
  rw [frameOf_eq]
  match j, (show j < 3 by omega) with
  | 0, _ => rfl
  | 1, _ => rfl
  | 2, _ => rfl
theorem lenOf_frame {kind : Int} {bs : List Int} (more : List Int) (hk : 1 ≤ kind) (hl : bs.length ≤ 65536) : lenOf (frameOf kind bs ++ more) = (12 + (bs.length : Int), 0) := by
  have hn := num_be4 (v := bs.length) (by omega) (by omega)
  have h12 : (frameOf kind bs ++ more).length = bs.length + 12 + more.length := by rw [List.length_append, frameOf_length]
  rw [lenOf, if_neg (fun h => h (goodUp_frame kind bs more 3 (by decide))), if_neg (fun h => by rw [frame_get3] at h; omega), if_neg (by omega), frame_len4, hn, if_neg (by omega)]
theorem readOf_frame {kind : Int} {bs : List Int} (more : List Int) (hk : 1 ≤ kind) (hl : bs.length ≤ 65536) : readOf (frameOf kind bs ++ more) = (kind, bs, (bs.length : Int) + 12, 0) := by
  have h12 : (frameOf kind bs ++ more).length = bs.length + 12 + more.length := by rw [List.length_append, frameOf_length]
  have e1 : (12 + (bs.length : Int)).toNat - 4 = bs.length + 8 := by omega
  have e2 : (12 + (bs.length : Int)).toNat - 12 = bs.length := by omega
  have ht : (frameOf kind bs ++ more).take (bs.length + 8) = frameHead kind bs := by
    rw [frameOf, List.append_assoc, List.take_append_of_le_length (by rw [frameHead_length]; exact Nat.le_refl _), List.take_of_length_le (by rw [frameHead_length]; exact Nat.le_refl _)]
  have hd : ((frameOf kind bs ++ more).drop (bs.length + 8)).take 4 = (shaOf (frameHead kind bs)).take 4 := by
    rw [frameOf, List.append_assoc, List.drop_append_of_le_length (by rw [frameHead_length]; exact Nat.le_refl _), List.drop_of_length_le (by rw [frameHead_length]; exact Nat.le_refl _), List.nil_append,
      List.take_append_of_le_length (by rw [List.length_take, shaOf_length]; decide), List.take_take]
    rfl
  have hw : ((frameOf kind bs ++ more).drop 8).take bs.length = bs := by
    rw [frameOf_eq]
    simp only [List.cons_append, List.drop_succ_cons, List.append_assoc]
    have : (be (↑bs.length) 4 ++ (bs ++ ((shaOf (frameHead kind bs)).take 4 ++ more))).drop 4 = bs ++ ((shaOf (frameHead kind bs)).take 4 ++ more) := by
      rw [List.drop_append_of_le_length (by rw [be_length]; exact Nat.le_refl _), List.drop_of_length_le (by rw [be_length]; exact Nat.le_refl _), List.nil_append]
    rw [this, List.take_append_of_le_length (Nat.le_refl _), List.take_of_length_le (Nat.le_refl _)]
  rw [readOf, lenOf_frame more hk hl, if_neg (by simp), if_neg (by rw [h12]; show ¬ ((bs.length + 12 + more.length : Nat) : Int) < 12 + (bs.length : Int); omega)]
  dsimp only
  rw [e1, e2, ht, hd, if_neg (fun h => h rfl), frame_get3, hw, Int.add_comm]

theorem getD_take {l : List Int} {k j : Nat} (h : j < k) : (l.take k).getD j 0 = l.getD j 0 := by simp [List.getD_eq_getElem?_getD, List.getElem?_take, h]
theorem readOf_begin {kind : Int} {bs : List Int} (k : Nat) (hk : 1 ≤ kind) (hl : bs.length ≤ 65536) (hb : k < bs.length + 12) : readOf ((frameOf kind bs).take k) = (0, [], 0, 10) := by
  have hF : frameOf kind bs = frameOf kind bs ++ [] := by simp
  have hn := num_be4 (v := bs.length) (by omega) (by omega)
  have hlen : ((frameOf kind bs).take k).length = k := by rw [List.length_take, frameOf_length]; omega
  have hg : goodUp ((frameOf kind bs).take k) 3 := fun j hj hl2 => by
    rw [hlen] at hl2
    have := goodUp_frame kind bs [] 3 (by decide) j hj
    rw [List.append_nil, frameOf_length] at this
    rw [getD_take hl2]
    exact this (by omega)
  have h3 : ¬ (3 < ((frameOf kind bs).take k).length ∧ ((frameOf kind bs).take k).getD 3 0 = 0) := fun ⟨h1, h2⟩ => by
    rw [hlen] at h1
    have := frame_get3 kind bs []
    rw [List.append_nil] at this
    rw [getD_take h1, this] at h2
    omega
  by_cases h8 : k < 8
  · have hL : lenOf ((frameOf kind bs).take k) = (0, 10) := by rw [lenOf, if_neg (fun h => h hg), if_neg h3, if_pos (by omega)]
    rw [readOf, hL, if_pos (by decide)]
  · have h4 : (((frameOf kind bs).take k).drop 4).take 4 = be bs.length 4 := by
      have := frame_len4 kind bs []
      rw [List.append_nil] at this
      rw [← this, List.drop_take, List.take_take, Nat.min_eq_left (by omega)]
    have hL : lenOf ((frameOf kind bs).take k) = (12 + (bs.length : Int), 0) := by rw [lenOf, if_neg (fun h => h hg), if_neg h3, if_neg (by omega), h4, hn, if_neg (by omega)]
    rw [readOf, hL, if_neg (by simp), if_pos (by rw [hlen]; show (k : Int) < 12 + (bs.length : Int); omega)]
/-- What is opened of bytes: the kind, what is within, and what is wrong. -/
def openOf (bs : List Int) : Int × List Int × Int :=
  if (lenOf bs).2 = 0 ∧ (lenOf bs).1 < bs.length then (0, [], 11) else ((readOf bs).1, (readOf bs).2.1, (readOf bs).2.2.2)
theorem openOf_frame {kind : Int} {bs : List Int} (hk : 1 ≤ kind) (hl : bs.length ≤ 65536) : openOf (frameOf kind bs) = (kind, bs, 0) := by
  have h1 := lenOf_frame (kind := kind) (bs := bs) [] hk hl
  have h2 := readOf_frame (kind := kind) (bs := bs) [] hk hl
  rw [List.append_nil] at h1 h2
  rw [openOf, h1, h2, if_neg (fun h => by have := h.2; rw [frameOf_length] at this; dsimp only at this; omega)]
theorem openOf_more {kind : Int} {bs more : List Int} (hk : 1 ≤ kind) (hl : bs.length ≤ 65536) (hm : 0 < more.length) : openOf (frameOf kind bs ++ more) = (0, [], 11) := by
  rw [openOf, lenOf_frame more hk hl, if_pos ⟨rfl, by rw [List.length_append, frameOf_length]; show 12 + (bs.length : Int) < ((bs.length + 12 + more.length : Nat) : Int); omega⟩]
theorem frameOf_inj {k1 k2 : Int} {a b : List Int} (h1 : 1 ≤ k1) (h2 : 1 ≤ k2) (ha : a.length ≤ 65536) (hb : b.length ≤ 65536) (h : frameOf k1 a = frameOf k2 b) : k1 = k2 ∧ a = b := by
  have e1 := openOf_frame h1 ha
  have e2 := openOf_frame h2 hb
  rw [h, e2] at e1
  simp only [Prod.mk.injEq] at e1
  exact ⟨e1.1.symm, e1.2.1.symm⟩
end Go.Proofs.Ythnommoljikaiaa
