/- The walks over the program's names: good, Part. -/
import Derived.Test.YthnommoljikaiaaDoorNam2
import Derived.Lib.OthersKept
import Derived.Laws.RangeAny
set_option linter.unusedSimpArgs false
set_option linter.unusedVariables false
namespace Go.Proofs.YthnommoljikaiaaDoor
open Go.RowKit

theorem getD_data (s : ByteArray) (j : Nat) (h : j < s.size) : s.data.toList.getD j 0 = s[j] := by
  rw [List.getD_eq_getElem?_getD, List.getElem?_eq_getElem (by simpa using h)]
  rfl
theorem take_data (s : ByteArray) (k : Nat) (h : k < s.size) : s.data.toList.take (k + 1) = s.data.toList.take k ++ [s[k]] := by
  rw [List.take_succ_eq_append_getElem (by simpa using h)]; rfl
theorem letZ_high (r : Int) (h : 128 ≤ r) : letterZ r = false := by simp [letterZ]; omega
theorem letB_high (c : UInt8) (h : 128 ≤ c.toNat) : letB c = false := letZ_high _ (by omega)
theorem rune_le (s : ByteArray) (pos : Nat) (h : pos < s.size) : (Utf8.decode s pos).1 < 4294967296 ∧ 0 ≤ ((Utf8.decode s pos).1 : Int) := ⟨by have := decode_le s pos; omega, by omega⟩
theorem rune_let (s : ByteArray) (pos : Nat) (h : pos < s.size) : letterZ ((Utf8.decode s pos).1 : Int) = letB s[pos] ∧ (letB s[pos] = true → (Utf8.decode s pos).2 = 1) := by
  by_cases ha : s[pos].toNat < 128
  · rw [decode_ascii s pos h ha]
    exact ⟨rfl, fun _ => rfl⟩
  · have := decode_high s pos h (by omega)
    rw [letB_high _ (by omega), letZ_high _ (by omega)]
    exact ⟨rfl, fun h => by cases h⟩
theorem goodB_ne {l : List UInt8} (h : l.isEmpty = true) : goodB l = false := by simp [goodB, h]
theorem goodB_not_all {l : List UInt8} (h : l.all letB = false) : goodB l = false := by simp [goodB, h]
set_option maxRecDepth 100000 in
set_option maxHeartbeats 400000 in
theorem good_any (s : ByteArray) (w : World) (hM : MaxAt w) (hs : s.size < 4294967281) :
    Calls Tryd.prog 46 #[.string s] w fun e w' => e = .returned (.bool (goodB s.data.toList)) ∧ Below w.heap.size w w' := by
  have HM := bx hM
  clear hM
  by_cases h0 : s.size = 0
  · have hl : s.data.toList = [] := by rw [← List.length_eq_zero_iff]; simpa using h0
    have e1 : s.toList.isEmpty = true := by rw [ByteArray.toList_eq, hl]; rfl
    have e2 : s.toList = [] := by rw [ByteArray.toList_eq, hl]
    have HG : Bx (goodB s.data.toList = false) := ⟨by rw [hl]; rfl⟩
    clear hl
    go_enter Tryd.func46, Tryd.ntmps46
    go_wp2_with fail
    go_ret
    rw [HG.out]
    exact ⟨rfl, Below.refl _ _⟩
  · have hpos : 0 < s.size := by omega
    have hne : s.data.toList ≠ [] := fun e => h0 (by simpa using congrArg List.length e)
    have hem : s.data.toList.isEmpty = false := by cases hh : s.data.toList with
      | nil => exact absurd hh hne
      | cons a b => rfl
    have e1 : s.toList.isEmpty = false := by rw [ByteArray.toList_eq]; exact hem
    have e2 : ¬ s.toList = [] := by rw [ByteArray.toList_eq]; exact hne
    have hx1 : (s.extract 0 1).data.toList = [s[0]] := by
      rw [Lib.extract_data, List.drop_zero, Nat.sub_zero, take_data s 0 hpos]; rfl
    have HC : Bx (∀ w, MaxAt w → Calls Tryd.prog 49 #[.string ⟨#[45, 46]⟩, .string (s.extract 0 1)] w fun e w' => e = .returned (.bool (s[0] == 45 || s[0] == 46)) ∧ w = w') := ⟨fun w hM => by
      have := contains_any ⟨#[45, 46]⟩ (s.extract 0 1) w hM (by decide)
      rw [hx1, show (⟨#[45, 46]⟩ : ByteArray).data.toList = [45, 46] from rfl, contains_one] at this
      have e : decide (s[0] ∈ ([45, 46] : List UInt8)) = (s[0] == 45 || s[0] == 46) := by rw [Bool.eq_iff_iff]; simp
      rw [← e]
      exact this⟩
    have HS : Bx (∀ w, Calls Tryd.prog 72 #[.string s, .string ⟨#[46]⟩] w fun e w' => e = .returned (.bool (s.data.toList.getD (s.data.toList.length - 1) 0 == 46)) ∧ w = w') := ⟨fun w => by
      have := suffix_any s ⟨#[46]⟩ w hs
      rw [show (⟨#[46]⟩ : ByteArray).data.toList = [46] from rfl, hasSuffix_one, hem] at this
      exact this⟩
    have HG : Bx (goodB s.data.toList = (!(s[0] == 45) && (!(s[0] == 46) && (!(s.data.toList.getD (s.data.toList.length - 1) 0 == 46) && (s.data.toList.all letB && (!dotsB s.data.toList && !Lib.hasSuffix s.data.toList lockL)))))) := ⟨by
      unfold goodB; rw [hem, getD_data s 0 hpos]; rfl⟩
    clear hne hem hx1
    generalize (s.data.toList.getD (s.data.toList.length - 1) 0 == 46) = b2 at *
    generalize hb0 : (s[0] == 45) = b0 at *
    generalize hb1 : (s[0] == 46) = b1 at *
    clear hb0 hb1
    have ways : (b0 = true ∨ b1 = true) ∨ ((b0 = false ∧ b1 = false) ∧ b2 = true) ∨ (b0 = false ∧ b1 = false ∧ b2 = false) := by cases b0 <;> cases b1 <;> cases b2 <;> simp
    rcases ways with hw | ⟨⟨rfl, rfl⟩, rfl⟩ | ⟨rfl, rfl, rfl⟩
    · have HB : Bx ((b0 || b1) = true) := ⟨by rcases hw with rfl | rfl <;> simp⟩
      have HF : Bx (goodB s.data.toList = false) := ⟨by rw [HG.out]; rcases hw with rfl | rfl <;> simp⟩
      have HC2 := bx (fun w hM => HB.out ▸ HC.out w hM)
      clear hw HB HG HC
      go_enter Tryd.func46, Tryd.ntmps46
      go_wp2_with fail
      refine (HC2.out w HM.out).mono ?_
      rintro e w' ⟨rfl, rfl⟩
      go_wp2_with fail
      go_ret
      rw [HF.out]
      exact ⟨rfl, Below.refl _ _⟩
    · have HF : Bx (goodB s.data.toList = false) := ⟨by rw [HG.out]; rfl⟩
      go_enter Tryd.func46, Tryd.ntmps46
      go_wp2_with fail
      refine (HC.out w HM.out).mono ?_
      rintro e w' ⟨rfl, rfl⟩
      go_wp2_with fail
      refine (HS.out w).mono ?_
      rintro e w' ⟨rfl, rfl⟩
      go_wp2_with fail
      go_ret
      rw [HF.out]
      exact ⟨rfl, Below.refl _ _⟩
    · have HG2 : Bx (goodB s.data.toList = (s.data.toList.all letB && (!dotsB s.data.toList && !Lib.hasSuffix s.data.toList lockL))) := ⟨HG.out⟩
      clear HG
      go_enter Tryd.func46, Tryd.ntmps46
      go_wp2_with fail
      refine (HC.out w HM.out).mono ?_
      rintro e w' ⟨rfl, rfl⟩
      go_wp2_with fail
      refine (HS.out w).mono ?_
      rintro e w' ⟨rfl, rfl⟩
      go_wp2_with fail
      clear HC HS e1 e2
      go_loopw [4] (fun c wr => ∃ pos : Nat, pos ≤ s.size ∧ wr.heap[w.heap.size]? = some (.stringIter s pos) ∧ Below w.heap.size w wr ∧ (s.data.toList.take pos).all letB = true) (fun _ wr => s.size - wr.iterPos w.heap.size)
      case atStart => exact ⟨0, Nat.zero_le _, World.iter_heap w s 0, (Below.refl _ _).alloc (Nat.le_refl _) _, rfl⟩
      case round =>
        rename_i wr
        obtain ⟨pos, hpos', hit, hbel, hall⟩ := hrel
        have HIT := bx hit; have HB := bx hbel; have HA := bx hall
        by_cases hp : pos < s.size
        · have hnx : ∀ ty, (Instr.next (.pointer (some ⟨w.heap.size, 0, none⟩)) true ty).run Tryd.prog wr = _ := fun ty => Lib.run_next_any_at wr w.heap.size s pos ty hit hp
          have HR := bx (rune_le s pos hp); have HL := bx (rune_let s pos hp)
          have HI2 := bx (Lib.iterAt_heap wr w.heap.size s pos (pos + (Utf8.decode s pos).2) hit)
          have HB2 := bx (Lib.below_iterAt hbel (Nat.le_refl _) s (pos + (Utf8.decode s pos).2))
          have HT := bx (take_data s pos hp)
          clear hit hbel hall
          generalize Utf8.decode s pos = dec at *
          obtain ⟨r, wd⟩ := dec
          dsimp only at *
          cases hl : letB s[pos] with
          | true =>
            have hlr : letterZ (r : Int) = true := by rw [HL.out.1, hl]
            obtain rfl : wd = 1 := HL.out.2 hl
            have HLE := bx hl; have HLR := bx (fun w hM => hlr ▸ letter_any (r : Int) w hM HR.out.2 (by have := HR.out.1; omega))
            clear hl hlr
            go_wp2_with fail
            refine (HLR.out _ (HM.out.below HB2.out)).mono ?_
            rintro e w' ⟨rfl, hb⟩
            have HI3 := bx ((hb.block _ (blk_lt HI2.out)).trans HI2.out); have HB3 := bx (HB2.out.trans (hb.mono HB2.out.size))
            clear hb
            go_wp2_with fail
            go_roundw
            case rel => exact ⟨pos + 1, by omega, HI3.out, HB3.out, by rw [HT.out, List.all_append, HA.out]; simp [HLE.out]⟩
            case measure => simp only [World.iterPos, HI3.out, HIT.out]; omega
          | false =>
            have hlr : letterZ (r : Int) = false := by rw [HL.out.1, hl]
            have HLR := bx (fun w hM => hlr ▸ letter_any (r : Int) w hM HR.out.2 (by have := HR.out.1; omega))
            have HF : Bx (goodB s.data.toList = false) := ⟨goodB_not_all (by
              rw [Bool.eq_false_iff]
              intro h
              have := List.all_eq_true.1 h s[pos] (by rw [← getD_data s pos hp, List.getD_eq_getElem?_getD, List.getElem?_eq_getElem (by simpa using hp)]; exact List.getElem_mem _)
              rw [hl] at this; cases this)⟩
            clear hl hlr
            go_wp2_with fail
            refine (HLR.out _ (HM.out.below HB2.out)).mono ?_
            rintro e w' ⟨rfl, hb⟩
            have HB3 := bx (HB2.out.trans (hb.mono HB2.out.size))
            clear hb
            go_wp2_with fail
            go_ret
            rw [HF.out]
            exact ⟨rfl, HB3.out⟩
        · obtain rfl : pos = s.size := by omega
          have hnx : ∀ ty, (Instr.next (.pointer (some ⟨w.heap.size, 0, none⟩)) true ty).run Tryd.prog wr = _ := fun ty => Lib.run_next_end_at wr w.heap.size s s.size ty hit hp
          have HA2 : Bx (s.data.toList.all letB = true) := ⟨by have := hall; rwa [List.take_of_length_le (by simp)] at this⟩
          have HD : Bx (∀ w, MaxAt w → Calls Tryd.prog 49 #[.string s, .string ⟨#[46, 46]⟩] w fun e w' => e = .returned (.bool (dotsB s.data.toList)) ∧ w = w') := ⟨fun w hM => by
            have := contains_any s ⟨#[46, 46]⟩ w hM hs
            rw [show (⟨#[46, 46]⟩ : ByteArray).data.toList = [46, 46] from rfl, contains_dots] at this
            exact this⟩
          have HK : Bx (∀ w, Calls Tryd.prog 72 #[.string s, .string ⟨#[46, 108, 111, 99, 107]⟩] w fun e w' => e = .returned (.bool (Lib.hasSuffix s.data.toList lockL)) ∧ w = w') := ⟨fun w => suffix_any s ⟨#[46, 108, 111, 99, 107]⟩ w hs⟩
          clear hit hbel hall
          cases hd : dotsB s.data.toList with
          | true =>
            have HF : Bx (goodB s.data.toList = false) := ⟨by rw [HG2.out, hd]; simp⟩
            rw [hd] at HD
            clear hd
            go_wp2_with fail
            refine (HD.out _ (HM.out.below HB.out)).mono ?_
            rintro e w' ⟨rfl, rfl⟩
            go_wp2_with fail
            go_ret
            rw [HF.out]
            exact ⟨rfl, HB.out⟩
          | false =>
            have HF : Bx (goodB s.data.toList = !Lib.hasSuffix s.data.toList lockL) := ⟨by rw [HG2.out, hd, HA2.out]; simp⟩
            rw [hd] at HD
            clear hd
            go_wp2_with fail
            refine (HD.out _ (HM.out.below HB.out)).mono ?_
            rintro e w' ⟨rfl, rfl⟩
            go_wp2_with fail
            refine (HK.out _).mono ?_
            rintro e w' ⟨rfl, rfl⟩
            go_wp2_with fail
            go_ret
            rw [HF.out]
            exact ⟨rfl, HB.out⟩
end Go.Proofs.YthnommoljikaiaaDoor
