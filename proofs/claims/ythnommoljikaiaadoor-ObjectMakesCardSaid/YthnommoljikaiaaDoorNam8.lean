/- The walks over the document's names: good. -/
import Derived.Test.YthnommoljikaiaaDoorNam7
set_option linter.unusedSimpArgs false
set_option linter.unusedVariables false
namespace Go.Proofs.YthnommoljikaiaaDoor
open Go.RowKit

def dotsUp (l : List UInt8) (k : Nat) : Bool := (List.range k).any fun i => decide (0 < i) && (l.getD i 0 == 46 && l.getD (i - 1) 0 == 46)
theorem dotsUp_succ (l : List UInt8) (k : Nat) : dotsUp l (k + 1) = (dotsUp l k || (decide (0 < k) && (l.getD k 0 == 46 && l.getD (k - 1) 0 == 46))) := by
  unfold dotsUp; rw [List.range_succ, List.any_append]; simp
theorem dotsB_of (l : List UInt8) (k : Nat) (hk : k < l.length) (h : dotsUp l (k + 1) = true) : dotsB l = true := by
  obtain ⟨i, hi, h2⟩ := List.any_eq_true.1 h
  have := List.mem_range.1 hi
  exact List.any_eq_true.2 ⟨i, List.mem_range.2 (by omega), h2⟩
theorem u8_int (c : UInt8) (n : Nat) (hn : n < 256) : ((c.toNat : Int) == (n : Int)) = (c == UInt8.ofNat n) := by
  rw [Bool.eq_iff_iff, beq_iff_eq, beq_iff_eq]
  constructor
  · intro h
    apply UInt8.toNat_inj.1
    rw [UInt8.toNat_ofNat']
    omega
  · intro h
    subst h
    rw [UInt8.toNat_ofNat']
    omega
set_option maxRecDepth 100000 in
set_option maxHeartbeats 1000000 in
theorem rgood_any (s : ByteArray) (w : World) (hs : s.size < 4294967281) :
    Calls Tryd.prog 48 #[.string s] w fun e w' => e = .returned (.bool (goodB s.data.toList)) ∧ w = w' := by
  have hlen : s.data.toList.length = s.size := by simp
  by_cases h0 : s.size = 0
  · have hl : s.data.toList = [] := by rw [← List.length_eq_zero_iff]; simpa using h0
    have e1 : s.toList.isEmpty = true := by rw [ByteArray.toList_eq, hl]; rfl
    have e2 : s.toList = [] := by rw [ByteArray.toList_eq, hl]
    have HG : Bx (goodB s.data.toList = false) := ⟨by rw [hl]; rfl⟩
    clear hl hlen
    go_enter Tryd.func48, Tryd.ntmps48
    go_wp2_with fail
    go_ret
    rw [HG.out]
    exact ⟨rfl, rfl⟩
  · have hpos : 0 < s.size := by omega
    have hne : s.data.toList ≠ [] := fun e => h0 (by simpa using congrArg List.length e)
    have hem : s.data.toList.isEmpty = false := by cases hh : s.data.toList with
      | nil => exact absurd hh hne
      | cons a b => rfl
    have e1 : s.toList.isEmpty = false := by rw [ByteArray.toList_eq]; exact hem
    have hlast : s.size - 1 < s.size := by omega
    have i0 : (Instr.index 9 (.string s) (.int .i64 0)).run Tryd.prog w = .ok (.int .u8 s[0].toNat) w := by go_simp
    have hsub : ((s.size : Nat) : Int) - 1 = ((s.size - 1 : Nat) : Int) := by omega
    have i1 : (Instr.index 9 (.string s) (.int .i64 ((s.size : Int) - 1))).run Tryd.prog w = .ok (.int .u8 s[s.size - 1].toNat) w := by rw [hsub]; go_simp
    have HG : Bx (goodB s.data.toList = (!((s[0].toNat : Int) == 45) && (!((s[0].toNat : Int) == 46) && (!((s[s.size - 1].toNat : Int) == 46) && (s.data.toList.all letB && (!dotsB s.data.toList && !Lib.hasSuffix s.data.toList lockL)))))) := ⟨by
      rw [show ((s[0].toNat : Int) == 45) = (s[0] == 45) from u8_int _ 45 (by decide), show ((s[0].toNat : Int) == 46) = (s[0] == 46) from u8_int _ 46 (by decide), show ((s[s.size - 1].toNat : Int) == 46) = (s[s.size - 1] == 46) from u8_int _ 46 (by decide)]
      unfold goodB; rw [hem, hlen, getD_data s 0 hpos, getD_data s (s.size - 1) hlast]; rfl⟩
    have I0 := bx i0; have I1 := bx i1
    clear hne hem i0 i1 hsub
    obtain ⟨x0, hx0⟩ : ∃ x : Int, x = s[0].toNat := ⟨_, rfl⟩
    obtain ⟨x1, hx1⟩ : ∃ x : Int, x = s[s.size - 1].toNat := ⟨_, rfl⟩
    rw [← hx0] at I0 HG
    rw [← hx1] at I1 HG
    clear hx0 hx1
    have i0 := I0.out
    have i1 := I1.out
    clear I0 I1
    have ways : ((x0 == 45) = true ∨ ((x0 == 45) = false ∧ (x0 == 46) = true)) ∨ ((x0 == 45) = false ∧ (x0 == 46) = false) := by cases (x0 == 45) <;> cases (x0 == 46) <;> simp
    rcases ways with hw | ⟨a, b⟩
    · have HF : Bx (goodB s.data.toList = false) := ⟨by rw [HG.out]; rcases hw with h | ⟨h, h'⟩ <;> simp [*]⟩
      rcases hw with h | ⟨h, h'⟩
      all_goals
        go_enter Tryd.func48, Tryd.ntmps48
        go_wp2_with fail
        go_ret
        rw [HF.out]
        exact ⟨rfl, rfl⟩
    · by_cases hd : (x1 == 46) = true
      · have HF : Bx (goodB s.data.toList = false) := ⟨by rw [HG.out, hd]; simp⟩
        go_enter Tryd.func48, Tryd.ntmps48
        go_wp2_with fail
        go_ret
        rw [HF.out]
        exact ⟨rfl, rfl⟩
      · have d : (x1 == 46) = false := by simpa using hd
        have HG2 : Bx (goodB s.data.toList = (s.data.toList.all letB && (!dotsB s.data.toList && !Lib.hasSuffix s.data.toList lockL))) := ⟨by rw [HG.out, a, b, d]; rfl⟩
        clear HG hd
        go_enter Tryd.func48, Tryd.ntmps48
        go_wp2_with fail
        clear a b d i0 i1 e1
        go_loop [3] (fun i => ∃ k : Nat, k ≤ s.size ∧ i = .int .i64 k ∧ (s.data.toList.take k).all letB = true ∧ dotsUp s.data.toList k = false) (fun i => s.size - (intOf i).toNat)
        case atStart => exact ⟨0, Nat.zero_le _, rfl, rfl, rfl⟩
        case round =>
          obtain ⟨k, hk, rfl, hall, hdots⟩ := hrel
          have HA := bx hall; have HD := bx hdots
          clear hall hdots
          by_cases hlt : k < s.size
          · have hlt' : (k : Int) < s.size := by omega
            have HT := bx (take_data s k hlt)
            have HIN : Bx (s[k] ∈ s.data.toList) := ⟨by rw [← getD_data s k hlt, List.getD_eq_getElem?_getD, List.getElem?_eq_getElem (by simpa using hlt)]; exact List.getElem_mem _⟩
            have ix : (Instr.index 9 (.string s) (.int .i64 k)).run Tryd.prog w = .ok (.int .u8 s[k].toNat) w := by go_simp
            have HX := bx ix
            clear ix
            have HR := bx (rletter_any (s[k].toNat : Int) w (by omega) (by have := s[k].toNat_lt; omega))
            have HLB : Bx (letterZ (s[k].toNat : Int) = letB s[k]) := ⟨rfl⟩
            have h46 : ((s[k].toNat : Int) == 46) = (s[k] == 46) := u8_int _ 46 (by decide)
            cases hl : letB s[k] with
            | false =>
              have HF : Bx (goodB s.data.toList = false) := ⟨goodB_not_all (by
                rw [Bool.eq_false_iff]
                intro h
                have := List.all_eq_true.1 h s[k] HIN.out
                rw [hl] at this; cases this)⟩
              rw [HLB.out, hl] at HR
              clear hl h46 hlen
              have ix := HX.out
              go_wp2_with fail
              refine HR.out.mono ?_
              rintro e w' ⟨rfl, rfl⟩
              go_wp2_with fail
              go_ret
              rw [HF.out]
              exact ⟨rfl, rfl⟩
            | true =>
              have HLT := bx hl
              rw [HLB.out, hl] at HR
              clear hl
              have hk63 : (k : Int) + 1 ≤ 9223372036854775807 := by omega
              by_cases hk0 : k = 0
              · subst hk0
                have HDS : Bx (dotsUp s.data.toList (0 + 1) = false) := ⟨rfl⟩
                clear h46 hlen
                have ix := HX.out
                have z0 : ((0 : Nat) : Int) = 0 := rfl
                rw [z0] at ix ⊢
                go_wp2_with fail
                refine HR.out.mono ?_
                rintro e w' ⟨rfl, rfl⟩
                go_wp2_with fail
                go_round
                case rel => exact ⟨1, by omega, rfl, by rw [HT.out, List.all_append, HA.out]; simp [HLT.out], HDS.out⟩
                case measure => simp [intOf]; omega
              · have hk0' : (0 : Int) < k := by omega
                have hkm : ((k : Nat) : Int) - 1 = ((k - 1 : Nat) : Int) := by omega
                have hprev : k - 1 < s.size := by omega
                have iy : (Instr.index 9 (.string s) (.int .i64 ((k : Int) - 1))).run Tryd.prog w = .ok (.int .u8 s[k - 1].toNat) w := by rw [hkm]; go_simp
                have HY := bx iy
                clear iy hkm
                have h46' : ((s[k - 1].toNat : Int) == 46) = (s[k - 1] == 46) := u8_int _ 46 (by decide)
                have HDS : Bx (dotsUp s.data.toList (k + 1) = ((s[k].toNat : Int) == 46 && (s[k - 1].toNat : Int) == 46)) := ⟨by
                  rw [dotsUp_succ, HD.out, getD_data s k hlt, getD_data s (k - 1) hprev, decide_eq_true (by omega), h46, h46']; rfl⟩
                have HDB : Bx (((s[k].toNat : Int) == 46 && (s[k - 1].toNat : Int) == 46) = true → goodB s.data.toList = false) := ⟨fun h => by
                  rw [HG2.out, dotsB_of s.data.toList k (by rw [hlen]; exact hlt) (by rw [HDS.out]; exact h)]; simp⟩
                clear h46 h46' hlen
                obtain ⟨c, hc⟩ : ∃ c : Int, c = s[k].toNat := ⟨_, rfl⟩
                obtain ⟨p, hp⟩ : ∃ p : Int, p = s[k - 1].toNat := ⟨_, rfl⟩
                rw [← hc] at HX HR HDS HDB
                rw [← hp] at HY HDS HDB
                clear hc hp
                have ix := HX.out
                have iy := HY.out
                have hk1 : (1 : Int) ≤ k := by omega
                have hkn : 0 < k := by omega
                clear hk0 hprev hk0'
                have ways : (c == 46) = false ∨ ((c == 46) = true ∧ (p == 46) = false) ∨ ((c == 46) = true ∧ (p == 46) = true) := by cases (c == 46) <;> cases (p == 46) <;> simp
                rcases ways with a | ⟨a, b⟩ | ⟨a, b⟩
                · have HDS2 : Bx (dotsUp s.data.toList (k + 1) = false) := ⟨by rw [HDS.out, a]; rfl⟩
                  go_wp2_with fail
                  refine HR.out.mono ?_
                  rintro e w' ⟨rfl, rfl⟩
                  go_wp2_with fail
                  go_round
                  case rel => exact ⟨k + 1, by omega, by go_num, by rw [HT.out, List.all_append, HA.out]; simp [HLT.out], HDS2.out⟩
                  case measure => simp [intOf]; omega
                · have HDS2 : Bx (dotsUp s.data.toList (k + 1) = false) := ⟨by rw [HDS.out, a, b]; rfl⟩
                  go_wp2_with fail
                  refine HR.out.mono ?_
                  rintro e w' ⟨rfl, rfl⟩
                  go_wp2_with fail
                  go_round
                  case rel => exact ⟨k + 1, by omega, by go_num, by rw [HT.out, List.all_append, HA.out]; simp [HLT.out], HDS2.out⟩
                  case measure => simp [intOf]; omega
                · have HF : Bx (goodB s.data.toList = false) := ⟨HDB.out (by rw [a, b]; rfl)⟩
                  go_wp2_with fail
                  refine HR.out.mono ?_
                  rintro e w' ⟨rfl, rfl⟩
                  go_wp2_with fail
                  go_ret
                  rw [HF.out]
                  exact ⟨rfl, rfl⟩
          · have hlt' : ¬ (k : Int) < s.size := by omega
            obtain rfl : k = s.size := by omega
            have HA2 : Bx (s.data.toList.all letB = true) := ⟨by have := HA.out; rwa [List.take_of_length_le (by simp)] at this⟩
            have HD2 : Bx (dotsB s.data.toList = false) := ⟨by have := HD.out; unfold dotsUp at this; unfold dotsB; rw [hlen]; exact this⟩
            have HF : Bx (goodB s.data.toList = !Lib.hasSuffix s.data.toList lockL) := ⟨by rw [HG2.out, HA2.out, HD2.out]; rfl⟩
            have HSF := bx (Lib.hasSuffix_of_drop s.data.toList lockL)
            rw [hlen, show lockL.length = 5 from rfl] at HSF
            by_cases h5 : s.size < 5
            · have h5' : (s.size : Int) < 5 := by omega
              have HF2 : Bx (goodB s.data.toList = true) := ⟨by rw [HF.out, ← HSF.out, decide_eq_false (by omega)]; rfl⟩
              clear hlen
              go_wp2_with fail
              go_ret
              rw [HF2.out]
              exact ⟨rfl, rfl⟩
            · have h5' : ¬ (s.size : Int) < 5 := by omega
              have hs5 : ((s.size : Nat) : Int) - 5 = ((s.size - 5 : Nat) : Int) := by omega
              have hex : (s.extract (s.size - 5) s.size).toList = s.data.toList.drop (s.size - 5) := by rw [ByteArray.toList_eq, Lib.extract_data, List.take_of_length_le (by simp)]
              have HF2 : Bx (goodB s.data.toList = !((s.extract (s.size - 5) s.size).toList == [46, 108, 111, 99, 107])) := ⟨by rw [HF.out, ← HSF.out, decide_eq_true (by omega), hex]; rfl⟩
              clear hlen hex
              go_wp2_with fail
              go_ret
              rw [HF2.out]
              exact ⟨rfl, rfl⟩
end Go.Proofs.YthnommoljikaiaaDoor
