/- The walks over the document's names: letter, good, Part. The walks over the document's names: good. Slices of texts of one's own; the walk over the document's parts. The walks over the document's names: Kind, Path. The walks over one, and the laws NamesLess and NamesOrder. The walks over the laws NamesLess, NamesOrder and NamesTell. -/
import Derived.Test.YtoompcgdhokdlaaDoorJc
import Derived.Laws.OwnMore
import Derived.IntWalk
set_option linter.unusedSimpArgs false
set_option linter.unusedVariables false
namespace Go.Proofs.YtoompcgdhokdlaaDoor
open Go.RowKit

set_option maxRecDepth 100000 in
set_option maxHeartbeats 400000 in
theorem rletter_any (c : Int) (w : World) (h0 : 0 ≤ c) (h1 : c < 256) :
    Calls Tryd.prog 78 #[.int .u8 c] w fun e w' => e = .returned (.bool (letterZ c)) ∧ w = w' := by
  by_cases hl : (97 ≤ c ∧ c ≤ 122) ∨ (65 ≤ c ∧ c ≤ 90) ∨ (48 ≤ c ∧ c ≤ 57)
  · have HL : Bx (letterZ c = true) := ⟨by simp [letterZ]; omega⟩
    have hl' : (97 ≤ c ∧ c ≤ 122) ∨ (¬ (97 ≤ c) ∧ 65 ≤ c ∧ c ≤ 90) ∨ (¬ 97 ≤ c ∧ ¬ 65 ≤ c ∧ 48 ≤ c ∧ c ≤ 57) := by omega
    clear hl
    rcases hl' with ⟨a, b⟩ | ⟨a, b, d⟩ | ⟨a, b, d, e⟩
    all_goals
      go_enter Tryd.func78, Tryd.ntmps78
      go_wp2_with fail
      go_ret
      rw [HL.out]
      exact ⟨rfl, rfl⟩
  · have q1 : (decide (97 ≤ c) && decide (c ≤ 122)) = false := by simp; omega
    have q2 : (decide (65 ≤ c) && decide (c ≤ 90)) = false := by simp; omega
    have q3 : (decide (48 ≤ c) && decide (c ≤ 57)) = false := by simp; omega
    have HL : Bx (letterZ c = (c == 45 || (c == 95 || c == 46))) := ⟨by unfold letterZ; rw [q1, q2, q3]; rfl⟩
    have ways : (97 ≤ c ∧ ¬ c ≤ 122 ∧ ¬ c ≤ 90 ∧ ¬ c ≤ 57) ∨ (¬ 97 ≤ c ∧ 65 ≤ c ∧ ¬ c ≤ 90 ∧ ¬ c ≤ 57) ∨ (¬ 97 ≤ c ∧ ¬ 65 ≤ c ∧ 48 ≤ c ∧ ¬ c ≤ 57) ∨ (¬ 97 ≤ c ∧ ¬ 65 ≤ c ∧ ¬ 48 ≤ c) := by omega
    clear hl q1 q2 q3
    have vals : (c == 45) = true ∨ ((c == 45) = false ∧ (c == 95) = true) ∨ ((c == 45) = false ∧ (c == 95) = false) := by cases (c == 45) <;> cases (c == 95) <;> simp
    rcases vals with e1 | ⟨e1, e2⟩ | ⟨e1, e2⟩
    · have HL2 : Bx (letterZ c = true) := ⟨by rw [HL.out, e1]; rfl⟩
      rcases ways with ⟨a, b, b1, b2⟩ | ⟨a, b, d, d1⟩ | ⟨a, b, d, e⟩ | ⟨a, b, d⟩
      all_goals
        go_enter Tryd.func78, Tryd.ntmps78
        go_wp2_with fail
        go_ret
        rw [HL2.out]
        exact ⟨rfl, rfl⟩
    · have HL2 : Bx (letterZ c = true) := ⟨by rw [HL.out, e1, e2]; rfl⟩
      rcases ways with ⟨a, b, b1, b2⟩ | ⟨a, b, d, d1⟩ | ⟨a, b, d, e⟩ | ⟨a, b, d⟩
      all_goals
        go_enter Tryd.func78, Tryd.ntmps78
        go_wp2_with fail
        go_ret
        rw [HL2.out]
        exact ⟨rfl, rfl⟩
    · have HL2 : Bx (letterZ c = (c == 46)) := ⟨by rw [HL.out, e1, e2]; rfl⟩
      rcases ways with ⟨a, b, b1, b2⟩ | ⟨a, b, d, d1⟩ | ⟨a, b, d, e⟩ | ⟨a, b, d⟩
      all_goals
        go_enter Tryd.func78, Tryd.ntmps78
        go_wp2_with fail
        go_ret
        rw [HL2.out]
        exact ⟨rfl, rfl⟩
/-- No slash and no zero up to k. -/
def slashB (l : List UInt8) (k : Nat) : Bool := (l.take k).all fun c => !(c == 47) && !(c == 0)
theorem slash_all (l : List UInt8) : (l.all fun c => !(c == 47) && !(c == 0)) = (!decide (47 ∈ l) && !decide (0 ∈ l)) := by
  rw [Bool.eq_iff_iff]
  simp only [List.all_eq_true, Bool.and_eq_true, Bool.not_eq_true', beq_eq_false_iff_ne, decide_eq_false_iff_not]
  constructor
  · intro h
    exact ⟨fun m => (h 47 m).1 rfl, fun m => (h 0 m).2 rfl⟩
  · rintro ⟨h1, h2⟩ c hc
    exact ⟨fun e => h1 (e ▸ hc), fun e => h2 (e ▸ hc)⟩
set_option maxRecDepth 100000 in
set_option maxHeartbeats 400000 in
theorem rpart_any (s : ByteArray) (w : World) :
    Calls Tryd.prog 36 #[.string s] w fun e w' => e = .returned (.bool (partB s.data.toList)) ∧ w = w' := by
  have hlen : s.data.toList.length = s.size := by simp
  have HE := bx (ByteArray.toList_eq s)
  have q1 : s.toList.isEmpty = s.data.toList.isEmpty := by rw [HE.out]
  have q2 : (s.toList == [46]) = (s.data.toList == [46]) := by rw [HE.out]
  have q3 : (s.toList == [46, 46]) = (s.data.toList == [46, 46]) := by rw [HE.out]
  have HP : Bx (partB s.data.toList = (!s.data.toList.isEmpty && (!(s.data.toList == [46]) && (!(s.data.toList == [46, 46]) && (decide (s.size ≤ 64) && (s.data.toList.all fun c => !(c == 47) && !(c == 0))))))) := ⟨by rw [slash_all, ← hlen]; rfl⟩
  cases h1 : s.data.toList.isEmpty with
  | true =>
    rw [h1] at q1
    have HF : Bx (partB s.data.toList = false) := ⟨by rw [HP.out, h1]; rfl⟩
    clear q2 q3 h1 hlen
    go_enter Tryd.func36, Tryd.ntmps36
    go_wp2_with fail
    go_ret
    rw [HF.out]
    exact ⟨rfl, rfl⟩
  | false =>
    rw [h1] at q1
    cases h2 : s.data.toList == [46] with
    | true =>
      rw [h2] at q2
      have HF : Bx (partB s.data.toList = false) := ⟨by rw [HP.out, h1, h2]; rfl⟩
      clear q3 h1 h2 hlen
      go_enter Tryd.func36, Tryd.ntmps36
      go_wp2_with fail
      go_ret
      rw [HF.out]
      exact ⟨rfl, rfl⟩
    | false =>
      rw [h2] at q2
      cases h3 : s.data.toList == [46, 46] with
      | true =>
        rw [h3] at q3
        have HF : Bx (partB s.data.toList = false) := ⟨by rw [HP.out, h1, h2, h3]; rfl⟩
        clear h1 h2 h3 hlen
        go_enter Tryd.func36, Tryd.ntmps36
        go_wp2_with fail
        go_ret
        rw [HF.out]
        exact ⟨rfl, rfl⟩
      | false =>
        rw [h3] at q3
        by_cases h4 : 64 < s.size
        · have h4' : (64 : Int) < s.size := by omega
          have HF : Bx (partB s.data.toList = false) := ⟨by rw [HP.out, h1, h2, h3, decide_eq_false (by omega)]; rfl⟩
          clear h1 h2 h3 hlen
          go_enter Tryd.func36, Tryd.ntmps36
          go_wp2_with fail
          go_ret
          rw [HF.out]
          exact ⟨rfl, rfl⟩
        · have h4' : ¬ (64 : Int) < s.size := by omega
          have HF : Bx (partB s.data.toList = s.data.toList.all fun c => !(c == 47) && !(c == 0)) := ⟨by rw [HP.out, h1, h2, h3, decide_eq_true (by omega)]; rfl⟩
          clear h1 h2 h3 hlen
          go_enter Tryd.func36, Tryd.ntmps36
          go_wp2_with fail
          clear q1 q2 q3
          go_loop [3] (fun i => ∃ k : Nat, k ≤ s.size ∧ i = .int .i64 k ∧ slashB s.data.toList k = true) (fun i => s.size - (intOf i).toNat)
          case atStart => exact ⟨0, Nat.zero_le _, rfl, rfl⟩
          case round =>
            obtain ⟨k, hk, rfl, hall⟩ := hrel
            have HA := bx hall
            clear hall
            by_cases hlt : k < s.size
            · have hlt' : (k : Int) < s.size := by omega
              have HT := bx (take_data s k hlt)
              have HIN : Bx (s[k] ∈ s.data.toList) := ⟨by rw [← getD_data s k hlt, List.getD_eq_getElem?_getD, List.getElem?_eq_getElem (by simpa using hlt)]; exact List.getElem_mem _⟩
              have ix : (Instr.index 9 (.string s) (.int .i64 k)).run Tryd.prog w = .ok (.int .u8 s[k].toNat) w := by go_simp
              have HX := bx ix
              clear ix
              obtain ⟨c, hc⟩ : ∃ c : Int, c = s[k].toNat := ⟨_, rfl⟩
              rw [← hc] at HX
              have ways : ((c == 47) = true ∨ ((c == 47) = false ∧ (c == 0) = true)) ∨ ((c == 47) = false ∧ (c == 0) = false) := by cases (c == 47) <;> cases (c == 0) <;> simp
              rcases ways with hw | ⟨e1, e2⟩
              · have HF2 : Bx (partB s.data.toList = false) := ⟨by
                  rw [HF.out, Bool.eq_false_iff]
                  intro h
                  have := List.all_eq_true.1 h s[k] HIN.out
                  simp only [Bool.and_eq_true, Bool.not_eq_true', beq_eq_false_iff_ne] at this
                  rcases hw with hw | ⟨_, hw⟩
                  · rw [beq_iff_eq, hc] at hw
                    exact this.1 (UInt8.toNat_inj.1 (by rw [show (47 : UInt8).toNat = 47 from rfl]; omega))
                  · rw [beq_iff_eq, hc] at hw
                    exact this.2 (UInt8.toNat_inj.1 (by rw [show (0 : UInt8).toNat = 0 from rfl]; omega))⟩
                clear hc
                have ix := HX.out
                rcases hw with e1 | ⟨e1, e2⟩
                all_goals
                  go_wp2_with fail
                  go_ret
                  rw [HF2.out]
                  exact ⟨rfl, rfl⟩
              · have HC : Bx ((!(s[k] == 47) && !(s[k] == 0)) = true) := ⟨by
                  simp only [Bool.and_eq_true, Bool.not_eq_true', beq_eq_false_iff_ne] at e1 e2 ⊢
                  exact ⟨fun h => e1 (by rw [hc, h]; rfl), fun h => e2 (by rw [hc, h]; rfl)⟩⟩
                clear hc
                have ix := HX.out
                have hk63 : (k : Int) + 1 ≤ 9223372036854775807 := by omega
                go_wp2_with fail
                go_round
                case rel => exact ⟨k + 1, by omega, by go_num, by unfold slashB at *; rw [HT.out, List.all_append, HA.out]; simpa using HC.out⟩
                case measure => simp [intOf]; omega
            · have hlt' : ¬ (k : Int) < s.size := by omega
              obtain rfl : k = s.size := by omega
              have HF2 : Bx (partB s.data.toList = true) := ⟨by rw [HF.out]; have := HA.out; unfold slashB at this; rwa [List.take_of_length_le (by simp)] at this⟩
              go_wp2_with fail
              go_ret
              rw [HF2.out]
              exact ⟨rfl, rfl⟩
end Go.Proofs.YtoompcgdhokdlaaDoor

set_option linter.unusedSimpArgs false
set_option linter.unusedVariables false
namespace Go.Proofs.YtoompcgdhokdlaaDoor
open Go.RowKit

def dotsUp (l : List UInt8) (k : Nat) : Bool := (List.range k).any fun i => decide (0 < i) && (l.getD i 0 == 46 && l.getD (i - 1) 0 == 46)
theorem dotsUp_succ (l : List UInt8) (k : Nat) : dotsUp l (k + 1) = (dotsUp l k || (decide (0 < k) && (l.getD k 0 == 46 && l.getD (k - 1) 0 == 46))) := by
  unfold dotsUp; rw [List.range_succ, List.any_append]; simp
theorem dotsB_of (l : List UInt8) (k : Nat) (hk : k < l.length) (h : dotsUp l (k + 1) = true) : dotsB l = true := by
  obtain ⟨i, hi, h2⟩ := List.any_eq_true.1 h
  have := List.mem_range.1 hi
  exact List.any_eq_true.2 ⟨i, List.mem_range.2 (by omega), h2⟩
theorem u8_int (c : UInt8) (n : Nat) (hn : n < 256) : ((c.toNat : Int) == (n : Int)) = (c == UInt8.ofNat n) := by
  rw [Bool.eq_iff_iff, beq_iff_eq, beq_iff_eq]
  constructor
  · intro h
    apply UInt8.toNat_inj.1
    rw [UInt8.toNat_ofNat']
    omega
  · intro h
    subst h
    rw [UInt8.toNat_ofNat']
    omega
set_option maxRecDepth 100000 in
set_option maxHeartbeats 1000000 in
theorem rgood_any (s : ByteArray) (w : World) (hs : s.size < 4294967281) :
    Calls Tryd.prog 63 #[.string s] w fun e w' => e = .returned (.bool (goodB s.data.toList)) ∧ w = w' := by
  have hlen : s.data.toList.length = s.size := by simp
  by_cases h0 : s.size = 0
  · have hl : s.data.toList = [] := by rw [← List.length_eq_zero_iff]; simpa using h0
    have e1 : s.toList.isEmpty = true := by rw [ByteArray.toList_eq, hl]; rfl
    have e2 : s.toList = [] := by rw [ByteArray.toList_eq, hl]
    have HG : Bx (goodB s.data.toList = false) := ⟨by rw [hl]; rfl⟩
    clear hl hlen
    go_enter Tryd.func63, Tryd.ntmps63
    go_wp2_with fail
    go_ret
    rw [HG.out]
    exact ⟨rfl, rfl⟩
  · have hpos : 0 < s.size := by omega
    have hne : s.data.toList ≠ [] := fun e => h0 (by simpa using congrArg List.length e)
    have hem : s.data.toList.isEmpty = false := by cases hh : s.data.toList with
      | nil => exact absurd hh hne
      | cons a b => rfl
    have e1 : s.toList.isEmpty = false := by rw [ByteArray.toList_eq]; exact hem
    have hlast : s.size - 1 < s.size := by omega
    have i0 : (Instr.index 9 (.string s) (.int .i64 0)).run Tryd.prog w = .ok (.int .u8 s[0].toNat) w := by go_simp
    have hsub : ((s.size : Nat) : Int) - 1 = ((s.size - 1 : Nat) : Int) := by omega
    have i1 : (Instr.index 9 (.string s) (.int .i64 ((s.size : Int) - 1))).run Tryd.prog w = .ok (.int .u8 s[s.size - 1].toNat) w := by rw [hsub]; go_simp
    have HG : Bx (goodB s.data.toList = (!((s[0].toNat : Int) == 45) && (!((s[0].toNat : Int) == 46) && (!((s[s.size - 1].toNat : Int) == 46) && (s.data.toList.all letB && (!dotsB s.data.toList && !Lib.hasSuffix s.data.toList lockL)))))) := ⟨by
      rw [show ((s[0].toNat : Int) == 45) = (s[0] == 45) from u8_int _ 45 (by decide), show ((s[0].toNat : Int) == 46) = (s[0] == 46) from u8_int _ 46 (by decide), show ((s[s.size - 1].toNat : Int) == 46) = (s[s.size - 1] == 46) from u8_int _ 46 (by decide)]
      unfold goodB; rw [hem, hlen, getD_data s 0 hpos, getD_data s (s.size - 1) hlast]; rfl⟩
    have I0 := bx i0; have I1 := bx i1
    clear hne hem i0 i1 hsub
    obtain ⟨x0, hx0⟩ : ∃ x : Int, x = s[0].toNat := ⟨_, rfl⟩
    obtain ⟨x1, hx1⟩ : ∃ x : Int, x = s[s.size - 1].toNat := ⟨_, rfl⟩
    rw [← hx0] at I0 HG
    rw [← hx1] at I1 HG
    clear hx0 hx1
    have i0 := I0.out
    have i1 := I1.out
    clear I0 I1
    have ways : ((x0 == 45) = true ∨ ((x0 == 45) = false ∧ (x0 == 46) = true)) ∨ ((x0 == 45) = false ∧ (x0 == 46) = false) := by cases (x0 == 45) <;> cases (x0 == 46) <;> simp
    rcases ways with hw | ⟨a, b⟩
    · have HF : Bx (goodB s.data.toList = false) := ⟨by rw [HG.out]; rcases hw with h | ⟨h, h'⟩ <;> simp [*]⟩
      rcases hw with h | ⟨h, h'⟩
      all_goals
        go_enter Tryd.func63, Tryd.ntmps63
        go_wp2_with fail
        go_ret
        rw [HF.out]
        exact ⟨rfl, rfl⟩
    · by_cases hd : (x1 == 46) = true
      · have HF : Bx (goodB s.data.toList = false) := ⟨by rw [HG.out, hd]; simp⟩
        go_enter Tryd.func63, Tryd.ntmps63
        go_wp2_with fail
        go_ret
        rw [HF.out]
        exact ⟨rfl, rfl⟩
      · have d : (x1 == 46) = false := by simpa using hd
        have HG2 : Bx (goodB s.data.toList = (s.data.toList.all letB && (!dotsB s.data.toList && !Lib.hasSuffix s.data.toList lockL))) := ⟨by rw [HG.out, a, b, d]; rfl⟩
        clear HG hd
        go_enter Tryd.func63, Tryd.ntmps63
        go_wp2_with fail
        clear a b d i0 i1 e1
        go_loop [3] (fun i => ∃ k : Nat, k ≤ s.size ∧ i = .int .i64 k ∧ (s.data.toList.take k).all letB = true ∧ dotsUp s.data.toList k = false) (fun i => s.size - (intOf i).toNat)
        case atStart => exact ⟨0, Nat.zero_le _, rfl, rfl, rfl⟩
        case round =>
          obtain ⟨k, hk, rfl, hall, hdots⟩ := hrel
          have HA := bx hall; have HD := bx hdots
          clear hall hdots
          by_cases hlt : k < s.size
          · have hlt' : (k : Int) < s.size := by omega
            have HT := bx (take_data s k hlt)
            have HIN : Bx (s[k] ∈ s.data.toList) := ⟨by rw [← getD_data s k hlt, List.getD_eq_getElem?_getD, List.getElem?_eq_getElem (by simpa using hlt)]; exact List.getElem_mem _⟩
            have ix : (Instr.index 9 (.string s) (.int .i64 k)).run Tryd.prog w = .ok (.int .u8 s[k].toNat) w := by go_simp
            have HX := bx ix
            clear ix
            have HR := bx (rletter_any (s[k].toNat : Int) w (by omega) (by have := s[k].toNat_lt; omega))
            have HLB : Bx (letterZ (s[k].toNat : Int) = letB s[k]) := ⟨rfl⟩
            have h46 : ((s[k].toNat : Int) == 46) = (s[k] == 46) := u8_int _ 46 (by decide)
            cases hl : letB s[k] with
            | false =>
              have HF : Bx (goodB s.data.toList = false) := ⟨goodB_not_all (by
                rw [Bool.eq_false_iff]
                intro h
                have := List.all_eq_true.1 h s[k] HIN.out
                rw [hl] at this; cases this)⟩
              rw [HLB.out, hl] at HR
              clear hl h46 hlen
              have ix := HX.out
              go_wp2_with fail
              refine HR.out.mono ?_
              rintro e w' ⟨rfl, rfl⟩
              go_wp2_with fail
              go_ret
              rw [HF.out]
              exact ⟨rfl, rfl⟩
            | true =>
              have HLT := bx hl
              rw [HLB.out, hl] at HR
              clear hl
              have hk63 : (k : Int) + 1 ≤ 9223372036854775807 := by omega
              by_cases hk0 : k = 0
              · subst hk0
                have HDS : Bx (dotsUp s.data.toList (0 + 1) = false) := ⟨rfl⟩
                clear h46 hlen
                have ix := HX.out
                have z0 : ((0 : Nat) : Int) = 0 := rfl
                rw [z0] at ix ⊢
                go_wp2_with fail
                refine HR.out.mono ?_
                rintro e w' ⟨rfl, rfl⟩
                go_wp2_with fail
                go_round
                case rel => exact ⟨1, by omega, rfl, by rw [HT.out, List.all_append, HA.out]; simp [HLT.out], HDS.out⟩
                case measure => simp [intOf]; omega
              · have hk0' : (0 : Int) < k := by omega
                have hkm : ((k : Nat) : Int) - 1 = ((k - 1 : Nat) : Int) := by omega
                have hprev : k - 1 < s.size := by omega
                have iy : (Instr.index 9 (.string s) (.int .i64 ((k : Int) - 1))).run Tryd.prog w = .ok (.int .u8 s[k - 1].toNat) w := by rw [hkm]; go_simp
                have HY := bx iy
                clear iy hkm
                have h46' : ((s[k - 1].toNat : Int) == 46) = (s[k - 1] == 46) := u8_int _ 46 (by decide)
                have HDS : Bx (dotsUp s.data.toList (k + 1) = ((s[k].toNat : Int) == 46 && (s[k - 1].toNat : Int) == 46)) := ⟨by
                  rw [dotsUp_succ, HD.out, getD_data s k hlt, getD_data s (k - 1) hprev, decide_eq_true (by omega), h46, h46']; rfl⟩
                have HDB : Bx (((s[k].toNat : Int) == 46 && (s[k - 1].toNat : Int) == 46) = true → goodB s.data.toList = false) := ⟨fun h => by
                  rw [HG2.out, dotsB_of s.data.toList k (by rw [hlen]; exact hlt) (by rw [HDS.out]; exact h)]; simp⟩
                clear h46 h46' hlen
                obtain ⟨c, hc⟩ : ∃ c : Int, c = s[k].toNat := ⟨_, rfl⟩
                obtain ⟨p, hp⟩ : ∃ p : Int, p = s[k - 1].toNat := ⟨_, rfl⟩
                rw [← hc] at HX HR HDS HDB
                rw [← hp] at HY HDS HDB
                clear hc hp
                have ix := HX.out
                have iy := HY.out
                have hk1 : (1 : Int) ≤ k := by omega
                have hkn : 0 < k := by omega
                clear hk0 hprev hk0'
                have ways : (c == 46) = false ∨ ((c == 46) = true ∧ (p == 46) = false) ∨ ((c == 46) = true ∧ (p == 46) = true) := by cases (c == 46) <;> cases (p == 46) <;> simp
                rcases ways with a | ⟨a, b⟩ | ⟨a, b⟩
                · have HDS2 : Bx (dotsUp s.data.toList (k + 1) = false) := ⟨by rw [HDS.out, a]; rfl⟩
                  go_wp2_with fail
                  refine HR.out.mono ?_
                  rintro e w' ⟨rfl, rfl⟩
                  go_wp2_with fail
                  go_round
                  case rel => exact ⟨k + 1, by omega, by go_num, by rw [HT.out, List.all_append, HA.out]; simp [HLT.out], HDS2.out⟩
                  case measure => simp [intOf]; omega
                · have HDS2 : Bx (dotsUp s.data.toList (k + 1) = false) := ⟨by rw [HDS.out, a, b]; rfl⟩
                  go_wp2_with fail
                  refine HR.out.mono ?_
                  rintro e w' ⟨rfl, rfl⟩
                  go_wp2_with fail
                  go_round
                  case rel => exact ⟨k + 1, by omega, by go_num, by rw [HT.out, List.all_append, HA.out]; simp [HLT.out], HDS2.out⟩
                  case measure => simp [intOf]; omega
                · have HF : Bx (goodB s.data.toList = false) := ⟨HDB.out (by rw [a, b]; rfl)⟩
                  go_wp2_with fail
                  refine HR.out.mono ?_
                  rintro e w' ⟨rfl, rfl⟩
                  go_wp2_with fail
                  go_ret
                  rw [HF.out]
                  exact ⟨rfl, rfl⟩
          · have hlt' : ¬ (k : Int) < s.size := by omega
            obtain rfl : k = s.size := by omega
            have HA2 : Bx (s.data.toList.all letB = true) := ⟨by have := HA.out; rwa [List.take_of_length_le (by simp)] at this⟩
            have HD2 : Bx (dotsB s.data.toList = false) := ⟨by have := HD.out; unfold dotsUp at this; unfold dotsB; rw [hlen]; exact this⟩
            have HF : Bx (goodB s.data.toList = !Lib.hasSuffix s.data.toList lockL) := ⟨by rw [HG2.out, HA2.out, HD2.out]; rfl⟩
            have HSF := bx (Lib.hasSuffix_of_drop s.data.toList lockL)
            rw [hlen, show lockL.length = 5 from rfl] at HSF
            by_cases h5 : s.size < 5
            · have h5' : (s.size : Int) < 5 := by omega
              have HF2 : Bx (goodB s.data.toList = true) := ⟨by rw [HF.out, ← HSF.out, decide_eq_false (by omega)]; rfl⟩
              clear hlen
              go_wp2_with fail
              go_ret
              rw [HF2.out]
              exact ⟨rfl, rfl⟩
            · have h5' : ¬ (s.size : Int) < 5 := by omega
              have hs5 : ((s.size : Nat) : Int) - 5 = ((s.size - 5 : Nat) : Int) := by omega
              have hex : (s.extract (s.size - 5) s.size).toList = s.data.toList.drop (s.size - 5) := by rw [ByteArray.toList_eq, Lib.extract_data, List.take_of_length_le (by simp)]
              have HF2 : Bx (goodB s.data.toList = !((s.extract (s.size - 5) s.size).toList == [46, 108, 111, 99, 107])) := ⟨by rw [HF.out, ← HSF.out, decide_eq_true (by omega), hex]; rfl⟩
              clear hlen hex
              go_wp2_with fail
              go_ret
              rw [HF2.out]
              exact ⟨rfl, rfl⟩
end Go.Proofs.YtoompcgdhokdlaaDoor

set_option linter.unusedSimpArgs false
set_option linter.unusedVariables false
namespace Go.Proofs.YtoompcgdhokdlaaDoor
open Go.RowKit

/-- A slice of texts that lies in a block of one's own (from 'base' on). -/
def OwS (w : World) (base : Nat) (v : Value) (pcs : List ByteArray) : Prop := w.ownsRow base 9 1 v pcs.length (pcs.map Value.string)
theorem infoS : (Tryd.prog.info? 9).map (fun i => (i.zero, i.size, i.bytes)) = some (some (.string ⟨#[]⟩), 1, 16) := by kernel_rfl
theorem OwS.kept {w w' : World} {base : Nat} {v : Value} {pcs : List ByteArray} (h : OwS w base v pcs) (hb : Below w.heap.size w w') : OwS w' base v pcs := by
  obtain ⟨h1, h2 | ⟨g, cap, cur, e, hg, hh, h2⟩⟩ := h
  · exact ⟨h1, .inl h2⟩
  · exact ⟨h1, .inr ⟨g, cap, cur, e, hg, (hb.block g (blk_lt hh)).trans hh, h2⟩⟩
theorem OwS.nn {w : World} {base : Nat} {v : Value} {pcs : List ByteArray} (h : OwS w base v pcs) (hp : 0 < pcs.length) : ∃ g cap, v = .slice (some ⟨g, 0, none⟩) pcs.length cap ∧ base ≤ g ∧ g < w.heap.size ∧ pcs.length ≤ cap := by
  obtain ⟨h1, ⟨_, h2⟩ | ⟨g, cap, cur, e, hg, hh, h2, _⟩⟩ := h
  · omega
  · exact ⟨g, cap, e, hg, blk_lt hh, h2⟩
theorem OwS.cell {w : World} {base g cap : Nat} {pcs : List ByteArray} (h : OwS w base (.slice (some ⟨g, 0, none⟩) pcs.length cap) pcs) (j : Nat) (hj : j < pcs.length) : w.cell? ⟨g, j, none⟩ = some (.string pcs[j]) := by
  obtain ⟨h1, ⟨e, _⟩ | ⟨g', cap', cur, e, hg, hh, h2, h3, h4, h5⟩⟩ := h
  · cases e
  · cases e
    rw [cell_of_row w g j cur _ (0, 0) hh]
    have e2 : (cur.toList.take (pcs.length * 1))[j]? = (pcs.map Value.string)[j]? := by rw [h5]
    rw [List.getElem?_take_of_lt (by omega), Array.getElem?_toList] at e2
    rw [e2]
    simp [List.getElem?_eq_getElem hj]
theorem OwS.made (w : World) (base : Nat) (t : ByteArray) (hb : base ≤ w.heap.size) : OwS (w.alloc (.cells #[.string t] 9)) base (.slice (some ⟨w.heap.size, 0, none⟩) 1 1) [t] :=
  ⟨by simp, .inr ⟨w.heap.size, 1, #[.string t], rfl, hb, blk_new w _, Nat.le_refl _, by decide, rfl, rfl⟩⟩
/-- 'append(s, x...)' of one text. -/
theorem wpList_app1S {w : World} {ops : Array Oper} {rest : List Oper} {o : Oper} {a : Act} {Q : Exit → Act → World → Prop} (hgd : o.guard = none) (s x : Operand)
    (ho : o.op = .call { callee := .builtin .append, args := #[s, x], argTypes := #[47, 47] })
    (base : Nat) (v : Value) (pcs : List ByteArray) (hs : a.eval s = v) (hown : OwS w base v pcs) (b : Nat) (c : Nat) (t : ByteArray) (hx : a.eval x = .slice (some ⟨b, 0, none⟩) 1 c) (hc : w.cell? ⟨b, 0, none⟩ = some (.string t))
    (hlen : pcs.length + 1 ≤ 4398046511104) (hbase : base ≤ w.heap.size)
    (h : ∀ v' w', OwS w' base v' (pcs ++ [t]) → w.grownBy w' v.ownBlock → wpList Tryd.prog ops Q rest (a.put o.dst v') w') : wpList Tryd.prog ops Q (o :: rest) a w := by
  obtain ⟨i0, hi, hz0, hz1, hz2⟩ := info_parts infoS
  refine wpList_append_own w hgd s x _ ho base 9 i0 (.string ⟨#[]⟩) 1 16 Tryd.underlying47 hi hz0 hz1 hz2 rfl (by decide) v _ _ hs hown ⟨b, 0, none⟩ 1 c [.string t] hx rfl ?_ ?_ ?_ ?_ hbase ?_
  · intro j u hj
    match j, hj with
    | 0, hj => simp at hj; subst hj; exact hc
  · intro u hu
    rw [List.mem_singleton] at hu; subst hu; rfl
  · simp only [maxLen]; omega
  · omega
  · intro v' w' h1 h2 _
    refine h v' w' ?_ h2
    show World.ownsRow _ _ _ _ _ _ _
    rw [List.length_append, List.map_append]
    exact h1
theorem OwS.own {w : World} {base : Nat} {v : Value} {pcs : List ByteArray} (h : OwS w base v pcs) : ∀ k, v.ownBlock = .some k → base ≤ k ∧ k < w.heap.size := World.ownsRow.lt h
theorem OwS.below {w w' : World} {base B : Nat} {v : Value} {pcs : List ByteArray} (h : OwS w base v pcs) (hg : w.grownBy w' v.ownBlock) {a : World} (ha : Below B a w) (hB : B ≤ base) (hs : B ≤ w.heap.size) : Below B a w' :=
  ha.grown hg hs fun k hk => by have := (h.own k hk).1; omega
theorem app_data (x s : ByteArray) (k : Nat) (h : k < s.size) : (x ++ s.extract k (k + 1)).data.toList = x.data.toList ++ [s[k]] := by
  have e : (s.extract k (k + 1)).data.toList = [s[k]] := by
    rw [Lib.extract_data, show k + 1 - k = 1 by omega, List.drop_eq_getElem_cons (by simpa using h)]; rfl
  rw [ByteArray.data_append, Array.toList_append, e]
def datas (pcs : List ByteArray) : List (List UInt8) := pcs.map (·.data.toList)
theorem datas_step (pre : List ByteArray) (x : ByteArray) (c : UInt8) (h : c ≠ 47) : partStep (datas (pre ++ [x])) c = datas pre ++ [x.data.toList ++ [c]] := by
  unfold partStep datas
  rw [if_neg h]; simp
theorem datas_slash (pcs : List ByteArray) : partStep (datas pcs) 47 = datas (pcs ++ [⟨#[]⟩]) := by
  unfold partStep datas
  rw [if_pos rfl]; simp
def PartsRel (s : ByteArray) (w : World) (v i : Value) (wr : World) : Prop :=
  ∃ (k : Nat) (pre : List ByteArray) (x : ByteArray) (g cap : Nat), k ≤ s.size ∧ i = .int .i64 k ∧ v = .slice (some ⟨g, 0, none⟩) (pre.length + 1) cap ∧ OwS wr w.heap.size v (pre ++ [x]) ∧ datas (pre ++ [x]) = partsOf (s.data.toList.take k) ∧ Below w.heap.size w wr ∧ pre.length ≤ k ∧ x.size ≤ k
theorem parts_rel {s : ByteArray} {w wr : World} {v i : Value} {k : Nat} {pcs : List ByteArray} (hk : k ≤ s.size) (hi : i = .int .i64 k) (ho : OwS wr w.heap.size v pcs) (hd : datas pcs = partsOf (s.data.toList.take k)) (hb : Below w.heap.size w wr) : PartsRel s w v i wr := by
  have hne : pcs ≠ [] := fun e => partsOf_ne (s.data.toList.take k) (by rw [← hd, e]; rfl)
  obtain ⟨pre, x, rfl⟩ : ∃ pre x, pcs = pre ++ [x] := ⟨pcs.dropLast, pcs.getLast hne, (List.dropLast_concat_getLast hne).symm⟩
  obtain ⟨g, cap, e, _, _, _⟩ := ho.nn (by simp)
  have hsum := partsOf_sum (s.data.toList.take k)
  rw [← hd] at hsum
  have hl : (s.data.toList.take k).length ≤ k := List.length_take_le _ _
  have hx : x.data.toList ∈ datas (pre ++ [x]) := List.mem_map_of_mem (by simp)
  rw [hd] at hx
  have hx2 := part_le hx
  refine ⟨k, pre, x, g, cap, hk, hi, by rw [e]; simp, ho, hd, hb, ?_, ?_⟩
  · have := hsum.2; simp [datas] at this; omega
  · simp at hx2; omega
def PartsOut (l : List UInt8) (w : World) (e : Ending) (w' : World) : Prop := ∃ v pcs, e = .returned v ∧ OwS w' w.heap.size v pcs ∧ datas pcs = partsOf l ∧ Below w.heap.size w w'
set_option maxRecDepth 100000 in
set_option maxHeartbeats 1000000 in
theorem parts_any (s : ByteArray) (w : World) (hs : s.size < 4294967281) :
    Calls Tryd.prog 62 #[.string s] w (PartsOut s.data.toList w) := by
  go_enter Tryd.func62, Tryd.ntmps62
  go_wp2_with fail
  go_loopw [3, 4] (PartsRel s w) (fun _ i _ => s.size - (intOf i).toNat)
  case atStart => exact parts_rel (k := 0) (Nat.zero_le _) rfl (OwS.made w w.heap.size ⟨#[]⟩ (Nat.le_refl _)) rfl ((Below.refl _ _).alloc (Nat.le_refl _) _)
  case round =>
    rename_i wr
    obtain ⟨k, pre, x, g, cap, hk, rfl, rfl, ho, hd, hbel, hpl, hxl⟩ := hrel
    have HO := bx ho; have HD := bx hd; have HB := bx hbel
    clear ho hd hbel
    by_cases hlt : k < s.size
    · have hlt' : (k : Int) < s.size := by omega
      have HT := bx (take_data s k hlt)
      have ix : (Instr.index 9 (.string s) (.int .i64 k)).run Tryd.prog wr = .ok (.int .u8 s[k].toNat) wr := by go_simp
      have hk63 : (k : Int) + 1 ≤ 9223372036854775807 := by omega
      have h47 : ((s[k].toNat : Int) == 47) = (s[k] == 47) := u8_int _ 47 (by decide)
      cases hc : (s[k] == 47) with
      | true =>
        have HC : Bx (s[k] = 47) := ⟨by simpa using hc⟩
        rw [hc] at h47
        have HX := bx ix
        generalize (s[k].toNat : Int) = c at ix h47
        clear hc HX
        go_wp2_with (first
          | ((with_reducible refine at_call 18 ?_); go_must (refine wpList_app1S rfl (.tmp 16) (.tmp 17) rfl w.heap.size (.slice (some ⟨g, 0, none⟩) (pre.length + 1) cap) (pre ++ [x]) rfl (HO.out.kept ((Below.refl _ _).alloc (Nat.le_refl _) _)) wr.heap.size 1 ⟨#[]⟩ rfl (blk_cell (blk_new wr _) rfl) (by simp; omega) (by have := HB.out.size; simp; omega) ?_; intro v2 w2 ho2 hg2)))
        have HO2 := bx ho2
        have HB2 := bx ((HO.out.kept ((Below.refl _ _).alloc (Nat.le_refl _) _)).below hg2 (HB.out.alloc HB.out.size _) (Nat.le_refl _) (by have := HB.out.size; simp; omega))
        clear ho2 hg2 ix h47
        go_wp2_with fail
        go_roundw
        case rel => exact parts_rel (k := k + 1) (by omega) (by go_num) HO2.out (by rw [HT.out, partsOf_snoc, ← HD.out, HC.out, datas_slash]) HB2.out
        case measure => simp [intOf]; omega
      | false =>
        have HC : Bx (s[k] ≠ 47) := ⟨by simpa using hc⟩
        rw [hc] at h47
        have HW : Bx (wr.ownsRow w.heap.size 9 1 (.slice (some ⟨g, 0, none⟩) (pre.length + 1) cap) (pre.length + 1) ((pre ++ [x]).map Value.string)) := ⟨by have := HO.out; unfold OwS at this; rwa [List.length_append] at this⟩
        have hcell : wr.cell? ⟨g, pre.length, none⟩ = some (.string x) := by
          rw [World.ownsRow.cellAt HW.out pre.length (by omega)]; simp
        have hfro : wr.frozen? ⟨g, pre.length, none⟩ = false := World.ownsRow.frozenAt HW.out pre.length
        have HAD := bx (app_data x s k hlt)
        have HCE := bx hcell; have HFR := bx hfro
        generalize (s[k].toNat : Int) = c at ix h47
        clear hc
        go_upto_region 7 with fail
        have hsz : ¬ 9223372036854775807 < x.size + 1 := by omega
        have hsz2 : (s.extract k (k + 1)).size = 1 := by simp; omega
        have wr1 : IntKind.i64.wrap (pre.length : Int) = pre.length := IntWalk.i64_in _ (by omega)
        have wr2 : IntKind.i64.wrap ((k : Int) + 1) = (k : Int) + 1 := IntWalk.i64_in _ (by omega)
        have wr3 : ((k : Int) + 1).toNat = k + 1 := by omega
        have wr4 : (0 : Int) ≤ (k : Int) + 1 := by omega
        have wr5 : (k : Int) ≤ (k : Int) + 1 := by omega
        have wr6 : (k : Int) + 1 ≤ s.size := by omega
        have wr7 : (pre.length : Int) < (pre.length : Int) + 1 := by omega
        have hcell2 : wr.drew.cell? ⟨g, pre.length, none⟩ = some (.string x) := HCE.out
        have hfro2 : wr.drew.frozen? ⟨g, pre.length, none⟩ = false := HFR.out
        try simp only [Act.put]
        refine region_tailC (fun w' => w' = wr.drew) 17 (by kernel_rfl) (by kernel_rfl) rfl ?_
        simp only [List.take_succ_cons, List.take_zero, List.drop_succ_cons, List.drop_zero]
        repeat (first
          | (refine quiet_take (v := ?_) _ rfl (by kernel_rfl) ?_ ?_; rotate_left 1; (focus (first | (intro w' hw'; clear hw'; unfold Oper.quietAt; go_simp; done) | (intro w' hw'; clear hw'; unfold Oper.quietAt; go_simp; with_reducible rfl) | (intro w' hw'; subst hw'; unfold Oper.quietAt; go_simp; first | done | with_reducible rfl))); try simp only [List.setIfInBounds_toArray, List.set_cons_zero, List.set_cons_succ]))
        refine wpQuiet_nil ?_
        rintro w' rfl
        clear ix h47 wr1 wr2 wr3 wr4 wr5 wr6 wr7
        go_wp2_with fail
        have hst := World.ownsRow.stored HW.out pre.length (.string (x ++ s.extract k (k + 1)))
        go_roundw
        case rel =>
          refine parts_rel (k := k + 1) (pcs := pre ++ [x ++ s.extract k (k + 1)]) (by omega) (by go_num) ?_ ?_ ?_
          · unfold OwS
            rw [List.length_append]
            have := hst.1
            rw [List.map_append, List.set_append_right _ _ (by simp)] at this
            have h2 : (wr.setCell ⟨g, pre.length, none⟩ (.string (x ++ s.extract k (k + 1)))).ownsRow w.heap.size 9 1 (.slice (some ⟨g, 0, none⟩) (pre.length + 1) cap) (pre.length + [x ++ s.extract k (k + 1)].length) ((pre ++ [x ++ s.extract k (k + 1)]).map Value.string) := by simpa using this
            exact h2
          · rw [HT.out, partsOf_snoc, ← HD.out, datas_step _ _ _ HC.out, ← HAD.out]; simp [datas]
          · exact (HB.out.setCell (by have := (HO.out.own g rfl).1; exact this) _).drew
        case measure => simp [intOf]; omega
    · have hlt' : ¬ (k : Int) < s.size := by omega
      obtain rfl : k = s.size := by omega
      go_wp2_with fail
      go_ret
      exact ⟨_, _, rfl, HO.out, by rw [HD.out, List.take_of_length_le (by simp)], HB.out⟩
end Go.Proofs.YtoompcgdhokdlaaDoor

set_option linter.unusedSimpArgs false
set_option linter.unusedVariables false
namespace Go.Proofs.YtoompcgdhokdlaaDoor
open Go.RowKit

theorem OwS.strs {w : World} {base : Nat} {v : Value} {pcs : List ByteArray} (h : OwS w base v pcs) (hp : 0 < pcs.length) : StrsV w v (datas pcs) := by
  obtain ⟨g, cap, rfl, hb, hlt, hc⟩ := h.nn hp
  refine ⟨some ⟨g, 0, none⟩, cap, by simp [datas], by simpa [datas] using hc, fun _ => ⟨g, 0, rfl, hlt, fun j hj => ?_⟩⟩
  have hj' : j < pcs.length := by simpa [datas] using hj
  exact ⟨pcs[j], by rw [Nat.zero_add]; exact h.cell j hj', by simp [datas]⟩
theorem datas_len (pcs : List ByteArray) : (datas pcs).length = pcs.length := by simp [datas]
theorem datas_take (pcs : List ByteArray) (k : Nat) (h : k < pcs.length) : (datas pcs).take (k + 1) = (datas pcs).take k ++ [pcs[k].data.toList] := by
  rw [List.take_succ_eq_append_getElem (by rw [datas_len]; exact h)]; simp [datas]
theorem datas_mem (pcs : List ByteArray) (k : Nat) (h : k < pcs.length) : pcs[k].data.toList ∈ datas pcs := List.mem_map_of_mem (List.getElem_mem h)
theorem piece_size {s : ByteArray} {pcs : List ByteArray} (hd : datas pcs = partsOf s.data.toList) (hs : s.size < 4294967281) (k : Nat) (h : k < pcs.length) : pcs[k].size < 4294967281 := by
  have h1 := datas_mem pcs k h
  rw [hd] at h1
  have h2 := part_le h1
  simp at h2
  omega
theorem pcs_len {s : ByteArray} {pcs : List ByteArray} (hd : datas pcs = partsOf s.data.toList) (hs : s.size < 4294967281) : 0 < pcs.length ∧ pcs.length ≤ 4294967281 := by
  have h1 := partsOf_pos s.data.toList
  have h2 := (partsOf_sum s.data.toList).2
  rw [← hd, datas_len] at h1 h2
  simp at h2
  omega
set_option maxRecDepth 100000 in
set_option maxHeartbeats 1000000 in
theorem rkind_any (s : ByteArray) (w : World) (hs : s.size < 4294967281) :
    Calls Tryd.prog 42 #[.string s] w fun e w' => e = .returned (.int .i64 (kindB s.data.toList)) ∧ Below w.heap.size w w' := by
  have hlen : s.data.toList.length = s.size := by simp
  have HK := bx (kindB_ref s.data.toList)
  rw [hlen] at HK
  generalize kindB s.data.toList = K at *
  by_cases h64 : 64 < s.size
  · obtain rfl : K = 0 := by rw [HK.out, if_pos h64]
    have h64' : (64 : Int) < s.size := by omega
    clear hlen
    go_enter Tryd.func42, Tryd.ntmps42
    go_wp2_with fail
    go_ret
    exact ⟨rfl, Below.refl _ _⟩
  · have h64' : ¬ (64 : Int) < s.size := by omega
    have HK2 : Bx (K = if (partsOf s.data.toList).all goodB = false then 0 else if (decide (1 < (partsOf s.data.toList).length) && (partsOf s.data.toList).getD 0 [] == headsL) = true then 1 else if (decide (1 < (partsOf s.data.toList).length) && (partsOf s.data.toList).getD 0 [] == tagsL) = true then 2 else 0) := ⟨by rw [HK.out, if_neg h64]⟩
    clear hlen HK h64
    go_enter Tryd.func42, Tryd.ntmps42
    go_wp2_with fail
    refine (parts_any s w hs).mono ?_
    rintro e w1 ⟨v, pcs, rfl, ho, hd, hb⟩
    obtain ⟨hl1, hl2⟩ := pcs_len hd hs
    obtain ⟨g, cap, rfl, hg1, hg2, hcap⟩ := ho.nn hl1
    have HS := bx (piece_size hd hs)
    have HO := bx ho; have HB := bx hb
    rw [← hd] at HK2
    have HC := bx ho.cell
    have HRG : Bx (∀ (k : Nat) (h : k < pcs.length), Calls Tryd.prog 63 #[.string pcs[k]] w1 fun e w' => e = .returned (.bool (goodB pcs[k].data.toList)) ∧ w1 = w') := ⟨fun k h => rgood_any pcs[k] w1 (HS.out k h)⟩
    clear hd ho hb hg1 hg2 hcap HS
    go_wp2_with fail
    go_loop [4] (fun i => ∃ k : Nat, k ≤ pcs.length ∧ i = .int .i64 k ∧ ((datas pcs).take k).all goodB = true) (fun i => pcs.length - (intOf i).toNat)
    case atStart => exact ⟨0, Nat.zero_le _, rfl, rfl⟩
    case round =>
      obtain ⟨k, hk, rfl, hall⟩ := hrel
      have HA := bx hall
      clear hall
      by_cases hlt : k < pcs.length
      · have hlt' : (k : Int) < pcs.length := by omega
        have hcell : w1.cell? ⟨g, k, none⟩ = some (.string pcs[k]) := HC.out k hlt
        have HRK := bx (HRG.out k hlt)
        have HT := bx (datas_take pcs k hlt)
        have HM := bx (datas_mem pcs k hlt)
        have hk63 : (k : Int) + 1 ≤ 4294967282 := by omega
        cases hgd : goodB pcs[k].data.toList with
        | true =>
          rw [hgd] at HRK
          have HGD := bx hgd
          clear hgd
          go_wp2_with fail
          refine HRK.out.mono ?_
          rintro e w' ⟨rfl, rfl⟩
          go_wp2_with fail
          go_round
          case rel => exact ⟨k + 1, by omega, by go_num, by rw [HT.out, List.all_append, HA.out]; simp [HGD.out]⟩
          case measure => simp [intOf]; omega
        | false =>
          rw [hgd] at HRK
          have HF : Bx (K = 0) := ⟨by
            rw [HK2.out, if_pos]
            rw [Bool.eq_false_iff]
            intro h
            have := List.all_eq_true.1 h _ HM.out
            rw [hgd] at this; cases this⟩
          clear hgd
          go_wp2_with fail
          refine HRK.out.mono ?_
          rintro e w' ⟨rfl, rfl⟩
          go_wp2_with fail
          go_ret
          rw [HF.out]
          exact ⟨rfl, HB.out⟩
      · have hlt' : ¬ (k : Int) < pcs.length := by omega
        obtain rfl : k = pcs.length := by omega
        have HA2 : Bx ((datas pcs).all goodB = true) := ⟨by have := HA.out; rwa [List.take_of_length_le (by rw [datas_len]; exact Nat.le_refl _)] at this⟩
        have hcell : w1.cell? ⟨g, 0, none⟩ = some (.string pcs[0]) := HC.out 0 hl1
        have hq : (datas pcs).getD 0 [] = pcs[0].toList := by rw [ByteArray.toList_eq]; simp [datas, List.getD_eq_getElem?_getD, List.getElem?_eq_getElem hl1]
        have HK3 : Bx (K = if (decide (1 < pcs.length) && (pcs[0].toList == [104, 101, 97, 100, 115])) = true then 1 else if (decide (1 < pcs.length) && (pcs[0].toList == [116, 97, 103, 115])) = true then 2 else 0) := ⟨by rw [HK2.out, HA2.out, if_neg (by decide), datas_len, hq]; rfl⟩
        clear hq HK2
        by_cases h1 : 1 < pcs.length
        · have h1' : (1 : Int) < pcs.length := by omega
          have HK4 : Bx (K = if (pcs[0].toList == [104, 101, 97, 100, 115]) = true then 1 else if (pcs[0].toList == [116, 97, 103, 115]) = true then 2 else 0) := ⟨by rw [HK3.out, decide_eq_true h1]; rfl⟩
          clear HK3
          cases hh : (pcs[0].toList == [104, 101, 97, 100, 115]) with
          | true =>
            have HF : Bx (K = 1) := ⟨by rw [HK4.out, hh]; rfl⟩
            go_wp2_with fail
            go_ret
            rw [HF.out]
            exact ⟨rfl, HB.out⟩
          | false =>
            cases ht : (pcs[0].toList == [116, 97, 103, 115]) with
            | true =>
              have HF : Bx (K = 2) := ⟨by rw [HK4.out, hh, ht]; rfl⟩
              go_wp2_with fail
              go_ret
              rw [HF.out]
              exact ⟨rfl, HB.out⟩
            | false =>
              have HF : Bx (K = 0) := ⟨by rw [HK4.out, hh, ht]; rfl⟩
              go_wp2_with fail
              go_ret
              rw [HF.out]
              exact ⟨rfl, HB.out⟩
        · have h1' : ¬ (1 : Int) < pcs.length := by omega
          have HF : Bx (K = 0) := ⟨by rw [HK3.out, decide_eq_false h1]; rfl⟩
          go_wp2_with fail
          go_ret
          rw [HF.out]
          exact ⟨rfl, HB.out⟩
end Go.Proofs.YtoompcgdhokdlaaDoor

set_option linter.unusedSimpArgs false
set_option linter.unusedVariables false
namespace Go.Proofs.YtoompcgdhokdlaaDoor
open Go.RowKit

theorem pathB_ab : pathB [97, 47, 98] = true := by decide
theorem parts_ab : partsOf [97, 47, 98] = [[97], [98]] := by decide
theorem kind_main : kindB [104, 101, 97, 100, 115, 47, 109, 97, 105, 110] = 1 := by decide
theorem kind_tag : kindB [116, 97, 103, 115, 47, 49, 46, 48] = 2 := by decide
theorem kind_bad : kindB [104, 101, 97, 100, 115, 47, 97, 46, 46, 98] = 0 := by decide
/-! ### The order -/
theorem less_iff (x y : List UInt8) : Op.bytesLess x y = decide (x < y) := bytesLess_eq x y
theorem less_irrefl (x : List UInt8) : Op.bytesLess x x = false := by
  induction x with
  | nil => rfl
  | cons a x ih => simp [Op.bytesLess, ih]
theorem less_asymm : ∀ (x y : List UInt8), Op.bytesLess x y = true → Op.bytesLess y x = false
  | x, [], h => by cases x <;> simp [Op.bytesLess] at h
  | [], y :: ys, _ => rfl
  | a :: x, b :: y, h => by
    simp only [Op.bytesLess, Bool.or_eq_true, decide_eq_true_eq, Bool.and_eq_true, beq_iff_eq, Bool.or_eq_false_iff, decide_eq_false_iff_not, Bool.and_eq_false_iff, beq_eq_false_iff_ne] at h ⊢
    rcases h with h | ⟨rfl, h⟩
    · exact ⟨UInt8.not_lt.2 (UInt8.le_of_lt h), .inl fun e => by subst e; exact absurd h (UInt8.lt_irrefl _)⟩
    · exact ⟨UInt8.lt_irrefl _, .inr (less_asymm x y h)⟩
theorem less_total : ∀ (x y : List UInt8), Op.bytesLess x y = false → Op.bytesLess y x = false → x = y
  | [], [], _, _ => rfl
  | [], y :: ys, h, _ => by simp [Op.bytesLess] at h
  | x :: xs, [], _, h => by simp [Op.bytesLess] at h
  | a :: x, b :: y, h, h' => by
    simp only [Op.bytesLess, Bool.or_eq_false_iff, decide_eq_false_iff_not, Bool.and_eq_false_iff, beq_eq_false_iff_ne] at h h'
    have e : a = b := UInt8.le_antisymm (UInt8.not_lt.1 h'.1) (UInt8.not_lt.1 h.1)
    subst e
    rw [less_total x y (h.2.resolve_left fun e => e rfl) (h'.2.resolve_left fun e => e rfl)]
theorem less_trans : ∀ (x y z : List UInt8), Op.bytesLess x y = true → Op.bytesLess y z = true → Op.bytesLess x z = true
  | x, [], z, h, _ => by cases x <;> simp [Op.bytesLess] at h
  | x, y :: ys, [], _, h => by simp [Op.bytesLess] at h
  | [], y :: ys, z :: zs, _, _ => rfl
  | a :: x, b :: y, c :: z, h, h' => by
    simp only [Op.bytesLess, Bool.or_eq_true, decide_eq_true_eq, Bool.and_eq_true, beq_iff_eq] at h h' ⊢
    rcases h with h | ⟨rfl, h⟩
    · rcases h' with h' | ⟨rfl, h'⟩
      · exact .inl (UInt8.lt_trans h h')
      · exact .inl h
    · rcases h' with h' | ⟨rfl, h'⟩
      · exact .inl h'
      · exact .inr ⟨rfl, less_trans x y z h h'⟩
theorem less_pre : ∀ (m x y : List UInt8), Op.bytesLess (m ++ x) (m ++ y) = Op.bytesLess x y
  | [], _, _ => rfl
  | a :: m, x, y => by simp [Op.bytesLess, less_pre m x y]
theorem less_more : ∀ (x m : List UInt8), Op.bytesLess x (x ++ m) = !m.isEmpty
  | [], m => by cases m <;> rfl
  | a :: x, m => by simp [Op.bytesLess, less_more x m]
end Go.Proofs.YtoompcgdhokdlaaDoor

set_option linter.unusedSimpArgs false
set_option linter.unusedVariables false
namespace Go.Proofs.YtoompcgdhokdlaaDoor
open Go.RowKit

theorem str_eq {a b : ByteArray} (h : a.data.toList = b.data.toList) : a = b := ByteArray.ext (Array.toList_inj.1 h)
end Go.Proofs.YtoompcgdhokdlaaDoor
