/- The walks over the document's names: letter, good, Part. -/
import Derived.Test.YthnommoljikaiaaDoorNam6
set_option linter.unusedSimpArgs false
set_option linter.unusedVariables false
namespace Go.Proofs.YthnommoljikaiaaDoor
open Go.RowKit

set_option maxRecDepth 100000 in
set_option maxHeartbeats 400000 in
theorem rletter_any (c : Int) (w : World) (h0 : 0 ≤ c) (h1 : c < 256) :
    Calls Tryd.prog 75 #[.int .u8 c] w fun e w' => e = .returned (.bool (letterZ c)) ∧ w = w' := by
  by_cases hl : (97 ≤ c ∧ c ≤ 122) ∨ (65 ≤ c ∧ c ≤ 90) ∨ (48 ≤ c ∧ c ≤ 57)
  · have HL : Bx (letterZ c = true) := ⟨by simp [letterZ]; omega⟩
    have hl' : (97 ≤ c ∧ c ≤ 122) ∨ (¬ (97 ≤ c) ∧ 65 ≤ c ∧ c ≤ 90) ∨ (¬ 97 ≤ c ∧ ¬ 65 ≤ c ∧ 48 ≤ c ∧ c ≤ 57) := by omega
    clear hl
    rcases hl' with ⟨a, b⟩ | ⟨a, b, d⟩ | ⟨a, b, d, e⟩
    all_goals
      go_enter Tryd.func75, Tryd.ntmps75
      go_wp2_with fail
      go_ret
      rw [HL.out]
      exact ⟨rfl, rfl⟩
  · have q1 : (decide (97 ≤ c) && decide (c ≤ 122)) = false := by simp; omega
    have q2 : (decide (65 ≤ c) && decide (c ≤ 90)) = false := by simp; omega
    have q3 : (decide (48 ≤ c) && decide (c ≤ 57)) = false := by simp; omega
    have HL : Bx (letterZ c = (c == 45 || (c == 95 || c == 46))) := ⟨by unfold letterZ; rw [q1, q2, q3]; rfl⟩
    have ways : (97 ≤ c ∧ ¬ c ≤ 122 ∧ ¬ c ≤ 90 ∧ ¬ c ≤ 57) ∨ (¬ 97 ≤ c ∧ 65 ≤ c ∧ ¬ c ≤ 90 ∧ ¬ c ≤ 57) ∨ (¬ 97 ≤ c ∧ ¬ 65 ≤ c ∧ 48 ≤ c ∧ ¬ c ≤ 57) ∨ (¬ 97 ≤ c ∧ ¬ 65 ≤ c ∧ ¬ 48 ≤ c) := by omega
    clear hl q1 q2 q3
    have vals : (c == 45) = true ∨ ((c == 45) = false ∧ (c == 95) = true) ∨ ((c == 45) = false ∧ (c == 95) = false) := by cases (c == 45) <;> cases (c == 95) <;> simp
    rcases vals with e1 | ⟨e1, e2⟩ | ⟨e1, e2⟩
    · have HL2 : Bx (letterZ c = true) := ⟨by rw [HL.out, e1]; rfl⟩
      rcases ways with ⟨a, b, b1, b2⟩ | ⟨a, b, d, d1⟩ | ⟨a, b, d, e⟩ | ⟨a, b, d⟩
      all_goals
        go_enter Tryd.func75, Tryd.ntmps75
        go_wp2_with fail
        go_ret
        rw [HL2.out]
        exact ⟨rfl, rfl⟩
    · have HL2 : Bx (letterZ c = true) := ⟨by rw [HL.out, e1, e2]; rfl⟩
      rcases ways with ⟨a, b, b1, b2⟩ | ⟨a, b, d, d1⟩ | ⟨a, b, d, e⟩ | ⟨a, b, d⟩
      all_goals
        go_enter Tryd.func75, Tryd.ntmps75
        go_wp2_with fail
        go_ret
        rw [HL2.out]
        exact ⟨rfl, rfl⟩
    · have HL2 : Bx (letterZ c = (c == 46)) := ⟨by rw [HL.out, e1, e2]; rfl⟩
      rcases ways with ⟨a, b, b1, b2⟩ | ⟨a, b, d, d1⟩ | ⟨a, b, d, e⟩ | ⟨a, b, d⟩
      all_goals
        go_enter Tryd.func75, Tryd.ntmps75
        go_wp2_with fail
        go_ret
        rw [HL2.out]
        exact ⟨rfl, rfl⟩
/-- No slash and no zero up to k. -/
def slashB (l : List UInt8) (k : Nat) : Bool := (l.take k).all fun c => !(c == 47) && !(c == 0)
theorem slash_all (l : List UInt8) : (l.all fun c => !(c == 47) && !(c == 0)) = (!decide (47 ∈ l) && !decide (0 ∈ l)) := by
  rw [Bool.eq_iff_iff]
  simp only [List.all_eq_true, Bool.and_eq_true, Bool.not_eq_true', beq_eq_false_iff_ne, decide_eq_false_iff_not]
  constructor
  · intro h
    exact ⟨fun m => (h 47 m).1 rfl, fun m => (h 0 m).2 rfl⟩
  · rintro ⟨h1, h2⟩ c hc
    exact ⟨fun e => h1 (e ▸ hc), fun e => h2 (e ▸ hc)⟩
set_option maxRecDepth 100000 in
set_option maxHeartbeats 400000 in
theorem rpart_any (s : ByteArray) (w : World) :
    Calls Tryd.prog 16 #[.string s] w fun e w' => e = .returned (.bool (partB s.data.toList)) ∧ w = w' := by
  have hlen : s.data.toList.length = s.size := by simp
  have HE := bx (ByteArray.toList_eq s)
  have q1 : s.toList.isEmpty = s.data.toList.isEmpty := by rw [HE.out]
  have q2 : (s.toList == [46]) = (s.data.toList == [46]) := by rw [HE.out]
  have q3 : (s.toList == [46, 46]) = (s.data.toList == [46, 46]) := by rw [HE.out]
  have HP : Bx (partB s.data.toList = (!s.data.toList.isEmpty && (!(s.data.toList == [46]) && (!(s.data.toList == [46, 46]) && (decide (s.size ≤ 64) && (s.data.toList.all fun c => !(c == 47) && !(c == 0))))))) := ⟨by rw [slash_all, ← hlen]; rfl⟩
  cases h1 : s.data.toList.isEmpty with
  | true =>
    rw [h1] at q1
    have HF : Bx (partB s.data.toList = false) := ⟨by rw [HP.out, h1]; rfl⟩
    clear q2 q3 h1 hlen
    go_enter Tryd.func16, Tryd.ntmps16
    go_wp2_with fail
    go_ret
    rw [HF.out]
    exact ⟨rfl, rfl⟩
  | false =>
    rw [h1] at q1
    cases h2 : s.data.toList == [46] with
    | true =>
      rw [h2] at q2
      have HF : Bx (partB s.data.toList = false) := ⟨by rw [HP.out, h1, h2]; rfl⟩
      clear q3 h1 h2 hlen
      go_enter Tryd.func16, Tryd.ntmps16
      go_wp2_with fail
      go_ret
      rw [HF.out]
      exact ⟨rfl, rfl⟩
    | false =>
      rw [h2] at q2
      cases h3 : s.data.toList == [46, 46] with
      | true =>
        rw [h3] at q3
        have HF : Bx (partB s.data.toList = false) := ⟨by rw [HP.out, h1, h2, h3]; rfl⟩
        clear h1 h2 h3 hlen
        go_enter Tryd.func16, Tryd.ntmps16
        go_wp2_with fail
        go_ret
        rw [HF.out]
        exact ⟨rfl, rfl⟩
      | false =>
        rw [h3] at q3
        by_cases h4 : 64 < s.size
        · have h4' : (64 : Int) < s.size := by omega
          have HF : Bx (partB s.data.toList = false) := ⟨by rw [HP.out, h1, h2, h3, decide_eq_false (by omega)]; rfl⟩
          clear h1 h2 h3 hlen
          go_enter Tryd.func16, Tryd.ntmps16
          go_wp2_with fail
          go_ret
          rw [HF.out]
          exact ⟨rfl, rfl⟩
        · have h4' : ¬ (64 : Int) < s.size := by omega
          have HF : Bx (partB s.data.toList = s.data.toList.all fun c => !(c == 47) && !(c == 0)) := ⟨by rw [HP.out, h1, h2, h3, decide_eq_true (by omega)]; rfl⟩
          clear h1 h2 h3 hlen
          go_enter Tryd.func16, Tryd.ntmps16
          go_wp2_with fail
          clear q1 q2 q3
          go_loop [3] (fun i => ∃ k : Nat, k ≤ s.size ∧ i = .int .i64 k ∧ slashB s.data.toList k = true) (fun i => s.size - (intOf i).toNat)
          case atStart => exact ⟨0, Nat.zero_le _, rfl, rfl⟩
          case round =>
            obtain ⟨k, hk, rfl, hall⟩ := hrel
            have HA := bx hall
            clear hall
            by_cases hlt : k < s.size
            · have hlt' : (k : Int) < s.size := by omega
              have HT := bx (take_data s k hlt)
              have HIN : Bx (s[k] ∈ s.data.toList) := ⟨by rw [← getD_data s k hlt, List.getD_eq_getElem?_getD, List.getElem?_eq_getElem (by simpa using hlt)]; exact List.getElem_mem _⟩
              have ix : (Instr.index 9 (.string s) (.int .i64 k)).run Tryd.prog w = .ok (.int .u8 s[k].toNat) w := by go_simp
              have HX := bx ix
              clear ix
              obtain ⟨c, hc⟩ : ∃ c : Int, c = s[k].toNat := ⟨_, rfl⟩
              rw [← hc] at HX
              have ways : ((c == 47) = true ∨ ((c == 47) = false ∧ (c == 0) = true)) ∨ ((c == 47) = false ∧ (c == 0) = false) := by cases (c == 47) <;> cases (c == 0) <;> simp
              rcases ways with hw | ⟨e1, e2⟩
              · have HF2 : Bx (partB s.data.toList = false) := ⟨by
                  rw [HF.out, Bool.eq_false_iff]
                  intro h
                  have := List.all_eq_true.1 h s[k] HIN.out
                  simp only [Bool.and_eq_true, Bool.not_eq_true', beq_eq_false_iff_ne] at this
                  rcases hw with hw | ⟨_, hw⟩
                  · rw [beq_iff_eq, hc] at hw
                    exact this.1 (UInt8.toNat_inj.1 (by rw [show (47 : UInt8).toNat = 47 from rfl]; omega))
                  · rw [beq_iff_eq, hc] at hw
                    exact this.2 (UInt8.toNat_inj.1 (by rw [show (0 : UInt8).toNat = 0 from rfl]; omega))⟩
                clear hc
                have ix := HX.out
                rcases hw with e1 | ⟨e1, e2⟩
                all_goals
                  go_wp2_with fail
                  go_ret
                  rw [HF2.out]
                  exact ⟨rfl, rfl⟩
              · have HC : Bx ((!(s[k] == 47) && !(s[k] == 0)) = true) := ⟨by
                  simp only [Bool.and_eq_true, Bool.not_eq_true', beq_eq_false_iff_ne] at e1 e2 ⊢
                  exact ⟨fun h => e1 (by rw [hc, h]; rfl), fun h => e2 (by rw [hc, h]; rfl)⟩⟩
                clear hc
                have ix := HX.out
                have hk63 : (k : Int) + 1 ≤ 9223372036854775807 := by omega
                go_wp2_with fail
                go_round
                case rel => exact ⟨k + 1, by omega, by go_num, by unfold slashB at *; rw [HT.out, List.all_append, HA.out]; simpa using HC.out⟩
                case measure => simp [intOf]; omega
            · have hlt' : ¬ (k : Int) < s.size := by omega
              obtain rfl : k = s.size := by omega
              have HF2 : Bx (partB s.data.toList = true) := ⟨by rw [HF.out]; have := HA.out; unfold slashB at this; rwa [List.take_of_length_le (by simp)] at this⟩
              go_wp2_with fail
              go_ret
              rw [HF2.out]
              exact ⟨rfl, rfl⟩
end Go.Proofs.YthnommoljikaiaaDoor
