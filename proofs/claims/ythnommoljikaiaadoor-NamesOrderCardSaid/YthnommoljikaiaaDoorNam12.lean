/- The walks over the laws NamesLess, NamesOrder and NamesTell. -/
import Derived.Test.YthnommoljikaiaaDoorNam11
set_option linter.unusedSimpArgs false
set_option linter.unusedVariables false
namespace Go.Proofs.YthnommoljikaiaaDoor
open Go.RowKit

theorem str_eq {a b : ByteArray} (h : a.data.toList = b.data.toList) : a = b := ByteArray.ext (Array.toList_inj.1 h)
set_option maxRecDepth 100000 in
set_option maxHeartbeats 2000000 in
theorem lessLaw_any (a b c : ByteArray) (w : World) (hM : MaxAt w) (ha : a.size ≤ 140737488355328) (hb : b.size ≤ 140737488355328) :
    Calls Tryd.prog 5 #[.string a, .string b, .string c] w fun e w' => e = .returned (.bool true) ∧ Below w.heap.size w w' := by
  have HM := bx hM
  clear hM
  by_cases h1 : 4000 < a.size + b.size
  · have h1' : (4000 : Int) < a.size + b.size := by omega
    go_enter Tryd.func5, Tryd.ntmps5
    go_wp2_with fail
    go_ret
    exact ⟨rfl, Below.refl _ _⟩
  · have h1' : ¬ (4000 : Int) < a.size + b.size := by omega
    by_cases h2 : 4000 < c.size
    · have h2' : (4000 : Int) < c.size := by omega
      go_enter Tryd.func5, Tryd.ntmps5
      go_wp2_with fail
      go_ret
      exact ⟨rfl, Below.refl _ _⟩
    · have h2' : ¬ (4000 : Int) < c.size := by omega
      have HAB := bx (fun w => less_any a b w)
      have HBA := bx (fun w => less_any b a w)
      have HBC := bx (fun w => less_any b c w)
      have HAC := bx (fun w => less_any a c w)
      have HR := bx (fun w => rless_any a b w (by omega) (by omega))
      have HE : Bx (∀ w, Calls Tryd.prog 18 #[.string ⟨#[97]⟩, .string ⟨#[97, 98]⟩] w fun e w' => e = .returned (.bool true) ∧ w = w') := ⟨fun w => less_any ⟨#[97]⟩ ⟨#[97, 98]⟩ w⟩
      have HT := bx (less_trans a.data.toList b.data.toList c.data.toList)
      have HAS := bx (less_asymm a.data.toList b.data.toList)
      have HTO := bx (less_total a.data.toList b.data.toList)
      have HSE := bx (fun h => str_eq (a := a) (b := b) h)
      generalize Op.bytesLess a.data.toList b.data.toList = ab at *
      generalize Op.bytesLess b.data.toList a.data.toList = ba at *
      generalize Op.bytesLess b.data.toList c.data.toList = bc at *
      generalize Op.bytesLess a.data.toList c.data.toList = ac at *
      clear h1 h2
      have ways : (ab = true ∧ ba = false ∧ bc = false) ∨ (ab = true ∧ ba = false ∧ bc = true ∧ ac = true) ∨ (ab = false ∧ ba = true) ∨ (ab = false ∧ ba = false ∧ a = b) := by
        cases ab <;> cases ba <;> cases bc <;> cases ac <;> first
          | exact .inl ⟨rfl, rfl, rfl⟩
          | exact .inr (.inl ⟨rfl, rfl, rfl, rfl⟩)
          | exact .inr (.inr (.inl ⟨rfl, rfl⟩))
          | exact .inr (.inr (.inr ⟨rfl, rfl, HSE.out (HTO.out rfl rfl)⟩))
          | exact absurd (HAS.out rfl) (by decide)
          | exact absurd (HT.out rfl rfl) (by decide)
      clear HT HAS HTO HSE
      rcases ways with ⟨rfl, rfl, rfl⟩ | ⟨rfl, rfl, rfl, rfl⟩ | ⟨rfl, rfl⟩ | ⟨rfl, rfl, rfl⟩
      all_goals
        go_enter Tryd.func5, Tryd.ntmps5
        go_wp2_with fail
        refine (HAB.out _).mono ?_
        rintro e w' ⟨rfl, rfl⟩
        go_wp2_with fail
        refine (HR.out _).mono ?_
        rintro e w1 ⟨rfl, hb⟩
        have HB := bx hb
        clear hb
        go_wp2_with (first
          | ((with_reducible refine (HAB.out _).mono ?_); rintro e w' ⟨rfl, rfl⟩)
          | ((with_reducible refine (HBA.out _).mono ?_); rintro e w' ⟨rfl, rfl⟩)
          | ((with_reducible refine (HBC.out _).mono ?_); rintro e w' ⟨rfl, rfl⟩)
          | ((with_reducible refine (HAC.out _).mono ?_); rintro e w' ⟨rfl, rfl⟩)
          | ((with_reducible refine (HE.out _).mono ?_); rintro e w' ⟨rfl, rfl⟩))
        refine (one09_any _ (HM.out.below HB.out)).mono ?_
        rintro e w2 ⟨rfl, hb⟩
        have HB2 := bx (HB.out.trans (hb.mono HB.out.size))
        clear hb
        go_wp2_with fail
        go_ret
        exact ⟨rfl, HB2.out⟩
set_option maxRecDepth 100000 in
set_option maxHeartbeats 2000000 in
theorem orderLaw_any (a b m : ByteArray) (w : World) (hM : MaxAt w) (ha : a.size ≤ 140737488355328) (hb : b.size ≤ 140737488355328) :
    Calls Tryd.prog 6 #[.string a, .string b, .string m] w fun e w' => e = .returned (.bool true) ∧ Below w.heap.size w w' := by
  have HM := bx hM
  clear hM
  by_cases h1 : 3000 < a.size + b.size
  · have h1' : (3000 : Int) < a.size + b.size := by omega
    go_enter Tryd.func6, Tryd.ntmps6
    go_wp2_with fail
    go_ret
    exact ⟨rfl, Below.refl _ _⟩
  · have h1' : ¬ (3000 : Int) < a.size + b.size := by omega
    by_cases h2 : 1000 < m.size
    · have h2' : (1000 : Int) < m.size := by omega
      go_enter Tryd.func6, Tryd.ntmps6
      go_wp2_with fail
      go_ret
      exact ⟨rfl, Below.refl _ _⟩
    · have h2' : ¬ (1000 : Int) < m.size := by omega
      have s1 : ¬ 9223372036854775807 < m.size + a.size := by omega
      have s2 : ¬ 9223372036854775807 < m.size + b.size := by omega
      have s3 : ¬ 9223372036854775807 < a.size + m.size := by omega
      have HAB := bx (fun w => less_any a b w)
      have HBA := bx (fun w => less_any b a w)
      have HAA := bx (fun w => less_any a a w)
      have HMM := bx (fun w => less_any (m ++ a) (m ++ b) w)
      have HAM := bx (fun w => less_any a (a ++ m) w)
      have e1 : (m ++ a).data.toList = m.data.toList ++ a.data.toList := by rw [ByteArray.data_append, Array.toList_append]
      have e2 : (m ++ b).data.toList = m.data.toList ++ b.data.toList := by rw [ByteArray.data_append, Array.toList_append]
      have e3 : (a ++ m).data.toList = a.data.toList ++ m.data.toList := by rw [ByteArray.data_append, Array.toList_append]
      rw [less_irrefl] at HAA
      rw [e1, e2, less_pre] at HMM
      rw [e3, less_more, ← ByteArray.toList_eq m] at HAM
      have HAS := bx (less_asymm a.data.toList b.data.toList)
      have HTO := bx (less_total a.data.toList b.data.toList)
      have HSE := bx (fun h => str_eq (a := a) (b := b) h)
      have HIR := bx (less_irrefl a.data.toList)
      clear e1 e2 e3
      have HNE : Bx (Op.bytesLess a.data.toList b.data.toList = true ∨ Op.bytesLess b.data.toList a.data.toList = true → (a.toList == b.toList) = false) := ⟨fun h => by
        rw [beq_eq_false_iff_ne, ByteArray.toList_eq, ByteArray.toList_eq]
        intro e
        rw [e, less_irrefl] at h
        simp at h⟩
      generalize Op.bytesLess a.data.toList b.data.toList = ab at *
      generalize Op.bytesLess b.data.toList a.data.toList = ba at *
      clear h1 h2
      have ways : (ab = true ∧ ba = false ∧ (a.toList == b.toList) = false) ∨ (ab = false ∧ ba = true ∧ (a.toList == b.toList) = false) ∨ (ab = false ∧ ba = false ∧ a = b) := by
        cases ab <;> cases ba <;> first
          | exact .inl ⟨rfl, rfl, HNE.out (.inl rfl)⟩
          | exact .inr (.inl ⟨rfl, rfl, HNE.out (.inr rfl)⟩)
          | exact .inr (.inr ⟨rfl, rfl, HSE.out (HTO.out rfl rfl)⟩)
          | exact absurd (HAS.out rfl) (by decide)
      clear HAS HTO HSE HNE HIR
      rcases ways with ⟨rfl, rfl, q⟩ | ⟨rfl, rfl, q⟩ | ⟨rfl, rfl, rfl⟩
      all_goals
        go_enter Tryd.func6, Tryd.ntmps6
        go_wp2_with (first
          | ((with_reducible refine (HAA.out _).mono ?_); rintro e w' ⟨rfl, rfl⟩)
          | ((with_reducible refine (HAB.out _).mono ?_); rintro e w' ⟨rfl, rfl⟩)
          | ((with_reducible refine (HBA.out _).mono ?_); rintro e w' ⟨rfl, rfl⟩)
          | ((with_reducible refine (HMM.out _).mono ?_); rintro e w' ⟨rfl, rfl⟩)
          | ((with_reducible refine (HAM.out _).mono ?_); rintro e w' ⟨rfl, rfl⟩))

        refine (one09_any _ HM.out).mono ?_
        rintro e w2 ⟨rfl, hb⟩
        have HB2 := bx hb
        clear hb
        go_wp2_with fail
        go_ret
        exact ⟨rfl, HB2.out⟩
end Go.Proofs.YthnommoljikaiaaDoor
