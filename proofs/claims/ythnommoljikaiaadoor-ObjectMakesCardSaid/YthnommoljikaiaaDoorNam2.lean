/- The walks over the program's names: letter, good, Part. -/
import Derived.Test.YthnommoljikaiaaDoorShelf
import Derived.Test.YthnommoljikaiaaDoorNam1
import Derived.Test.YthnommoljikaiaaDoorBuf1
import Derived.Laws.RangeString
import Derived.Laws.Runes
set_option linter.unusedSimpArgs false
set_option linter.unusedVariables false
namespace Go.Proofs.YthnommoljikaiaaDoor
open Go.RowKit

/-- The library's variable holds a number. -/
def MaxAt (w : World) : Prop := ∃ m : Int, w.cell? ⟨0, 0, none⟩ = some (.int .i64 m)
theorem cell_lt {w : World} {b j : Nat} {v : Value} (h : w.cell? ⟨b, j, none⟩ = some v) : b < w.heap.size := by
  rcases Nat.lt_or_ge b w.heap.size with hb | hb
  · exact hb
  · simp [World.cell?, Array.getElem?_eq_none hb] at h
theorem MaxAt.below {w w' : World} (h : MaxAt w) (hb : Below w.heap.size w w') : MaxAt w' := by
  obtain ⟨m, hm⟩ := h
  exact ⟨m, (hb.cell (p := ⟨0, 0, none⟩) (cell_lt hm)).trans hm⟩
theorem contains_any (s sub : ByteArray) (w : World) (hM : MaxAt w) (hs : s.size < 4294967281) :
    Calls Tryd.prog 49 #[.string s, .string sub] w fun e w' => e = .returned (.bool (Lib.contains s.data.toList sub.data.toList)) ∧ w = w' := by
  obtain ⟨m, hm⟩ := hM
  exact (Tryd.strings_Contains s sub m w hs hm).mono fun e w' ⟨h1, h2⟩ => ⟨h1, h2.symm⟩
theorem suffix_any (s p : ByteArray) (w : World) (hs : s.size < 4294967281) :
    Calls Tryd.prog 72 #[.string s, .string p] w fun e w' => e = .returned (.bool (Lib.hasSuffix s.data.toList p.data.toList)) ∧ w = w' :=
  (Tryd.strings_HasSuffix s p w (by omega)).mono fun e w' ⟨h1, h2⟩ => ⟨h1, h2.symm⟩
theorem prefix_any (s p : ByteArray) (w : World) :
    Calls Tryd.prog 47 #[.string s, .string p] w fun e w' => e = .returned (.bool (Lib.hasPrefix s.data.toList p.data.toList)) ∧ w = w' :=
  (Tryd.strings_HasPrefix s p w).mono fun e w' ⟨h1, h2⟩ => ⟨h1, h2.symm⟩

theorem letter_three (c : Int) (h0 : 0 ≤ c) (h1 : c < 128) : Lib.contains [45, 95, 46] [UInt8.ofNat c.toNat] = (c == 45 || (c == 95 || c == 46)) := by
  rw [contains_one]
  obtain ⟨n, rfl⟩ := Int.eq_ofNat_of_zero_le h0
  have hn : n < 256 := by omega
  rw [Bool.eq_iff_iff]
  simp only [List.mem_cons, List.not_mem_nil, or_false, decide_eq_true_eq, Bool.or_eq_true, beq_iff_eq, Int.toNat_natCast]
  constructor
  · rintro (h | h | h) <;> (have := congrArg UInt8.toNat h; simp at this; omega)
  · rintro (h | h | h)
    · left; have : n = 45 := by omega
      subst this; rfl
    · right; left; have : n = 95 := by omega
      subst this; rfl
    · right; right; have : n = 46 := by omega
      subst this; rfl
set_option maxRecDepth 100000 in
set_option maxHeartbeats 400000 in
theorem letter_any (c : Int) (w : World) (hM : MaxAt w) (h0 : 0 ≤ c) (hc : c < 4294967296) :
    Calls Tryd.prog 73 #[.int .i32 c] w fun e w' => e = .returned (.bool (letterZ c)) ∧ Below w.heap.size w w' := by
  have HM := bx hM
  clear hM
  by_cases hl : (97 ≤ c ∧ c ≤ 122) ∨ (65 ≤ c ∧ c ≤ 90) ∨ (48 ≤ c ∧ c ≤ 57)
  · have HL : Bx (letterZ c = true) := ⟨by simp [letterZ]; omega⟩
    have hl' : (97 ≤ c ∧ c ≤ 122) ∨ (¬ (97 ≤ c) ∧ 65 ≤ c ∧ c ≤ 90) ∨ (¬ 97 ≤ c ∧ ¬ 65 ≤ c ∧ 48 ≤ c ∧ c ≤ 57) := by omega
    clear hl
    rcases hl' with ⟨a, b⟩ | ⟨a, b, d⟩ | ⟨a, b, d, e⟩
    all_goals
      go_enter Tryd.func73, Tryd.ntmps73
      go_wp2_with fail
      go_ret
      rw [HL.out]
      exact ⟨rfl, Below.refl _ _⟩
  · have q1 : (decide (97 ≤ c) && decide (c ≤ 122)) = false := by simp; omega
    have q2 : (decide (65 ≤ c) && decide (c ≤ 90)) = false := by simp; omega
    have q3 : (decide (48 ≤ c) && decide (c ≤ 57)) = false := by simp; omega
    have HL : Bx (letterZ c = (c == 45 || (c == 95 || c == 46))) := ⟨by unfold letterZ; rw [q1, q2, q3]; rfl⟩
    by_cases h128 : c < 128
    · have hwr : IntKind.u8.wrap c = c := by show c % 256 = c; omega
      have cv : ∀ w', w'.cell? ⟨w.heap.size, 0, none⟩ = some (.int .u8 c) → (convert 41 9 (.slice (some ⟨w.heap.size, 0, none⟩) 1 1)).run Tryd.prog w' = .ok (.string ⟨#[UInt8.ofNat c.toNat]⟩) w' := fun w' hc => by
        have hj : ∀ j, j < 1 → w'.cell? ⟨w.heap.size, 0 + j, none⟩ = some (.int .u8 (([c] : List Int).getD j 0)) := fun j hj => by
          obtain rfl : j = 0 := by omega
          exact hc
        have := run_convert_bytes_arg (P := Tryd.prog) w' 41 5 Tryd.underlying41 Tryd.underlying5 w.heap.size 0 1 1 [c] rfl hj 9 Tryd.underlying9
        rw [this]; rfl
      have HC := bx (contains_any ⟨#[45, 95, 46]⟩ ⟨#[UInt8.ofNat c.toNat]⟩)
      have HT := bx (letter_three c h0 h128)
      have ways : (97 ≤ c ∧ ¬ c ≤ 122) ∨ (¬ 97 ≤ c ∧ 65 ≤ c ∧ ¬ c ≤ 90) ∨ (¬ 97 ≤ c ∧ ¬ 65 ≤ c ∧ 48 ≤ c ∧ ¬ c ≤ 57) ∨ (¬ 97 ≤ c ∧ ¬ 65 ≤ c ∧ ¬ 48 ≤ c) := by omega
      clear hl q1 q2 q3
      rcases ways with ⟨a, b⟩ | ⟨a, b, d⟩ | ⟨a, b, d, e⟩ | ⟨a, b, d⟩
      all_goals
        go_enter Tryd.func73, Tryd.ntmps73
        go_wp2_with fail
        refine (HC.out _ (HM.out.below ((Below.refl _ _).alloc (Nat.le_refl _) _)) (by decide)).mono ?_
        rintro e w' ⟨rfl, rfl⟩
        go_wp2_with fail
        go_ret
        rw [HL.out, ← HT.out]
        exact ⟨rfl, (Below.refl _ _).alloc (Nat.le_refl _) _⟩
    · have HF : Bx (letterZ c = false) := ⟨by rw [HL.out]; simp; omega⟩
      have ways : (97 ≤ c ∧ ¬ c ≤ 122) := by omega
      obtain ⟨a, b⟩ := ways
      clear hl q1 q2 q3
      go_enter Tryd.func73, Tryd.ntmps73
      go_wp2_with fail
      go_ret
      rw [HF.out]
      exact ⟨rfl, Below.refl _ _⟩
end Go.Proofs.YthnommoljikaiaaDoor
