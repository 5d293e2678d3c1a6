/- Names, plainly: parts of a text, what may be one, kinds, order. No program in it. The walks over the program's names: letter, good, Part. The walks over the program's names: good, Part. The walks over the program's names: Part, all, Kind, Path, Less. The walks over the program's names: all, Kind, Path, Less. The walks over names: Less of both, the document's letter, good, Part. -/
import Derived.Lib.SplitLaws
import Derived.Lib.IndexMore
import Derived.Lib.Strings
import Derived.Test.YtoompcgdhokdlaaDoorShelf
import Derived.Test.YtoompcgdhokdlaaDoorJb
import Derived.Laws.RangeString
import Derived.Laws.Runes
import Derived.Lib.OthersKept
import Derived.Laws.RangeAny
import Derived.Sort.Walk0
set_option linter.unusedVariables false
set_option linter.unusedSimpArgs false
namespace Go.Proofs.YtoompcgdhokdlaaDoor
open Go.Lib

/-- A letter of a reference's name. -/
def letterZ (c : Int) : Bool := (decide (97 ≤ c) && decide (c ≤ 122)) || ((decide (65 ≤ c) && decide (c ≤ 90)) || ((decide (48 ≤ c) && decide (c ≤ 57)) || (c == 45 || (c == 95 || c == 46))))
def letB (c : UInt8) : Bool := letterZ c.toNat
/-- One more letter of a text: its parts. -/
def partStep (acc : List (List UInt8)) (c : UInt8) : List (List UInt8) := if c = 47 then acc ++ [[]] else acc.dropLast ++ [acc.getLastD [] ++ [c]]
def partsOf (l : List UInt8) : List (List UInt8) := l.foldl partStep [[]]
theorem partsOf_snoc (l : List UInt8) (c : UInt8) : partsOf (l ++ [c]) = partStep (partsOf l) c := by simp [partsOf]
theorem partStep_pre (pre acc : List (List UInt8)) (h : acc ≠ []) (c : UInt8) : partStep (pre ++ acc) c = pre ++ partStep acc c := by
  unfold partStep
  split
  · simp
  · rw [List.dropLast_append_of_ne_nil h, List.getLastD_eq_getLast?, List.getLastD_eq_getLast?, List.getLast?_append, List.append_assoc]
    cases hg : acc.getLast? with
    | none => exact absurd (List.getLast?_eq_none_iff.1 hg) h
    | some q => simp
theorem partStep_ne (acc : List (List UInt8)) (c : UInt8) : partStep acc c ≠ [] := by unfold partStep; split <;> simp
theorem foldl_pre (l : List UInt8) : ∀ (pre acc : List (List UInt8)), acc ≠ [] → l.foldl partStep (pre ++ acc) = pre ++ l.foldl partStep acc := by
  induction l with
  | nil => intro pre acc _; rfl
  | cons c l ih => intro pre acc h; rw [List.foldl_cons, List.foldl_cons, partStep_pre pre acc h, ih pre _ (partStep_ne acc c)]
theorem foldl_ne (l : List UInt8) : ∀ acc : List (List UInt8), acc ≠ [] → l.foldl partStep acc ≠ [] := by
  induction l with
  | nil => intro acc h; exact h
  | cons c l ih => intro acc _; exact ih _ (partStep_ne acc c)
theorem partsOf_ne (l : List UInt8) : partsOf l ≠ [] := foldl_ne l _ (by simp)
theorem partsOf_pos (l : List UInt8) : 0 < (partsOf l).length := List.length_pos_iff.2 (partsOf_ne l)
theorem foldl_plain (a : List UInt8) : ∀ x : List UInt8, 47 ∉ a → a.foldl partStep [x] = [x ++ a] := by
  induction a with
  | nil => intro x _; simp
  | cons c a ih =>
    intro x h
    simp only [List.mem_cons, not_or] at h
    have e : partStep [x] c = [x ++ [c]] := by unfold partStep; rw [if_neg (fun e => h.1 e.symm)]; rfl
    rw [List.foldl_cons, e, ih _ h.2]; simp
theorem partsOf_plain (a : List UInt8) (h : 47 ∉ a) : partsOf a = [a] := by unfold partsOf; rw [foldl_plain a [] h]; rfl
/-- Parts of what is joined by a slash. -/
theorem partsOf_join (a b : List UInt8) : partsOf (a ++ 47 :: b) = partsOf a ++ partsOf b := by
  have e : partStep (partsOf a) 47 = partsOf a ++ [[]] := by unfold partStep; rw [if_pos rfl]
  show List.foldl partStep [[]] (a ++ 47 :: b) = _
  rw [List.foldl_append, List.foldl_cons]
  show List.foldl partStep (partStep (partsOf a) 47) b = _
  rw [e, foldl_pre b (partsOf a) [[]] (by simp)]
  rfl
theorem partsOf_no (l : List UInt8) : ∀ p ∈ partsOf l, 47 ∉ p := by
  have key : ∀ (l : List UInt8) (acc : List (List UInt8)), (∀ p ∈ acc, 47 ∉ p) → ∀ p ∈ l.foldl partStep acc, 47 ∉ p := by
    intro l
    induction l with
    | nil => intro acc h; exact h
    | cons c l ih =>
      intro acc h
      refine ih _ ?_
      intro p hp
      unfold partStep at hp
      split at hp
      · rcases List.mem_append.1 hp with hp | hp
        · exact h p hp
        · rw [List.mem_singleton] at hp; subst hp; simp
      · rename_i hc
        rcases List.mem_append.1 hp with hp | hp
        · exact h p (List.dropLast_subset acc hp)
        · rw [List.mem_singleton] at hp
          subst hp
          intro hm
          rcases List.mem_append.1 hm with hm | hm
          · rw [List.getLastD_eq_getLast?] at hm
            cases hg : acc.getLast? with
            | none => rw [hg] at hm; simp at hm
            | some q => rw [hg] at hm; exact h q (List.mem_of_getLast? hg) hm
          · rw [List.mem_singleton] at hm; exact hc hm.symm
  exact key l [[]] (by simp)
theorem cut47 (l : List UInt8) (h : 47 ∈ l) : ∃ a b, l = a ++ 47 :: b ∧ 47 ∉ a := by
  induction l with
  | nil => cases h
  | cons c l ih =>
    by_cases hc : c = 47
    · exact ⟨[], l, by rw [hc]; rfl, by simp⟩
    · obtain ⟨a, b, e, hn⟩ := ih ((List.mem_cons.1 h).resolve_left fun e => hc e.symm)
      refine ⟨c :: a, b, by rw [e]; rfl, ?_⟩
      intro hm
      rcases List.mem_cons.1 hm with hm | hm
      · exact hc hm.symm
      · exact hn hm
theorem occ_one (s : List UInt8) (c : UInt8) (j : Nat) : occAt s [c] j = true ↔ s[j]? = some c := by
  unfold occAt
  rw [List.isPrefixOf_iff_prefix]
  constructor
  · rintro ⟨t, ht⟩
    have := congrArg (fun l => l[0]?) ht
    simpa using this.symm
  · intro h
    obtain ⟨hl, he⟩ := List.getElem?_eq_some_iff.1 h
    exact ⟨s.drop (j + 1), by rw [List.drop_eq_getElem_cons hl, he]; rfl⟩
theorem index_hit1 (a b : List UInt8) (c : UInt8) (h : c ∉ a) : index (a ++ c :: b) [c] = a.length := by
  refine index_first (by simp) ((occ_one _ _ _).2 (by simp)) fun j hj => ?_
  rw [Bool.eq_false_iff]
  intro ho
  rw [occ_one, List.getElem?_append_left hj] at ho
  exact h (List.mem_of_getElem? ho)
theorem index_miss1 (a : List UInt8) (c : UInt8) (h : c ∉ a) : index a [c] = -1 := by
  refine index_none fun j hj => ?_
  rw [Bool.eq_false_iff]
  intro ho
  rw [occ_one] at ho
  exact h (List.mem_of_getElem? ho)
/-- What the library's Split tells. -/
theorem split_parts : ∀ (n : Nat) (l : List UInt8), l.length ≤ n → split l [47] = partsOf l := by
  intro n
  induction n with
  | zero =>
    intro l hl
    have : l = [] := List.length_eq_zero_iff.1 (by omega)
    subst this
    rfl
  | succ n ih =>
    intro l hl
    by_cases hm : 47 ∈ l
    · obtain ⟨a, b, e, hn⟩ := cut47 l hm
      subst e
      have hi := index_hit1 a b 47 hn
      have hc := count_hit (s := a ++ 47 :: b) (sub := [47]) (by simp) hi
      have hd : (a ++ 47 :: b).drop (a.length + 1) = b := by rw [← List.drop_drop]; simp
      rw [show ([47] : List UInt8).length = 1 from rfl, hd] at hc
      have hne : ¬ (index (a ++ 47 :: b) [47] == -1) = true := by rw [hi]; simp
      unfold split
      rw [hc, Nat.add_comm 1, splitK, if_neg hne, hi, show ((a.length : Nat) : Int).toNat = a.length from rfl]
      rw [show ([47] : List UInt8).length = 1 from rfl, hd, Nat.add_zero]
      rw [partsOf_join, partsOf_plain a hn]
      have := ih b (by simp at hl; omega)
      unfold split at this
      rw [this]
      simp
    · have hi := index_miss1 l 47 hm
      unfold split
      rw [count_miss hi, partsOf_plain l hm]
      rfl
theorem contains_one (l : List UInt8) (c : UInt8) : contains l [c] = decide (c ∈ l) := by
  unfold contains
  by_cases h : c ∈ l
  · rw [decide_eq_true h, decide_eq_true_eq]
    rcases index_spec l [c] with ⟨h1, h2⟩ | ⟨i, h1, _⟩
    · obtain ⟨j, hj, e⟩ := List.mem_iff_getElem.1 h
      have := h2 j (by omega)
      rw [Bool.eq_false_iff] at this
      exact absurd ((occ_one l c j).2 (by rw [List.getElem?_eq_getElem hj, e])) this
    · omega
  · rw [decide_eq_false h, decide_eq_false_iff_not, index_miss1 l c h]; decide
/-- Two dots. -/
def dotsB (l : List UInt8) : Bool := (List.range l.length).any fun i => decide (0 < i) && (l.getD i 0 == 46 && l.getD (i - 1) 0 == 46)
theorem occ_dots (l : List UInt8) (j : Nat) : occAt l [46, 46] j = true ↔ l[j]? = some 46 ∧ l[j + 1]? = some 46 := by
  unfold occAt
  rw [List.isPrefixOf_iff_prefix]
  constructor
  · rintro ⟨t, ht⟩
    have h0 := congrArg (fun l => l[0]?) ht
    have h1 := congrArg (fun l => l[1]?) ht
    simp at h0 h1
    exact ⟨h0.symm, h1.symm⟩
  · rintro ⟨h0, h1⟩
    obtain ⟨hl0, he0⟩ := List.getElem?_eq_some_iff.1 h0
    obtain ⟨hl1, he1⟩ := List.getElem?_eq_some_iff.1 h1
    exact ⟨l.drop (j + 2), by rw [List.drop_eq_getElem_cons hl0, List.drop_eq_getElem_cons hl1, he0, he1]; rfl⟩
theorem contains_dots (l : List UInt8) : contains l [46, 46] = dotsB l := by
  rw [Bool.eq_iff_iff]
  unfold contains
  rw [decide_eq_true_eq]
  constructor
  · intro h
    rcases index_spec l [46, 46] with ⟨h1, _⟩ | ⟨i, h1, h2, h3, _⟩
    · omega
    · obtain ⟨e0, e1⟩ := (occ_dots l i).1 h3
      obtain ⟨hl1, he1⟩ := List.getElem?_eq_some_iff.1 e1
      refine List.any_eq_true.2 ⟨i + 1, List.mem_range.2 hl1, ?_⟩
      simp [List.getD_eq_getElem?_getD, e0, e1]
  · intro h
    obtain ⟨i, hi, hp⟩ := List.any_eq_true.1 h
    have hi' := List.mem_range.1 hi
    simp only [Bool.and_eq_true, decide_eq_true_eq, beq_iff_eq] at hp
    obtain ⟨h0, h1, h2⟩ := hp
    rcases index_spec l [46, 46] with ⟨e1, e2⟩ | ⟨k, e1, _⟩
    · have := e2 (i - 1) (by omega)
      rw [Bool.eq_false_iff] at this
      refine absurd ((occ_dots l (i - 1)).2 ⟨?_, ?_⟩) this
      · rw [List.getD_eq_getElem?_getD, List.getElem?_eq_getElem (show i - 1 < l.length by omega)] at h2
        rw [List.getElem?_eq_getElem (show i - 1 < l.length by omega)]
        simpa using h2
      · rw [show i - 1 + 1 = i by omega, List.getElem?_eq_getElem hi']
        rw [List.getD_eq_getElem?_getD, List.getElem?_eq_getElem hi'] at h1
        simpa using h1
    · omega
def lockL : List UInt8 := [46, 108, 111, 99, 107]
/-- May a part of a reference's name be? -/
def goodB (l : List UInt8) : Bool := !l.isEmpty && (!(l.getD 0 0 == 45) && (!(l.getD 0 0 == 46) && (!(l.getD (l.length - 1) 0 == 46) && (l.all letB && (!dotsB l && !hasSuffix l lockL)))))
theorem hasSuffix_one (l : List UInt8) (c : UInt8) : hasSuffix l [c] = (!l.isEmpty && l.getD (l.length - 1) 0 == c) := by
  rw [← hasSuffix_of_drop]
  cases h : l.isEmpty with
  | true =>
    have : l = [] := by simpa using h
    subst this
    rfl
  | false =>
    have hne : l ≠ [] := by intro e; subst e; simp at h
    have hl : l.length - 1 < l.length := by have := List.length_pos_iff.2 hne; omega
    have hp := List.length_pos_iff.2 hne
    simp only [List.length_cons, List.length_nil, Nat.zero_add, Bool.not_false, Bool.true_and, List.getD_eq_getElem?_getD, List.getElem?_eq_getElem hl, Option.getD_some]
    rw [List.drop_eq_getElem_cons hl, show l.length - 1 + 1 = l.length by omega, List.drop_length]
    simp [hp]
    omega
theorem partB_len (l : List UInt8) : l.isEmpty = decide (l = []) := by cases l <;> simp
/-- May a text be a name in a tree? -/
def partB (l : List UInt8) : Bool := !l.isEmpty && (!(l == [46]) && (!(l == [46, 46]) && (decide (l.length ≤ 64) && (!decide (47 ∈ l) && !decide (0 ∈ l)))))
def headsL : List UInt8 := [104, 101, 97, 100, 115]
def tagsL : List UInt8 := [116, 97, 103, 115]
def kindB (l : List UInt8) : Int := if 64 < l.length then 0 else if (partsOf l).all goodB = false then 0 else if hasPrefix l (headsL ++ [47]) = true then 1 else if hasPrefix l (tagsL ++ [47]) = true then 2 else 0
def pathB (l : List UInt8) : Bool := decide (l.length ≤ 65536) && (partsOf l).all partB
theorem prefix_parts (l h : List UInt8) (hn : 47 ∉ h) : hasPrefix l (h ++ [47]) = (decide (1 < (partsOf l).length) && (partsOf l).getD 0 [] == h) := by
  rw [Bool.eq_iff_iff, Bool.and_eq_true, decide_eq_true_eq, beq_iff_eq]
  unfold hasPrefix
  rw [List.isPrefixOf_iff_prefix]
  constructor
  · rintro ⟨t, rfl⟩
    have e : h ++ [47] ++ t = h ++ 47 :: t := by simp
    rw [e, partsOf_join, partsOf_plain h hn]
    have := partsOf_pos t
    exact ⟨by simp; omega, rfl⟩
  · rintro ⟨h1, h2⟩
    by_cases hm : 47 ∈ l
    · obtain ⟨a, b, e, ha⟩ := cut47 l hm
      subst e
      rw [partsOf_join, partsOf_plain a ha] at h2
      have : a = h := by simpa using h2
      subst this
      exact ⟨b, by simp⟩
    · rw [partsOf_plain l hm] at h1
      simp at h1
theorem heads_no : (47 : UInt8) ∉ headsL := by decide
theorem tags_no : (47 : UInt8) ∉ tagsL := by decide
theorem kindB_ref (l : List UInt8) : kindB l = if 64 < l.length then 0 else if (partsOf l).all goodB = false then 0 else if (decide (1 < (partsOf l).length) && (partsOf l).getD 0 [] == headsL) = true then 1 else if (decide (1 < (partsOf l).length) && (partsOf l).getD 0 [] == tagsL) = true then 2 else 0 := by
  unfold kindB
  rw [prefix_parts l headsL heads_no, prefix_parts l tagsL tags_no]
end Go.Proofs.YtoompcgdhokdlaaDoor

set_option linter.unusedSimpArgs false
set_option linter.unusedVariables false
namespace Go.Proofs.YtoompcgdhokdlaaDoor
open Go.RowKit

/-- The library's variable holds a number. -/
def MaxAt (w : World) : Prop := ∃ m : Int, w.cell? ⟨0, 0, none⟩ = some (.int .i64 m)
theorem cell_lt {w : World} {b j : Nat} {v : Value} (h : w.cell? ⟨b, j, none⟩ = some v) : b < w.heap.size := by
  rcases Nat.lt_or_ge b w.heap.size with hb | hb
  · exact hb
  · simp [World.cell?, Array.getElem?_eq_none hb] at h
theorem MaxAt.below {w w' : World} (h : MaxAt w) (hb : Below w.heap.size w w') : MaxAt w' := by
  obtain ⟨m, hm⟩ := h
  exact ⟨m, (hb.cell (p := ⟨0, 0, none⟩) (cell_lt hm)).trans hm⟩
theorem contains_any (s sub : ByteArray) (w : World) (hM : MaxAt w) (hs : s.size < 4294967281) :
    Calls Tryd.prog 58 #[.string s, .string sub] w fun e w' => e = .returned (.bool (Lib.contains s.data.toList sub.data.toList)) ∧ w = w' := by
  obtain ⟨m, hm⟩ := hM
  exact (Tryd.strings_Contains s sub m w hs hm).mono fun e w' ⟨h1, h2⟩ => ⟨h1, h2.symm⟩
theorem suffix_any (s p : ByteArray) (w : World) (hs : s.size < 4294967281) :
    Calls Tryd.prog 75 #[.string s, .string p] w fun e w' => e = .returned (.bool (Lib.hasSuffix s.data.toList p.data.toList)) ∧ w = w' :=
  (Tryd.strings_HasSuffix s p w (by omega)).mono fun e w' ⟨h1, h2⟩ => ⟨h1, h2.symm⟩
theorem prefix_any (s p : ByteArray) (w : World) :
    Calls Tryd.prog 61 #[.string s, .string p] w fun e w' => e = .returned (.bool (Lib.hasPrefix s.data.toList p.data.toList)) ∧ w = w' :=
  (Tryd.strings_HasPrefix s p w).mono fun e w' ⟨h1, h2⟩ => ⟨h1, h2.symm⟩

theorem letter_three (c : Int) (h0 : 0 ≤ c) (h1 : c < 128) : Lib.contains [45, 95, 46] [UInt8.ofNat c.toNat] = (c == 45 || (c == 95 || c == 46)) := by
  rw [contains_one]
  obtain ⟨n, rfl⟩ := Int.eq_ofNat_of_zero_le h0
  have hn : n < 256 := by omega
  rw [Bool.eq_iff_iff]
  simp only [List.mem_cons, List.not_mem_nil, or_false, decide_eq_true_eq, Bool.or_eq_true, beq_iff_eq, Int.toNat_natCast]
  constructor
  · rintro (h | h | h) <;> (have := congrArg UInt8.toNat h; simp at this; omega)
  · rintro (h | h | h)
    · left; have : n = 45 := by omega
      subst this; rfl
    · right; left; have : n = 95 := by omega
      subst this; rfl
    · right; right; have : n = 46 := by omega
      subst this; rfl
set_option maxRecDepth 100000 in
set_option maxHeartbeats 400000 in
theorem letter_any (c : Int) (w : World) (hM : MaxAt w) (h0 : 0 ≤ c) (hc : c < 4294967296) :
    Calls Tryd.prog 76 #[.int .i32 c] w fun e w' => e = .returned (.bool (letterZ c)) ∧ Below w.heap.size w w' := by
  have HM := bx hM
  clear hM
  by_cases hl : (97 ≤ c ∧ c ≤ 122) ∨ (65 ≤ c ∧ c ≤ 90) ∨ (48 ≤ c ∧ c ≤ 57)
  · have HL : Bx (letterZ c = true) := ⟨by simp [letterZ]; omega⟩
    have hl' : (97 ≤ c ∧ c ≤ 122) ∨ (¬ (97 ≤ c) ∧ 65 ≤ c ∧ c ≤ 90) ∨ (¬ 97 ≤ c ∧ ¬ 65 ≤ c ∧ 48 ≤ c ∧ c ≤ 57) := by omega
    clear hl
    rcases hl' with ⟨a, b⟩ | ⟨a, b, d⟩ | ⟨a, b, d, e⟩
    all_goals
      go_enter Tryd.func76, Tryd.ntmps76
      go_wp2_with fail
      go_ret
      rw [HL.out]
      exact ⟨rfl, Below.refl _ _⟩
  · have q1 : (decide (97 ≤ c) && decide (c ≤ 122)) = false := by simp; omega
    have q2 : (decide (65 ≤ c) && decide (c ≤ 90)) = false := by simp; omega
    have q3 : (decide (48 ≤ c) && decide (c ≤ 57)) = false := by simp; omega
    have HL : Bx (letterZ c = (c == 45 || (c == 95 || c == 46))) := ⟨by unfold letterZ; rw [q1, q2, q3]; rfl⟩
    by_cases h128 : c < 128
    · have hwr : IntKind.u8.wrap c = c := by show c % 256 = c; omega
      have cv : ∀ w', w'.cell? ⟨w.heap.size, 0, none⟩ = some (.int .u8 c) → (convert 33 9 (.slice (some ⟨w.heap.size, 0, none⟩) 1 1)).run Tryd.prog w' = .ok (.string ⟨#[UInt8.ofNat c.toNat]⟩) w' := fun w' hc => by
        have hj : ∀ j, j < 1 → w'.cell? ⟨w.heap.size, 0 + j, none⟩ = some (.int .u8 (([c] : List Int).getD j 0)) := fun j hj => by
          obtain rfl : j = 0 := by omega
          exact hc
        have := run_convert_bytes_arg (P := Tryd.prog) w' 33 5 Tryd.underlying33 Tryd.underlying5 w.heap.size 0 1 1 [c] rfl hj 9 Tryd.underlying9
        rw [this]; rfl
      have HC := bx (contains_any ⟨#[45, 95, 46]⟩ ⟨#[UInt8.ofNat c.toNat]⟩)
      have HT := bx (letter_three c h0 h128)
      have ways : (97 ≤ c ∧ ¬ c ≤ 122) ∨ (¬ 97 ≤ c ∧ 65 ≤ c ∧ ¬ c ≤ 90) ∨ (¬ 97 ≤ c ∧ ¬ 65 ≤ c ∧ 48 ≤ c ∧ ¬ c ≤ 57) ∨ (¬ 97 ≤ c ∧ ¬ 65 ≤ c ∧ ¬ 48 ≤ c) := by omega
      clear hl q1 q2 q3
      rcases ways with ⟨a, b⟩ | ⟨a, b, d⟩ | ⟨a, b, d, e⟩ | ⟨a, b, d⟩
      all_goals
        go_enter Tryd.func76, Tryd.ntmps76
        go_wp2_with fail
        refine (HC.out _ (HM.out.below ((Below.refl _ _).alloc (Nat.le_refl _) _)) (by decide)).mono ?_
        rintro e w' ⟨rfl, rfl⟩
        go_wp2_with fail
        go_ret
        rw [HL.out, ← HT.out]
        exact ⟨rfl, (Below.refl _ _).alloc (Nat.le_refl _) _⟩
    · have HF : Bx (letterZ c = false) := ⟨by rw [HL.out]; simp; omega⟩
      have ways : (97 ≤ c ∧ ¬ c ≤ 122) := by omega
      obtain ⟨a, b⟩ := ways
      clear hl q1 q2 q3
      go_enter Tryd.func76, Tryd.ntmps76
      go_wp2_with fail
      go_ret
      rw [HF.out]
      exact ⟨rfl, Below.refl _ _⟩
end Go.Proofs.YtoompcgdhokdlaaDoor

set_option linter.unusedSimpArgs false
set_option linter.unusedVariables false
namespace Go.Proofs.YtoompcgdhokdlaaDoor
open Go.RowKit

theorem getD_data (s : ByteArray) (j : Nat) (h : j < s.size) : s.data.toList.getD j 0 = s[j] := by
  rw [List.getD_eq_getElem?_getD, List.getElem?_eq_getElem (by simpa using h)]
  rfl
theorem take_data (s : ByteArray) (k : Nat) (h : k < s.size) : s.data.toList.take (k + 1) = s.data.toList.take k ++ [s[k]] := by
  rw [List.take_succ_eq_append_getElem (by simpa using h)]; rfl
theorem letZ_high (r : Int) (h : 128 ≤ r) : letterZ r = false := by simp [letterZ]; omega
theorem letB_high (c : UInt8) (h : 128 ≤ c.toNat) : letB c = false := letZ_high _ (by omega)
theorem rune_le (s : ByteArray) (pos : Nat) (h : pos < s.size) : (Utf8.decode s pos).1 < 4294967296 ∧ 0 ≤ ((Utf8.decode s pos).1 : Int) := ⟨by have := decode_le s pos; omega, by omega⟩
theorem rune_let (s : ByteArray) (pos : Nat) (h : pos < s.size) : letterZ ((Utf8.decode s pos).1 : Int) = letB s[pos] ∧ (letB s[pos] = true → (Utf8.decode s pos).2 = 1) := by
  by_cases ha : s[pos].toNat < 128
  · rw [decode_ascii s pos h ha]
    exact ⟨rfl, fun _ => rfl⟩
  · have := decode_high s pos h (by omega)
    rw [letB_high _ (by omega), letZ_high _ (by omega)]
    exact ⟨rfl, fun h => by cases h⟩
theorem goodB_ne {l : List UInt8} (h : l.isEmpty = true) : goodB l = false := by simp [goodB, h]
theorem goodB_not_all {l : List UInt8} (h : l.all letB = false) : goodB l = false := by simp [goodB, h]
set_option maxRecDepth 100000 in
set_option maxHeartbeats 400000 in
theorem good_any (s : ByteArray) (w : World) (hM : MaxAt w) (hs : s.size < 4294967281) :
    Calls Tryd.prog 60 #[.string s] w fun e w' => e = .returned (.bool (goodB s.data.toList)) ∧ Below w.heap.size w w' := by
  have HM := bx hM
  clear hM
  by_cases h0 : s.size = 0
  · have hl : s.data.toList = [] := by rw [← List.length_eq_zero_iff]; simpa using h0
    have e1 : s.toList.isEmpty = true := by rw [ByteArray.toList_eq, hl]; rfl
    have e2 : s.toList = [] := by rw [ByteArray.toList_eq, hl]
    have HG : Bx (goodB s.data.toList = false) := ⟨by rw [hl]; rfl⟩
    clear hl
    go_enter Tryd.func60, Tryd.ntmps60
    go_wp2_with fail
    go_ret
    rw [HG.out]
    exact ⟨rfl, Below.refl _ _⟩
  · have hpos : 0 < s.size := by omega
    have hne : s.data.toList ≠ [] := fun e => h0 (by simpa using congrArg List.length e)
    have hem : s.data.toList.isEmpty = false := by cases hh : s.data.toList with
      | nil => exact absurd hh hne
      | cons a b => rfl
    have e1 : s.toList.isEmpty = false := by rw [ByteArray.toList_eq]; exact hem
    have e2 : ¬ s.toList = [] := by rw [ByteArray.toList_eq]; exact hne
    have hx1 : (s.extract 0 1).data.toList = [s[0]] := by
      rw [Lib.extract_data, List.drop_zero, Nat.sub_zero, take_data s 0 hpos]; rfl
    have HC : Bx (∀ w, MaxAt w → Calls Tryd.prog 58 #[.string ⟨#[45, 46]⟩, .string (s.extract 0 1)] w fun e w' => e = .returned (.bool (s[0] == 45 || s[0] == 46)) ∧ w = w') := ⟨fun w hM => by
      have := contains_any ⟨#[45, 46]⟩ (s.extract 0 1) w hM (by decide)
      rw [hx1, show (⟨#[45, 46]⟩ : ByteArray).data.toList = [45, 46] from rfl, contains_one] at this
      have e : decide (s[0] ∈ ([45, 46] : List UInt8)) = (s[0] == 45 || s[0] == 46) := by rw [Bool.eq_iff_iff]; simp
      rw [← e]
      exact this⟩
    have HS : Bx (∀ w, Calls Tryd.prog 75 #[.string s, .string ⟨#[46]⟩] w fun e w' => e = .returned (.bool (s.data.toList.getD (s.data.toList.length - 1) 0 == 46)) ∧ w = w') := ⟨fun w => by
      have := suffix_any s ⟨#[46]⟩ w hs
      rw [show (⟨#[46]⟩ : ByteArray).data.toList = [46] from rfl, hasSuffix_one, hem] at this
      exact this⟩
    have HG : Bx (goodB s.data.toList = (!(s[0] == 45) && (!(s[0] == 46) && (!(s.data.toList.getD (s.data.toList.length - 1) 0 == 46) && (s.data.toList.all letB && (!dotsB s.data.toList && !Lib.hasSuffix s.data.toList lockL)))))) := ⟨by
      unfold goodB; rw [hem, getD_data s 0 hpos]; rfl⟩
    clear hne hem hx1
    generalize (s.data.toList.getD (s.data.toList.length - 1) 0 == 46) = b2 at *
    generalize hb0 : (s[0] == 45) = b0 at *
    generalize hb1 : (s[0] == 46) = b1 at *
    clear hb0 hb1
    have ways : (b0 = true ∨ b1 = true) ∨ ((b0 = false ∧ b1 = false) ∧ b2 = true) ∨ (b0 = false ∧ b1 = false ∧ b2 = false) := by cases b0 <;> cases b1 <;> cases b2 <;> simp
    rcases ways with hw | ⟨⟨rfl, rfl⟩, rfl⟩ | ⟨rfl, rfl, rfl⟩
    · have HB : Bx ((b0 || b1) = true) := ⟨by rcases hw with rfl | rfl <;> simp⟩
      have HF : Bx (goodB s.data.toList = false) := ⟨by rw [HG.out]; rcases hw with rfl | rfl <;> simp⟩
      have HC2 := bx (fun w hM => HB.out ▸ HC.out w hM)
      clear hw HB HG HC
      go_enter Tryd.func60, Tryd.ntmps60
      go_wp2_with fail
      refine (HC2.out w HM.out).mono ?_
      rintro e w' ⟨rfl, rfl⟩
      go_wp2_with fail
      go_ret
      rw [HF.out]
      exact ⟨rfl, Below.refl _ _⟩
    · have HF : Bx (goodB s.data.toList = false) := ⟨by rw [HG.out]; rfl⟩
      go_enter Tryd.func60, Tryd.ntmps60
      go_wp2_with fail
      refine (HC.out w HM.out).mono ?_
      rintro e w' ⟨rfl, rfl⟩
      go_wp2_with fail
      refine (HS.out w).mono ?_
      rintro e w' ⟨rfl, rfl⟩
      go_wp2_with fail
      go_ret
      rw [HF.out]
      exact ⟨rfl, Below.refl _ _⟩
    · have HG2 : Bx (goodB s.data.toList = (s.data.toList.all letB && (!dotsB s.data.toList && !Lib.hasSuffix s.data.toList lockL))) := ⟨HG.out⟩
      clear HG
      go_enter Tryd.func60, Tryd.ntmps60
      go_wp2_with fail
      refine (HC.out w HM.out).mono ?_
      rintro e w' ⟨rfl, rfl⟩
      go_wp2_with fail
      refine (HS.out w).mono ?_
      rintro e w' ⟨rfl, rfl⟩
      go_wp2_with fail
      clear HC HS e1 e2
      go_loopw [4] (fun c wr => ∃ pos : Nat, pos ≤ s.size ∧ wr.heap[w.heap.size]? = some (.stringIter s pos) ∧ Below w.heap.size w wr ∧ (s.data.toList.take pos).all letB = true) (fun _ wr => s.size - wr.iterPos w.heap.size)
      case atStart => exact ⟨0, Nat.zero_le _, World.iter_heap w s 0, (Below.refl _ _).alloc (Nat.le_refl _) _, rfl⟩
      case round =>
        rename_i wr
        obtain ⟨pos, hpos', hit, hbel, hall⟩ := hrel
        have HIT := bx hit; have HB := bx hbel; have HA := bx hall
        by_cases hp : pos < s.size
        · have hnx : ∀ ty, (Instr.next (.pointer (some ⟨w.heap.size, 0, none⟩)) true ty).run Tryd.prog wr = _ := fun ty => Lib.run_next_any_at wr w.heap.size s pos ty hit hp
          have HR := bx (rune_le s pos hp); have HL := bx (rune_let s pos hp)
          have HI2 := bx (Lib.iterAt_heap wr w.heap.size s pos (pos + (Utf8.decode s pos).2) hit)
          have HB2 := bx (Lib.below_iterAt hbel (Nat.le_refl _) s (pos + (Utf8.decode s pos).2))
          have HT := bx (take_data s pos hp)
          clear hit hbel hall
          generalize Utf8.decode s pos = dec at *
          obtain ⟨r, wd⟩ := dec
          dsimp only at *
          cases hl : letB s[pos] with
          | true =>
            have hlr : letterZ (r : Int) = true := by rw [HL.out.1, hl]
            obtain rfl : wd = 1 := HL.out.2 hl
            have HLE := bx hl; have HLR := bx (fun w hM => hlr ▸ letter_any (r : Int) w hM HR.out.2 (by have := HR.out.1; omega))
            clear hl hlr
            go_wp2_with fail
            refine (HLR.out _ (HM.out.below HB2.out)).mono ?_
            rintro e w' ⟨rfl, hb⟩
            have HI3 := bx ((hb.block _ (blk_lt HI2.out)).trans HI2.out); have HB3 := bx (HB2.out.trans (hb.mono HB2.out.size))
            clear hb
            go_wp2_with fail
            go_roundw
            case rel => exact ⟨pos + 1, by omega, HI3.out, HB3.out, by rw [HT.out, List.all_append, HA.out]; simp [HLE.out]⟩
            case measure => simp only [World.iterPos, HI3.out, HIT.out]; omega
          | false =>
            have hlr : letterZ (r : Int) = false := by rw [HL.out.1, hl]
            have HLR := bx (fun w hM => hlr ▸ letter_any (r : Int) w hM HR.out.2 (by have := HR.out.1; omega))
            have HF : Bx (goodB s.data.toList = false) := ⟨goodB_not_all (by
              rw [Bool.eq_false_iff]
              intro h
              have := List.all_eq_true.1 h s[pos] (by rw [← getD_data s pos hp, List.getD_eq_getElem?_getD, List.getElem?_eq_getElem (by simpa using hp)]; exact List.getElem_mem _)
              rw [hl] at this; cases this)⟩
            clear hl hlr
            go_wp2_with fail
            refine (HLR.out _ (HM.out.below HB2.out)).mono ?_
            rintro e w' ⟨rfl, hb⟩
            have HB3 := bx (HB2.out.trans (hb.mono HB2.out.size))
            clear hb
            go_wp2_with fail
            go_ret
            rw [HF.out]
            exact ⟨rfl, HB3.out⟩
        · obtain rfl : pos = s.size := by omega
          have hnx : ∀ ty, (Instr.next (.pointer (some ⟨w.heap.size, 0, none⟩)) true ty).run Tryd.prog wr = _ := fun ty => Lib.run_next_end_at wr w.heap.size s s.size ty hit hp
          have HA2 : Bx (s.data.toList.all letB = true) := ⟨by have := hall; rwa [List.take_of_length_le (by simp)] at this⟩
          have HD : Bx (∀ w, MaxAt w → Calls Tryd.prog 58 #[.string s, .string ⟨#[46, 46]⟩] w fun e w' => e = .returned (.bool (dotsB s.data.toList)) ∧ w = w') := ⟨fun w hM => by
            have := contains_any s ⟨#[46, 46]⟩ w hM hs
            rw [show (⟨#[46, 46]⟩ : ByteArray).data.toList = [46, 46] from rfl, contains_dots] at this
            exact this⟩
          have HK : Bx (∀ w, Calls Tryd.prog 75 #[.string s, .string ⟨#[46, 108, 111, 99, 107]⟩] w fun e w' => e = .returned (.bool (Lib.hasSuffix s.data.toList lockL)) ∧ w = w') := ⟨fun w => suffix_any s ⟨#[46, 108, 111, 99, 107]⟩ w hs⟩
          clear hit hbel hall
          cases hd : dotsB s.data.toList with
          | true =>
            have HF : Bx (goodB s.data.toList = false) := ⟨by rw [HG2.out, hd]; simp⟩
            rw [hd] at HD
            clear hd
            go_wp2_with fail
            refine (HD.out _ (HM.out.below HB.out)).mono ?_
            rintro e w' ⟨rfl, rfl⟩
            go_wp2_with fail
            go_ret
            rw [HF.out]
            exact ⟨rfl, HB.out⟩
          | false =>
            have HF : Bx (goodB s.data.toList = !Lib.hasSuffix s.data.toList lockL) := ⟨by rw [HG2.out, hd, HA2.out]; simp⟩
            rw [hd] at HD
            clear hd
            go_wp2_with fail
            refine (HD.out _ (HM.out.below HB.out)).mono ?_
            rintro e w' ⟨rfl, rfl⟩
            go_wp2_with fail
            refine (HK.out _).mono ?_
            rintro e w' ⟨rfl, rfl⟩
            go_wp2_with fail
            go_ret
            rw [HF.out]
            exact ⟨rfl, HB.out⟩
end Go.Proofs.YtoompcgdhokdlaaDoor

set_option linter.unusedSimpArgs false
set_option linter.unusedVariables false
namespace Go.Proofs.YtoompcgdhokdlaaDoor
open Go.RowKit

set_option maxRecDepth 100000 in
set_option maxHeartbeats 400000 in
theorem part_any (s : ByteArray) (w : World) (hM : MaxAt w) (hs : s.size < 4294967281) :
    Calls Tryd.prog 31 #[.string s] w fun e w' => e = .returned (.bool (partB s.data.toList)) ∧ w = w' := by
  have HM := bx hM
  clear hM
  have hlen : s.data.toList.length = s.size := by simp
  have HC := bx (fun w hM => contains_any s ⟨#[47]⟩ w hM hs)
  have HZ := bx (fun w hM => contains_any s ⟨#[0]⟩ w hM hs)
  rw [show (⟨#[47]⟩ : ByteArray).data.toList = [47] from rfl, contains_one] at HC
  rw [show (⟨#[0]⟩ : ByteArray).data.toList = [0] from rfl, contains_one] at HZ
  have HE := bx (ByteArray.toList_eq s)
  obtain ⟨l, hl⟩ : ∃ l, l = s.data.toList := ⟨_, rfl⟩
  rw [← hl] at hlen HC HZ HE ⊢
  clear hl
  have q1 : s.toList.isEmpty = l.isEmpty := by rw [HE.out]
  have q2 : (s.toList == [46]) = (l == [46]) := by rw [HE.out]
  have q3 : (s.toList == [46, 46]) = (l == [46, 46]) := by rw [HE.out]
  have q4 : (s.size : Int) ≤ 64 ↔ l.length ≤ 64 := by omega
  have HP : Bx (partB l = (!l.isEmpty && (!(l == [46]) && (!(l == [46, 46]) && (decide (l.length ≤ 64) && (!decide (47 ∈ l) && !decide (0 ∈ l))))))) := ⟨rfl⟩
  generalize decide (47 ∈ l) = c47 at *
  generalize decide (0 ∈ l) = c0 at *
  cases h1 : l.isEmpty with
  | true =>
    rw [h1] at q1
    have HF : Bx (partB l = false) := ⟨by rw [HP.out, h1]; rfl⟩
    clear q2 q3 q4 h1 hlen
    go_enter Tryd.func31, Tryd.ntmps31
    go_wp2_with fail
    go_ret
    rw [HF.out]
    exact ⟨rfl, rfl⟩
  | false =>
    rw [h1] at q1
    cases h2 : l == [46] with
    | true =>
      rw [h2] at q2
      have HF : Bx (partB l = false) := ⟨by rw [HP.out, h1, h2]; rfl⟩
      clear q3 q4 h1 h2 hlen
      go_enter Tryd.func31, Tryd.ntmps31
      go_wp2_with fail
      go_ret
      rw [HF.out]
      exact ⟨rfl, rfl⟩
    | false =>
      rw [h2] at q2
      cases h3 : l == [46, 46] with
      | true =>
        rw [h3] at q3
        have HF : Bx (partB l = false) := ⟨by rw [HP.out, h1, h2, h3]; rfl⟩
        clear q4 h1 h2 h3 hlen
        go_enter Tryd.func31, Tryd.ntmps31
        go_wp2_with fail
        go_ret
        rw [HF.out]
        exact ⟨rfl, rfl⟩
      | false =>
        rw [h3] at q3
        by_cases h4 : l.length ≤ 64
        · have h4' : s.size ≤ 64 := by omega
          cases c47 with
          | true =>
            have HF : Bx (partB l = false) := ⟨by rw [HP.out, h1, h2, h3, decide_eq_true h4]; rfl⟩
            clear q4 h1 h2 h3 hlen h4
            go_enter Tryd.func31, Tryd.ntmps31
            go_wp2_with fail
            refine (HC.out _ HM.out).mono ?_
            rintro e w' ⟨rfl, rfl⟩
            go_wp2_with fail
            go_ret
            rw [HF.out]
            exact ⟨rfl, rfl⟩
          | false =>
            have HF : Bx (partB l = !c0) := ⟨by rw [HP.out, h1, h2, h3, decide_eq_true h4]; rfl⟩
            clear q4 h1 h2 h3 hlen h4
            go_enter Tryd.func31, Tryd.ntmps31
            go_wp2_with fail
            refine (HC.out _ HM.out).mono ?_
            rintro e w' ⟨rfl, rfl⟩
            go_wp2_with fail
            refine (HZ.out _ HM.out).mono ?_
            rintro e w' ⟨rfl, rfl⟩
            go_wp2_with fail
            go_ret
            rw [HF.out]
            exact ⟨rfl, rfl⟩
        · have h4' : ¬ s.size ≤ 64 := by omega
          have HF : Bx (partB l = false) := ⟨by rw [HP.out, h1, h2, h3, decide_eq_false h4]; rfl⟩
          clear q4 h1 h2 h3 hlen h4
          go_enter Tryd.func31, Tryd.ntmps31
          go_wp2_with fail
          go_ret
          rw [HF.out]
          exact ⟨rfl, rfl⟩
/-- The pieces, as the library lays them. -/
def piecesB (s : ByteArray) : List ByteArray := Lib.splitB ⟨#[47]⟩ 0 (Lib.countB s ⟨#[47]⟩) s
theorem pieces_data (s : ByteArray) : (piecesB s).map (·.data.toList) = partsOf s.data.toList := by
  unfold piecesB
  rw [Lib.splitB_data]
  exact split_parts _ _ (Nat.le_refl _)
theorem pieces_len (s : ByteArray) : (piecesB s).length = Lib.countB s ⟨#[47]⟩ + 1 := Lib.splitB_all _ (by decide) 0 _ s rfl
theorem pieces_len2 (s : ByteArray) : (piecesB s).length = (partsOf s.data.toList).length := by rw [← pieces_data, List.length_map]
theorem partStep_sum (acc : List (List UInt8)) (h : acc ≠ []) (c : UInt8) : ((partStep acc c).map List.length).sum ≤ (acc.map List.length).sum + 1 ∧ (partStep acc c).length ≤ acc.length + 1 := by
  unfold partStep
  split
  · simp
  · obtain ⟨pre, x, rfl⟩ : ∃ pre x, acc = pre ++ [x] := ⟨acc.dropLast, acc.getLast h, (List.dropLast_concat_getLast h).symm⟩
    simp
    omega
theorem partsOf_sum (l : List UInt8) : ((partsOf l).map List.length).sum ≤ l.length ∧ (partsOf l).length ≤ l.length + 1 := by
  have key : ∀ (l : List UInt8) (acc : List (List UInt8)), acc ≠ [] → ((l.foldl partStep acc).map List.length).sum ≤ (acc.map List.length).sum + l.length ∧ (l.foldl partStep acc).length ≤ acc.length + l.length := by
    intro l
    induction l with
    | nil => intro acc _; simp
    | cons c l ih =>
      intro acc h
      have h1 := partStep_sum acc h c
      have h2 := ih _ (partStep_ne acc c)
      simp only [List.foldl_cons, List.length_cons]
      omega
  have := key l [[]] (by simp)
  simpa [partsOf, Nat.add_comm] using this
theorem le_sum : ∀ (l : List Nat) (x : Nat), x ∈ l → x ≤ l.sum
  | [], x, h => by cases h
  | y :: l, x, h => by
    rw [List.sum_cons]
    rcases List.mem_cons.1 h with rfl | h
    · omega
    · have := le_sum l x h; omega
theorem part_le {l p : List UInt8} (h : p ∈ partsOf l) : p.length ≤ l.length := by
  have h1 := (partsOf_sum l).1
  have h2 : p.length ≤ ((partsOf l).map List.length).sum := le_sum _ _ (List.mem_map_of_mem h)
  omega
end Go.Proofs.YtoompcgdhokdlaaDoor

set_option linter.unusedSimpArgs false
set_option linter.unusedVariables false
namespace Go.Proofs.YtoompcgdhokdlaaDoor
open Go.RowKit

theorem split_any (s : ByteArray) (w : World) (hM : MaxAt w) (hs : s.size < 4294967281) :
    Calls Tryd.prog 74 #[.string s, .string ⟨#[47]⟩] w fun e w' => e = .returned (.slice (some ⟨w.heap.size, 0, none⟩) (piecesB s).length (piecesB s).length) ∧ w.alloc (.cells ((piecesB s).map Value.string).toArray 9) = w' := by
  obtain ⟨m, hm⟩ := hM
  refine (Tryd.strings_Split s ⟨#[47]⟩ m w hs hm (by decide)).mono fun e w' ⟨h1, h2⟩ => ⟨?_, h2.symm⟩
  rw [pieces_len]
  exact h1
theorem pieces_get (s : ByteArray) (k : Nat) (h : k < (piecesB s).length) : ((piecesB s)[k]).data.toList = (partsOf s.data.toList)[k]'(by rw [← pieces_len2]; exact h) := by
  have := pieces_data s
  have h2 := congrArg (fun l => l[k]?) this
  simp only [List.getElem?_map, List.getElem?_eq_getElem h, Option.map_some] at h2
  rw [List.getElem?_eq_getElem (by rw [← pieces_len2]; exact h)] at h2
  exact Option.some.inj h2
theorem pieces_cell (s : ByteArray) (k : Nat) (h : k < (piecesB s).length) : (((piecesB s).map Value.string).toArray)[k]? = some (.string (piecesB s)[k]) := by
  simp [List.getElem?_eq_getElem h]
theorem pieces_get' (s : ByteArray) (k : Nat) (h : k < (piecesB s).length) : (partsOf s.data.toList)[k]? = some ((piecesB s)[k]).data.toList := by
  rw [pieces_get s k h, List.getElem?_eq_getElem]
set_option maxRecDepth 100000 in
set_option maxHeartbeats 400000 in
theorem goodF_any (s : ByteArray) (w : World) (hM : MaxAt w) (hs : s.size < 4294967281) :
    Calls Tryd.prog 59 #[.string s, .func (.func 60) #[] #[]] w fun e w' => e = .returned (.bool ((partsOf s.data.toList).all goodB)) ∧ Below w.heap.size w w' := by
  have HM := bx hM; have HF : Bx (∀ (t : ByteArray) (w : World), MaxAt w → t.size < 4294967281 → Calls Tryd.prog 60 #[.string t] w fun e w' => e = .returned (.bool (goodB t.data.toList)) ∧ Below w.heap.size w w') := ⟨fun t w hM hs => good_any t w hM hs⟩; have HS := bx (split_any s w hM hs)
  clear hM
  have HN := bx (pieces_len2 s); have HG := bx (pieces_get' s); have HC := bx (pieces_cell s)
  have HL : Bx ((piecesB s).length ≤ 4294967281) := ⟨by rw [pieces_len2]; have := (partsOf_sum s.data.toList).2; simp at this; omega⟩
  have HZ : Bx (∀ k (h : k < (piecesB s).length), (piecesB s)[k].size < 4294967281) := ⟨fun k h => by
    have h1 := pieces_get s k h
    have h2 := part_le (l := s.data.toList) (p := (partsOf s.data.toList)[k]'(by rw [← pieces_len2]; exact h)) (List.getElem_mem _)
    rw [← h1] at h2
    simp at h2
    omega⟩
  generalize partsOf s.data.toList = ps at *
  generalize piecesB s = pc at *
  go_enter Tryd.func59, Tryd.ntmps59
  go_wp2_with fail
  refine HS.out.mono ?_
  rintro e w' ⟨rfl, rfl⟩
  clear HS
  go_wp2_with fail
  go_loopw [6, 10] (fun q i wr => ∃ k : Nat, k ≤ pc.length ∧ i = .int .i64 k ∧ wr.heap[w.heap.size]? = some (.cells (pc.map Value.string).toArray 9 (0, 0)) ∧ Below w.heap.size w wr ∧ (ps.take k).all goodB = true) (fun _ i _ => pc.length - (intOf i).toNat)
  case atStart => exact ⟨0, Nat.zero_le _, rfl, blk_new w _, (Below.refl _ _).alloc (Nat.le_refl _) _, rfl⟩
  case round =>
    rename_i wr
    obtain ⟨k, hk, rfl, hh, hbel, hall⟩ := hrel
    have HH := bx hh; have HB := bx hbel; have HA := bx hall
    clear hh hbel hall
    by_cases hlt : k < pc.length
    · have hlt' : (k : Int) < pc.length := by omega
      have hcell : wr.cell? ⟨w.heap.size, k, none⟩ = some (.string pc[k]) := blk_cell HH.out (HC.out k hlt)
      have HT : Bx (ps.take (k + 1) = ps.take k ++ [pc[k].data.toList]) := ⟨by rw [List.take_add_one, HG.out k hlt]; rfl⟩
      have HIN : Bx (pc[k].data.toList ∈ ps) := ⟨List.mem_of_getElem? (HG.out k hlt)⟩
      have HFk := bx (HF.out pc[k] wr (HM.out.below HB.out) (HZ.out k hlt))
      cases hp : goodB pc[k].data.toList with
      | true =>
        rw [hp] at HFk
        have HP := bx hp
        clear hp
        have hkl : (k : Int) + 1 ≤ 4294967281 := by have := HL.out; omega
        go_wp2_with fail
        refine HFk.out.mono ?_
        rintro e w' ⟨rfl, hb⟩
        have HH2 := bx ((hb.block _ (blk_lt HH.out)).trans HH.out); have HB2 := bx (HB.out.trans (hb.mono HB.out.size))
        clear hb
        go_wp2_with fail
        go_roundw
        case rel => exact ⟨k + 1, by omega, by go_num, HH2.out, HB2.out, by rw [HT.out, List.all_append, HA.out]; simp [HP.out]⟩
        case measure => simp [intOf]; omega
      | false =>
        rw [hp] at HFk
        have HFF : Bx (ps.all goodB = false) := ⟨by
          rw [Bool.eq_false_iff]
          intro h
          have := List.all_eq_true.1 h _ HIN.out
          rw [hp] at this; cases this⟩
        clear hp
        go_wp2_with fail
        refine HFk.out.mono ?_
        rintro e w' ⟨rfl, hb⟩
        have HB2 := bx (HB.out.trans (hb.mono HB.out.size))
        clear hb
        go_wp2_with fail
        go_ret
        rw [HFF.out]
        exact ⟨rfl, HB2.out⟩
    · have hlt' : ¬ (k : Int) < pc.length := by omega
      obtain rfl : k = pc.length := by omega
      have HT : Bx (ps.all goodB = true) := ⟨by have := HA.out; rwa [List.take_of_length_le (by rw [HN.out]; exact Nat.le_refl _)] at this⟩
      go_wp2_with fail
      go_ret
      rw [HT.out]
      exact ⟨rfl, HB.out⟩
set_option maxRecDepth 100000 in
set_option maxHeartbeats 400000 in
theorem partF_any (s : ByteArray) (w : World) (hM : MaxAt w) (hs : s.size < 4294967281) :
    Calls Tryd.prog 59 #[.string s, .func (.func 31) #[] #[]] w fun e w' => e = .returned (.bool ((partsOf s.data.toList).all partB)) ∧ Below w.heap.size w w' := by
  have HM := bx hM; have HF : Bx (∀ (t : ByteArray) (w : World), MaxAt w → t.size < 4294967281 → Calls Tryd.prog 31 #[.string t] w fun e w' => e = .returned (.bool (partB t.data.toList)) ∧ Below w.heap.size w w') := ⟨fun t w hM hs => (part_any t w hM hs).mono fun e w' ⟨h1, h2⟩ => ⟨h1, h2 ▸ Below.refl _ _⟩⟩; have HS := bx (split_any s w hM hs)
  clear hM
  have HN := bx (pieces_len2 s); have HG := bx (pieces_get' s); have HC := bx (pieces_cell s)
  have HL : Bx ((piecesB s).length ≤ 4294967281) := ⟨by rw [pieces_len2]; have := (partsOf_sum s.data.toList).2; simp at this; omega⟩
  have HZ : Bx (∀ k (h : k < (piecesB s).length), (piecesB s)[k].size < 4294967281) := ⟨fun k h => by
    have h1 := pieces_get s k h
    have h2 := part_le (l := s.data.toList) (p := (partsOf s.data.toList)[k]'(by rw [← pieces_len2]; exact h)) (List.getElem_mem _)
    rw [← h1] at h2
    simp at h2
    omega⟩
  generalize partsOf s.data.toList = ps at *
  generalize piecesB s = pc at *
  go_enter Tryd.func59, Tryd.ntmps59
  go_wp2_with fail
  refine HS.out.mono ?_
  rintro e w' ⟨rfl, rfl⟩
  clear HS
  go_wp2_with fail
  go_loopw [6, 10] (fun q i wr => ∃ k : Nat, k ≤ pc.length ∧ i = .int .i64 k ∧ wr.heap[w.heap.size]? = some (.cells (pc.map Value.string).toArray 9 (0, 0)) ∧ Below w.heap.size w wr ∧ (ps.take k).all partB = true) (fun _ i _ => pc.length - (intOf i).toNat)
  case atStart => exact ⟨0, Nat.zero_le _, rfl, blk_new w _, (Below.refl _ _).alloc (Nat.le_refl _) _, rfl⟩
  case round =>
    rename_i wr
    obtain ⟨k, hk, rfl, hh, hbel, hall⟩ := hrel
    have HH := bx hh; have HB := bx hbel; have HA := bx hall
    clear hh hbel hall
    by_cases hlt : k < pc.length
    · have hlt' : (k : Int) < pc.length := by omega
      have hcell : wr.cell? ⟨w.heap.size, k, none⟩ = some (.string pc[k]) := blk_cell HH.out (HC.out k hlt)
      have HT : Bx (ps.take (k + 1) = ps.take k ++ [pc[k].data.toList]) := ⟨by rw [List.take_add_one, HG.out k hlt]; rfl⟩
      have HIN : Bx (pc[k].data.toList ∈ ps) := ⟨List.mem_of_getElem? (HG.out k hlt)⟩
      have HFk := bx (HF.out pc[k] wr (HM.out.below HB.out) (HZ.out k hlt))
      cases hp : partB pc[k].data.toList with
      | true =>
        rw [hp] at HFk
        have HP := bx hp
        clear hp
        have hkl : (k : Int) + 1 ≤ 4294967281 := by have := HL.out; omega
        go_wp2_with fail
        refine HFk.out.mono ?_
        rintro e w' ⟨rfl, hb⟩
        have HH2 := bx ((hb.block _ (blk_lt HH.out)).trans HH.out); have HB2 := bx (HB.out.trans (hb.mono HB.out.size))
        clear hb
        go_wp2_with fail
        go_roundw
        case rel => exact ⟨k + 1, by omega, by go_num, HH2.out, HB2.out, by rw [HT.out, List.all_append, HA.out]; simp [HP.out]⟩
        case measure => simp [intOf]; omega
      | false =>
        rw [hp] at HFk
        have HFF : Bx (ps.all partB = false) := ⟨by
          rw [Bool.eq_false_iff]
          intro h
          have := List.all_eq_true.1 h _ HIN.out
          rw [hp] at this; cases this⟩
        clear hp
        go_wp2_with fail
        refine HFk.out.mono ?_
        rintro e w' ⟨rfl, hb⟩
        have HB2 := bx (HB.out.trans (hb.mono HB.out.size))
        clear hb
        go_wp2_with fail
        go_ret
        rw [HFF.out]
        exact ⟨rfl, HB2.out⟩
    · have hlt' : ¬ (k : Int) < pc.length := by omega
      obtain rfl : k = pc.length := by omega
      have HT : Bx (ps.all partB = true) := ⟨by have := HA.out; rwa [List.take_of_length_le (by rw [HN.out]; exact Nat.le_refl _)] at this⟩
      go_wp2_with fail
      go_ret
      rw [HT.out]
      exact ⟨rfl, HB.out⟩
set_option maxRecDepth 100000 in
set_option maxHeartbeats 400000 in
theorem kind_any (s : ByteArray) (w : World) (hM : MaxAt w) (hs : s.size < 4294967281) :
    Calls Tryd.prog 41 #[.string s] w fun e w' => e = .returned (.int .i64 (kindB s.data.toList)) ∧ Below w.heap.size w w' := by
  have hlen : s.data.toList.length = s.size := by simp
  have HA := bx (goodF_any s w hM hs)
  have HH := bx (fun w => prefix_any s ⟨#[104, 101, 97, 100, 115, 47]⟩ w)
  have HT := bx (fun w => prefix_any s ⟨#[116, 97, 103, 115, 47]⟩ w)
  have HK : Bx (kindB s.data.toList = if 64 < s.data.toList.length then 0 else if (partsOf s.data.toList).all goodB = false then 0 else if Lib.hasPrefix s.data.toList (headsL ++ [47]) = true then 1 else if Lib.hasPrefix s.data.toList (tagsL ++ [47]) = true then 2 else 0) := ⟨rfl⟩
  rw [show (⟨#[104, 101, 97, 100, 115, 47]⟩ : ByteArray).data.toList = headsL ++ [47] from rfl] at HH
  rw [show (⟨#[116, 97, 103, 115, 47]⟩ : ByteArray).data.toList = tagsL ++ [47] from rfl] at HT
  generalize (partsOf s.data.toList).all goodB = ba at *
  generalize Lib.hasPrefix s.data.toList (headsL ++ [47]) = bh at *
  generalize Lib.hasPrefix s.data.toList (tagsL ++ [47]) = bt at *
  generalize kindB s.data.toList = K at *
  by_cases h64 : 64 < s.size
  · obtain rfl : K = 0 := by rw [HK.out, if_pos (by omega)]
    have h64' : (64 : Int) < s.size := by omega
    clear hlen
    go_enter Tryd.func41, Tryd.ntmps41
    go_wp2_with fail
    go_ret
    exact ⟨rfl, Below.refl _ _⟩
  · have h64' : ¬ (64 : Int) < s.size := by omega
    have HK2 : Bx (K = if ba = false then 0 else if bh = true then 1 else if bt = true then 2 else 0) := ⟨by rw [HK.out, if_neg (by omega)]⟩
    clear hlen HK h64
    cases ba with
    | false =>
      obtain rfl : K = 0 := by rw [HK2.out]; rfl
      go_enter Tryd.func41, Tryd.ntmps41
      go_wp2_with fail
      refine HA.out.mono ?_
      rintro e w' ⟨rfl, hb⟩
      have HB := bx hb
      clear hb
      go_wp2_with fail
      go_ret
      exact ⟨rfl, HB.out⟩
    | true =>
      cases bh with
      | true =>
        obtain rfl : K = 1 := by rw [HK2.out]; rfl
        go_enter Tryd.func41, Tryd.ntmps41
        go_wp2_with fail
        refine HA.out.mono ?_
        rintro e w' ⟨rfl, hb⟩
        have HB := bx hb
        clear hb
        go_wp2_with fail
        refine (HH.out _).mono ?_
        rintro e w2 ⟨rfl, rfl⟩
        go_wp2_with fail
        go_ret
        exact ⟨rfl, HB.out⟩
      | false =>
        have HK3 : Bx (K = if bt = true then 2 else 0) := ⟨HK2.out⟩
        clear HK2
        cases bt with
        | true =>
          obtain rfl : K = 2 := by rw [HK3.out]; rfl
          go_enter Tryd.func41, Tryd.ntmps41
          go_wp2_with fail
          refine HA.out.mono ?_
          rintro e w' ⟨rfl, hb⟩
          have HB := bx hb
          clear hb
          go_wp2_with fail
          refine (HH.out _).mono ?_
          rintro e w2 ⟨rfl, rfl⟩
          go_wp2_with fail
          refine (HT.out _).mono ?_
          rintro e w2 ⟨rfl, rfl⟩
          go_wp2_with fail
          go_ret
          exact ⟨rfl, HB.out⟩
        | false =>
          obtain rfl : K = 0 := by rw [HK3.out]; rfl
          go_enter Tryd.func41, Tryd.ntmps41
          go_wp2_with fail
          refine HA.out.mono ?_
          rintro e w' ⟨rfl, hb⟩
          have HB := bx hb
          clear hb
          go_wp2_with fail
          refine (HH.out _).mono ?_
          rintro e w2 ⟨rfl, rfl⟩
          go_wp2_with fail
          refine (HT.out _).mono ?_
          rintro e w2 ⟨rfl, rfl⟩
          go_wp2_with fail
          go_ret
          exact ⟨rfl, HB.out⟩
/-- A value that reads as these texts. -/
def StrsV (w : World) (v : Value) (ls : List (List UInt8)) : Prop :=
  ∃ A c, v = .slice A ls.length c ∧ ls.length ≤ c ∧ (0 < ls.length → ∃ b o, A = some ⟨b, o, none⟩ ∧ b < w.heap.size ∧ ∀ j (h : j < ls.length), ∃ t : ByteArray, w.cell? ⟨b, o + j, none⟩ = some (.string t) ∧ t.data.toList = ls[j])
theorem StrsV.below {w w' : World} {v : Value} {ls : List (List UInt8)} (h : StrsV w v ls) (hb : Below w.heap.size w w') : StrsV w' v ls := by
  obtain ⟨A, c, h1, h2, h3⟩ := h
  refine ⟨A, c, h1, h2, fun hp => ?_⟩
  obtain ⟨b, o, e, hlt, hc⟩ := h3 hp
  refine ⟨b, o, e, Nat.lt_of_lt_of_le hlt hb.size, fun j hj => ?_⟩
  obtain ⟨t, ht, h4⟩ := hc j hj
  exact ⟨t, (hb.cell (p := ⟨b, o + j, none⟩) hlt).trans ht, h4⟩
theorem strsV_nil (w : World) : StrsV w (.slice none 0 0) [] := ⟨none, 0, rfl, Nat.le_refl _, fun h => absurd h (by decide)⟩
def PathOut (l : List UInt8) (w : World) (e : Ending) (w' : World) : Prop := ∃ v, e = .returned (.tuple #[v, .bool (pathB l)]) ∧ StrsV w' v (if pathB l = true then partsOf l else []) ∧ Below w.heap.size w w'
end Go.Proofs.YtoompcgdhokdlaaDoor

set_option linter.unusedSimpArgs false
set_option linter.unusedVariables false
namespace Go.Proofs.YtoompcgdhokdlaaDoor
open Go.RowKit

set_option maxRecDepth 100000 in
theorem less_any (a b : ByteArray) (w : World) : Calls Tryd.prog 32 #[.string a, .string b] w fun e w' => e = .returned (.bool (Op.bytesLess a.data.toList b.data.toList)) ∧ w = w' := by
  rw [← ByteArray.toList_eq, ← ByteArray.toList_eq]
  go_enter Tryd.func32, Tryd.ntmps32
  go_wp2_with fail
  go_ret
  exact ⟨rfl, rfl⟩
theorem less_skip : ∀ (k : Nat) (a b : List UInt8), a.take k = b.take k → k ≤ a.length → k ≤ b.length → Op.bytesLess a b = Op.bytesLess (a.drop k) (b.drop k)
  | 0, a, b, _, _, _ => rfl
  | k + 1, [], b, _, h, _ => by simp at h
  | k + 1, _ :: _, [], _, _, h => by simp at h
  | k + 1, x :: a, y :: b, h, ha, hb => by
    simp only [List.take_succ_cons, List.cons.injEq] at h
    obtain ⟨rfl, h⟩ := h
    simp only [List.length_cons] at ha hb
    simp only [Op.bytesLess, List.drop_succ_cons]
    rw [less_skip k a b h (by omega) (by omega)]
    simp
set_option maxRecDepth 100000 in
set_option maxHeartbeats 400000 in
theorem rless_any (a b : ByteArray) (w : World) (ha : a.size ≤ 4294967281) (hb : b.size ≤ 4294967281) : Calls Tryd.prog 37 #[.string a, .string b] w fun e w' => e = .returned (.bool (Op.bytesLess a.data.toList b.data.toList)) ∧ Below w.heap.size w w' := by
  have hla : a.data.toList.length = a.size := by simp
  have hlb : b.data.toList.length = b.size := by simp
  have HLA := bx hla; have HLB := bx hlb
  clear hla hlb
  go_enter Tryd.func37, Tryd.ntmps37
  go_wp2_with fail
  go_loopw [5] (fun i wr => ∃ k : Nat, k ≤ a.size ∧ k ≤ b.size ∧ i = .int .i64 k ∧ Below w.heap.size w wr ∧ a.data.toList.take k = b.data.toList.take k) (fun i _ => a.size - (intOf i).toNat)
  case atStart => exact ⟨0, Nat.zero_le _, Nat.zero_le _, rfl, Below.refl _ _, rfl⟩
  case round =>
    rename_i wr
    obtain ⟨k, hka, hkb, rfl, hbel, heq⟩ := hrel
    have HB := bx hbel; have HE := bx heq
    have HS := bx (less_skip k a.data.toList b.data.toList heq (by rw [HLA.out]; exact hka) (by rw [HLB.out]; exact hkb))
    clear hbel heq
    by_cases h1 : k < a.size
    · have h1' : (k : Int) < a.size := by omega
      by_cases h2 : k < b.size
      · have h2' : (k : Int) < b.size := by omega
        have HD1 : Bx (a.data.toList.drop k = a[k] :: a.data.toList.drop (k + 1)) := ⟨by rw [List.drop_eq_getElem_cons (by rw [HLA.out]; exact h1)]; rfl⟩
        have HD2 : Bx (b.data.toList.drop k = b[k] :: b.data.toList.drop (k + 1)) := ⟨by rw [List.drop_eq_getElem_cons (by rw [HLB.out]; exact h2)]; rfl⟩
        have HT1 := bx (take_data a k h1); have HT2 := bx (take_data b k h2)
        have hk63 : (k : Int) + 1 ≤ 9223372036854775807 := by omega
        have ix : (Instr.index 9 (.string a) (.int .i64 k)).run Tryd.prog wr.drew = .ok (.int .u8 a[k].toNat) wr.drew := by go_simp
        have iy : (Instr.index 9 (.string b) (.int .i64 k)).run Tryd.prog wr.drew = .ok (.int .u8 b[k].toNat) wr.drew := by go_simp
        by_cases he : a[k] = b[k]
        · have he' : ((a[k].toNat : Int) != b[k].toNat) = false := by simp [he]
          have HQ := bx he
          clear he
          go_upto_region 4 with fail
          try simp only [Act.put]
          refine region_quietC (fun w' => w' = wr.drew) (by kernel_rfl) (by kernel_rfl) rfl ?_
          repeat (first
            | (refine quiet_take (v := ?_) _ rfl (by kernel_rfl) ?_ ?_; rotate_left 1; (focus (first | (intro w' hw'; clear hw'; unfold Oper.quietAt; go_simp; done) | (intro w' hw'; clear hw'; unfold Oper.quietAt; go_simp; with_reducible rfl) | (intro w' hw'; subst hw'; unfold Oper.quietAt; go_simp; first | done | with_reducible rfl))); try simp only [List.setIfInBounds_toArray, List.set_cons_zero, List.set_cons_succ]))
          refine wpQuiet_nil ?_
          rintro w' rfl
          clear ix iy he'
          go_wp2_with fail
          go_roundw
          case rel => exact ⟨k + 1, by omega, by omega, by go_num, HB.out.drew, by rw [HT1.out, HT2.out, HE.out, HQ.out]⟩
          case measure => simp [intOf]; omega
        · have he' : ((a[k].toNat : Int) != b[k].toNat) = true := by
            rw [bne_iff_ne]; exact fun e => he (UInt8.toNat_inj.1 (by omega))
          have HF : Bx (Op.bytesLess a.data.toList b.data.toList = decide (a[k].toNat < b[k].toNat)) := ⟨by
            rw [HS.out, HD1.out, HD2.out, Op.bytesLess, beq_eq_false_iff_ne.2 he, Bool.false_and, Bool.or_false]
            rw [Bool.eq_iff_iff]; simp [UInt8.lt_iff_toNat_lt]⟩
          clear he
          go_upto_region 4 with fail
          try simp only [Act.put]
          refine region_quietC (fun w' => w' = wr.drew) (by kernel_rfl) (by kernel_rfl) rfl ?_
          repeat (first
            | (refine quiet_take (v := ?_) _ rfl (by kernel_rfl) ?_ ?_; rotate_left 1; (focus (first | (intro w' hw'; clear hw'; unfold Oper.quietAt; go_simp; done) | (intro w' hw'; clear hw'; unfold Oper.quietAt; go_simp; with_reducible rfl) | (intro w' hw'; subst hw'; unfold Oper.quietAt; go_simp; first | done | with_reducible rfl))); try simp only [List.setIfInBounds_toArray, List.set_cons_zero, List.set_cons_succ]))
          refine wpQuiet_nil ?_
          rintro w' rfl
          clear ix iy he'
          go_upto_region 5 with fail
          have ix2 : (Instr.index 9 (.string a) (.int .i64 k)).run Tryd.prog wr.drew.drew = .ok (.int .u8 a[k].toNat) wr.drew.drew := by go_simp
          have iy2 : (Instr.index 9 (.string b) (.int .i64 k)).run Tryd.prog wr.drew.drew = .ok (.int .u8 b[k].toNat) wr.drew.drew := by go_simp
          try simp only [Act.put]
          refine region_quietC (fun w' => w' = wr.drew.drew) (by kernel_rfl) (by kernel_rfl) rfl ?_
          repeat (first
            | (refine quiet_take (v := ?_) _ rfl (by kernel_rfl) ?_ ?_; rotate_left 1; (focus (first | (intro w' hw'; clear hw'; unfold Oper.quietAt; go_simp; done) | (intro w' hw'; clear hw'; unfold Oper.quietAt; go_simp; with_reducible rfl) | (intro w' hw'; subst hw'; unfold Oper.quietAt; go_simp; first | done | with_reducible rfl))); try simp only [List.setIfInBounds_toArray, List.set_cons_zero, List.set_cons_succ]))
          refine wpQuiet_nil ?_
          rintro w' rfl
          clear ix2 iy2
          go_wp2_with fail
          go_ret
          rw [HF.out]
          exact ⟨rfl, HB.out.drew.drew⟩
      · have h2' : ¬ (k : Int) < b.size := by omega
        have h3' : ¬ (a.size : Int) < b.size := by omega
        have HF : Bx (Op.bytesLess a.data.toList b.data.toList = false) := ⟨by
          rw [HS.out, List.drop_of_length_le (l := b.data.toList) (by rw [HLB.out]; omega)]
          cases a.data.toList.drop k <;> rfl⟩
        go_wp2_with fail
        go_ret
        rw [HF.out]
        exact ⟨rfl, HB.out⟩
    · have h1' : ¬ (k : Int) < a.size := by omega
      have HF : Bx (Op.bytesLess a.data.toList b.data.toList = decide (a.size < b.size)) := ⟨by
        rw [HS.out, List.drop_of_length_le (l := a.data.toList) (by rw [HLA.out]; omega)]
        by_cases hb2 : k < b.size
        · rw [List.drop_eq_getElem_cons (by rw [HLB.out]; exact hb2), decide_eq_true (by omega)]; rfl
        · rw [List.drop_of_length_le (by rw [HLB.out]; omega), decide_eq_false (by omega)]; rfl⟩
      go_wp2_with fail
      go_ret
      rw [HF.out]
      exact ⟨rfl, HB.out⟩
end Go.Proofs.YtoompcgdhokdlaaDoor
