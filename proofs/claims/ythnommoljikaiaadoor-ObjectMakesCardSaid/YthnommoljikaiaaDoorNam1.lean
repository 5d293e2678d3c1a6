/- Names, plainly: parts of a text, what may be one, kinds, order. No program in it. -/
import Derived.Lib.SplitLaws
import Derived.Lib.IndexMore
import Derived.Lib.Strings
set_option linter.unusedVariables false
set_option linter.unusedSimpArgs false
namespace Go.Proofs.YthnommoljikaiaaDoor
open Go.Lib

/-- A letter of a reference's name. -/
def letterZ (c : Int) : Bool := (decide (97 ≤ c) && decide (c ≤ 122)) || ((decide (65 ≤ c) && decide (c ≤ 90)) || ((decide (48 ≤ c) && decide (c ≤ 57)) || (c == 45 || (c == 95 || c == 46))))
def letB (c : UInt8) : Bool := letterZ c.toNat
/-- One more letter of a text: its parts. -/
def partStep (acc : List (List UInt8)) (c : UInt8) : List (List UInt8) := if c = 47 then acc ++ [[]] else acc.dropLast ++ [acc.getLastD [] ++ [c]]
def partsOf (l : List UInt8) : List (List UInt8) := l.foldl partStep [[]]
theorem partsOf_snoc (l : List UInt8) (c : UInt8) : partsOf (l ++ [c]) = partStep (partsOf l) c := by simp [partsOf]
theorem partStep_pre (pre acc : List (List UInt8)) (h : acc ≠ []) (c : UInt8) : partStep (pre ++ acc) c = pre ++ partStep acc c := by
  unfold partStep
  split
  · simp
  · rw [List.dropLast_append_of_ne_nil h, List.getLastD_eq_getLast?, List.getLastD_eq_getLast?, List.getLast?_append, List.append_assoc]
    cases hg : acc.getLast? with
    | none => exact absurd (List.getLast?_eq_none_iff.1 hg) h
    | some q => simp
theorem partStep_ne (acc : List (List UInt8)) (c : UInt8) : partStep acc c ≠ [] := by unfold partStep; split <;> simp
theorem foldl_pre (l : List UInt8) : ∀ (pre acc : List (List UInt8)), acc ≠ [] → l.foldl partStep (pre ++ acc) = pre ++ l.foldl partStep acc := by
  induction l with
  | nil => intro pre acc _; rfl
  | cons c l ih => intro pre acc h; rw [List.foldl_cons, List.foldl_cons, partStep_pre pre acc h, ih pre _ (partStep_ne acc c)]
theorem foldl_ne (l : List UInt8) : ∀ acc : List (List UInt8), acc ≠ [] → l.foldl partStep acc ≠ [] := by
  induction l with
  | nil => intro acc h; exact h
  | cons c l ih => intro acc _; exact ih _ (partStep_ne acc c)
theorem partsOf_ne (l : List UInt8) : partsOf l ≠ [] := foldl_ne l _ (by simp)
theorem partsOf_pos (l : List UInt8) : 0 < (partsOf l).length := List.length_pos_iff.2 (partsOf_ne l)
theorem foldl_plain (a : List UInt8) : ∀ x : List UInt8, 47 ∉ a → a.foldl partStep [x] = [x ++ a] := by
  induction a with
  | nil => intro x _; simp
  | cons c a ih =>
    intro x h
    simp only [List.mem_cons, not_or] at h
    have e : partStep [x] c = [x ++ [c]] := by unfold partStep; rw [if_neg (fun e => h.1 e.symm)]; rfl
    rw [List.foldl_cons, e, ih _ h.2]; simp
theorem partsOf_plain (a : List UInt8) (h : 47 ∉ a) : partsOf a = [a] := by unfold partsOf; rw [foldl_plain a [] h]; rfl
/-- Parts of what is joined by a slash. -/
theorem partsOf_join (a b : List UInt8) : partsOf (a ++ 47 :: b) = partsOf a ++ partsOf b := by
  have e : partStep (partsOf a) 47 = partsOf a ++ [[]] := by unfold partStep; rw [if_pos rfl]
  show List.foldl partStep [[]] (a ++ 47 :: b) = _
  rw [List.foldl_append, List.foldl_cons]
  show List.foldl partStep (partStep (partsOf a) 47) b = _
  rw [e, foldl_pre b (partsOf a) [[]] (by simp)]
  rfl
theorem partsOf_no (l : List UInt8) : ∀ p ∈ partsOf l, 47 ∉ p := by
  have key : ∀ (l : List UInt8) (acc : List (List UInt8)), (∀ p ∈ acc, 47 ∉ p) → ∀ p ∈ l.foldl partStep acc, 47 ∉ p := by
    intro l
    induction l with
    | nil => intro acc h; exact h
    | cons c l ih =>
      intro acc h
      refine ih _ ?_
      intro p hp
      unfold partStep at hp
      split at hp
      · rcases List.mem_append.1 hp with hp | hp
        · exact h p hp
        · rw [List.mem_singleton] at hp; subst hp; simp
      · rename_i hc
        rcases List.mem_append.1 hp with hp | hp
        · exact h p (List.dropLast_subset acc hp)
        · rw [List.mem_singleton] at hp
          subst hp
          intro hm
          rcases List.mem_append.1 hm with hm | hm
          · rw [List.getLastD_eq_getLast?] at hm
            cases hg : acc.getLast? with
            | none => rw [hg] at hm; simp at hm
            | some q => rw [hg] at hm; exact h q (List.mem_of_getLast? hg) hm
          · rw [List.mem_singleton] at hm; exact hc hm.symm
  exact key l [[]] (by simp)
theorem cut47 (l : List UInt8) (h : 47 ∈ l) : ∃ a b, l = a ++ 47 :: b ∧ 47 ∉ a := by
  induction l with
  | nil => cases h
  | cons c l ih =>
    by_cases hc : c = 47
    · exact ⟨[], l, by rw [hc]; rfl, by simp⟩
    · obtain ⟨a, b, e, hn⟩ := ih ((List.mem_cons.1 h).resolve_left fun e => hc e.symm)
      refine ⟨c :: a, b, by rw [e]; rfl, ?_⟩
      intro hm
      rcases List.mem_cons.1 hm with hm | hm
      · exact hc hm.symm
      · exact hn hm
theorem occ_one (s : List UInt8) (c : UInt8) (j : Nat) : occAt s [c] j = true ↔ s[j]? = some c := by
  unfold occAt
  rw [List.isPrefixOf_iff_prefix]
  constructor
  · rintro ⟨t, ht⟩
    have := congrArg (fun l => l[0]?) ht
    simpa using this.symm
  · intro h
    obtain ⟨hl, he⟩ := List.getElem?_eq_some_iff.1 h
    exact ⟨s.drop (j + 1), by rw [List.drop_eq_getElem_cons hl, he]; rfl⟩
theorem index_hit1 (a b : List UInt8) (c : UInt8) (h : c ∉ a) : index (a ++ c :: b) [c] = a.length := by
  refine index_first (by simp) ((occ_one _ _ _).2 (by simp)) fun j hj => ?_
  rw [Bool.eq_false_iff]
  intro ho
  rw [occ_one, List.getElem?_append_left hj] at ho
  exact h (List.mem_of_getElem? ho)
theorem index_miss1 (a : List UInt8) (c : UInt8) (h : c ∉ a) : index a [c] = -1 := by
  refine index_none fun j hj => ?_
  rw [Bool.eq_false_iff]
  intro ho
  rw [occ_one] at ho
  exact h (List.mem_of_getElem? ho)
/-- What the library's Split tells. -/
theorem split_parts : ∀ (n : Nat) (l : List UInt8), l.length ≤ n → split l [47] = partsOf l := by
  intro n
  induction n with
  | zero =>
    intro l hl
    have : l = [] := List.length_eq_zero_iff.1 (by omega)
    subst this
    rfl
  | succ n ih =>
    intro l hl
    by_cases hm : 47 ∈ l
    · obtain ⟨a, b, e, hn⟩ := cut47 l hm
      subst e
      have hi := index_hit1 a b 47 hn
      have hc := count_hit (s := a ++ 47 :: b) (sub := [47]) (by simp) hi
      have hd : (a ++ 47 :: b).drop (a.length + 1) = b := by rw [← List.drop_drop]; simp
      rw [show ([47] : List UInt8).length = 1 from rfl, hd] at hc
      have hne : ¬ (index (a ++ 47 :: b) [47] == -1) = true := by rw [hi]; simp
      unfold split
      rw [hc, Nat.add_comm 1, splitK, if_neg hne, hi, show ((a.length : Nat) : Int).toNat = a.length from rfl]
      rw [show ([47] : List UInt8).length = 1 from rfl, hd, Nat.add_zero]
      rw [partsOf_join, partsOf_plain a hn]
      have := ih b (by simp at hl; omega)
      unfold split at this
      rw [this]
      simp
    · have hi := index_miss1 l 47 hm
      unfold split
      rw [count_miss hi, partsOf_plain l hm]
      rfl
theorem contains_one (l : List UInt8) (c : UInt8) : contains l [c] = decide (c ∈ l) := by
  unfold contains
  by_cases h : c ∈ l
  · rw [decide_eq_true h, decide_eq_true_eq]
    rcases index_spec l [c] with ⟨h1, h2⟩ | ⟨i, h1, _⟩
    · obtain ⟨j, hj, e⟩ := List.mem_iff_getElem.1 h
      have := h2 j (by omega)
      rw [Bool.eq_false_iff] at this
      exact absurd ((occ_one l c j).2 (by rw [List.getElem?_eq_getElem hj, e])) this
    · omega
  · rw [decide_eq_false h, decide_eq_false_iff_not, index_miss1 l c h]; decide
/-- Two dots. -/
def dotsB (l : List UInt8) : Bool := (List.range l.length).any fun i => decide (0 < i) && (l.getD i 0 == 46 && l.getD (i - 1) 0 == 46)
theorem occ_dots (l : List UInt8) (j : Nat) : occAt l [46, 46] j = true ↔ l[j]? = some 46 ∧ l[j + 1]? = some 46 := by
  unfold occAt
  rw [List.isPrefixOf_iff_prefix]
  constructor
  · rintro ⟨t, ht⟩
    have h0 := congrArg (fun l => l[0]?) ht
    have h1 := congrArg (fun l => l[1]?) ht
    simp at h0 h1
    exact ⟨h0.symm, h1.symm⟩
  · rintro ⟨h0, h1⟩
    obtain ⟨hl0, he0⟩ := List.getElem?_eq_some_iff.1 h0
    obtain ⟨hl1, he1⟩ := List.getElem?_eq_some_iff.1 h1
    exact ⟨l.drop (j + 2), by rw [List.drop_eq_getElem_cons hl0, List.drop_eq_getElem_cons hl1, he0, he1]; rfl⟩
theorem contains_dots (l : List UInt8) : contains l [46, 46] = dotsB l := by
  rw [Bool.eq_iff_iff]
  unfold contains
  rw [decide_eq_true_eq]
  constructor
  · intro h
    rcases index_spec l [46, 46] with ⟨h1, _⟩ | ⟨i, h1, h2, h3, _⟩
    · omega
    · obtain ⟨e0, e1⟩ := (occ_dots l i).1 h3
      obtain ⟨hl1, he1⟩ := List.getElem?_eq_some_iff.1 e1
      refine List.any_eq_true.2 ⟨i + 1, List.mem_range.2 hl1, ?_⟩
      simp [List.getD_eq_getElem?_getD, e0, e1]
  · intro h
    obtain ⟨i, hi, hp⟩ := List.any_eq_true.1 h
    have hi' := List.mem_range.1 hi
    simp only [Bool.and_eq_true, decide_eq_true_eq, beq_iff_eq] at hp
    obtain ⟨h0, h1, h2⟩ := hp
    rcases index_spec l [46, 46] with ⟨e1, e2⟩ | ⟨k, e1, _⟩
    · have := e2 (i - 1) (by omega)
      rw [Bool.eq_false_iff] at this
      refine absurd ((occ_dots l (i - 1)).2 ⟨?_, ?_⟩) this
      · rw [List.getD_eq_getElem?_getD, List.getElem?_eq_getElem (show i - 1 < l.length by omega)] at h2
        rw [List.getElem?_eq_getElem (show i - 1 < l.length by omega)]
        simpa using h2
      · rw [show i - 1 + 1 = i by omega, List.getElem?_eq_getElem hi']
        rw [List.getD_eq_getElem?_getD, List.getElem?_eq_getElem hi'] at h1
        simpa using h1
    · omega
def lockL : List UInt8 := [46, 108, 111, 99, 107]
/-- May a part of a reference's name be? -/
def goodB (l : List UInt8) : Bool := !l.isEmpty && (!(l.getD 0 0 == 45) && (!(l.getD 0 0 == 46) && (!(l.getD (l.length - 1) 0 == 46) && (l.all letB && (!dotsB l && !hasSuffix l lockL)))))
theorem hasSuffix_one (l : List UInt8) (c : UInt8) : hasSuffix l [c] = (!l.isEmpty && l.getD (l.length - 1) 0 == c) := by
  rw [← hasSuffix_of_drop]
  cases h : l.isEmpty with
  | true =>
    have : l = [] := by simpa using h
    subst this
    rfl
  | false =>
    have hne : l ≠ [] := by intro e; subst e; simp at h
    have hl : l.length - 1 < l.length := by have := List.length_pos_iff.2 hne; omega
    have hp := List.length_pos_iff.2 hne
    simp only [List.length_cons, List.length_nil, Nat.zero_add, Bool.not_false, Bool.true_and, List.getD_eq_getElem?_getD, List.getElem?_eq_getElem hl, Option.getD_some]
    rw [List.drop_eq_getElem_cons hl, show l.length - 1 + 1 = l.length by omega, List.drop_length]
    simp [hp]
    omega
theorem partB_len (l : List UInt8) : l.isEmpty = decide (l = []) := by cases l <;> simp
/-- May a text be a name in a tree? -/
def partB (l : List UInt8) : Bool := !l.isEmpty && (!(l == [46]) && (!(l == [46, 46]) && (decide (l.length ≤ 64) && (!decide (47 ∈ l) && !decide (0 ∈ l)))))
def headsL : List UInt8 := [104, 101, 97, 100, 115]
def tagsL : List UInt8 := [116, 97, 103, 115]
def kindB (l : List UInt8) : Int := if 64 < l.length then 0 else if (partsOf l).all goodB = false then 0 else if hasPrefix l (headsL ++ [47]) = true then 1 else if hasPrefix l (tagsL ++ [47]) = true then 2 else 0
def pathB (l : List UInt8) : Bool := decide (l.length ≤ 65536) && (partsOf l).all partB
theorem prefix_parts (l h : List UInt8) (hn : 47 ∉ h) : hasPrefix l (h ++ [47]) = (decide (1 < (partsOf l).length) && (partsOf l).getD 0 [] == h) := by
  rw [Bool.eq_iff_iff, Bool.and_eq_true, decide_eq_true_eq, beq_iff_eq]
  unfold hasPrefix
  rw [List.isPrefixOf_iff_prefix]
  constructor
  · rintro ⟨t, rfl⟩
    have e : h ++ [47] ++ t = h ++ 47 :: t := by simp
    rw [e, partsOf_join, partsOf_plain h hn]
    have := partsOf_pos t
    exact ⟨by simp; omega, rfl⟩
  · rintro ⟨h1, h2⟩
    by_cases hm : 47 ∈ l
    · obtain ⟨a, b, e, ha⟩ := cut47 l hm
      subst e
      rw [partsOf_join, partsOf_plain a ha] at h2
      have : a = h := by simpa using h2
      subst this
      exact ⟨b, by simp⟩
    · rw [partsOf_plain l hm] at h1
      simp at h1
theorem heads_no : (47 : UInt8) ∉ headsL := by decide
theorem tags_no : (47 : UInt8) ∉ tagsL := by decide
theorem kindB_ref (l : List UInt8) : kindB l = if 64 < l.length then 0 else if (partsOf l).all goodB = false then 0 else if (decide (1 < (partsOf l).length) && (partsOf l).getD 0 [] == headsL) = true then 1 else if (decide (1 < (partsOf l).length) && (partsOf l).getD 0 [] == tagsL) = true then 2 else 0 := by
  unfold kindB
  rw [prefix_parts l headsL heads_no, prefix_parts l tagsL tags_no]
end Go.Proofs.YthnommoljikaiaaDoor
