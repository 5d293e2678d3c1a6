/- The walks over the program's names: Part, all, Kind, Path, Less. -/
import Derived.Test.YthnommoljikaiaaDoorNam3
set_option linter.unusedSimpArgs false
set_option linter.unusedVariables false
namespace Go.Proofs.YthnommoljikaiaaDoor
open Go.RowKit

set_option maxRecDepth 100000 in
set_option maxHeartbeats 400000 in
theorem part_any (s : ByteArray) (w : World) (hM : MaxAt w) (hs : s.size < 4294967281) :
    Calls Tryd.prog 15 #[.string s] w fun e w' => e = .returned (.bool (partB s.data.toList)) ∧ w = w' := by
  have HM := bx hM
  clear hM
  have hlen : s.data.toList.length = s.size := by simp
  have HC := bx (fun w hM => contains_any s ⟨#[47]⟩ w hM hs)
  have HZ := bx (fun w hM => contains_any s ⟨#[0]⟩ w hM hs)
  rw [show (⟨#[47]⟩ : ByteArray).data.toList = [47] from rfl, contains_one] at HC
  rw [show (⟨#[0]⟩ : ByteArray).data.toList = [0] from rfl, contains_one] at HZ
  have HE := bx (ByteArray.toList_eq s)
  obtain ⟨l, hl⟩ : ∃ l, l = s.data.toList := ⟨_, rfl⟩
  rw [← hl] at hlen HC HZ HE ⊢
  clear hl
  have q1 : s.toList.isEmpty = l.isEmpty := by rw [HE.out]
  have q2 : (s.toList == [46]) = (l == [46]) := by rw [HE.out]
  have q3 : (s.toList == [46, 46]) = (l == [46, 46]) := by rw [HE.out]
  have q4 : (s.size : Int) ≤ 64 ↔ l.length ≤ 64 := by omega
  have HP : Bx (partB l = (!l.isEmpty && (!(l == [46]) && (!(l == [46, 46]) && (decide (l.length ≤ 64) && (!decide (47 ∈ l) && !decide (0 ∈ l))))))) := ⟨rfl⟩
  generalize decide (47 ∈ l) = c47 at *
  generalize decide (0 ∈ l) = c0 at *
  cases h1 : l.isEmpty with
  | true =>
    rw [h1] at q1
    have HF : Bx (partB l = false) := ⟨by rw [HP.out, h1]; rfl⟩
    clear q2 q3 q4 h1 hlen
    go_enter Tryd.func15, Tryd.ntmps15
    go_wp2_with fail
    go_ret
    rw [HF.out]
    exact ⟨rfl, rfl⟩
  | false =>
    rw [h1] at q1
    cases h2 : l == [46] with
    | true =>
      rw [h2] at q2
      have HF : Bx (partB l = false) := ⟨by rw [HP.out, h1, h2]; rfl⟩
      clear q3 q4 h1 h2 hlen
      go_enter Tryd.func15, Tryd.ntmps15
      go_wp2_with fail
      go_ret
      rw [HF.out]
      exact ⟨rfl, rfl⟩
    | false =>
      rw [h2] at q2
      cases h3 : l == [46, 46] with
      | true =>
        rw [h3] at q3
        have HF : Bx (partB l = false) := ⟨by rw [HP.out, h1, h2, h3]; rfl⟩
        clear q4 h1 h2 h3 hlen
        go_enter Tryd.func15, Tryd.ntmps15
        go_wp2_with fail
        go_ret
        rw [HF.out]
        exact ⟨rfl, rfl⟩
      | false =>
        rw [h3] at q3
        by_cases h4 : l.length ≤ 64
        · have h4' : s.size ≤ 64 := by omega
          cases c47 with
          | true =>
            have HF : Bx (partB l = false) := ⟨by rw [HP.out, h1, h2, h3, decide_eq_true h4]; rfl⟩
            clear q4 h1 h2 h3 hlen h4
            go_enter Tryd.func15, Tryd.ntmps15
            go_wp2_with fail
            refine (HC.out _ HM.out).mono ?_
            rintro e w' ⟨rfl, rfl⟩
            go_wp2_with fail
            go_ret
            rw [HF.out]
            exact ⟨rfl, rfl⟩
          | false =>
            have HF : Bx (partB l = !c0) := ⟨by rw [HP.out, h1, h2, h3, decide_eq_true h4]; rfl⟩
            clear q4 h1 h2 h3 hlen h4
            go_enter Tryd.func15, Tryd.ntmps15
            go_wp2_with fail
            refine (HC.out _ HM.out).mono ?_
            rintro e w' ⟨rfl, rfl⟩
            go_wp2_with fail
            refine (HZ.out _ HM.out).mono ?_
            rintro e w' ⟨rfl, rfl⟩
            go_wp2_with fail
            go_ret
            rw [HF.out]
            exact ⟨rfl, rfl⟩
        · have h4' : ¬ s.size ≤ 64 := by omega
          have HF : Bx (partB l = false) := ⟨by rw [HP.out, h1, h2, h3, decide_eq_false h4]; rfl⟩
          clear q4 h1 h2 h3 hlen h4
          go_enter Tryd.func15, Tryd.ntmps15
          go_wp2_with fail
          go_ret
          rw [HF.out]
          exact ⟨rfl, rfl⟩
/-- The pieces, as the library lays them. -/
def piecesB (s : ByteArray) : List ByteArray := Lib.splitB ⟨#[47]⟩ 0 (Lib.countB s ⟨#[47]⟩) s
theorem pieces_data (s : ByteArray) : (piecesB s).map (·.data.toList) = partsOf s.data.toList := by
  unfold piecesB
  rw [Lib.splitB_data]
  exact split_parts _ _ (Nat.le_refl _)
theorem pieces_len (s : ByteArray) : (piecesB s).length = Lib.countB s ⟨#[47]⟩ + 1 := Lib.splitB_all _ (by decide) 0 _ s rfl
theorem pieces_len2 (s : ByteArray) : (piecesB s).length = (partsOf s.data.toList).length := by rw [← pieces_data, List.length_map]
theorem partStep_sum (acc : List (List UInt8)) (h : acc ≠ []) (c : UInt8) : ((partStep acc c).map List.length).sum ≤ (acc.map List.length).sum + 1 ∧ (partStep acc c).length ≤ acc.length + 1 := by
  unfold partStep
  split
  · simp
  · obtain ⟨pre, x, rfl⟩ : ∃ pre x, acc = pre ++ [x] := ⟨acc.dropLast, acc.getLast h, (List.dropLast_concat_getLast h).symm⟩
    simp
    omega
theorem partsOf_sum (l : List UInt8) : ((partsOf l).map List.length).sum ≤ l.length ∧ (partsOf l).length ≤ l.length + 1 := by
  have key : ∀ (l : List UInt8) (acc : List (List UInt8)), acc ≠ [] → ((l.foldl partStep acc).map List.length).sum ≤ (acc.map List.length).sum + l.length ∧ (l.foldl partStep acc).length ≤ acc.length + l.length := by
    intro l
    induction l with
    | nil => intro acc _; simp
    | cons c l ih =>
      intro acc h
      have h1 := partStep_sum acc h c
      have h2 := ih _ (partStep_ne acc c)
      simp only [List.foldl_cons, List.length_cons]
      omega
  have := key l [[]] (by simp)
  simpa [partsOf, Nat.add_comm] using this
theorem le_sum : ∀ (l : List Nat) (x : Nat), x ∈ l → x ≤ l.sum
  | [], x, h => by cases h
  | y :: l, x, h => by
    rw [List.sum_cons]
    rcases List.mem_cons.1 h with rfl | h
    · omega
    · have := le_sum l x h; omega
theorem part_le {l p : List UInt8} (h : p ∈ partsOf l) : p.length ≤ l.length := by
  have h1 := (partsOf_sum l).1
  have h2 : p.length ≤ ((partsOf l).map List.length).sum := le_sum _ _ (List.mem_map_of_mem h)
  omega
end Go.Proofs.YthnommoljikaiaaDoor
