/- DiskPlays: New of a disk that may not be. -/
import Derived.Test.YthnommoljikaiaaPly6
set_option linter.unusedSimpArgs false
set_option linter.unusedVariables false
namespace Go.Proofs.Ythnommoljikaiaa
open Go.RowKit

set_option maxRecDepth 100000 in
theorem dnew_bad (w : World) (n : Int) (h : n < 1 ∨ 2048 < n) :
    Calls Try.prog 18 #[.int .i64 n] w fun e w' => e = .returned (.tuple #[.pointer none, .int .i64 2]) ∧ Below w.heap.size w w' := by
  have h' : n < 1 ∨ (¬ n < 1 ∧ 2048 < n) := by omega
  clear h
  rcases h' with h1 | ⟨h1, h2⟩
  all_goals
    go_enter Try.func18, Try.ntmps18
    go_wp2_with fail
    go_ret2
    exact ⟨rfl, Below.refl _ _⟩
/-- Every write under way names a sector. -/
def UndIn (st : DSt) : Prop := ∀ x ∈ st.und, 0 ≤ x.1 ∧ x.1 < st.n
theorem UndIn.write {st : DSt} (h : UndIn st) (i : Int) (bs : List Int) : UndIn (writeOf st i bs).1 := by
  unfold writeOf
  split
  · exact h
  · rename_i hm
    split
    · exact h
    · intro x hx
      have hm' : mayOf st i = 0 := by simpa using hm
      have hi : 0 ≤ i ∧ i < st.n := by
        unfold mayOf at hm'
        split at hm'
        · exact absurd hm' (by decide)
        · split at hm'
          · exact absurd hm' (by decide)
          · omega
      rcases List.mem_append.1 hx with hx | hx
      · exact h x hx
      · simp only [List.mem_singleton] at hx
        rw [hx]
        exact hi
theorem UndIn.settled {st : DSt} (F : Nat → Int) : UndIn (settled st F) := fun x hx => by cases hx
theorem UndIn.sync {st : DSt} (h : UndIn st) : UndIn (syncOf st).1 := by
  unfold syncOf
  split
  · exact h
  · split
    · exact h
    · exact UndIn.settled _
theorem UndIn.fall {st : DSt} (fs : List Int) : UndIn (fallOf st fs) := fun x hx => by cases hx
theorem UndIn.arm {st : DSt} (h : UndIn st) (n : Int) : UndIn (armOf st n) := h
theorem write_n (st : DSt) (i : Int) (bs : List Int) : (writeOf st i bs).1.n = st.n := by
  unfold writeOf
  split
  · rfl
  · split <;> rfl
theorem sync_n (st : DSt) : (syncOf st).1.n = st.n := by
  unfold syncOf
  split
  · rfl
  · split
    · rfl
    · exact (settleUp_rest _ _ _).2.1
theorem fall_n (st : DSt) (fs : List Int) : (fallOf st fs).n = st.n := (settleUp_rest _ _ _).2.1
/-- The two disks, side by side: the program's in block D, the document's in block R; from B on. -/
def Play (w : World) (B D R : Nat) (st : DSt) : Prop := ∃ (S : Nat → Prop) (A : Option Addr) (c : Nat) (U : Option Addr) (d : Nat), DskIs w S D st ∧ RefAt w (fun j => S j ∨ j = R) (.slice A st.n.toNat c) (.slice U st.und.length d) st.n st.f st.und ∧
  w.heap[R]? = some (.cells (rCells (.slice A st.n.toNat c) (.slice U st.und.length d) st.left st.down) 40 (0, 0)) ∧ ¬ S R ∧ (∀ j, S j → B ≤ j ∧ j < w.heap.size) ∧ B ≤ R ∧ UndIn st
theorem Play.kept {w w' : World} {B D R : Nat} {st : DSt} (h : Play w B D R st) (hb : Below w.heap.size w w') : Play w' B D R st := by
  obtain ⟨S, A, c, U, d, h1, h2, h3, h4, h5, h6, h7⟩ := h
  exact ⟨S, A, c, U, d, h1.kept hb, h2.kept hb, (hb.block R (blk_lt h3)).trans h3, h4, fun j hj => ⟨(h5 j hj).1, by have := h5 j hj; have := hb.size; omega⟩, h6, h7⟩
/-- A step is done on both. -/
theorem Play.joined {w : World} {B D R : Nat} {st : DSt} {S : Nat → Prop} {A : Option Addr} {c : Nat} {U : Option Addr} {d : Nat} (h1 : DskIs w S D st)
    (h2 : RefAt w (fun j => S j ∨ j = R) (.slice A st.n.toNat c) (.slice U st.und.length d) st.n st.f st.und)
    (h3 : w.heap[R]? = some (.cells (rCells (.slice A st.n.toNat c) (.slice U st.und.length d) st.left st.down) 40 (0, 0))) (h4 : ¬ S R) (h5 : ∀ j, S j → B ≤ j) (h6 : B ≤ R) (h7 : UndIn st) : Play w B D R st :=
  ⟨fun j => S j ∧ j < w.heap.size, A, c, U, d, h1.restrict, h2.wide (fun k hk _ => hk.elim (fun h => .inl h.1) .inr), h3, fun h => h4 h.1, fun j hj => ⟨h5 j hj.1, hj.2⟩, h6, h7⟩
end Go.Proofs.Ythnommoljikaiaa
