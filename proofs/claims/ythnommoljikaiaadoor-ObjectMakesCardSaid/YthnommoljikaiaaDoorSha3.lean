/- The walk over sha's Write. -/
import Derived.Test.YthnommoljikaiaaDoorSha2
set_option linter.unusedSimpArgs false
set_option linter.unusedVariables false
namespace Go.Proofs.YthnommoljikaiaaDoor
open Go.RowKit

/-- A slice of bytes reads so, in a block other than g. -/
def RdX (w : World) (g : Nat) (A : Option Addr) (n : Nat) (bs : List Int) : Prop :=
  bs.length = n ∧ (0 < n → ∃ b o, A = some ⟨b, o, none⟩ ∧ b ≠ g ∧ b < w.heap.size ∧ ∀ j, j < n → w.cell? ⟨b, o + j, none⟩ = some (.int .u8 (bs.getD j 0)))
theorem RdX.put1 {w w' : World} {g : Nat} {A : Option Addr} {n : Nat} {bs : List Int} {o : Obj} (h : RdX w g A n bs) (hp : Put1 w w' g o) : RdX w' g A n bs :=
  ⟨h.1, fun hn => by
    obtain ⟨b, o, e, hne, hlt, hc⟩ := h.2 hn
    exact ⟨b, o, e, hne, Nat.lt_of_lt_of_le hlt hp.size, fun j hj => by rw [World.cell?_of_block (w := w) (hp.other b hlt hne)]; exact hc j hj⟩⟩
theorem RdX.upd {w w' : World} {g : Nat} {A : Option Addr} {n : Nat} {bs : List Int} {o : Obj} (h : RdX w g A n bs) (hp : Upd w w' g o) : RdX w' g A n bs :=
  ⟨h.1, fun hn => by
    obtain ⟨b, o, e, hne, hlt, hc⟩ := h.2 hn
    exact ⟨b, o, e, hne, by rw [hp.size]; exact hlt, fun j hj => by rw [World.cell?_of_block (w := w) (hp.other b hne)]; exact hc j hj⟩⟩
theorem RdX.drop {w : World} {g : Nat} {A : Option Addr} {n : Nat} {bs : List Int} (h : RdX w g A n bs) (k cap : Nat) (hk : k ≤ n) (hnc : n ≤ cap) : RdX w g (if cap = k then A else A.map (·.add k)) (n - k) (bs.drop k) :=
  ⟨by rw [List.length_drop, h.1], fun hn => by
    obtain ⟨b, o, e, hne, hlt, hc⟩ := h.2 (by omega)
    refine ⟨b, o + k, ?_, hne, hlt, fun j hj => ?_⟩
    · rw [if_neg (by omega), e]; simp [addr_add]
    · have := hc (k + j) (by omega)
      rw [Nat.add_assoc, this]
      simp [List.getD_eq_getElem?_getD]⟩

/-- A hash's state: the words, the bytes that wait, how many there were. -/
structure Hs where
  st : List Int
  rest : List Int
  n : Nat
def absorb (h : Hs) (c : Int) : Hs :=
  { st := if (h.n + 1) % 64 = 0 then blockOf h.st (h.rest.set (h.n % 64) c) else h.st, rest := h.rest.set (h.n % 64) c, n := h.n + 1 }
def absorbs (h : Hs) (bs : List Int) : Hs := bs.foldl absorb h
def over (r : List Int) (off : Nat) (cs : List Int) : List Int := r.take off ++ cs ++ r.drop (off + cs.length)
theorem over_nil (r : List Int) (off : Nat) : over r off [] = r := by simp [over]
theorem over_length (r : List Int) (off : Nat) (cs : List Int) (h : off + cs.length ≤ r.length) : (over r off cs).length = r.length := by simp [over]; omega
theorem over_cons (r : List Int) (off : Nat) (c : Int) (cs : List Int) (h : off + cs.length + 1 ≤ r.length) : over r off (c :: cs) = over (r.set off c) (off + 1) cs := by
  apply List.ext_getElem?
  intro k
  simp only [over, List.getElem?_append, List.getElem?_take, List.getElem?_drop, List.length_append, List.length_take, List.length_cons, List.length_set, List.getElem?_set, List.getElem?_cons]
  repeat' split
  all_goals first | rfl | omega | (congr 1; omega) | (simp_all; done)
theorem absorb_chunk (cs : List Int) : ∀ (h : Hs), 0 < cs.length → h.n % 64 + cs.length ≤ 64 → h.rest.length = 64 →
    absorbs h cs = { st := if (h.n + cs.length) % 64 = 0 then blockOf h.st (over h.rest (h.n % 64) cs) else h.st, rest := over h.rest (h.n % 64) cs, n := h.n + cs.length } := by
  induction cs with
  | nil => intro h h0; simp at h0
  | cons c cs ih =>
    intro h _ h1 h2
    simp only [List.length_cons] at h1
    rcases Nat.eq_zero_or_pos cs.length with h3 | h3
    · obtain rfl : cs = [] := List.eq_nil_of_length_eq_zero h3
      simp only [absorbs, List.foldl_cons, List.foldl_nil, absorb, List.length_cons, List.length_nil, Nat.zero_add]
      rw [over_cons _ _ _ _ (by simp; omega), over_nil]
    · have h4 : ¬ (h.n + 1) % 64 = 0 := by omega
      have h5 : (h.n + 1) % 64 = h.n % 64 + 1 := by omega
      have e : absorbs h (c :: cs) = absorbs (absorb h c) cs := rfl
      have e2 : absorb h c = { st := h.st, rest := h.rest.set (h.n % 64) c, n := h.n + 1 } := by simp only [absorb, if_neg h4]
      rw [e, e2, ih _ h3 (by simp only [h5]; omega) (by simp [h2])]
      simp only [h5, List.length_cons]
      rw [over_cons _ _ _ _ (by omega), show h.n + 1 + cs.length = h.n + (cs.length + 1) by omega]
theorem absorbs_append (h : Hs) (a b : List Int) : absorbs h (a ++ b) = absorbs (absorbs h a) b := by simp [absorbs]
theorem absorbs_rest (bs : List Int) : ∀ (h : Hs), h.rest.length = 64 → (absorbs h bs).rest.length = 64 := by
  induction bs with
  | nil => intro h h1; exact h1
  | cons c bs ih => intro h h1; exact ih (absorb h c) (by simp [absorb, h1])
theorem blockOf_length (st bs : List Int) : (blockOf st bs).length = st.length := addAll_length _ _ _
theorem absorbs_st (bs : List Int) : ∀ (h : Hs), h.st.length = 8 → (absorbs h bs).st.length = 8 := by
  induction bs with
  | nil => intro h h1; exact h1
  | cons c bs ih => intro h h1; exact ih (absorb h c) (by simp only [absorb]; split <;> simp [blockOf_length, h1])
theorem absorbs_n (bs : List Int) : ∀ (h : Hs), (absorbs h bs).n = h.n + bs.length := by
  induction bs with
  | nil => intro h; rfl
  | cons c bs ih => intro h; have := ih (absorb h c); simp only [absorb] at this; simp only [absorbs, List.foldl_cons, List.length_cons] at this ⊢; rw [show h.n + (bs.length + 1) = h.n + 1 + bs.length by omega]; exact this
def IsB (l : List Int) : Prop := ∀ j, 0 ≤ l.getD j 0 ∧ l.getD j 0 < 256
theorem IsB.set {l : List Int} (h : IsB l) (i : Nat) {c : Int} (hc : 0 ≤ c ∧ c < 256) : IsB (l.set i c) := by
  intro j
  have := h j
  simp only [List.getD_eq_getElem?_getD, List.getElem?_set] at this ⊢
  split
  · split
    · exact hc
    · exact ⟨by decide, by decide⟩
  · exact this
theorem IsB.tail {c : Int} {l : List Int} (h : IsB (c :: l)) : IsB l := fun j => h (j + 1)
theorem absorbs_isB (bs : List Int) : ∀ (h : Hs), IsB h.rest → IsB bs → IsB (absorbs h bs).rest := by
  induction bs with
  | nil => intro h h1 _; exact h1
  | cons c bs ih => intro h h1 h2; exact ih (absorb h c) (h1.set _ (h2 0)) h2.tail
theorem hash_get {made : Bool} {st rest : List Int} {n : Int} (hst : st.length = 8) (k : Nat) :
    (hashCells made st rest n)[k]? = if k = 0 then some (.bool made) else if k < 9 then (st[k - 1]?).map (Value.int .u32) else if k < 9 + rest.length then (rest[k - 9]?).map (Value.int .u8) else if k = 9 + rest.length then some (.int .u64 n) else none := by
  simp only [hashCells, List.getElem?_toArray]
  cases k with
  | zero => simp
  | succ k =>
    simp only [List.getElem?_cons_succ, Nat.add_sub_cancel, List.append_assoc]
    rw [if_neg (by omega)]
    by_cases h1 : k + 1 < 9
    · rw [if_pos h1, List.getElem?_append_left (by simp; omega), List.getElem?_map]
    · rw [if_neg h1, List.getElem?_append_right (by simp; omega), List.length_map, hst]
      by_cases h2 : k + 1 < 9 + rest.length
      · rw [if_pos h2, List.getElem?_append_left (by simp; omega), List.getElem?_map, show k - 8 = k + 1 - 9 by omega]
      · rw [if_neg h2, List.getElem?_append_right (by simp; omega), List.length_map]
        by_cases h3 : k + 1 = 9 + rest.length
        · rw [if_pos h3, show k - 8 - rest.length = 0 by omega]; rfl
        · rw [if_neg h3, List.getElem?_eq_none (by simp; omega)]
theorem hash_over {made : Bool} {st rest : List Int} {n : Int} (hst : st.length = 8) (off : Nat) (cs : List Int) (h : off + cs.length ≤ rest.length) :
    putRow (hashCells made st rest n) (9 + off) (cs.map (Value.int .u8)) = hashCells made st (over rest off cs) n := by
  apply Array.ext_getElem?
  intro k
  rw [putRow_get, hash_get hst, hash_get hst, over_length _ _ _ h, List.length_map]
  have hsz : (hashCells made st rest n).size = 10 + rest.length := by simp [hashCells, hst]; omega
  rw [hsz]
  by_cases h1 : 9 + off ≤ k ∧ k < 9 + off + cs.length
  · rw [if_pos (by omega), if_neg (by omega), if_neg (by omega), if_pos (by omega), over]
    rw [List.getElem?_append_left (by simp; omega), List.getElem?_append_right (by simp; omega), List.getElem?_map]
    congr 2
    simp
    omega
  · rw [if_neg (by omega)]
    by_cases h2 : k = 0
    · rw [if_pos h2, if_pos h2]
    · rw [if_neg h2, if_neg h2]
      by_cases h3 : k < 9
      · rw [if_pos h3, if_pos h3]
      · rw [if_neg h3, if_neg h3]
        by_cases h4 : k < 9 + rest.length
        · rw [if_pos h4, if_pos h4]
          congr 1
          rw [over]
          by_cases h5 : k < 9 + off
          · rw [List.append_assoc, List.getElem?_append_left (by simp; omega), List.getElem?_take, if_pos (by omega)]
          · rw [List.getElem?_append_right (by simp; omega), List.getElem?_drop]
            congr 1
            simp
            omega
        · rw [if_neg h4, if_neg h4]
theorem hash_setn {made : Bool} {st rest : List Int} {n : Int} (hst : st.length = 8) (hr : rest.length = 64) (x : Int) : (hashCells made st rest n).setIfInBounds 73 (.int .u64 x) = hashCells made st rest x := by
  apply Array.ext_getElem?
  intro k
  rw [Array.getElem?_setIfInBounds, hash_get hst, hash_get hst, hash_size hst hr, hr]
  by_cases h1 : 73 = k
  · subst h1
    simp
  · rw [if_neg h1]
    by_cases h2 : k = 0
    · rw [if_pos h2, if_pos h2]
    · rw [if_neg h2, if_neg h2]
      by_cases h3 : k < 9
      · rw [if_pos h3, if_pos h3]
      · rw [if_neg h3, if_neg h3]
        by_cases h4 : k < 9 + 64
        · rw [if_pos h4, if_pos h4]
        · rw [if_neg h4, if_neg h4, if_neg (by omega), if_neg (by omega)]
end Go.Proofs.YthnommoljikaiaaDoor
