/- The document's disk: the walk over Read. -/
import Derived.Test.YthnommoljikaiaaPly2
set_option linter.unusedSimpArgs false
set_option linter.unusedVariables false
namespace Go.Proofs.Ythnommoljikaiaa
open Go.RowKit

theorem safe_cell {w : World} {A : Option Addr} {n c : Nat} {f : Int → List Int} (h : w.ownsRow 0 9 1 (.slice A n c) n (safeCells f n)) {k : Nat} (hk : k < n) :
    ∃ g, A = some ⟨g, 0, none⟩ ∧ g < w.heap.size ∧ w.cell? ⟨g, k, none⟩ = some (.string (strOfNums (f k))) := by
  obtain ⟨h1, ⟨h2, h3⟩ | ⟨g, cap, cur, e, hg, hh, h2⟩⟩ := id h
  · omega
  · simp only [Value.slice.injEq, true_and] at e
    obtain ⟨rfl, rfl⟩ := e
    refine ⟨g, rfl, blk_lt hh, ?_⟩
    have := World.ownsRow.cells h (g := g) rfl k (.string (strOfNums (f k))) (by simp [safeCells, hk])
    rwa [addr_add, Nat.zero_add] at this
theorem rwCells_get {u : List (Int × List Int)} {k : Nat} (hk : k < u.length) : (rwCells u)[k * 2]? = some (.int .i64 u[k].1) ∧ (rwCells u)[k * 2 + 1]? = some (.string (strOfNums u[k].2)) := by
  induction u generalizing k with
  | nil => exact absurd hk (Nat.not_lt_zero _)
  | cons x u ih =>
    have e : rwCells (x :: u) = [.int .i64 x.1, .string (strOfNums x.2)] ++ rwCells u := rfl
    match k, hk with
    | 0, _ => exact ⟨rfl, rfl⟩
    | k + 1, hk =>
      have hk' : k < u.length := by simpa using hk
      rw [e, List.getElem?_append_right (by simp; omega), List.getElem?_append_right (by simp; omega)]
      have e1 : (k + 1) * 2 - [Value.int .i64 x.1, Value.string (strOfNums x.2)].length = k * 2 := by simp; omega
      have e2 : (k + 1) * 2 + 1 - [Value.int .i64 x.1, Value.string (strOfNums x.2)].length = k * 2 + 1 := by simp; omega
      rw [e1, e2]
      exact ih hk'
theorem rw_cell {w : World} {B : Option Addr} {m d : Nat} {u : List (Int × List Int)} (h : w.ownsRow 0 56 2 (.slice B m d) m (rwCells u)) {k : Nat} (hk : k < u.length) :
    ∃ g, B = some ⟨g, 0, none⟩ ∧ g < w.heap.size ∧ w.cell? ⟨g, k * 2, none⟩ = some (.int .i64 u[k].1) ∧ w.cell? ⟨g, k * 2 + 1, none⟩ = some (.string (strOfNums u[k].2)) := by
  obtain ⟨h1, ⟨h2, h3⟩ | ⟨g, cap, cur, e, hg, hh, h2⟩⟩ := id h
  · rw [rwCells_length] at h1; omega
  · simp only [Value.slice.injEq, true_and] at e
    obtain ⟨rfl, rfl⟩ := e
    have hc := World.ownsRow.cells h (g := g) rfl
    have h1 := hc _ _ (rwCells_get hk).1
    have h2 := hc _ _ (rwCells_get hk).2
    rw [addr_add, Nat.zero_add] at h1 h2
    exact ⟨g, rfl, blk_lt hh, h1, h2⟩

set_option maxRecDepth 100000 in
set_option maxHeartbeats 1600000 in
theorem rread_any (w : World) (S : Nat → Prop) (v : Value) (st : DSt) (i : Int) (h : RefIs w S v st) (hn1 : 1 ≤ st.n) (hn2 : st.n ≤ 2048) (hu : st.und.length ≤ 100000) :
    Calls Try.prog 31 #[v, .int .i64 i] w fun e w' => e = .returned (.tuple #[.string (strOfNums (readD st i).1), .int .i64 (readD st i).2]) ∧ Below w.heap.size w w' := by
  obtain ⟨A, c, B, d, rfl, hr⟩ := h
  obtain ⟨n, f, und, left, down⟩ := st
  dsimp only at hr hn1 hn2 hu ⊢
  obtain ⟨nn, rfl⟩ : ∃ k : Nat, n = k := ⟨n.toNat, by omega⟩
  rw [Int.toNat_natCast] at hr ⊢
  obtain ⟨m, hm⟩ : ∃ m, m = und.length := ⟨_, rfl⟩
  have hsf := hr.safe
  have hun := hr.und
  rw [← hm] at hun ⊢
  rw [Int.toNat_natCast] at hsf
  have hml : m ≤ 100000 := by rw [hm]; exact hu
  have HM := bx hm.symm; have HSF := bx hsf; have HUN := bx hun
  clear hr hsf hun hm
  show Calls Try.prog 31 #[.agg #[.slice A nn c, .slice B m d, .int .i64 left, .bool down], .int .i64 i] w _
  have hb0 := bx ((Below.refl w.heap.size w).alloc (Nat.le_refl _) (.cells #[.slice A nn c, .slice B m d, .int .i64 left, .bool down] 40))
  have hk0 := bx (blk_new w (.cells #[.slice A nn c, .slice B m d, .int .i64 left, .bool down] 40))
  cases down with
  | true =>
    go_enter Try.func31, Try.ntmps31
    go_wp2_with fail
    go_ret2
    exact ⟨rfl, hb0.out⟩
  | false =>
  by_cases hi : i < 0
  · have HW : Bx (readD ⟨nn, f, und, left, false⟩ i = ([], 2)) := ⟨by
      have : mayOf ⟨nn, f, und, left, false⟩ i = 2 := by rw [mayOf, if_neg (by simp), if_pos (.inl hi)]
      rw [readD, this]; rfl⟩
    go_enter Try.func31, Try.ntmps31
    go_wp2_with fail
    go_ret2
    exact ⟨by rw [HW.out]; rfl, hb0.out⟩
  by_cases hi2 : (nn : Int) ≤ i
  · have HW : Bx (readD ⟨nn, f, und, left, false⟩ i = ([], 2)) := ⟨by
      have : mayOf ⟨nn, f, und, left, false⟩ i = 2 := by rw [mayOf, if_neg (by simp), if_pos (.inr hi2)]
      rw [readD, this]; rfl⟩
    go_enter Try.func31, Try.ntmps31
    go_wp2_with fail
    go_ret2
    exact ⟨by rw [HW.out]; rfl, hb0.out⟩
  have hmay : mayOf ⟨nn, f, und, left, false⟩ i = 0 := by rw [mayOf, if_neg (by simp), if_neg (by dsimp only; omega)]
  have HW : Bx (readD ⟨nn, f, und, left, false⟩ i = (readUp ⟨nn, f, und, left, false⟩ i m, 0)) := ⟨by rw [readD, if_neg (fun h => h hmay), ← HM.out]⟩
  have HST := bx (fun k hk => readUp_succ ⟨nn, f, und, left, false⟩ i k hk)
  have HS0 : Bx (readUp ⟨nn, f, und, left, false⟩ i 0 = f i) := ⟨rfl⟩
  clear hmay
  go_enter Try.func31, Try.ntmps31
  go_wp2_with fail
  go_loopw [6] (fun q wr => ∃ j : Nat, j ≤ m ∧ q = .int .i64 ((j : Int) - 1) ∧ readUp ⟨nn, f, und, left, false⟩ i m = readUp ⟨nn, f, und, left, false⟩ i j ∧ wr.heap[w.heap.size]? = some (.cells #[.slice A nn c, .slice B m d, .int .i64 left, .bool false] 40 (0, 0)) ∧ Below w.heap.size w wr) (fun q _ => (intOf q + 1).toNat)
  case atStart => exact ⟨m, Nat.le_refl _, rfl, rfl, hk0.out, hb0.out⟩
  case round =>
    obtain ⟨j, hj, hq, hru, hp, hb⟩ := hrel
    have BR := bx hb; have PR := bx hp; have RU := bx hru
    have c0 := blk_cell hp (j := 0) rfl
    have c1 := blk_cell hp (j := 1) rfl
    clear hb hp hru
    rcases j with _ | k
    · subst hq
      obtain ⟨ii, rfl⟩ : ∃ ii : Nat, i = ii := ⟨i.toNat, by omega⟩
      obtain ⟨g, rfl, hg, hc⟩ := safe_cell (ownsRow_same HSF.out fun j hj => BR.out.block j (ownsRow_lt HSF.out j hj)) (k := ii) (by omega)
      go_wp2_with fail
      go_ret2
      exact ⟨by (rw [HW.out, RU.out, HS0.out]) <;> rfl, BR.out⟩
    · obtain rfl := (hq.trans (by congr 1; omega) : _ = Value.int .i64 (k : Int))
      have hku : k < und.length := by rw [HM.out]; omega
      obtain ⟨g, rfl, hg, hc, hd⟩ := rw_cell (ownsRow_same HUN.out fun j hj => BR.out.block j (ownsRow_lt HUN.out j hj)) hku
      have hst := HST.out k hku
      generalize und[k] = x at hc hd hst
      obtain ⟨xa, xb⟩ := x
      dsimp only at hc hd hst
      have hk0' : (0 : Int) ≤ k := by omega
      have hkm : (k : Int) < m := by omega
      by_cases hx : xa = i
      · have hx' : (xa == i) = true := by simp [hx]
        rw [if_pos hx] at hst
        have HST' := bx hst
        clear hst hx
        go_wp2_with fail
        go_ret2
        exact ⟨by (rw [HW.out, RU.out, HST'.out]) <;> rfl, BR.out⟩
      · have hx' : (xa == i) = false := by simp [hx]
        rw [if_neg hx] at hst
        have HST' := bx hst
        clear hst hx
        go_wp2_with fail
        exact ⟨⟨k, by omega, by go_num, by rw [RU.out, HST'.out], PR.out, BR.out⟩, by simp [intOf] <;> omega⟩
end Go.Proofs.Ythnommoljikaiaa
