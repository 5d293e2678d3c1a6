/- The document's disk: the walk over Write. -/
import Derived.Test.YthnommoljikaiaaPly1
set_option linter.unusedSimpArgs false
set_option linter.unusedVariables false
namespace Go.Proofs.Ythnommoljikaiaa
open Go.RowKit

/-- append of a row that somebody owns. -/
theorem run_append_src {P : Program} {w : World} (base : Nat) (t ty e : TypeId) (i : TypeInfo) (z : Value) (size bytes : Nat) (ht : P.underlying t = some (.slice e)) (hi : P.info? e = some i) (hz : i.zero = some z)
    (hsize : i.size = size) (hby : i.bytes = bytes) (hzs : z.cells.size = size) (hsz : 0 < size)
    (v : Value) (n : Nat) (xs : List Value) (hown : w.ownsRow base e size v n xs)
    (X : Value) (b2 m : Nat) (news : List Value) (hsrc : w.ownsRow b2 e size X m news) (h1 : ∀ u ∈ news, u.oneCell' = true)
    (h63 : n + m ≤ maxLen) (hbytes : (n + m) * bytes ≤ 140737488355328) (hbase : base ≤ w.heap.size) :
    ∃ v' w', (Builtin.append_ #[t, t] ty #[v, X]).run P w = .ok v' w' ∧ w'.ownsRow base e size v' (n + m) (xs ++ news) ∧ w.grownBy w' v.ownBlock := by
  obtain ⟨hlx, ⟨rfl, rfl⟩ | ⟨g, cap, cur, rfl, hg, hh, hn, hm, hs, htk⟩⟩ := id hsrc
  · obtain rfl : news = [] := List.eq_nil_of_length_eq_zero (by simpa using hlx)
    refine ⟨v, w, ?_, by rw [Nat.add_zero, List.append_nil]; exact hown, ⟨rfl, rfl, rfl, Nat.le_refl _, fun _ _ _ => rfl⟩⟩
    obtain ⟨_, ⟨rfl, rfl⟩ | ⟨g, cap, cur, rfl, hg, hh, hn, hm, hs, htk⟩⟩ := hown
    · simp [Builtin.append_, run_underlying ht, sizeOf, typeInfo, hi, Builtin.lenOf, Builtin.firstCells, loadCells, loadCellsFrom]
    · simp [Builtin.append_, run_underlying ht, sizeOf, typeInfo, hi, Builtin.lenOf, Builtin.firstCells, loadCells, loadCellsFrom, storeCells, hn]
  · obtain ⟨v', w', hr, h2, h3, _⟩ := run_append_own (P := P) w base t ty e i z size bytes ht hi hz hsize hby hzs hsz v n xs hown ⟨g, 0, none⟩ m cap news hlx (World.ownsRow.cells hsrc (g := g) rfl) h1 h63 hbytes hbase
    exact ⟨v', w', hr, h2, h3⟩
theorem wpList_append_src {P : Program} {w : World} {ops : Array Oper} {rest : List Oper} {o : Oper} {a : Act} {Q : Exit → Act → World → Prop} (hgd : o.guard = none) (s x : Operand) (t : TypeId)
    (ho : o.op = .call { callee := .builtin .append, args := #[s, x], argTypes := #[t, t] })
    (base : Nat) (e : TypeId) (i : TypeInfo) (z : Value) (size bytes : Nat) (ht : P.underlying t = some (.slice e)) (hi : P.info? e = some i) (hz : i.zero = some z)
    (hsize : i.size = size) (hby : i.bytes = bytes) (hzs : z.cells.size = size) (hsz : 0 < size)
    (v : Value) (n : Nat) (xs : List Value) (hs : a.eval s = v) (hown : w.ownsRow base e size v n xs)
    (X : Value) (b2 m : Nat) (news : List Value) (hx : a.eval x = X) (hsrc : w.ownsRow b2 e size X m news) (h1 : ∀ u ∈ news, u.oneCell' = true)
    (h63 : n + m ≤ maxLen) (hbytes : (n + m) * bytes ≤ 140737488355328) (hbase : base ≤ w.heap.size)
    (h : ∀ v' w', w'.ownsRow base e size v' (n + m) (xs ++ news) → w.grownBy w' v.ownBlock → wpList P ops Q rest (a.put o.dst v') w') : wpList P ops Q (o :: rest) a w :=
  wpList_plain hgd fun _ hK => by
    obtain ⟨v', w', hr, h2, h3⟩ := run_append_src (P := P) (w := w) base t o.type e i z size bytes ht hi hz hsize hby hzs hsz v n xs hown X b2 m news hsrc h1 h63 hbytes hbase
    unfold Oper.wp execOp
    simp only [ho, resolve, invoke, builtin, Sem.run_bind, Sem.run_pure, Result.andThen_ok, List.map_toArray, List.map_cons, List.map_nil, hs, hx, hr]
    exact hK _ _ (h v' w' h2 h3)
theorem rw_one {u : List (Int × List Int)} : ∀ v ∈ rwCells u, v.oneCell' = true := by
  intro v hv
  simp only [rwCells, List.mem_flatMap, List.mem_cons, List.not_mem_nil, or_false] at hv
  obtain ⟨x, _, rfl | rfl⟩ := hv <;> rfl
theorem safe_one {f : Int → List Int} {n : Nat} : ∀ v ∈ safeCells f n, v.oneCell' = true := by
  intro v hv
  simp only [safeCells, List.mem_map] at hv
  obtain ⟨x, _, rfl⟩ := hv
  rfl
theorem empty_rw (w : World) : (w.alloc (.cells #[] 56)).ownsRow w.heap.size 56 2 (.slice (some ⟨w.heap.size, 0, none⟩) 0 0) 0 [] := ⟨rfl, .inr ⟨_, 0, _, rfl, Nat.le_refl _, blk_new w _, Nat.le_refl _, by decide, rfl, rfl⟩⟩
theorem blk_two {w : World} {x : Int} {z : ByteArray} {T : TypeId} : ∀ j u, [Value.int .i64 x, Value.string z][j]? = some u → (w.alloc (.cells #[.int .i64 x, .string z] T)).cell? ((⟨w.heap.size, 0, none⟩ : Addr).add j) = some u := by
  intro j u hj
  rw [addr_add, Nat.zero_add]
  exact blk_cell (blk_new w _) (by rw [← hj]; simp)
theorem two_one {x : Int} {z : ByteArray} : ∀ u ∈ [Value.int .i64 x, Value.string z], u.oneCell' = true := by
  intro u hu
  simp only [List.mem_cons, List.not_mem_nil, or_false] at hu
  rcases hu with rfl | rfl <;> rfl
set_option maxRecDepth 100000 in
set_option maxHeartbeats 3200000 in
theorem rwrite_any (w : World) (S : Nat → Prop) (v : Value) (st : DSt) (i : Int) (bs : List Int) (h : RefIs w S v st) (hS : ∀ k, S k → k < w.heap.size) (hlo : -1 ≤ st.left) (hhi : st.left ≤ 9223372036854775807) (hn1 : 1 ≤ st.n) (hn2 : st.n ≤ 2048) (hu : st.und.length ≤ 100000) (hb : bs.length ≤ 1000) :
    Calls Try.prog 26 #[v, .int .i64 i, .string (strOfNums bs)] w fun e w' => ∃ v', e = .returned (.tuple #[v', .int .i64 (writeOf st i bs).2]) ∧ RefIs w' S v' (writeOf st i bs).1 ∧ Below w.heap.size w w' := by
  obtain ⟨A, c, B, d, rfl, hr⟩ := h
  obtain ⟨n, f, und, left, down⟩ := st
  dsimp only at hr hlo hhi hn1 hn2 hu ⊢
  obtain ⟨nn, rfl⟩ : ∃ k : Nat, n = k := ⟨n.toNat, by omega⟩
  rw [Int.toNat_natCast] at hr ⊢
  obtain ⟨m, hm⟩ : ∃ m, m = und.length := ⟨_, rfl⟩
  rw [← hm] at hr ⊢
  have hru := hr.und
  rw [← hm] at hru
  have HM := bx hm.symm; have HR := bx hr; have HS := bx hS; have HRU := bx hru
  have HSZ : Bx ((strOfNums bs).size = bs.length) := ⟨str_size bs⟩
  have hHI := info_parts rwInfo
  obtain ⟨i0, hi, hz0, hz1, hz2⟩ := hHI
  have HI0 := bx hi; have HI1 := bx hz0; have HI2 := bx hz1; have HI3 := bx hz2
  have HB0 : Bx (0 + m ≤ maxLen ∧ (0 + m) * 24 ≤ 140737488355328) := ⟨by simp only [maxLen]; omega, by omega⟩
  have HB1 : Bx (m + 1 ≤ maxLen ∧ (m + 1) * 24 ≤ 140737488355328) := ⟨by simp only [maxLen]; omega, by omega⟩
  clear hr hru hS hi hz0 hz1 hz2 hm
  show Calls Try.prog 26 #[.agg #[.slice A nn c, .slice B m d, .int .i64 left, .bool down], .int .i64 i, .string (strOfNums bs)] w _
  cases down with
  | true =>
    have HW : Bx (writeOf ⟨nn, f, und, left, true⟩ i bs = (⟨nn, f, und, left, true⟩, 17)) := ⟨rfl⟩
    go_enter Try.func26, Try.ntmps26
    go_wp2_with (first
      | ((with_reducible refine at_load 11 ?_); go_must (refine wpList_load_agg rfl 40 (.tmp 3) rfl w.heap.size 0 rfl 40 _ 4 _ (heap_alloc2_old w _ _) Try.underlying40 rfl rdInfo (Nat.le_refl 4) (rCells (.slice A nn c) (.slice B m d) left true) rfl ?_))
      | ((with_reducible refine at_store (.tmp 6) (.tmp 11) ?_); go_must (refine wpList_store_agg (cells := rCells (.slice A nn c) (.slice B m d) left true) rfl 40 (.tmp 6) (.tmp 11) rfl (w.heap.size + 1) 0 rfl rfl 40 rZero (heap_alloc2_new w _ _) rdInfo (Nat.le_refl 4) (rd_one _ _ _ _ _ _ _ _) (rCells (.slice A nn c) (.slice B m d) left true) (putRow_all _ _ rfl) ?_; intro w3 hu3)))
    rw [HW.out]
    refine bodyPost_ret (results_ct (cs := rCells (.slice A nn c) (.slice B m d) left true) rfl _ _ (w.heap.size + 1) 40 _ _ rfl rfl hu3.same Try.underlying40 rfl rdInfo) rfl ?_
    have hb := (((Below.refl w.heap.size w).alloc (Nat.le_refl _) _).alloc (by simp) _).trans (hu3.below (by omega))
    exact ⟨_, rfl, ⟨A, c, B, d, by dsimp only; rw [HM.out]; rfl, by dsimp only; rw [HM.out]; exact HR.out.kept hb⟩, hb⟩
  | false =>
  by_cases hi : i < 0
  · have HW : Bx (writeOf ⟨nn, f, und, left, false⟩ i bs = (⟨nn, f, und, left, false⟩, 2)) := ⟨by
      have : mayOf ⟨nn, f, und, left, false⟩ i = 2 := by rw [mayOf, if_neg (by simp), if_pos (.inl hi)]
      rw [writeOf, this]; rfl⟩
    go_enter Try.func26, Try.ntmps26
    go_wp2_with (first
      | ((with_reducible refine at_load 26 ?_); go_must (refine wpList_load_agg rfl 40 (.tmp 3) rfl w.heap.size 0 rfl 40 _ 4 _ (heap_alloc2_old w _ _) Try.underlying40 rfl rdInfo (Nat.le_refl 4) (rCells (.slice A nn c) (.slice B m d) left false) rfl ?_))
      | ((with_reducible refine at_store (.tmp 6) (.tmp 26) ?_); go_must (refine wpList_store_agg (cells := rCells (.slice A nn c) (.slice B m d) left false) rfl 40 (.tmp 6) (.tmp 26) rfl (w.heap.size + 1) 0 rfl rfl 40 rZero (heap_alloc2_new w _ _) rdInfo (Nat.le_refl 4) (rd_one _ _ _ _ _ _ _ _) (rCells (.slice A nn c) (.slice B m d) left false) (putRow_all _ _ rfl) ?_; intro w3 hu3)))
    rw [HW.out]
    refine bodyPost_ret (results_ct (cs := rCells (.slice A nn c) (.slice B m d) left false) rfl _ _ (w.heap.size + 1) 40 _ _ rfl rfl hu3.same Try.underlying40 rfl rdInfo) rfl ?_
    have hb := (((Below.refl w.heap.size w).alloc (Nat.le_refl _) _).alloc (by simp) _).trans (hu3.below (by omega))
    exact ⟨_, rfl, ⟨A, c, B, d, by dsimp only; rw [HM.out]; rfl, by dsimp only; rw [HM.out]; exact HR.out.kept hb⟩, hb⟩
  by_cases hi2 : (nn : Int) ≤ i
  · have HW : Bx (writeOf ⟨nn, f, und, left, false⟩ i bs = (⟨nn, f, und, left, false⟩, 2)) := ⟨by
      have : mayOf ⟨nn, f, und, left, false⟩ i = 2 := by rw [mayOf, if_neg (by simp), if_pos (.inr hi2)]
      rw [writeOf, this]; rfl⟩
    go_enter Try.func26, Try.ntmps26
    go_wp2_with (first
      | ((with_reducible refine at_load 26 ?_); go_must (refine wpList_load_agg rfl 40 (.tmp 3) rfl w.heap.size 0 rfl 40 _ 4 _ (heap_alloc2_old w _ _) Try.underlying40 rfl rdInfo (Nat.le_refl 4) (rCells (.slice A nn c) (.slice B m d) left false) rfl ?_))
      | ((with_reducible refine at_store (.tmp 6) (.tmp 26) ?_); go_must (refine wpList_store_agg (cells := rCells (.slice A nn c) (.slice B m d) left false) rfl 40 (.tmp 6) (.tmp 26) rfl (w.heap.size + 1) 0 rfl rfl 40 rZero (heap_alloc2_new w _ _) rdInfo (Nat.le_refl 4) (rd_one _ _ _ _ _ _ _ _) (rCells (.slice A nn c) (.slice B m d) left false) (putRow_all _ _ rfl) ?_; intro w3 hu3)))
    rw [HW.out]
    refine bodyPost_ret (results_ct (cs := rCells (.slice A nn c) (.slice B m d) left false) rfl _ _ (w.heap.size + 1) 40 _ _ rfl rfl hu3.same Try.underlying40 rfl rdInfo) rfl ?_
    have hb := (((Below.refl w.heap.size w).alloc (Nat.le_refl _) _).alloc (by simp) _).trans (hu3.below (by omega))
    exact ⟨_, rfl, ⟨A, c, B, d, by dsimp only; rw [HM.out]; rfl, by dsimp only; rw [HM.out]; exact HR.out.kept hb⟩, hb⟩
  have hmay : mayOf ⟨nn, f, und, left, false⟩ i = 0 := by rw [mayOf, if_neg (by simp), if_neg (by dsimp only; omega)]
  by_cases hl : 256 < bs.length
  · have HW : Bx (writeOf ⟨nn, f, und, left, false⟩ i bs = (⟨nn, f, und, left, false⟩, 2)) := ⟨by rw [writeOf, hmay, if_neg (by decide), if_pos hl]⟩
    have hl' : (256 : Int) < ((strOfNums bs).size : Int) := by rw [HSZ.out]; omega
    clear hmay
    go_enter Try.func26, Try.ntmps26
    go_wp2_with (first
      | ((with_reducible refine at_load 26 ?_); go_must (refine wpList_load_agg rfl 40 (.tmp 3) rfl w.heap.size 0 rfl 40 _ 4 _ (heap_alloc2_old w _ _) Try.underlying40 rfl rdInfo (Nat.le_refl 4) (rCells (.slice A nn c) (.slice B m d) left false) rfl ?_))
      | ((with_reducible refine at_store (.tmp 6) (.tmp 26) ?_); go_must (refine wpList_store_agg (cells := rCells (.slice A nn c) (.slice B m d) left false) rfl 40 (.tmp 6) (.tmp 26) rfl (w.heap.size + 1) 0 rfl rfl 40 rZero (heap_alloc2_new w _ _) rdInfo (Nat.le_refl 4) (rd_one _ _ _ _ _ _ _ _) (rCells (.slice A nn c) (.slice B m d) left false) (putRow_all _ _ rfl) ?_; intro w3 hu3)))
    rw [HW.out]
    refine bodyPost_ret (results_ct (cs := rCells (.slice A nn c) (.slice B m d) left false) rfl _ _ (w.heap.size + 1) 40 _ _ rfl rfl hu3.same Try.underlying40 rfl rdInfo) rfl ?_
    have hb := (((Below.refl w.heap.size w).alloc (Nat.le_refl _) _).alloc (by simp) _).trans (hu3.below (by omega))
    exact ⟨_, rfl, ⟨A, c, B, d, by dsimp only; rw [HM.out]; rfl, by dsimp only; rw [HM.out]; exact HR.out.kept hb⟩, hb⟩
  have hl' : ¬ (256 : Int) < ((strOfNums bs).size : Int) := by rw [HSZ.out]; omega
  have HP : Bx ((256 : Int) - (bs.length : Int) = ((256 - bs.length : Nat) : Int)) := ⟨by omega⟩
  obtain ⟨l', d', r', hc⟩ : ∃ l' d' r', callOf left false = (l', d', r') := ⟨_, _, _, rfl⟩
  have HW : Bx (writeOf ⟨nn, f, und, left, false⟩ i bs = (⟨nn, f, und ++ [(i, padTo bs)], l', d'⟩, r')) := ⟨by
    rw [writeOf, hmay, if_neg (by decide), if_neg hl]; dsimp only; rw [hc]⟩
  have HC := bx hc
  clear hmay hc
  by_cases hr0 : r' = 0
  · subst hr0
    go_enter Try.func26, Try.ntmps26
    go_wp2_with (first
      | ((with_reducible refine at_load 28 ?_); go_must (refine wpList_load_agg rfl 40 (.tmp 3) rfl w.heap.size 0 rfl 40 _ 4 _ (heap_alloc2_old w _ _) Try.underlying40 rfl rdInfo (Nat.le_refl 4) (rCells (.slice A nn c) (.slice B m d) left false) rfl ?_)))
    refine (rcall_any _ A nn c B m d left false hlo hhi).mono ?_
    rintro e w1 ⟨rfl, hb1⟩
    rw [HC.out]
    have hX1 : w1.heap[w.heap.size]? = some (.cells (rCells (.slice A nn c) (.slice B m d) left false) 40 (0, 0)) := (hb1.block _ (by simp; omega)).trans (heap_alloc2_old w _ _)
    have hZ1 : w1.heap[w.heap.size + 1]? = some (.cells rZero 40 (0, 0)) := (hb1.block _ (by simp)).trans (heap_alloc2_new w _ _)
    have B1 := bx (((((Below.refl w.heap.size w).alloc (Nat.le_refl _) _).alloc (by simp) _)).trans (hb1.mono (by simp; omega)))
    have HX1 := bx hX1; have HZ1 := bx hZ1
    clear hb1 hX1 hZ1
    go_wp2_with (first
      | ((with_reducible refine at_store (.tmp 3) (.tmp 30) ?_); go_must (refine wpList_store_agg (cells := rCells (.slice A nn c) (.slice B m d) l' d') rfl 40 (.tmp 3) (.tmp 30) rfl w.heap.size 0 rfl rfl 40 (rCells (.slice A nn c) (.slice B m d) left false) HX1.out rdInfo (Nat.le_refl 4) (rd_one _ _ _ _ _ _ _ _) (rCells (.slice A nn c) (.slice B m d) l' d') (putRow_all _ _ rfl) ?_; intro w2 hu2; have B2 := bx (B1.out.trans (hu2.below (Nat.le_refl _))); have K2 := bx hu2.same; have Z2 := bx (hu2.blk HZ1.out (by omega)); have c1 : (w2.alloc (.cells #[] 56)).cell? ⟨w.heap.size, 1, none⟩ = some (.slice B m d) := blk_cell (blk_alloc hu2.same) rfl; have S2 : Bx (w.heap.size + 2 ≤ w2.heap.size) := ⟨by have := blk_lt (hu2.blk HZ1.out (by omega)); omega⟩; have O2 := bx (empty_rw w2); have U2 := bx (ownsRow_same HRU.out (fun j hj => (B2.out.alloc B2.out.size (.cells #[] 56)).block j (ownsRow_lt HRU.out j hj))); clear hu2))
      | ((with_reducible refine at_call 35 ?_); go_must (refine wpList_append_src rfl (.tmp 32) (.tmp 34) 38 rfl w2.heap.size 56 i0 _ 2 24 Try.underlying38 HI0.out HI1.out HI2.out HI3.out rfl (by decide) _ 0 [] rfl O2.out _ 0 m _ rfl U2.out rw_one HB0.out.1 HB0.out.2 (by simp) ?_; intro v3 w3 q1 q2; obtain ⟨A3, c3, rfl⟩ := ownsRow_sl q1; have B3 := bx ((B2.out.alloc B2.out.size _).grown q2 (B2.out.alloc B2.out.size _).size (fun j hj => by have := (World.ownsRow.lt O2.out j hj).1; have := B2.out.size; omega)); have ho3 : ∀ j, j < w2.heap.size → some j ≠ (Value.slice (some ⟨w2.heap.size, 0, none⟩) 0 0).ownBlock := (fun j hj e => by cases e; exact Nat.lt_irrefl _ hj); have K3 := bx ((q2.block w.heap.size (by have := S2.out; simp; omega) (ho3 _ (by have := S2.out; omega))).trans (blk_alloc K2.out)); have Z3 := bx ((q2.block (w.heap.size + 1) (by have := S2.out; simp; omega) (ho3 _ (by have := S2.out; omega))).trans (blk_alloc Z2.out)); rw [Nat.zero_add, List.nil_append] at q1; have G3 : Bx (w2.heap.size ≤ w3.heap.size) := ⟨by have := q2.size; simp at this; omega⟩; have Q3 := bx q1; clear q1 q2 ho3 c1)))
    rw [HSZ.out, HP.out]
    refine (rzeros_any _ (256 - bs.length) (by omega)).mono ?_
    rintro e w9 ⟨rfl, rfl⟩
    have hnof : ¬ 9223372036854775807 < (strOfNums bs).size + (strOfNums (List.replicate (256 - bs.length) 0)).size := by rw [HSZ.out, str_size, List.length_replicate]; omega
    go_wp2_with (first
      | ((with_reducible refine at_call 45 ?_); go_must (refine wpList_append_own _ rfl (.tmp 35) (.tmp 44) 38 rfl w2.heap.size 56 i0 _ 2 24 Try.underlying38 HI0.out HI1.out HI2.out HI3.out rfl (by decide) _ m _ rfl (Q3.out.alloc _) ⟨w3.heap.size, 0, none⟩ 1 1 [.int .i64 i, .string (strOfNums bs ++ strOfNums (List.replicate (256 - bs.length) 0))] rfl rfl blk_two two_one HB1.out.1 HB1.out.2 (by have := G3.out; simp; omega) ?_; intro v4 w4 q1 q2 q3; obtain ⟨A4, c4, rfl⟩ := ownsRow_sl q1; have hne4 : ∀ j, (Value.slice A3 m c3).ownBlock = some j → w2.heap.size ≤ j := (fun j hj => (World.ownsRow.lt Q3.out j hj).1); have k4 := (q2.block w.heap.size (by have := S2.out; have := blk_lt K3.out; simp; omega) (fun e => by have := hne4 _ e.symm; have := S2.out; omega)).trans (blk_alloc K3.out); have z4 := (q2.block (w.heap.size + 1) (by have := S2.out; have := blk_lt Z3.out; simp; omega) (fun e => by have := hne4 _ e.symm; have := S2.out; omega)).trans (blk_alloc Z3.out); have f1 : w4.frozen? ⟨w.heap.size, 1, none⟩ = false := blk_frozen 1 k4; have e1 : w4.cell? ⟨w.heap.size, 1, none⟩ = some (.slice B m d) := blk_cell k4 rfl; have B4 := bx ((B3.out.alloc B3.out.size _).grown q2 (B3.out.alloc B3.out.size _).size (fun j hj => by have := hne4 j hj; have := B2.out.size; omega)); have Q4 := bx q1; have hu5 := upd_cell k4 (j := 1) (.slice A4 (m + 1) c4); have HU5 := bx hu5; have K5 := bx hu5.same; have Z5 := bx (hu5.blk z4 (by omega)); clear q1 q2 q3 hne4 k4 z4 hu5))
      | ((with_reducible refine at_load 50 ?_); go_must (refine wpList_load_agg rfl 40 (.tmp 3) rfl w.heap.size 0 rfl 40 _ 4 _ K5.out Try.underlying40 rfl rdInfo (Nat.le_refl 4) (rCells (.slice A nn c) (.slice A4 (m + 1) c4) l' d') rfl ?_))
      | ((with_reducible refine at_store (.tmp 6) (.tmp 50) ?_); go_must (refine wpList_store_agg (cells := rCells (.slice A nn c) (.slice A4 (m + 1) c4) l' d') rfl 40 (.tmp 6) (.tmp 50) rfl (w.heap.size + 1) 0 rfl rfl 40 rZero Z5.out rdInfo (Nat.le_refl 4) (rd_one _ _ _ _ _ _ _ _) (rCells (.slice A nn c) (.slice A4 (m + 1) c4) l' d') (putRow_all _ _ rfl) ?_; intro w6 hu6)))
    rw [HW.out]
    refine bodyPost_ret (results_ct (cs := rCells (.slice A nn c) (.slice A4 (m + 1) c4) l' d') rfl _ _ (w.heap.size + 1) 40 _ _ rfl rfl hu6.same Try.underlying40 rfl rdInfo) rfl ?_
    have B6 := (B4.out.trans (HU5.out.below (Nat.le_refl _))).trans (hu6.below (by omega))
    have hge : ∀ j, (Value.slice A4 (m + 1) c4).ownBlock = some j → w2.heap.size ≤ j := fun j hj => (World.ownsRow.lt Q4.out j hj).1
    have hun := ownsRow_same (ownsRow_same (ownsRow_base Q4.out (Nat.zero_le _)).1 fun j hj => HU5.out.other j (by have := hge j hj; have := S2.out; omega)) fun j hj => hu6.other j (by have := hge j hj; have := S2.out; omega)
    have hcells : rwCells (und ++ [(i, padTo bs)]) = rwCells und ++ [.int .i64 i, .string (strOfNums bs ++ strOfNums (List.replicate (256 - bs.length) 0))] := by
      rw [rwCells_append, padTo, ← str_append]
      rfl
    exact ⟨_, rfl, ⟨A, c, A4, c4, by dsimp only; rw [List.length_append, HM.out]; rfl, by dsimp only; rw [List.length_append, HM.out]; exact ⟨ownsRow_same HR.out.safe fun j hj => B6.block j (ownsRow_lt HR.out.safe j hj), by rw [List.length_append, HM.out, hcells]; exact hun, HR.out.offS, fun j hj hs => by have := hge j hj; have := HS.out j hs; have := S2.out; omega⟩⟩, B6⟩
  · have hd : (r' == 0) = false := by simp [hr0]
    have h17 : r' = 17 := by
      have := HC.out
      unfold callOf at this
      split at this
      · cases this; rfl
      · split at this <;> (cases this; exact absurd rfl hr0)
    have H17 := bx h17
    clear hr0 h17
    go_enter Try.func26, Try.ntmps26
    go_wp2_with (first
      | ((with_reducible refine at_load 28 ?_); go_must (refine wpList_load_agg rfl 40 (.tmp 3) rfl w.heap.size 0 rfl 40 _ 4 _ (heap_alloc2_old w _ _) Try.underlying40 rfl rdInfo (Nat.le_refl 4) (rCells (.slice A nn c) (.slice B m d) left false) rfl ?_)))
    refine (rcall_any _ A nn c B m d left false hlo hhi).mono ?_
    rintro e w1 ⟨rfl, hb1⟩
    rw [HC.out]
    have hX1 : w1.heap[w.heap.size]? = some (.cells (rCells (.slice A nn c) (.slice B m d) left false) 40 (0, 0)) := (hb1.block _ (by simp; omega)).trans (heap_alloc2_old w _ _)
    have hZ1 : w1.heap[w.heap.size + 1]? = some (.cells rZero 40 (0, 0)) := (hb1.block _ (by simp)).trans (heap_alloc2_new w _ _)
    have B1 := bx (((((Below.refl w.heap.size w).alloc (Nat.le_refl _) _).alloc (by simp) _)).trans (hb1.mono (by simp; omega)))
    have HX1 := bx hX1; have HZ1 := bx hZ1
    clear hb1 hX1 hZ1
    go_wp2_with (first
      | ((with_reducible refine at_store (.tmp 3) (.tmp 30) ?_); go_must (refine wpList_store_agg (cells := rCells (.slice A nn c) (.slice B m d) l' d') rfl 40 (.tmp 3) (.tmp 30) rfl w.heap.size 0 rfl rfl 40 (rCells (.slice A nn c) (.slice B m d) left false) HX1.out rdInfo (Nat.le_refl 4) (rd_one _ _ _ _ _ _ _ _) (rCells (.slice A nn c) (.slice B m d) l' d') (putRow_all _ _ rfl) ?_; intro w2 hu2; have B2 := bx (B1.out.trans (hu2.below (Nat.le_refl _))); have K2 := bx hu2.same; have Z2 := bx (hu2.blk HZ1.out (by omega)); have c1 : (w2.alloc (.cells #[] 56)).cell? ⟨w.heap.size, 1, none⟩ = some (.slice B m d) := blk_cell (blk_alloc hu2.same) rfl; have S2 : Bx (w.heap.size + 2 ≤ w2.heap.size) := ⟨by have := blk_lt (hu2.blk HZ1.out (by omega)); omega⟩; have O2 := bx (empty_rw w2); have U2 := bx (ownsRow_same HRU.out (fun j hj => (B2.out.alloc B2.out.size (.cells #[] 56)).block j (ownsRow_lt HRU.out j hj))); clear hu2))
      | ((with_reducible refine at_call 35 ?_); go_must (refine wpList_append_src rfl (.tmp 32) (.tmp 34) 38 rfl w2.heap.size 56 i0 _ 2 24 Try.underlying38 HI0.out HI1.out HI2.out HI3.out rfl (by decide) _ 0 [] rfl O2.out _ 0 m _ rfl U2.out rw_one HB0.out.1 HB0.out.2 (by simp) ?_; intro v3 w3 q1 q2; obtain ⟨A3, c3, rfl⟩ := ownsRow_sl q1; have B3 := bx ((B2.out.alloc B2.out.size _).grown q2 (B2.out.alloc B2.out.size _).size (fun j hj => by have := (World.ownsRow.lt O2.out j hj).1; have := B2.out.size; omega)); have ho3 : ∀ j, j < w2.heap.size → some j ≠ (Value.slice (some ⟨w2.heap.size, 0, none⟩) 0 0).ownBlock := (fun j hj e => by cases e; exact Nat.lt_irrefl _ hj); have K3 := bx ((q2.block w.heap.size (by have := S2.out; simp; omega) (ho3 _ (by have := S2.out; omega))).trans (blk_alloc K2.out)); have Z3 := bx ((q2.block (w.heap.size + 1) (by have := S2.out; simp; omega) (ho3 _ (by have := S2.out; omega))).trans (blk_alloc Z2.out)); rw [Nat.zero_add, List.nil_append] at q1; have G3 : Bx (w2.heap.size ≤ w3.heap.size) := ⟨by have := q2.size; simp at this; omega⟩; have Q3 := bx q1; clear q1 q2 ho3 c1)))
    rw [HSZ.out, HP.out]
    refine (rzeros_any _ (256 - bs.length) (by omega)).mono ?_
    rintro e w9 ⟨rfl, rfl⟩
    have hnof : ¬ 9223372036854775807 < (strOfNums bs).size + (strOfNums (List.replicate (256 - bs.length) 0)).size := by rw [HSZ.out, str_size, List.length_replicate]; omega
    go_wp2_with (first
      | ((with_reducible refine at_call 45 ?_); go_must (refine wpList_append_own _ rfl (.tmp 35) (.tmp 44) 38 rfl w2.heap.size 56 i0 _ 2 24 Try.underlying38 HI0.out HI1.out HI2.out HI3.out rfl (by decide) _ m _ rfl (Q3.out.alloc _) ⟨w3.heap.size, 0, none⟩ 1 1 [.int .i64 i, .string (strOfNums bs ++ strOfNums (List.replicate (256 - bs.length) 0))] rfl rfl blk_two two_one HB1.out.1 HB1.out.2 (by have := G3.out; simp; omega) ?_; intro v4 w4 q1 q2 q3; obtain ⟨A4, c4, rfl⟩ := ownsRow_sl q1; have hne4 : ∀ j, (Value.slice A3 m c3).ownBlock = some j → w2.heap.size ≤ j := (fun j hj => (World.ownsRow.lt Q3.out j hj).1); have k4 := (q2.block w.heap.size (by have := S2.out; have := blk_lt K3.out; simp; omega) (fun e => by have := hne4 _ e.symm; have := S2.out; omega)).trans (blk_alloc K3.out); have z4 := (q2.block (w.heap.size + 1) (by have := S2.out; have := blk_lt Z3.out; simp; omega) (fun e => by have := hne4 _ e.symm; have := S2.out; omega)).trans (blk_alloc Z3.out); have f1 : w4.frozen? ⟨w.heap.size, 1, none⟩ = false := blk_frozen 1 k4; have e1 : w4.cell? ⟨w.heap.size, 1, none⟩ = some (.slice B m d) := blk_cell k4 rfl; have B4 := bx ((B3.out.alloc B3.out.size _).grown q2 (B3.out.alloc B3.out.size _).size (fun j hj => by have := hne4 j hj; have := B2.out.size; omega)); have Q4 := bx q1; have hu5 := upd_cell k4 (j := 1) (.slice A4 (m + 1) c4); have HU5 := bx hu5; have K5 := bx hu5.same; have Z5 := bx (hu5.blk z4 (by omega)); clear q1 q2 q3 hne4 k4 z4 hu5))
      | ((with_reducible refine at_load 49 ?_); go_must (refine wpList_load_agg rfl 40 (.tmp 3) rfl w.heap.size 0 rfl 40 _ 4 _ K5.out Try.underlying40 rfl rdInfo (Nat.le_refl 4) (rCells (.slice A nn c) (.slice A4 (m + 1) c4) l' d') rfl ?_))
      | ((with_reducible refine at_store (.tmp 6) (.tmp 49) ?_); go_must (refine wpList_store_agg (cells := rCells (.slice A nn c) (.slice A4 (m + 1) c4) l' d') rfl 40 (.tmp 6) (.tmp 49) rfl (w.heap.size + 1) 0 rfl rfl 40 rZero Z5.out rdInfo (Nat.le_refl 4) (rd_one _ _ _ _ _ _ _ _) (rCells (.slice A nn c) (.slice A4 (m + 1) c4) l' d') (putRow_all _ _ rfl) ?_; intro w6 hu6)))
    rw [HW.out]
    rw [H17.out]
    refine bodyPost_ret (results_ct (cs := rCells (.slice A nn c) (.slice A4 (m + 1) c4) l' d') rfl _ _ (w.heap.size + 1) 40 _ _ rfl rfl hu6.same Try.underlying40 rfl rdInfo) rfl ?_
    have B6 := (B4.out.trans (HU5.out.below (Nat.le_refl _))).trans (hu6.below (by omega))
    have hge : ∀ j, (Value.slice A4 (m + 1) c4).ownBlock = some j → w2.heap.size ≤ j := fun j hj => (World.ownsRow.lt Q4.out j hj).1
    have hun := ownsRow_same (ownsRow_same (ownsRow_base Q4.out (Nat.zero_le _)).1 fun j hj => HU5.out.other j (by have := hge j hj; have := S2.out; omega)) fun j hj => hu6.other j (by have := hge j hj; have := S2.out; omega)
    have hcells : rwCells (und ++ [(i, padTo bs)]) = rwCells und ++ [.int .i64 i, .string (strOfNums bs ++ strOfNums (List.replicate (256 - bs.length) 0))] := by
      rw [rwCells_append, padTo, ← str_append]
      rfl
    exact ⟨_, rfl, ⟨A, c, A4, c4, by dsimp only; rw [List.length_append, HM.out]; rfl, by dsimp only; rw [List.length_append, HM.out]; exact ⟨ownsRow_same HR.out.safe fun j hj => B6.block j (ownsRow_lt HR.out.safe j hj), by rw [List.length_append, HM.out, hcells]; exact hun, HR.out.offS, fun j hj hs => by have := hge j hj; have := HS.out j hs; have := S2.out; omega⟩⟩, B6⟩
end Go.Proofs.Ythnommoljikaiaa
