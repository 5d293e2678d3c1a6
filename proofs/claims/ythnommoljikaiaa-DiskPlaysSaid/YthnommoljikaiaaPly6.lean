/- The document's disk: the walk over Sync. -/
import Derived.Test.YthnommoljikaiaaPly5
set_option linter.unusedSimpArgs false
set_option linter.unusedVariables false
namespace Go.Proofs.Ythnommoljikaiaa
open Go.RowKit

theorem settleUp_congr (st : DSt) {F G : Nat → Int} : ∀ K, (∀ k, k < K → F k = G k) → settleUp st F K = settleUp st G K
  | 0, _ => rfl
  | K + 1, h => by
    rw [settleUp, settleUp, settleUp_congr st K (fun k hk => h k (by omega)), h K (by omega)]
theorem settled_all (st : DSt) : settled st (fate (List.replicate st.und.length 256)) = settled st (fun _ => 256) := by
  rw [settled, settled, settleUp_congr st (G := fun _ => 256) _ (fun k hk => by simp [fate, List.getD_eq_getElem?_getD, hk])]
set_option maxRecDepth 100000 in
set_option maxHeartbeats 1600000 in
theorem rsync_any (w : World) (S : Nat → Prop) (v : Value) (st : DSt) (h : RefIs w S v st) (hS : ∀ k, S k → k < w.heap.size) (hlo : -1 ≤ st.left) (hhi : st.left ≤ 9223372036854775807) (hn1 : 1 ≤ st.n) (hn2 : st.n ≤ 2048) (hu : st.und.length ≤ 100000)
    (h1 : ∀ j, (st.f j).length = 256) (h2 : ∀ x ∈ st.und, x.2.length = 256 ∧ 0 ≤ x.1 ∧ x.1 < st.n) :
    Calls Try.prog 27 #[v] w fun e w' => ∃ v', e = .returned (.tuple #[v', .int .i64 (syncOf st).2]) ∧ RefIs w' S v' (syncOf st).1 ∧ Below w.heap.size w w' := by
  obtain ⟨A, c, B, d, rfl, hr⟩ := h
  have HR := bx hr
  clear hr
  show Calls Try.prog 27 #[.agg #[.slice A st.n.toNat c, .slice B st.und.length d, .int .i64 st.left, .bool st.down]] w _
  cases hdn : st.down with
  | true =>
    have HW : Bx (syncOf st = (st, 17)) := ⟨by
      have : mayOf st 0 = 17 := by rw [mayOf, if_pos hdn]
      rw [syncOf, this]; rfl⟩
    go_enter Try.func27, Try.ntmps27
    go_wp2_with (first
      | ((with_reducible refine at_load 9 ?_); go_must (refine wpList_load_agg rfl 40 (.tmp 1) rfl w.heap.size 0 rfl 40 _ 4 _ (heap_alloc2_old w _ _) Try.underlying40 rfl rdInfo (Nat.le_refl 4) (rCells (.slice A st.n.toNat c) (.slice B st.und.length d) st.left true) rfl ?_))
      | ((with_reducible refine at_store (.tmp 2) (.tmp 9) ?_); go_must (refine wpList_store_agg (cells := rCells (.slice A st.n.toNat c) (.slice B st.und.length d) st.left true) rfl 40 (.tmp 2) (.tmp 9) rfl (w.heap.size + 1) 0 rfl rfl 40 #[.slice none 0 0, .slice none 0 0, .int .i64 0, .bool false] (heap_alloc2_new w _ _) rdInfo (Nat.le_refl 4) (rd_one _ _ _ _ _ _ _ _) (rCells (.slice A st.n.toNat c) (.slice B st.und.length d) st.left true) (putRow_all _ _ rfl) ?_; intro w3 hu3)))
    rw [HW.out]
    refine bodyPost_ret (results_ct (cs := rCells (.slice A st.n.toNat c) (.slice B st.und.length d) st.left true) rfl _ _ (w.heap.size + 1) 40 _ _ rfl rfl hu3.same Try.underlying40 rfl rdInfo) rfl ?_
    have hb := (((Below.refl w.heap.size w).alloc (Nat.le_refl _) _).alloc (by simp) _).trans (hu3.below (by omega))
    exact ⟨_, rfl, ⟨A, c, B, d, by dsimp only; rw [hdn], HR.out.kept hb⟩, hb⟩
  | false =>
  have hmay : mayOf st 0 = 0 := by rw [mayOf, if_neg (by simp [hdn]), if_neg (by omega)]
  obtain ⟨l', d', r', hc⟩ : ∃ l' d' r', callOf st.left false = (l', d', r') := ⟨_, _, _, rfl⟩
  have HC := bx hc
  by_cases hr0 : r' = 0
  · subst hr0
    have HW : Bx (syncOf st = (settled { st with left := l', down := d' } (fate (List.replicate st.und.length 256)), 0)) := ⟨by
      have := settled_all { st with left := l', down := d' }
      dsimp only at this
      rw [syncOf, if_neg (fun h => h hmay), hdn, hc, if_neg (fun h => h rfl)]
      dsimp only
      rw [this]⟩
    obtain ⟨T, hT⟩ : ∃ T : Nat → Prop, T = fun j => S j ∨ j = w.heap.size ∨ j = w.heap.size + 1 := ⟨_, rfl⟩
    have HT1 : Bx (T (w.heap.size + 1)) := ⟨by rw [hT]; exact .inr (.inr rfl)⟩
    have HTS : Bx (∀ k, S k → T k) := ⟨fun k hk => by rw [hT]; exact .inl hk⟩
    have HTL : Bx (∀ k, T k → k < w.heap.size + 2) := ⟨fun k hk => by
      rw [hT] at hk
      rcases hk with h | h | h
      · have := hS k h; omega
      · omega
      · omega⟩
    have HRT : Bx (RefAt w T (.slice A st.n.toNat c) (.slice B st.und.length d) st.n st.f st.und) := ⟨HR.out.wide fun k hk hl => by
      rw [hT] at hk
      rcases hk with h | h | h
      · exact h
      · omega
      · omega⟩
    have SETT := bx (fun w A0 n0 c0 fs h hf hS hn0 => rsettled_any w T (.agg (rCells (.slice A st.n.toNat c) (.slice B st.und.length d) l' d')) { st with left := l', down := d' } A0 n0 c0 fs h hf hS hn1 hn2 hu h1 h2 hn0)
    obtain ⟨i0, hi, hz0, hz1, hz2⟩ := info_parts intInfo
    have HI0 := bx hi; have HI1 := bx hz0; have HI2 := bx hz1; have HI3 := bx hz2
    have hml : st.und.length ≤ 100000 := hu
    clear hi hz0 hz1 hz2 hT hS hc hmay h1 h2 hdn hn1 hn2 hu
    go_enter Try.func27, Try.ntmps27
    go_wp2_with (first
      | ((with_reducible refine at_load 11 ?_); go_must (refine wpList_load_agg rfl 40 (.tmp 1) rfl w.heap.size 0 rfl 40 _ 4 _ (heap_alloc2_old w _ _) Try.underlying40 rfl rdInfo (Nat.le_refl 4) (rCells (.slice A st.n.toNat c) (.slice B st.und.length d) st.left false) rfl ?_)))
    refine (rcall_any _ A st.n.toNat c B st.und.length d st.left false hlo hhi).mono ?_
    rintro e w1 ⟨rfl, hb1⟩
    rw [HC.out]
    have K1 := bx ((hb1.block w.heap.size (by simp; omega)).trans (heap_alloc2_old w _ _))
    have Z1 := bx ((hb1.block (w.heap.size + 1) (by simp)).trans (heap_alloc2_new w _ _))
    have BB1 := bx (((((Below.refl w.heap.size w).alloc (Nat.le_refl _) _).alloc (by simp) _)).trans (hb1.mono (by simp; omega)))
    clear hb1
    go_wp2_with (first
      | ((with_reducible refine at_store (.tmp 1) (.tmp 13) ?_); go_must (refine wpList_store_agg (cells := rCells (.slice A st.n.toNat c) (.slice B st.und.length d) l' d') rfl 40 (.tmp 1) (.tmp 13) rfl w.heap.size 0 rfl rfl 40 #[.slice A st.n.toNat c, .slice B st.und.length d, .int .i64 st.left, .bool false] K1.out rdInfo (Nat.le_refl 4) (rd_one _ _ _ _ _ _ _ _) (rCells (.slice A st.n.toNat c) (.slice B st.und.length d) l' d') (putRow_all _ _ rfl) ?_; intro w2 hu2; have K2 := bx hu2.same; have Z2 := bx (hu2.blk Z1.out (by omega)); have BB2 := bx (BB1.out.trans (hu2.below (Nat.le_refl _))); clear hu2))
      | ((with_reducible refine at_load 17 ?_); go_must (refine wpList_load_agg rfl 40 (.tmp 1) rfl w.heap.size 0 rfl 40 _ 4 _ K2.out Try.underlying40 rfl rdInfo (Nat.le_refl 4) (rCells (.slice A st.n.toNat c) (.slice B st.und.length d) l' d') rfl ?_))
      | ((with_reducible refine at_store (.tmp 2) (.tmp 17) ?_); go_must (refine wpList_store_agg (cells := rCells (.slice A st.n.toNat c) (.slice B st.und.length d) l' d') rfl 40 (.tmp 2) (.tmp 17) rfl (w.heap.size + 1) 0 rfl rfl 40 #[.slice none 0 0, .slice none 0 0, .int .i64 0, .bool false] Z2.out rdInfo (Nat.le_refl 4) (rd_one _ _ _ _ _ _ _ _) (rCells (.slice A st.n.toNat c) (.slice B st.und.length d) l' d') (putRow_all _ _ rfl) ?_; intro w3 hu3)))
    generalize hm : st.und.length = m at *
    have HM := bx hm
    clear hm
    have S2 : Bx (w.heap.size + 2 ≤ w2.heap.size) := ⟨by have := blk_lt Z2.out; omega⟩
    go_loopw [5, 6] (fun v q wr => ∃ k : Nat, k ≤ m ∧ q = .int .i64 k ∧ wr.heap[w.heap.size]? = some (.cells (rCells (.slice A st.n.toNat c) (.slice B m d) l' d') 40 (0, 0)) ∧ wr.heap[w.heap.size + 1]? = some (.cells #[.slice none 0 0, .slice none 0 0, .int .i64 0, .bool false] 40 (0, 0)) ∧ wr.ownsRow w2.heap.size 3 1 v k ((List.replicate k 256).map (Value.int .i64)) ∧ Below w.heap.size w wr ∧ w2.heap.size ≤ wr.heap.size) (fun _ q _ => m - (intOf q).toNat)
    case atStart => exact ⟨0, Nat.zero_le _, rfl, K2.out, Z2.out, World.ownsRow_nil _ _ _ _, BB2.out, Nat.le_refl _⟩
    case round =>
      rename_i v5 _
      obtain ⟨k, hk, rfl, hkr, hzr, ho, hbr, hsz⟩ := hrel
      obtain ⟨A5, c5, rfl⟩ := ownsRow_sl ho
      have KR := bx hkr; have ZR := bx hzr; have HO := bx ho; have BR := bx hbr; have SZ := bx hsz
      have e1 : wr.cell? ⟨w.heap.size, 1, none⟩ = some (.slice B m d) := blk_cell hkr rfl
      clear hkr hzr ho hbr hsz
      by_cases hlt : k < m
      · have hlt' : (k : Int) < m := by omega
        have HB2 : Bx (k + 1 ≤ maxLen ∧ (k + 1) * 8 ≤ 140737488355328) := ⟨by simp only [maxLen]; omega, by omega⟩
        have BA := bx (BR.out.alloc BR.out.size (.cells #[.int .i64 256] 3))
        have HTK : Bx ((List.replicate (k + 1) (256 : Int)).map (Value.int .i64) = (List.replicate k 256).map (Value.int .i64) ++ [.int .i64 256]) := ⟨by rw [List.replicate_succ', List.map_append]; rfl⟩
        go_wp2_with (first
          | ((with_reducible refine at_call 27 ?_); go_must (refine wpList_append_own _ rfl (.tmp 25) (.tmp 26) 43 rfl w2.heap.size 3 i0 _ 1 8 Try.underlying43 HI0.out HI1.out HI2.out HI3.out rfl (by decide) _ k _ rfl (HO.out.alloc _) ⟨wr.heap.size, 0, none⟩ 1 1 [.int .i64 256] rfl rfl blk_one one_ofInt HB2.out.1 HB2.out.2 (by have := SZ.out; simp; omega) ?_; intro v' w' q1 q2 q3; have hne : ∀ j, (Value.slice A5 k c5).ownBlock = some j → w2.heap.size ≤ j := (fun j hj => (World.ownsRow.lt HO.out j hj).1); have k4 := (q2.block w.heap.size (by have := S2.out; have := SZ.out; simp; omega) (fun e => by have := hne _ e.symm; have := S2.out; omega)).trans (blk_alloc KR.out); have z4 := (q2.block (w.heap.size + 1) (by have := S2.out; have := SZ.out; simp; omega) (fun e => by have := hne _ e.symm; have := S2.out; omega)).trans (blk_alloc ZR.out); have b4 := BA.out.grown q2 BA.out.size (fun j hj => by have := hne j hj; have := S2.out; omega); have s4 : w2.heap.size ≤ w'.heap.size := (by have := q2.size; have := SZ.out; simp at *; omega); have K4 := bx k4; have Z4 := bx z4; have B4 := bx b4; have S4 := bx s4; have Q4 := bx q1; clear q1 q2 q3 hne k4 z4 b4 s4)))
        exact ⟨⟨k + 1, by omega, by go_num, K4.out, Z4.out, by rw [HTK.out]; exact Q4.out, B4.out, S4.out⟩, by simp [intOf]; omega⟩
      · obtain rfl : k = m := by omega
        have hlt' : ¬ (k : Int) < k := by omega
        obtain ⟨A6, c6, he6, hrd, _⟩ := ownsRow_rdI HO.out
        simp only [Value.slice.injEq, true_and] at he6
        obtain ⟨rfl, rfl⟩ := he6
        have HRD := bx hrd
        clear hrd
        go_wp2_with (first
          | ((with_reducible refine at_load 28 ?_); go_must (refine wpList_load_agg rfl 40 (.tmp 1) rfl w.heap.size 0 rfl 40 _ 4 _ KR.out Try.underlying40 rfl rdInfo (Nat.le_refl 4) (rCells (.slice A st.n.toNat c) (.slice B k d) l' d') rfl ?_)))
        refine (SETT.out wr A5 k c5 (List.replicate k 256) ⟨A, c, B, d, by dsimp only; rw [HM.out], by dsimp only; have := HRT.out.kept BR.out; rw [HM.out]; exact this⟩ HRD.out (fun j hj => by have := HTL.out j hj; have := S2.out; have := SZ.out; omega) (by omega)).mono ?_
        rintro e w3 ⟨v1, rfl, ⟨A1, c1, B1, d1, rfl, hr1⟩, hb3⟩
        have Z5 := bx ((hb3.block (w.heap.size + 1) (by have := S2.out; have := SZ.out; omega)).trans ZR.out)
        have R5 := bx hr1; have BB5 := bx (BR.out.trans (hb3.mono BR.out.size))
        clear hr1 hb3
        go_wp2_with (first
          | ((with_reducible refine at_store (.tmp 2) (.tmp 30) ?_); go_must (refine wpList_store_agg (cells := rCells _ _ _ _) rfl 40 (.tmp 2) (.tmp 30) rfl (w.heap.size + 1) 0 rfl rfl 40 #[.slice none 0 0, .slice none 0 0, .int .i64 0, .bool false] Z5.out rdInfo (Nat.le_refl 4) (rd_one _ _ _ _ _ _ _ _) _ (putRow_all _ _ rfl) ?_; intro w6 hu6)))
        rw [HW.out]
        refine bodyPost_ret (results_ct (cs := rCells _ _ _ _) rfl _ _ (w.heap.size + 1) 40 _ _ rfl rfl hu6.same Try.underlying40 rfl rdInfo) rfl ?_
        exact ⟨_, rfl, ⟨A1, c1, B1, d1, rfl, (R5.out.only ((Only.refl T w3).upd hu6 HT1.out) (fun j hj _ => hj)).wide fun j hj _ => HTS.out j hj⟩, BB5.out.trans (hu6.below (by omega))⟩
  · have hd : (r' == 0) = false := by simp [hr0]
    have HW : Bx (syncOf st = ({ st with left := l', down := d' }, r')) := ⟨by rw [syncOf, if_neg (fun h => h hmay), hdn, hc, if_pos hr0]⟩
    have h17 : r' = 17 := by
      have := HC.out
      unfold callOf at this
      split at this
      · cases this; rfl
      · split at this <;> (cases this; exact absurd rfl hr0)
    have H17 := bx h17
    clear hr0 h17 hc hmay
    go_enter Try.func27, Try.ntmps27
    go_wp2_with (first
      | ((with_reducible refine at_load 11 ?_); go_must (refine wpList_load_agg rfl 40 (.tmp 1) rfl w.heap.size 0 rfl 40 _ 4 _ (heap_alloc2_old w _ _) Try.underlying40 rfl rdInfo (Nat.le_refl 4) (rCells (.slice A st.n.toNat c) (.slice B st.und.length d) st.left false) rfl ?_)))
    refine (rcall_any _ A st.n.toNat c B st.und.length d st.left false hlo hhi).mono ?_
    rintro e w1 ⟨rfl, hb1⟩
    rw [HC.out]
    have K1 := bx ((hb1.block w.heap.size (by simp; omega)).trans (heap_alloc2_old w _ _))
    have Z1 := bx ((hb1.block (w.heap.size + 1) (by simp)).trans (heap_alloc2_new w _ _))
    have BB1 := bx (((((Below.refl w.heap.size w).alloc (Nat.le_refl _) _).alloc (by simp) _)).trans (hb1.mono (by simp; omega)))
    clear hb1
    go_wp2_with (first
      | ((with_reducible refine at_store (.tmp 1) (.tmp 13) ?_); go_must (refine wpList_store_agg (cells := rCells (.slice A st.n.toNat c) (.slice B st.und.length d) l' d') rfl 40 (.tmp 1) (.tmp 13) rfl w.heap.size 0 rfl rfl 40 #[.slice A st.n.toNat c, .slice B st.und.length d, .int .i64 st.left, .bool false] K1.out rdInfo (Nat.le_refl 4) (rd_one _ _ _ _ _ _ _ _) (rCells (.slice A st.n.toNat c) (.slice B st.und.length d) l' d') (putRow_all _ _ rfl) ?_; intro w2 hu2; have K2 := bx hu2.same; have Z2 := bx (hu2.blk Z1.out (by omega)); have BB2 := bx (BB1.out.trans (hu2.below (Nat.le_refl _))); clear hu2))
      | ((with_reducible refine at_load 17 ?_); go_must (refine wpList_load_agg rfl 40 (.tmp 1) rfl w.heap.size 0 rfl 40 _ 4 _ K2.out Try.underlying40 rfl rdInfo (Nat.le_refl 4) (rCells (.slice A st.n.toNat c) (.slice B st.und.length d) l' d') rfl ?_))
      | ((with_reducible refine at_store (.tmp 2) (.tmp 17) ?_); go_must (refine wpList_store_agg (cells := rCells (.slice A st.n.toNat c) (.slice B st.und.length d) l' d') rfl 40 (.tmp 2) (.tmp 17) rfl (w.heap.size + 1) 0 rfl rfl 40 #[.slice none 0 0, .slice none 0 0, .int .i64 0, .bool false] Z2.out rdInfo (Nat.le_refl 4) (rd_one _ _ _ _ _ _ _ _) (rCells (.slice A st.n.toNat c) (.slice B st.und.length d) l' d') (putRow_all _ _ rfl) ?_; intro w3 hu3)))
    rw [HW.out, H17.out]
    refine bodyPost_ret (results_ct (cs := rCells (.slice A st.n.toNat c) (.slice B st.und.length d) l' d') rfl _ _ (w.heap.size + 1) 40 _ _ rfl rfl hu3.same Try.underlying40 rfl rdInfo) rfl ?_
    have hb := BB2.out.trans (hu3.below (by omega))
    exact ⟨_, rfl, ⟨A, c, B, d, rfl, HR.out.kept hb⟩, hb⟩
end Go.Proofs.Ythnommoljikaiaa
