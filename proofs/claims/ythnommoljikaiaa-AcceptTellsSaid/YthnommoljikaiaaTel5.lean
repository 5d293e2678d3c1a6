/- The law AcceptTells returns true. -/
import Derived.Test.YthnommoljikaiaaTel4
import Derived.Test.YthnommoljikaiaaErrs
import Derived.Test.YthnommoljikaiaaAcc3
import Derived.Test.YthnommoljikaiaaOpenB
import Derived.Test.YthnommoljikaiaaTel5t
import Derived.Test.YthnommoljikaiaaAgg
set_option linter.unusedSimpArgs false
set_option linter.unusedVariables false
namespace Go.Proofs.Ythnommoljikaiaa
open Go.RowKit

set_option maxRecDepth 100000 in
set_option maxHeartbeats 1000000 in
theorem tells_long (p : Pin) (t : Told) (o : Sl) (w : World) (hlong : 1000 < t.s.n ∨ 200 < o.n) :
    Calls Try.prog 11 #[p.val, t.val, o.val] w fun e w' => e = .returned (.bool true) ∧ Below w.heap.size w w' := by
  obtain ⟨pg, pe, ps⟩ := p
  obtain ⟨gen, epoch, ⟨A, n, cap, bs⟩⟩ := t
  obtain ⟨A2, n2, cap2, bs2⟩ := o
  show Calls _ _ #[.agg (pinCells pg pe ps), .agg #[.int .u64 gen, .int .u64 epoch, .slice A n cap], .slice A2 n2 cap2] w _
  dsimp only at hlong
  have hb : Bx (Below w.heap.size w ((w.alloc (.cells (pinCells pg pe ps) 84)).alloc (.cells #[.int .u64 gen, .int .u64 epoch, .slice A n cap] 86))) := ⟨((Below.refl _ _).alloc (Nat.le_refl _) _).alloc (by simp) _⟩
  by_cases hn : 1000 < n
  · clear hlong
    go_enter Try.func11, Try.ntmps11
    go_wp2_with fail
    go_ret
    exact ⟨rfl, hb.out⟩
  · have hn2 : 200 < n2 := by omega
    clear hlong
    go_enter Try.func11, Try.ntmps11
    go_wp2_with fail
    go_ret
    exact ⟨rfl, hb.out⟩

set_option maxRecDepth 100000 in
set_option maxHeartbeats 2000000 in
theorem tells_good (p : Pin) (t : Told) (o : Sl) (w : World) (hp : p.s.length = 32) (hpB : IsB p.s) (hpg : U64 p.g) (hpe : U64 p.e) (ht : t.s.Ok w) (ho : o.Full w) (h1 : t.s.n ≤ 1000) (h2 : o.n ≤ 200) (rg re : Int) (rs : List Int) (hr : acceptOf p t.gen t.s.bs t.epoch = (⟨rg, re, rs⟩, 0)) (hrs : rs.length = 32) :
    Calls Try.prog 11 #[p.val, t.val, o.val] w fun e w' => e = .returned (.bool true) ∧ Below w.heap.size w w' := by
  obtain ⟨pg, pe, ps⟩ := p
  obtain ⟨gen, epoch, ⟨A, n, cap, bs⟩⟩ := t
  obtain ⟨A2, n2, cap2, bs2⟩ := o
  obtain ⟨ht1, ht2, ht3⟩ := ht
  obtain ⟨⟨ho1, ho2, ho3⟩, ho4, ho5⟩ := ho
  dsimp only at *
  have HT1 := bx ht1; have HT2 := bx ht2; have HT3 := bx ht3; have HO1 := bx ho1; have HO2 := bx ho2; have HO4 := bx ho4; have HP := bx hp; have HR := bx hr; have HRS := bx hrs; have HPB := bx hpB
  have HN2 := bx ho1.1; have HN1 := bx ht1.1
  have HPU : Bx ((0 ≤ pg ∧ pg < 18446744073709551616) ∧ (0 ≤ pe ∧ pe < 18446744073709551616)) := ⟨by unfold U64 at hpg hpe; omega⟩
  have hn1 : ¬ (1000 : Int) < n := by omega
  have hn2 : ¬ (200 : Int) < n2 := by omega
  obtain ⟨yg, ye, ys, hY⟩ : ∃ yg ye ys, ownRes (⟨rg, re, rs⟩, 0) = ownCells yg ye ys := ⟨rg, re, strOfNums rs, by rw [ownRes, if_pos rfl]⟩
  have HY := bx hY
  have HYE : Bx (ownCells yg ye ys = ownCells rg re (strOfNums rs)) := ⟨by rw [← hY, ownRes, if_pos rfl]⟩
  clear hY
  clear ht1 ht2 ht3 ho1 ho2 ho3 ho4 ho5 hp hpB hpg hpe hr hrs
  show Calls _ _ #[.agg (pinCells pg pe ps), .agg #[.int .u64 gen, .int .u64 epoch, .slice A n cap], .slice A2 n2 cap2] w _
  obtain ⟨w0, hw0⟩ : ∃ w0, w0 = (w.alloc (.cells (pinCells pg pe ps) 84)).alloc (.cells #[.int .u64 gen, .int .u64 epoch, .slice A n cap] 86) := ⟨_, rfl⟩
  have B0 : Bx (Below w.heap.size w w0) := ⟨by rw [hw0]; exact ((Below.refl _ _).alloc (Nat.le_refl _) _).alloc (by simp) _⟩
  have P0 : Bx (w0.heap[w.heap.size]? = some (.cells (pinCells pg pe ps) 84 (0, 0))) := ⟨by rw [hw0]; exact heap_alloc2_old w _ _⟩
  have T0 : Bx (w0.heap[w.heap.size + 1]? = some (.cells #[.int .u64 gen, .int .u64 epoch, .slice A n cap] 86 (0, 0))) := ⟨by rw [hw0]; exact heap_alloc2_new w _ _⟩
  have I34 := bx pin_info
  have PN := fun w => pin_neq_self rg re rs HRS.out w
  have PNP := fun w => pin_neq_self pg pe ps HP.out w
  have ON := own_neq
  have z0 : w0.cell? ⟨w.heap.size + 1, 0, none⟩ = some (.int .u64 gen) := blk_cell T0.out rfl
  have z1 : w0.cell? ⟨w.heap.size + 1, 1, none⟩ = some (.int .u64 epoch) := blk_cell T0.out rfl
  have z2 : w0.cell? ⟨w.heap.size + 1, 2, none⟩ = some (.slice A n cap) := blk_cell T0.out rfl
  have HW := bx hw0
  clear hw0
  go_enter Try.func11, Try.ntmps11
  go_upto_region 1 with fail
  rw [← HW.out]
  clear HW
  go_wp2_with (first
    | ((with_reducible refine at_load 27 ?_); go_must (refine wpList_load_agg rfl 84 (.tmp 3) rfl w.heap.size 0 rfl 84 (pinCells pg pe ps) 34 _ P0.out Try.underlying84 rfl I34.out (by rw [pin_size _ _ _ HP.out]; decide) (pinCells pg pe ps) (pin_all _ _ _ HP.out) ?_)))
  refine (accept_at ⟨pg, pe, ps⟩ gen epoch A n cap bs ⟨rg, re, rs⟩ 0 HR.out _ HP.out (HT1.out.below B0.out) HT2.out HT3.out (by omega)).mono ?_
  rintro x w1 ⟨rfl, hb1⟩
  have B1 := bx (B0.out.trans (hb1.mono B0.out.size))
  have P1 := bx ((hb1.block _ (blk_lt P0.out)).trans P0.out)
  have T1 := bx ((hb1.block _ (blk_lt T0.out)).trans T0.out)
  clear hb1 z0 z1 z2
  go_upto_region 4 with (first
    | ((with_reducible refine at_store (.tmp 7) (.tmp 35) ?_); go_must (refine wpList_store_agg (cells := pinCells rg re rs) rfl 84 (.tmp 7) (.tmp 35) rfl w1.heap.size 0 rfl rfl 84 (pinCells 0 0 zero32) (blk_new w1 _) (by rw [pin_size _ _ _ HRS.out]; exact I34.out) (by rw [pin_size _ _ _ HRS.out]; decide) (pin_oneCell _ _ _) (pinCells rg re rs) (pin_put _ rfl _ _ _ HRS.out) ?_; intro w2 hu2)))
  have hl1 := blk_lt P1.out
  have hl2 := blk_lt T1.out
  have P2 := bx (hu2.blk (blk_alloc P1.out) (by omega)); have T2 := bx (hu2.blk (blk_alloc T1.out) (by omega)); have X2 := bx hu2.same
  have B2 := bx ((B1.out.alloc B1.out.size _).trans (hu2.below B1.out.size))
  clear hu2 hl1 hl2 P0 T0 P1 T1 B0 B1
  have HC : Bx (∀ w', Below w2.heap.size w2 w' → w'.cell? ⟨w.heap.size + 1, 0, none⟩ = some (.int .u64 gen) ∧ w'.cell? ⟨w.heap.size + 1, 1, none⟩ = some (.int .u64 epoch) ∧ w'.cell? ⟨w.heap.size + 1, 2, none⟩ = some (.slice A n cap) ∧ (convert 22 9 (.slice A n cap)).run Try.prog w' = .ok (.string (strOfNums bs)) w') := ⟨fun w' hb => by
    have hk := (hb.block _ (blk_lt T2.out)).trans T2.out
    exact ⟨blk_cell hk rfl, blk_cell hk rfl, blk_cell hk rfl, str_of ((HT1.out.below B2.out).below hb) cap⟩⟩
  have HA1 : Bx (∀ w, Calls Try.prog 44 #[.agg (pinCells pg pe ps)] w fun e w' => e = .returned (.agg (ownCells pg pe (strOfNums ps))) ∧ Below w.heap.size w w') := ⟨fun w => own18_any ⟨pg, pe, ps⟩ w HP.out⟩
  have HA2 : Bx (∀ w, Calls Try.prog 43 #[.agg (ownCells pg pe (strOfNums ps)), .int .u64 gen, .string (strOfNums bs), .int .u64 epoch] w fun x w' => x = .returned (.tuple #[.agg (ownCells yg ye ys), .int .i64 0]) ∧ Below w.heap.size w w') := ⟨fun w => by
    have h := raccept_any ⟨pg, pe, ps⟩ gen epoch bs w HP.out HPB.out HT2.out (by rw [HN1.out]; omega)
    rw [HR.out] at h
    rw [← HY.out]
    exact h⟩
  have HA3 : Bx (∀ w, Calls Try.prog 44 #[.agg (pinCells rg re rs)] w fun e w' => e = .returned (.agg (ownCells rg re (strOfNums rs))) ∧ Below w.heap.size w w') := ⟨fun w => own18_any ⟨rg, re, rs⟩ w HRS.out⟩
  have SP := bx (readPin_put ⟨pg, pe, ps⟩ HP.out HPU.out.1 HPU.out.2)
  have HA4 : Bx (∀ w, Calls Try.prog 47 #[.agg (ownCells pg pe (strOfNums ps))] w fun x w' => x = .returned (.string (strOfNums (be pg 8 ++ be pe 8 ++ ps))) ∧ Below w.heap.size w w') := ⟨fun w => rput18_any pg pe ps w (by rw [HP.out]; decide) HPU.out.1 HPU.out.2⟩
  have HA5 := bx (fun w => aput_any ⟨pg, pe, ps⟩ w HP.out)
  have SPB : Bx (IsB (be pg 8 ++ be pe 8 ++ ps)) := ⟨isB_append (isB_append (be_isB _ _) (be_isB _ _)) HPB.out⟩
  dsimp only at SP HA5
  generalize hL : be pg 8 ++ be pe 8 ++ ps = L at *
  generalize strOfNums ps = sp at *
  generalize strOfNums bs = sb at *
  clear hL
  try simp only [Act.put]
  refine region_allocR w2.heap.size (fun w' => Below w2.heap.size w2 w') 11 13 9 _ (.cells (ownCells 0 0 ⟨#[]⟩) 94 (0, 0)) (by kernel_rfl) (by kernel_rfl) rfl rfl rfl rfl (fun a w => by kernel_rfl) ((Below.refl _ _).drew) (top_closed _ w2 (Nat.le_refl _)) (fun _ h => h.size) (fun _ _ _ _ _ h => h) ?_
  simp only [List.take_succ_cons, List.take_zero, List.drop_succ_cons, List.drop_zero]
  repeat (first
    | (refine quietR_take (v := .agg (pinCells pg pe ps)) 38 rfl (by kernel_rfl) (fun w' hw' => quietAt_load_agg 84 (.tmp 3) rfl w.heap.size 0 rfl 84 (pinCells pg pe ps) 34 _ ((hw'.block _ (blk_lt P2.out)).trans P2.out) Try.underlying84 rfl I34.out (by rw [pin_size _ _ _ HP.out]; decide) (pinCells pg pe ps) (pin_all _ _ _ HP.out)) ?_; try simp only [List.setIfInBounds_toArray, List.set_cons_zero, List.set_cons_succ])
    | (refine quietR_take (v := ?_) _ rfl (by kernel_rfl) ?_ ?_; rotate_left 1; (focus (first | (intro w' hw'; clear hw'; unfold Oper.quietAt; go_simp; done) | (intro w' hw'; clear hw'; unfold Oper.quietAt; go_simp; with_reducible rfl) | (intro w' hw'; obtain ⟨k0, k1, k2, k3⟩ := HC.out w' hw'; unfold Oper.quietAt; go_simp; first | done | with_reducible rfl | ((with_reducible refine (HA1.out w').mono ?_); rintro x w9 ⟨rfl, hb⟩; refine ⟨?_, hb⟩; with_reducible rfl) | ((with_reducible refine (HA2.out w').mono ?_); rintro x w9 ⟨rfl, hb⟩; refine ⟨?_, hb⟩; with_reducible rfl)))); try simp only [List.setIfInBounds_toArray, List.set_cons_zero, List.set_cons_succ]))
  refine quietR_nil ?_
  repeat (refine wpPure_take (v := ?_) _ rfl (by kernel_rfl) ?_ ?_; rotate_left 1; (focus (intro w'; go_simp; try with_reducible rfl; done)); try simp only [List.setIfInBounds_toArray, List.set_cons_zero, List.set_cons_succ])
  refine wpPure_nil ?_
  intro b w' hN' hw' hb'
  try simp only [List.setIfInBounds_toArray, List.set_cons_zero, List.set_cons_succ]
  have P3 := bx ((hw'.block _ (blk_lt P2.out)).trans P2.out); have X3 := bx ((hw'.block _ (blk_lt X2.out)).trans X2.out); have B3 := bx (B2.out.trans (hw'.mono B2.out.size)); have Y3 := bx hb'
  have BN : Bx (w.heap.size ≤ b ∧ w1.heap.size < b) := ⟨by have := blk_lt X2.out; have := B2.out.size; omega⟩
  have BN2 : Bx (w.heap.size + 1 < b) := ⟨by have := blk_lt T2.out; omega⟩
  clear hN' hw' hb' HC HA2
  go_upto_region 5 with (first
    | ((with_reducible refine at_store (.tmp 9) (.tmp 48) ?_); go_must (refine wpList_store_agg (cells := ownCells yg ye ys) rfl 94 (.tmp 9) (.tmp 48) rfl b 0 rfl rfl 94 (ownCells 0 0 ⟨#[]⟩) Y3.out ownInfo (Nat.le_refl 3) (own_one _ _ _) (ownCells yg ye ys) (putRow_all _ _ rfl) ?_; intro w4 hu4)))
  have P4 := bx (hu4.blk P3.out (by have := BN2.out; omega)); have X4 := bx (hu4.blk X3.out (by have := BN.out; omega)); have Y4 := bx hu4.same
  have B4 := bx (B3.out.trans (hu4.below BN.out.1))
  clear hu4 P2 X2 T2 P3 X3 Y3 B2 B3 BN2
  rw [HYE.out] at Y4
  generalize strOfNums rs = sr at *
  try simp only [Act.put]
  refine region_quietC (fun w' => Below w4.heap.size w4 w') (by kernel_rfl) (by kernel_rfl) ((Below.refl _ _).drew) ?_
  repeat (first
    | go_big_quiet_skip
    | (refine quiet_take (v := .agg (pinCells rg re rs)) 57 rfl (by kernel_rfl) (fun w' hw' => quietAt_load_agg 84 (.tmp 7) rfl w1.heap.size 0 rfl 84 (pinCells rg re rs) 34 _ ((hw'.block _ (blk_lt X4.out)).trans X4.out) Try.underlying84 rfl I34.out (by rw [pin_size _ _ _ HRS.out]; decide) (pinCells rg re rs) (pin_all _ _ _ HRS.out)) ?_; try simp only [List.setIfInBounds_toArray, List.set_cons_zero, List.set_cons_succ])
    | (refine quiet_take (v := .agg (ownCells rg re sr)) 59 rfl (by kernel_rfl) (fun w' hw' => quietAt_load_agg 94 (.tmp 9) rfl b 0 rfl 94 (ownCells rg re sr) 3 _ ((hw'.block _ (blk_lt Y4.out)).trans Y4.out) Try.underlying94 rfl ownInfo (Nat.le_refl 3) (ownCells rg re sr) rfl) ?_; try simp only [List.setIfInBounds_toArray, List.set_cons_zero, List.set_cons_succ])
    | (go_big_quiet_want; go_big_quiet_op; go_big_quiet_on)
    | (refine quiet_take (v := ?_) _ rfl (by kernel_rfl) ?_ ?_; rotate_left 1; (focus (first | (intro w' hw'; clear hw'; unfold Oper.quietAt; go_simp; done) | (intro w' hw'; clear hw'; unfold Oper.quietAt; go_simp; with_reducible rfl) | (intro w' hw'; skip; unfold Oper.quietAt; go_simp; first | done | with_reducible rfl | ((with_reducible refine (HA3.out w').mono ?_); rintro x w9 ⟨rfl, hb⟩; refine ⟨?_, hw'.trans (hb.mono hw'.size)⟩; with_reducible rfl)))); try simp only [List.setIfInBounds_toArray, List.set_cons_zero, List.set_cons_succ]))
  refine wpQuiet_nil ?_
  intro w5 hw5
  have P5 := bx ((hw5.block _ (blk_lt P4.out)).trans P4.out); have B5 := bx (B4.out.trans (hw5.mono B4.out.size))
  clear hw5 P4 X4 Y4 B4 PN ON HA3
  go_step
  go_step
  go_step
  first
    | (refine tells_tail pg pe ps A2 n2 cap2 bs2 w w5 HP.out HPB.out HPU.out HO1.out HO2.out HO4.out h2 P5.out B5.out _ _ _ _ _ _ _ _ _ _ _ _ _ _ _ _ _ _ _ _ _ _ _ _ _ _ _ _ _ _ _ _ _ _ _ _ _ _ _ _ _ _ _ _ _ _ _ _ _ _ _ _ _ _ _ _ _ _ _ _ _ _ _ _ _ _ _ _ _ _ _ _ _ _ _ _ _ _ _ _ _ _ _ _ _ _ _ _ _ _ _ _ _ _ _ _ _ _ _ _ _ _ _ _ _ _ _ _ _ _ _ _ _ _ _ _ _ _ _ _ _ _ _ _ _ _ _ _ _ _ _ _ _ _ _ _ _ _ _ _)
    | (go_step; refine tells_tail pg pe ps A2 n2 cap2 bs2 w w5 HP.out HPB.out HPU.out HO1.out HO2.out HO4.out h2 P5.out B5.out _ _ _ _ _ _ _ _ _ _ _ _ _ _ _ _ _ _ _ _ _ _ _ _ _ _ _ _ _ _ _ _ _ _ _ _ _ _ _ _ _ _ _ _ _ _ _ _ _ _ _ _ _ _ _ _ _ _ _ _ _ _ _ _ _ _ _ _ _ _ _ _ _ _ _ _ _ _ _ _ _ _ _ _ _ _ _ _ _ _ _ _ _ _ _ _ _ _ _ _ _ _ _ _ _ _ _ _ _ _ _ _ _ _ _ _ _ _ _ _ _ _ _ _ _ _ _ _ _ _ _ _ _ _ _ _ _ _ _ _)
    | (go_step; go_step; refine tells_tail pg pe ps A2 n2 cap2 bs2 w w5 HP.out HPB.out HPU.out HO1.out HO2.out HO4.out h2 P5.out B5.out _ _ _ _ _ _ _ _ _ _ _ _ _ _ _ _ _ _ _ _ _ _ _ _ _ _ _ _ _ _ _ _ _ _ _ _ _ _ _ _ _ _ _ _ _ _ _ _ _ _ _ _ _ _ _ _ _ _ _ _ _ _ _ _ _ _ _ _ _ _ _ _ _ _ _ _ _ _ _ _ _ _ _ _ _ _ _ _ _ _ _ _ _ _ _ _ _ _ _ _ _ _ _ _ _ _ _ _ _ _ _ _ _ _ _ _ _ _ _ _ _ _ _ _ _ _ _ _ _ _ _ _ _ _ _ _ _ _ _ _)
    | (go_step; go_step; go_step; refine tells_tail pg pe ps A2 n2 cap2 bs2 w w5 HP.out HPB.out HPU.out HO1.out HO2.out HO4.out h2 P5.out B5.out _ _ _ _ _ _ _ _ _ _ _ _ _ _ _ _ _ _ _ _ _ _ _ _ _ _ _ _ _ _ _ _ _ _ _ _ _ _ _ _ _ _ _ _ _ _ _ _ _ _ _ _ _ _ _ _ _ _ _ _ _ _ _ _ _ _ _ _ _ _ _ _ _ _ _ _ _ _ _ _ _ _ _ _ _ _ _ _ _ _ _ _ _ _ _ _ _ _ _ _ _ _ _ _ _ _ _ _ _ _ _ _ _ _ _ _ _ _ _ _ _ _ _ _ _ _ _ _ _ _ _ _ _ _ _ _ _ _ _ _)
    | (go_step; go_step; go_step; go_step; refine tells_tail pg pe ps A2 n2 cap2 bs2 w w5 HP.out HPB.out HPU.out HO1.out HO2.out HO4.out h2 P5.out B5.out _ _ _ _ _ _ _ _ _ _ _ _ _ _ _ _ _ _ _ _ _ _ _ _ _ _ _ _ _ _ _ _ _ _ _ _ _ _ _ _ _ _ _ _ _ _ _ _ _ _ _ _ _ _ _ _ _ _ _ _ _ _ _ _ _ _ _ _ _ _ _ _ _ _ _ _ _ _ _ _ _ _ _ _ _ _ _ _ _ _ _ _ _ _ _ _ _ _ _ _ _ _ _ _ _ _ _ _ _ _ _ _ _ _ _ _ _ _ _ _ _ _ _ _ _ _ _ _ _ _ _ _ _ _ _ _ _ _ _ _)
    | (go_step; go_step; go_step; go_step; go_step; refine tells_tail pg pe ps A2 n2 cap2 bs2 w w5 HP.out HPB.out HPU.out HO1.out HO2.out HO4.out h2 P5.out B5.out _ _ _ _ _ _ _ _ _ _ _ _ _ _ _ _ _ _ _ _ _ _ _ _ _ _ _ _ _ _ _ _ _ _ _ _ _ _ _ _ _ _ _ _ _ _ _ _ _ _ _ _ _ _ _ _ _ _ _ _ _ _ _ _ _ _ _ _ _ _ _ _ _ _ _ _ _ _ _ _ _ _ _ _ _ _ _ _ _ _ _ _ _ _ _ _ _ _ _ _ _ _ _ _ _ _ _ _ _ _ _ _ _ _ _ _ _ _ _ _ _ _ _ _ _ _ _ _ _ _ _ _ _ _ _ _ _ _ _ _)
set_option maxRecDepth 100000 in
set_option maxHeartbeats 2000000 in
theorem tells_bad (p : Pin) (t : Told) (o : Sl) (w : World) (hp : p.s.length = 32) (hpB : IsB p.s) (hpg : U64 p.g) (hpe : U64 p.e) (ht : t.s.Ok w) (ho : o.Full w) (h1 : t.s.n ≤ 1000) (h2 : o.n ≤ 200) (c : Int) (hr : acceptOf p t.gen t.s.bs t.epoch = (⟨0, 0, zero32⟩, c)) (hrs : zero32.length = 32) (hc : c ≠ 0) :
    Calls Try.prog 11 #[p.val, t.val, o.val] w fun e w' => e = .returned (.bool true) ∧ Below w.heap.size w w' := by
  obtain ⟨pg, pe, ps⟩ := p
  obtain ⟨gen, epoch, ⟨A, n, cap, bs⟩⟩ := t
  obtain ⟨A2, n2, cap2, bs2⟩ := o
  obtain ⟨ht1, ht2, ht3⟩ := ht
  obtain ⟨⟨ho1, ho2, ho3⟩, ho4, ho5⟩ := ho
  dsimp only at *
  have HT1 := bx ht1; have HT2 := bx ht2; have HT3 := bx ht3; have HO1 := bx ho1; have HO2 := bx ho2; have HO4 := bx ho4; have HP := bx hp; have HR := bx hr; have HRS := bx hrs; have HPB := bx hpB
  have HN2 := bx ho1.1; have HN1 := bx ht1.1
  have HPU : Bx ((0 ≤ pg ∧ pg < 18446744073709551616) ∧ (0 ≤ pe ∧ pe < 18446744073709551616)) := ⟨by unfold U64 at hpg hpe; omega⟩
  have hn1 : ¬ (1000 : Int) < n := by omega
  have hn2 : ¬ (200 : Int) < n2 := by omega
  have hc0 : (c == 0) = false := by simp [hc]
  have hc1 : (c != 0) = true := by simp [hc]
  obtain ⟨yg, ye, ys, hY⟩ : ∃ yg ye ys, ownRes (⟨0, 0, zero32⟩, c) = ownCells yg ye ys := ⟨0, 0, ⟨#[]⟩, by rw [ownRes, if_neg hc]⟩
  have HY := bx hY
  clear hY hc
  clear ht1 ht2 ht3 ho1 ho2 ho3 ho4 ho5 hp hpB hpg hpe hr hrs
  show Calls _ _ #[.agg (pinCells pg pe ps), .agg #[.int .u64 gen, .int .u64 epoch, .slice A n cap], .slice A2 n2 cap2] w _
  obtain ⟨w0, hw0⟩ : ∃ w0, w0 = (w.alloc (.cells (pinCells pg pe ps) 84)).alloc (.cells #[.int .u64 gen, .int .u64 epoch, .slice A n cap] 86) := ⟨_, rfl⟩
  have B0 : Bx (Below w.heap.size w w0) := ⟨by rw [hw0]; exact ((Below.refl _ _).alloc (Nat.le_refl _) _).alloc (by simp) _⟩
  have P0 : Bx (w0.heap[w.heap.size]? = some (.cells (pinCells pg pe ps) 84 (0, 0))) := ⟨by rw [hw0]; exact heap_alloc2_old w _ _⟩
  have T0 : Bx (w0.heap[w.heap.size + 1]? = some (.cells #[.int .u64 gen, .int .u64 epoch, .slice A n cap] 86 (0, 0))) := ⟨by rw [hw0]; exact heap_alloc2_new w _ _⟩
  have I34 := bx pin_info
  have PN := fun w => pin_neq_self 0 0 zero32 HRS.out w
  have PNP := fun w => pin_neq_self pg pe ps HP.out w
  have ON := own_neq
  have z0 : w0.cell? ⟨w.heap.size + 1, 0, none⟩ = some (.int .u64 gen) := blk_cell T0.out rfl
  have z1 : w0.cell? ⟨w.heap.size + 1, 1, none⟩ = some (.int .u64 epoch) := blk_cell T0.out rfl
  have z2 : w0.cell? ⟨w.heap.size + 1, 2, none⟩ = some (.slice A n cap) := blk_cell T0.out rfl
  have HW := bx hw0
  clear hw0
  go_enter Try.func11, Try.ntmps11
  go_upto_region 1 with fail
  rw [← HW.out]
  clear HW
  go_wp2_with (first
    | ((with_reducible refine at_load 27 ?_); go_must (refine wpList_load_agg rfl 84 (.tmp 3) rfl w.heap.size 0 rfl 84 (pinCells pg pe ps) 34 _ P0.out Try.underlying84 rfl I34.out (by rw [pin_size _ _ _ HP.out]; decide) (pinCells pg pe ps) (pin_all _ _ _ HP.out) ?_)))
  refine (accept_at ⟨pg, pe, ps⟩ gen epoch A n cap bs ⟨0, 0, zero32⟩ c HR.out _ HP.out (HT1.out.below B0.out) HT2.out HT3.out (by omega)).mono ?_
  rintro x w1 ⟨rfl, hb1⟩
  have B1 := bx (B0.out.trans (hb1.mono B0.out.size))
  have P1 := bx ((hb1.block _ (blk_lt P0.out)).trans P0.out)
  have T1 := bx ((hb1.block _ (blk_lt T0.out)).trans T0.out)
  clear hb1 z0 z1 z2
  go_upto_region 4 with (first
    | ((with_reducible refine at_store (.tmp 7) (.tmp 35) ?_); go_must (refine wpList_store_agg (cells := pinCells 0 0 zero32) rfl 84 (.tmp 7) (.tmp 35) rfl w1.heap.size 0 rfl rfl 84 (pinCells 0 0 zero32) (blk_new w1 _) (by rw [pin_size _ _ _ HRS.out]; exact I34.out) (by rw [pin_size _ _ _ HRS.out]; decide) (pin_oneCell _ _ _) (pinCells 0 0 zero32) (pin_put _ rfl _ _ _ HRS.out) ?_; intro w2 hu2)))
  have hl1 := blk_lt P1.out
  have hl2 := blk_lt T1.out
  have P2 := bx (hu2.blk (blk_alloc P1.out) (by omega)); have T2 := bx (hu2.blk (blk_alloc T1.out) (by omega)); have X2 := bx hu2.same
  have B2 := bx ((B1.out.alloc B1.out.size _).trans (hu2.below B1.out.size))
  clear hu2 hl1 hl2 P0 T0 P1 T1 B0 B1
  have HC : Bx (∀ w', Below w2.heap.size w2 w' → w'.cell? ⟨w.heap.size + 1, 0, none⟩ = some (.int .u64 gen) ∧ w'.cell? ⟨w.heap.size + 1, 1, none⟩ = some (.int .u64 epoch) ∧ w'.cell? ⟨w.heap.size + 1, 2, none⟩ = some (.slice A n cap) ∧ (convert 22 9 (.slice A n cap)).run Try.prog w' = .ok (.string (strOfNums bs)) w') := ⟨fun w' hb => by
    have hk := (hb.block _ (blk_lt T2.out)).trans T2.out
    exact ⟨blk_cell hk rfl, blk_cell hk rfl, blk_cell hk rfl, str_of ((HT1.out.below B2.out).below hb) cap⟩⟩
  have HA1 : Bx (∀ w, Calls Try.prog 44 #[.agg (pinCells pg pe ps)] w fun e w' => e = .returned (.agg (ownCells pg pe (strOfNums ps))) ∧ Below w.heap.size w w') := ⟨fun w => own18_any ⟨pg, pe, ps⟩ w HP.out⟩
  have HA2 : Bx (∀ w, Calls Try.prog 43 #[.agg (ownCells pg pe (strOfNums ps)), .int .u64 gen, .string (strOfNums bs), .int .u64 epoch] w fun x w' => x = .returned (.tuple #[.agg (ownCells yg ye ys), .int .i64 c]) ∧ Below w.heap.size w w') := ⟨fun w => by
    have h := raccept_any ⟨pg, pe, ps⟩ gen epoch bs w HP.out HPB.out HT2.out (by rw [HN1.out]; omega)
    rw [HR.out] at h
    rw [← HY.out]
    exact h⟩
  have HA3 : Bx (∀ w, Calls Try.prog 44 #[.agg (pinCells 0 0 zero32)] w fun e w' => e = .returned (.agg (ownCells 0 0 (strOfNums zero32))) ∧ Below w.heap.size w w') := ⟨fun w => own18_any ⟨0, 0, zero32⟩ w HRS.out⟩
  have SP := bx (readPin_put ⟨pg, pe, ps⟩ HP.out HPU.out.1 HPU.out.2)
  have HA4 : Bx (∀ w, Calls Try.prog 47 #[.agg (ownCells pg pe (strOfNums ps))] w fun x w' => x = .returned (.string (strOfNums (be pg 8 ++ be pe 8 ++ ps))) ∧ Below w.heap.size w w') := ⟨fun w => rput18_any pg pe ps w (by rw [HP.out]; decide) HPU.out.1 HPU.out.2⟩
  have HA5 := bx (fun w => aput_any ⟨pg, pe, ps⟩ w HP.out)
  have SPB : Bx (IsB (be pg 8 ++ be pe 8 ++ ps)) := ⟨isB_append (isB_append (be_isB _ _) (be_isB _ _)) HPB.out⟩
  dsimp only at SP HA5
  generalize hL : be pg 8 ++ be pe 8 ++ ps = L at *
  generalize strOfNums ps = sp at *
  generalize strOfNums bs = sb at *
  clear hL
  try simp only [Act.put]
  refine region_allocR w2.heap.size (fun w' => Below w2.heap.size w2 w') 11 13 9 _ (.cells (ownCells 0 0 ⟨#[]⟩) 94 (0, 0)) (by kernel_rfl) (by kernel_rfl) rfl rfl rfl rfl (fun a w => by kernel_rfl) ((Below.refl _ _).drew) (top_closed _ w2 (Nat.le_refl _)) (fun _ h => h.size) (fun _ _ _ _ _ h => h) ?_
  simp only [List.take_succ_cons, List.take_zero, List.drop_succ_cons, List.drop_zero]
  repeat (first
    | (refine quietR_take (v := .agg (pinCells pg pe ps)) 38 rfl (by kernel_rfl) (fun w' hw' => quietAt_load_agg 84 (.tmp 3) rfl w.heap.size 0 rfl 84 (pinCells pg pe ps) 34 _ ((hw'.block _ (blk_lt P2.out)).trans P2.out) Try.underlying84 rfl I34.out (by rw [pin_size _ _ _ HP.out]; decide) (pinCells pg pe ps) (pin_all _ _ _ HP.out)) ?_; try simp only [List.setIfInBounds_toArray, List.set_cons_zero, List.set_cons_succ])
    | (refine quietR_take (v := ?_) _ rfl (by kernel_rfl) ?_ ?_; rotate_left 1; (focus (first | (intro w' hw'; clear hw'; unfold Oper.quietAt; go_simp; done) | (intro w' hw'; clear hw'; unfold Oper.quietAt; go_simp; with_reducible rfl) | (intro w' hw'; obtain ⟨k0, k1, k2, k3⟩ := HC.out w' hw'; unfold Oper.quietAt; go_simp; first | done | with_reducible rfl | ((with_reducible refine (HA1.out w').mono ?_); rintro x w9 ⟨rfl, hb⟩; refine ⟨?_, hb⟩; with_reducible rfl) | ((with_reducible refine (HA2.out w').mono ?_); rintro x w9 ⟨rfl, hb⟩; refine ⟨?_, hb⟩; with_reducible rfl)))); try simp only [List.setIfInBounds_toArray, List.set_cons_zero, List.set_cons_succ]))
  refine quietR_nil ?_
  repeat (refine wpPure_take (v := ?_) _ rfl (by kernel_rfl) ?_ ?_; rotate_left 1; (focus (intro w'; go_simp; try with_reducible rfl; done)); try simp only [List.setIfInBounds_toArray, List.set_cons_zero, List.set_cons_succ])
  refine wpPure_nil ?_
  intro b w' hN' hw' hb'
  try simp only [List.setIfInBounds_toArray, List.set_cons_zero, List.set_cons_succ]
  have P3 := bx ((hw'.block _ (blk_lt P2.out)).trans P2.out); have X3 := bx ((hw'.block _ (blk_lt X2.out)).trans X2.out); have B3 := bx (B2.out.trans (hw'.mono B2.out.size)); have Y3 := bx hb'
  have BN : Bx (w.heap.size ≤ b ∧ w1.heap.size < b) := ⟨by have := blk_lt X2.out; have := B2.out.size; omega⟩
  have BN2 : Bx (w.heap.size + 1 < b) := ⟨by have := blk_lt T2.out; omega⟩
  clear hN' hw' hb' HC HA2
  go_upto_region 5 with (first
    | ((with_reducible refine at_store (.tmp 9) (.tmp 48) ?_); go_must (refine wpList_store_agg (cells := ownCells yg ye ys) rfl 94 (.tmp 9) (.tmp 48) rfl b 0 rfl rfl 94 (ownCells 0 0 ⟨#[]⟩) Y3.out ownInfo (Nat.le_refl 3) (own_one _ _ _) (ownCells yg ye ys) (putRow_all _ _ rfl) ?_; intro w4 hu4)))
  have P4 := bx (hu4.blk P3.out (by have := BN2.out; omega)); have X4 := bx (hu4.blk X3.out (by have := BN.out; omega)); have Y4 := bx hu4.same
  have B4 := bx (B3.out.trans (hu4.below BN.out.1))
  clear hu4 P2 X2 T2 P3 X3 Y3 B2 B3 BN2
  try simp only [Act.put]
  refine region_quietC (fun w' => Below w4.heap.size w4 w') (by kernel_rfl) (by kernel_rfl) ((Below.refl _ _).drew) ?_
  repeat (first
    | go_big_quiet_skip
    | (refine quiet_take (v := .agg (pinCells 0 0 zero32)) 67 rfl (by kernel_rfl) (fun w' hw' => quietAt_load_agg 84 (.tmp 7) rfl w1.heap.size 0 rfl 84 (pinCells 0 0 zero32) 34 _ ((hw'.block _ (blk_lt X4.out)).trans X4.out) Try.underlying84 rfl I34.out (Nat.le_refl 34) (pinCells 0 0 zero32) (pin_all _ _ _ rfl)) ?_; try simp only [List.setIfInBounds_toArray, List.set_cons_zero, List.set_cons_succ])
    | (refine quiet_take (v := .agg (pinCells 0 0 zero32)) 68 rfl (by kernel_rfl) (fun w' hw' => quietAt_build 84 [] rfl [] rfl (pinCells 0 0 zero32) pin_built0) ?_; try simp only [List.setIfInBounds_toArray, List.set_cons_zero, List.set_cons_succ])
    | (go_big_quiet_want; go_big_quiet_op; go_big_quiet_on)
    | (refine quiet_take (v := ?_) _ rfl (by kernel_rfl) ?_ ?_; rotate_left 1; (focus (first | (intro w' hw'; clear hw'; unfold Oper.quietAt; go_simp; done) | (intro w' hw'; clear hw'; unfold Oper.quietAt; go_simp; with_reducible rfl) | (intro w' hw'; skip; unfold Oper.quietAt; go_simp; first | done | with_reducible rfl))); try simp only [List.setIfInBounds_toArray, List.set_cons_zero, List.set_cons_succ]))
  refine wpQuiet_nil ?_
  intro w5 hw5
  have P5 := bx ((hw5.block _ (blk_lt P4.out)).trans P4.out); have B5 := bx (B4.out.trans (hw5.mono B4.out.size))
  clear hw5 P4 X4 Y4 B4 PN ON HA3
  go_step
  go_step
  go_step
  first
    | (refine tells_tail pg pe ps A2 n2 cap2 bs2 w w5 HP.out HPB.out HPU.out HO1.out HO2.out HO4.out h2 P5.out B5.out _ _ _ _ _ _ _ _ _ _ _ _ _ _ _ _ _ _ _ _ _ _ _ _ _ _ _ _ _ _ _ _ _ _ _ _ _ _ _ _ _ _ _ _ _ _ _ _ _ _ _ _ _ _ _ _ _ _ _ _ _ _ _ _ _ _ _ _ _ _ _ _ _ _ _ _ _ _ _ _ _ _ _ _ _ _ _ _ _ _ _ _ _ _ _ _ _ _ _ _ _ _ _ _ _ _ _ _ _ _ _ _ _ _ _ _ _ _ _ _ _ _ _ _ _ _ _ _ _ _ _ _ _ _ _ _ _ _ _ _)
    | (go_step; refine tells_tail pg pe ps A2 n2 cap2 bs2 w w5 HP.out HPB.out HPU.out HO1.out HO2.out HO4.out h2 P5.out B5.out _ _ _ _ _ _ _ _ _ _ _ _ _ _ _ _ _ _ _ _ _ _ _ _ _ _ _ _ _ _ _ _ _ _ _ _ _ _ _ _ _ _ _ _ _ _ _ _ _ _ _ _ _ _ _ _ _ _ _ _ _ _ _ _ _ _ _ _ _ _ _ _ _ _ _ _ _ _ _ _ _ _ _ _ _ _ _ _ _ _ _ _ _ _ _ _ _ _ _ _ _ _ _ _ _ _ _ _ _ _ _ _ _ _ _ _ _ _ _ _ _ _ _ _ _ _ _ _ _ _ _ _ _ _ _ _ _ _ _ _)
    | (go_step; go_step; refine tells_tail pg pe ps A2 n2 cap2 bs2 w w5 HP.out HPB.out HPU.out HO1.out HO2.out HO4.out h2 P5.out B5.out _ _ _ _ _ _ _ _ _ _ _ _ _ _ _ _ _ _ _ _ _ _ _ _ _ _ _ _ _ _ _ _ _ _ _ _ _ _ _ _ _ _ _ _ _ _ _ _ _ _ _ _ _ _ _ _ _ _ _ _ _ _ _ _ _ _ _ _ _ _ _ _ _ _ _ _ _ _ _ _ _ _ _ _ _ _ _ _ _ _ _ _ _ _ _ _ _ _ _ _ _ _ _ _ _ _ _ _ _ _ _ _ _ _ _ _ _ _ _ _ _ _ _ _ _ _ _ _ _ _ _ _ _ _ _ _ _ _ _ _)
    | (go_step; go_step; go_step; refine tells_tail pg pe ps A2 n2 cap2 bs2 w w5 HP.out HPB.out HPU.out HO1.out HO2.out HO4.out h2 P5.out B5.out _ _ _ _ _ _ _ _ _ _ _ _ _ _ _ _ _ _ _ _ _ _ _ _ _ _ _ _ _ _ _ _ _ _ _ _ _ _ _ _ _ _ _ _ _ _ _ _ _ _ _ _ _ _ _ _ _ _ _ _ _ _ _ _ _ _ _ _ _ _ _ _ _ _ _ _ _ _ _ _ _ _ _ _ _ _ _ _ _ _ _ _ _ _ _ _ _ _ _ _ _ _ _ _ _ _ _ _ _ _ _ _ _ _ _ _ _ _ _ _ _ _ _ _ _ _ _ _ _ _ _ _ _ _ _ _ _ _ _ _)
    | (go_step; go_step; go_step; go_step; refine tells_tail pg pe ps A2 n2 cap2 bs2 w w5 HP.out HPB.out HPU.out HO1.out HO2.out HO4.out h2 P5.out B5.out _ _ _ _ _ _ _ _ _ _ _ _ _ _ _ _ _ _ _ _ _ _ _ _ _ _ _ _ _ _ _ _ _ _ _ _ _ _ _ _ _ _ _ _ _ _ _ _ _ _ _ _ _ _ _ _ _ _ _ _ _ _ _ _ _ _ _ _ _ _ _ _ _ _ _ _ _ _ _ _ _ _ _ _ _ _ _ _ _ _ _ _ _ _ _ _ _ _ _ _ _ _ _ _ _ _ _ _ _ _ _ _ _ _ _ _ _ _ _ _ _ _ _ _ _ _ _ _ _ _ _ _ _ _ _ _ _ _ _ _)
    | (go_step; go_step; go_step; go_step; go_step; refine tells_tail pg pe ps A2 n2 cap2 bs2 w w5 HP.out HPB.out HPU.out HO1.out HO2.out HO4.out h2 P5.out B5.out _ _ _ _ _ _ _ _ _ _ _ _ _ _ _ _ _ _ _ _ _ _ _ _ _ _ _ _ _ _ _ _ _ _ _ _ _ _ _ _ _ _ _ _ _ _ _ _ _ _ _ _ _ _ _ _ _ _ _ _ _ _ _ _ _ _ _ _ _ _ _ _ _ _ _ _ _ _ _ _ _ _ _ _ _ _ _ _ _ _ _ _ _ _ _ _ _ _ _ _ _ _ _ _ _ _ _ _ _ _ _ _ _ _ _ _ _ _ _ _ _ _ _ _ _ _ _ _ _ _ _ _ _ _ _ _ _ _ _ _)
theorem tells_any (p : Pin) (t : Told) (o : Sl) (w : World) (hp : p.s.length = 32) (hpB : IsB p.s) (hpg : U64 p.g) (hpe : U64 p.e) (ht : t.s.Ok w) (ho : o.Full w) :
    Calls Try.prog 11 #[p.val, t.val, o.val] w fun e w' => e = .returned (.bool true) ∧ Below w.heap.size w w' := by
  by_cases hl : 1000 < t.s.n ∨ 200 < o.n
  · exact tells_long p t o w hl
  · rcases accept_code p t.gen t.s.bs t.epoch with ⟨c, hc, _, hc0⟩ | ⟨hc, _⟩
    · exact tells_bad p t o w hp hpB hpg hpe ht ho (by omega) (by omega) c hc rfl hc0
    · exact tells_good p t o w hp hpB hpg hpe ht ho (by omega) (by omega) t.gen t.epoch (shaOf t.s.bs) hc (shaOf_length _)
end Go.Proofs.Ythnommoljikaiaa
