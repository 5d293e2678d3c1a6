/- The walk over the law AcceptOnce, where the manifest is accepted. -/
import Derived.Test.YthnommoljikaiaaAcc3
import Derived.Test.YthnommoljikaiaaAid3
set_option linter.unusedSimpArgs false
set_option linter.unusedVariables false
namespace Go.Proofs.Ythnommoljikaiaa
open Go.RowKit

set_option maxRecDepth 100000 in
set_option maxHeartbeats 4000000 in
theorem once_kept (p : Pin) (t : Told) (o : Sl) (w : World) (hp : p.s.length = 32) (ht : t.s.Ok w) (ho : o.Ok w) (h1 : t.s.n ≤ 500) (h2 : o.n ≤ 500) (hg : U64 t.gen)
    (hc : acceptOf p t.gen t.s.bs t.epoch = (⟨t.gen, t.epoch, shaOf t.s.bs⟩, 0)) (hg0 : t.gen ≠ 0) :
    Calls Try.prog 10 #[p.val, t.val, o.val] w fun e w' => e = .returned (.bool true) ∧ Below w.heap.size w w' := by
  obtain ⟨pg, pe, ps⟩ := p
  obtain ⟨gen, epoch, ⟨A, n, cap, bs⟩⟩ := t
  obtain ⟨A2, n2, cap2, bs2⟩ := o
  show Calls _ _ #[.agg (pinCells pg pe ps), .agg #[.int .u64 gen, .int .u64 epoch, .slice A n cap], .slice A2 n2 cap2] w _
  dsimp only at h1 h2 hc hp hg hg0
  have hb : Bx (Below w.heap.size w ((w.alloc (.cells (pinCells pg pe ps) 84)).alloc (.cells #[.int .u64 gen, .int .u64 epoch, .slice A n cap] 86))) := ⟨((Below.refl _ _).alloc (Nat.le_refl _) _).alloc (by simp) _⟩
  have hS := shaOf_length bs
  have hS2 := shaOf_length bs2
  have a2 : acceptOf ⟨gen, epoch, shaOf bs⟩ gen bs epoch = (⟨gen, epoch, shaOf bs⟩, 0) := by simp [acceptOf, hg0]
  have a3 : acceptOf ⟨gen, epoch, shaOf bs⟩ gen bs2 epoch = if shaOf bs2 = shaOf bs then (⟨gen, epoch, shaOf bs⟩, 0) else (pin0, 12) := by
    by_cases e : shaOf bs2 = shaOf bs <;> simp [acceptOf, hg0, e]
  have a4 : acceptOf ⟨gen, epoch, shaOf bs⟩ (gen + 1) bs2 epoch = (⟨gen + 1, epoch, shaOf bs2⟩, 0) := by
    have := hg.1
    have e1 : ¬ gen + 1 = 0 := by omega
    have e2 : ¬ gen + 1 < gen := by omega
    have e3 : ¬ gen + 1 = gen := by omega
    simp [acceptOf, e1, e2, e3]
  generalize hSe : shaOf bs = S at *
  generalize hSe2 : shaOf bs2 = S2 at *
  have HP := bx hp; have HT := bx ht; have HO := bx ho; have HC := bx hc; have HS := bx hS; have HS2 := bx hS2; have A2' := bx a2; have A3' := bx a3; have A4' := bx a4; have HSe := bx hSe; have HSe2 := bx hSe2
  have hg1 := hg.1; have hg2 := hg.2
  clear hp ht ho hc hg hg0 hS hS2 a2 a3 a4 hSe hSe2
  have I34 : Bx ((Try.prog.info? 84).map (·.size) = some 34) := ⟨by kernel_rfl⟩
  have IS : Bx ((Try.prog.info? 84).map (·.size) = some (pinCells gen epoch S).size) := ⟨by rw [pin_size _ _ _ HS.out]; exact I34.out⟩
  have T0 : Bx (((w.alloc (.cells (pinCells pg pe ps) 84)).alloc (.cells #[.int .u64 gen, .int .u64 epoch, .slice A n cap] 86)).heap[w.heap.size + 1]? = some (.cells #[.int .u64 gen, .int .u64 epoch, .slice A n cap] 86 (0, 0))) := ⟨heap_alloc2_new w _ _⟩
  go_enter Try.func10, Try.ntmps10
  go_wp2_with (first
    | ((with_reducible refine at_load 25 ?_); go_must (refine wpList_load_agg rfl 84 (.tmp 3) rfl w.heap.size 0 rfl 84 (pinCells pg pe ps) 34 _ (heap_alloc2_old w _ _) Try.underlying84 rfl I34.out (by rw [pin_size _ _ _ HP.out]; decide) (pinCells pg pe ps) (pin_all _ _ _ HP.out) ?_)))
  refine (accept_at ⟨pg, pe, ps⟩ gen epoch A n cap bs _ _ HC.out _ HP.out (HT.out.1.below hb.out) HT.out.2.1 HT.out.2.2 (by omega)).mono ?_
  rintro e w1 ⟨rfl, hb1⟩
  have B1 := bx (hb.out.trans (hb1.mono hb.out.size))
  have T1 := bx ((hb1.block (w.heap.size + 1) (by simp)).trans T0.out)
  clear hb1 T0 hb
  go_wp2_with (first
    | ((with_reducible refine at_store (.tmp 7) (.tmp 33) ?_); go_must (refine wpList_store_agg (cells := pinCells gen epoch S) rfl 84 (.tmp 7) (.tmp 33) rfl w1.heap.size 0 rfl rfl 84 (pinCells 0 0 zero32) (blk_new w1 _) IS.out (by rw [pin_size _ _ _ HS.out]; decide) (pin_oneCell _ _ _) (pinCells gen epoch S) (pin_put _ rfl _ _ _ HS.out) ?_; intro w2 hu2; have Q2 := bx hu2.same; have z1 : w.heap.size + 1 < w1.heap.size := blk_lt T1.out; have T2 := bx (hu2.blk (blk_alloc T1.out) (by omega)); have B2 := bx ((B1.out.alloc B1.out.size _).trans (hu2.below B1.out.size)); have z2 : w1.heap.size < w2.heap.size := blk_lt hu2.same; have t0 : w2.cell? ⟨w.heap.size + 1, 0, none⟩ = some (.int .u64 gen) := blk_cell T2.out rfl; have t1 : w2.cell? ⟨w.heap.size + 1, 1, none⟩ = some (.int .u64 epoch) := blk_cell T2.out rfl; have t2 : w2.cell? ⟨w.heap.size + 1, 2, none⟩ = some (.slice A n cap) := blk_cell T2.out rfl; clear hu2 T1))
    | ((with_reducible refine at_load 44 ?_); go_must (refine wpList_load_agg rfl 84 (.tmp 7) rfl w1.heap.size 0 rfl 84 (pinCells gen epoch S) 34 _ Q2.out Try.underlying84 rfl I34.out (by rw [pin_size _ _ _ HS.out]; decide) (pinCells gen epoch S) (pin_all _ _ _ HS.out) ?_)))
  refine (accept_at ⟨gen, epoch, S⟩ gen epoch A n cap bs _ _ A2'.out _ HS.out (HT.out.1.below B2.out) HT.out.2.1 HT.out.2.2 (by omega)).mono ?_
  rintro e w3 ⟨rfl, hb3⟩
  have B3 := bx (B2.out.trans (hb3.mono B2.out.size))
  have T3 := bx ((hb3.block (w.heap.size + 1) (by omega)).trans T2.out)
  have Q3 := bx ((hb3.block w1.heap.size z2).trans Q2.out)
  have z3 : w1.heap.size < w3.heap.size := blk_lt Q3.out
  clear hb3 T2 Q2 t0 t1 t2 z2
  go_wp2_with (first
    | ((with_reducible refine at_store (.tmp 9) (.tmp 52) ?_); go_must (refine wpList_store_agg (cells := pinCells gen epoch S) rfl 84 (.tmp 9) (.tmp 52) rfl w3.heap.size 0 rfl rfl 84 (pinCells 0 0 zero32) (blk_new w3 _) IS.out (by rw [pin_size _ _ _ HS.out]; decide) (pin_oneCell _ _ _) (pinCells gen epoch S) (pin_put _ rfl _ _ _ HS.out) ?_; intro w4 hu4; have R4 := bx hu4.same; have T4 := bx (hu4.blk (blk_alloc T3.out) (by omega)); have Q4 := bx (hu4.blk (blk_alloc Q3.out) (by omega)); have B4 := bx ((B3.out.alloc B3.out.size _).trans (hu4.below B3.out.size)); have z4 : w1.heap.size < w4.heap.size := blk_lt Q4.out; have y4 : w3.heap.size < w4.heap.size := blk_lt R4.out; have t0 : w4.cell? ⟨w.heap.size + 1, 0, none⟩ = some (.int .u64 gen) := blk_cell T4.out rfl; have t1 : w4.cell? ⟨w.heap.size + 1, 1, none⟩ = some (.int .u64 epoch) := blk_cell T4.out rfl; have t2 : w4.cell? ⟨w.heap.size + 1, 2, none⟩ = some (.slice A n cap) := blk_cell T4.out rfl; clear hu4 T3 Q3))
    | ((with_reducible refine at_load 55 ?_); go_must (refine wpList_load_agg rfl 84 (.tmp 7) rfl w1.heap.size 0 rfl 84 (pinCells gen epoch S) 34 _ Q4.out Try.underlying84 rfl I34.out (by rw [pin_size _ _ _ HS.out]; decide) (pinCells gen epoch S) (pin_all _ _ _ HS.out) ?_)))
  obtain ⟨r, c, hrc⟩ : ∃ r c, (if S2 = S then ((⟨gen, epoch, S⟩, 0) : Pin × Int) else (pin0, 12)) = (r, c) := ⟨_, _, rfl⟩
  have hrl : r.s.length = 32 := by
    split at hrc <;> (obtain ⟨rfl, rfl⟩ := Prod.mk.inj hrc)
    · exact HS.out
    · rfl
  have hcc : (c == 0) = decide (S2 = S) := by
    split at hrc <;> (rename_i e; obtain ⟨rfl, rfl⟩ := Prod.mk.inj hrc; simp [e])
  rw [hrc] at A3'
  have HRL := bx hrl; have HRC := bx hrc; have HCC := bx hcc
  clear hrl hrc hcc
  have IR : Bx ((Try.prog.info? 84).map (·.size) = some (pinCells r.g r.e r.s).size) := ⟨by rw [pin_size _ _ _ HRL.out]; exact I34.out⟩
  refine (accept_at ⟨gen, epoch, S⟩ gen epoch A2 n2 cap2 bs2 _ _ A3'.out _ HS.out (HO.out.1.below B4.out) HO.out.2.1 HO.out.2.2 (by omega)).mono ?_
  rintro e w5 ⟨rfl, hb5⟩
  have B5 := bx (B4.out.trans (hb5.mono B4.out.size))
  have T5 := bx ((hb5.block (w.heap.size + 1) (by omega)).trans T4.out)
  have Q5 := bx ((hb5.block w1.heap.size z4).trans Q4.out)
  have R5 := bx ((hb5.block w3.heap.size y4).trans R4.out)
  have z5 : w1.heap.size < w5.heap.size := blk_lt Q5.out
  have y5 : w3.heap.size < w5.heap.size := blk_lt R5.out
  clear hb5 T4 Q4 R4 t0 t1 t2 z4 y4
  go_wp2_with (first
    | ((with_reducible refine at_store (.tmp 11) (.tmp 62) ?_); go_must (refine wpList_store_agg (cells := pinCells r.g r.e r.s) rfl 84 (.tmp 11) (.tmp 62) rfl w5.heap.size 0 rfl rfl 84 (pinCells 0 0 zero32) (blk_new w5 _) IR.out (by rw [pin_size _ _ _ HRL.out]; decide) (pin_oneCell _ _ _) (pinCells r.g r.e r.s) (pin_put _ rfl _ _ _ HRL.out) ?_; intro w6 hu6; have T6 := bx (hu6.blk (blk_alloc T5.out) (by omega)); have Q6 := bx (hu6.blk (blk_alloc Q5.out) (by omega)); have R6 := bx (hu6.blk (blk_alloc R5.out) (by omega)); have B6 := bx ((B5.out.alloc B5.out.size _).trans (hu6.below B5.out.size)); have z6 : w1.heap.size < w6.heap.size := blk_lt Q6.out; have y6 : w3.heap.size < w6.heap.size := blk_lt R6.out; have t0 : w6.cell? ⟨w.heap.size + 1, 0, none⟩ = some (.int .u64 gen) := blk_cell T6.out rfl; have t1 : w6.cell? ⟨w.heap.size + 1, 1, none⟩ = some (.int .u64 epoch) := blk_cell T6.out rfl; have t2 : w6.cell? ⟨w.heap.size + 1, 2, none⟩ = some (.slice A n cap) := blk_cell T6.out rfl; clear hu6 T5 Q5 R5)))
  have hneq : ∀ w, (binOp .neq 84 (.agg (pinCells gen epoch S)) (.agg (pinCells gen epoch S))).run Try.prog w = .ok (.bool false) w := by
    intro w
    have := pin_neq ⟨gen, epoch, S⟩ ⟨gen, epoch, S⟩ HS.out HS.out w
    simpa [Pin.val] using this
  have hneq2 : ∀ w, (Op.equalIn 10000 84 (.agg (pinCells gen epoch S)) (.agg (pinCells gen epoch S))).run Try.prog w = .ok true w := by
    intro w
    have := pin_eqIn gen epoch gen epoch S S HS.out HS.out w
    simpa using this
  have hsum : ∀ w, (Op.equalIn 10000 81 (.agg (ints .u8 S2)) (.agg (ints .u8 S))).run Try.prog w = .ok (decide (S2 = S)) w := fun w => eq_ints Try.underlying81 Try.underlying5 (by kernel_rfl) 9998 S2 S HS2.out HS.out w
  apply region_mid (S := fun w' => Below w6.heap.size w6 w')
  · 
    refine wp_region_any (by kernel_rfl) ?_
    change wpAny _ _ _ _ _ _ _ (World.drew _)
    refine wpAny_take (i := 0) (v := ?_) rfl (by kernel_rfl) (by kernel_rfl) (by kernel_rfl) (fun _ _ _ h => nomatch h.1) (Or.inl ⟨by kernel_rfl, ?_⟩) ?_; rotate_left 1; (focus (intro w; go_simp; try with_reducible rfl))
    refine wpAny_take (i := 1) (v := ?_) rfl (by kernel_rfl) (by kernel_rfl) (by kernel_rfl) (fun _ _ _ h => nomatch h.1) (Or.inl ⟨by kernel_rfl, ?_⟩) ?_; rotate_left 1; (focus (intro w; go_simp; try with_reducible rfl))
    refine wpAny_take (i := 2) (v := ?_) rfl (by kernel_rfl) (by kernel_rfl) (by kernel_rfl) (fun _ _ _ h => nomatch h.1) (Or.inl ⟨by kernel_rfl, ?_⟩) ?_; rotate_left 1; (focus (intro w; go_simp; try with_reducible rfl))
    refine wpAny_ready (rs := [3, 4]) (by kernel_rfl) (by simp) ?_
    refine AllReady.cons rfl (fun K hK => ?_) ?_
    · refine step_load_agg rfl 84 (.tmp 9) rfl w3.heap.size 0 rfl 84 (pinCells gen epoch S) 34 _ R6.out Try.underlying84 rfl I34.out (by rw [pin_size _ _ _ HS.out]; decide) (pinCells gen epoch S) (pin_all _ _ _ HS.out) ?_
      refine hK _ _ ?_; clear hK K
      refine wpAny_ready (rs := [4]) (by kernel_rfl) (by simp) ?_
      refine AllReady.cons rfl (fun K hK => ?_) ?_
      · refine step_load_agg rfl 84 (.tmp 7) rfl w1.heap.size 0 rfl 84 (pinCells gen epoch S) 34 _ Q6.out Try.underlying84 rfl I34.out (by rw [pin_size _ _ _ HS.out]; decide) (pinCells gen epoch S) (pin_all _ _ _ HS.out) ?_
        refine hK _ _ ?_; clear hK K
        refine wpAny_take (i := 5) (v := ?_) rfl (by kernel_rfl) (by kernel_rfl) (by kernel_rfl) (fun _ _ _ h => nomatch h.1) (Or.inl ⟨by kernel_rfl, ?_⟩) ?_; rotate_left 1; (focus (intro w; go_simp; try with_reducible rfl))
        refine wpAny_take (i := 6) (v := ?_) rfl (by kernel_rfl) (by kernel_rfl) (by kernel_rfl) (fun _ _ _ h => nomatch h.1) (Or.inl ⟨by kernel_rfl, ?_⟩) ?_; rotate_left 1; (focus (intro w; go_simp; try with_reducible rfl))
        refine wpAny_take (i := 7) (v := ?_) rfl (by kernel_rfl) (by kernel_rfl) (by kernel_rfl) (fun _ _ _ h => nomatch h.1) (Or.inl ⟨by kernel_rfl, ?_⟩) ?_; rotate_left 1; (focus (intro w; go_simp; try with_reducible rfl))
        refine wpAny_take (i := 8) (v := ?_) rfl (by kernel_rfl) (by kernel_rfl) (by kernel_rfl) (fun _ _ _ h => nomatch h.1) (Or.inl ⟨by kernel_rfl, ?_⟩) ?_; rotate_left 1; (focus (intro w; go_simp; try with_reducible rfl))
        refine wpAny_take (i := 9) (v := ?_) rfl (by kernel_rfl) (by kernel_rfl) (by kernel_rfl) (fun _ _ _ h => nomatch h.1) (Or.inl ⟨by kernel_rfl, ?_⟩) ?_; rotate_left 1; (focus (intro w; go_simp; try with_reducible rfl))
        refine wpAny_take (i := 10) (v := ?_) rfl (by kernel_rfl) (by kernel_rfl) (by kernel_rfl) (fun _ _ _ h => nomatch h.1) (Or.inl ⟨by kernel_rfl, ?_⟩) ?_; rotate_left 1; (focus (intro w; go_simp; try with_reducible rfl))
        refine wpAny_take (i := 12) (v := ?_) rfl (by kernel_rfl) (by kernel_rfl) (by kernel_rfl) (fun _ _ _ h => nomatch h.1) (Or.inl ⟨by kernel_rfl, ?_⟩) ?_; rotate_left 1; (focus (intro w; go_simp; try with_reducible rfl))
        refine wpAny_ready (rs := [11, 13]) (by kernel_rfl) (by simp) ?_
        refine AllReady.cons rfl (fun K hK => ?_) ?_
        · go_simp; refine (sum_any A2 n2 cap2 bs2 _ (HO.out.1.below B6.out.drew) HO.out.2.1 HO.out.2.2 (by omega)).mono ?_; rintro e w7 ⟨rfl, hb7⟩; rw [HSe2.out]; have t2' : w7.cell? ⟨w.heap.size + 1, 2, none⟩ = some (.slice A n cap) := (hb7.cell (p := ⟨w.heap.size + 1, 2, none⟩) (by show w.heap.size + 1 < w6.heap.size; omega)).trans t2; have b7 := bx (show Below w6.heap.size w6 w7 from ⟨hb7.os, hb7.tape, hb7.output, hb7.size, hb7.block⟩); clear hb7
          refine hK _ _ ?_; clear hK K
          refine wpAny_ready (rs := [13]) (by kernel_rfl) (by simp) ?_
          refine AllReady.cons rfl (fun K hK => ?_) ?_
          · go_simp
            refine hK _ _ ?_; clear hK K
            refine wpAny_ready (rs := [14]) (by kernel_rfl) (by simp) ?_
            refine AllReady.cons rfl (fun K hK => ?_) ?_
            · go_simp; refine (sum_any A n cap bs _ (HT.out.1.below (B6.out.trans (b7.out.mono B6.out.size))) HT.out.2.1 HT.out.2.2 (by omega)).mono ?_; rintro e w8 ⟨rfl, hb8⟩; rw [HSe.out]; have b8 := bx (b7.out.trans (hb8.mono b7.out.size)); clear hb8
              refine hK _ _ ?_; clear hK K
              refine wpAny_take (i := 15) (v := ?_) rfl (by kernel_rfl) (by kernel_rfl) (by kernel_rfl) (fun _ _ _ h => nomatch h.1) (Or.inl ⟨by kernel_rfl, ?_⟩) ?_; rotate_left 1; (focus (intro w; go_simp; try with_reducible rfl))
              refine wpAny_take (i := 16) (v := ?_) rfl (by kernel_rfl) (by kernel_rfl) (by kernel_rfl) (fun _ _ _ h => nomatch h.1) (Or.inl ⟨by kernel_rfl, ?_⟩) ?_; rotate_left 1; (focus (intro w; go_simp; try with_reducible rfl))
              refine wpAny_take (i := 17) (v := ?_) rfl (by kernel_rfl) (by kernel_rfl) (by kernel_rfl) (fun _ _ _ h => nomatch h.1) (Or.inl ⟨by kernel_rfl, ?_⟩) ?_; rotate_left 1; (focus (intro w; go_simp; try with_reducible rfl))
              refine wpAny_done (by kernel_rfl) ?_ _
              exact ⟨rfl, rfl, b8.out⟩
            exact AllReady.nil
          exact AllReady.nil
        refine AllReady.cons rfl (fun K hK => ?_) ?_
        · go_simp
          refine hK _ _ ?_; clear hK K
          refine wpAny_ready (rs := [11]) (by kernel_rfl) (by simp) ?_
          refine AllReady.cons rfl (fun K hK => ?_) ?_
          · go_simp; refine (sum_any A2 n2 cap2 bs2 _ (HO.out.1.below B6.out.drew) HO.out.2.1 HO.out.2.2 (by omega)).mono ?_; rintro e w7 ⟨rfl, hb7⟩; rw [HSe2.out]; have t2' : w7.cell? ⟨w.heap.size + 1, 2, none⟩ = some (.slice A n cap) := (hb7.cell (p := ⟨w.heap.size + 1, 2, none⟩) (by show w.heap.size + 1 < w6.heap.size; omega)).trans t2; have b7 := bx (show Below w6.heap.size w6 w7 from ⟨hb7.os, hb7.tape, hb7.output, hb7.size, hb7.block⟩); clear hb7
            refine hK _ _ ?_; clear hK K
            refine wpAny_ready (rs := [14]) (by kernel_rfl) (by simp) ?_
            refine AllReady.cons rfl (fun K hK => ?_) ?_
            · go_simp; refine (sum_any A n cap bs _ (HT.out.1.below (B6.out.trans (b7.out.mono B6.out.size))) HT.out.2.1 HT.out.2.2 (by omega)).mono ?_; rintro e w8 ⟨rfl, hb8⟩; rw [HSe.out]; have b8 := bx (b7.out.trans (hb8.mono b7.out.size)); clear hb8
              refine hK _ _ ?_; clear hK K
              refine wpAny_take (i := 15) (v := ?_) rfl (by kernel_rfl) (by kernel_rfl) (by kernel_rfl) (fun _ _ _ h => nomatch h.1) (Or.inl ⟨by kernel_rfl, ?_⟩) ?_; rotate_left 1; (focus (intro w; go_simp; try with_reducible rfl))
              refine wpAny_take (i := 16) (v := ?_) rfl (by kernel_rfl) (by kernel_rfl) (by kernel_rfl) (fun _ _ _ h => nomatch h.1) (Or.inl ⟨by kernel_rfl, ?_⟩) ?_; rotate_left 1; (focus (intro w; go_simp; try with_reducible rfl))
              refine wpAny_take (i := 17) (v := ?_) rfl (by kernel_rfl) (by kernel_rfl) (by kernel_rfl) (fun _ _ _ h => nomatch h.1) (Or.inl ⟨by kernel_rfl, ?_⟩) ?_; rotate_left 1; (focus (intro w; go_simp; try with_reducible rfl))
              refine wpAny_done (by kernel_rfl) ?_ _
              refine ⟨rfl, ?_, b8.out⟩; kernel_rfl
            exact AllReady.nil
          exact AllReady.nil
        exact AllReady.nil
      exact AllReady.nil
    refine AllReady.cons rfl (fun K hK => ?_) ?_
    · refine step_load_agg rfl 84 (.tmp 7) rfl w1.heap.size 0 rfl 84 (pinCells gen epoch S) 34 _ Q6.out Try.underlying84 rfl I34.out (by rw [pin_size _ _ _ HS.out]; decide) (pinCells gen epoch S) (pin_all _ _ _ HS.out) ?_
      refine hK _ _ ?_; clear hK K
      refine wpAny_ready (rs := [3]) (by kernel_rfl) (by simp) ?_
      refine AllReady.cons rfl (fun K hK => ?_) ?_
      · refine step_load_agg rfl 84 (.tmp 9) rfl w3.heap.size 0 rfl 84 (pinCells gen epoch S) 34 _ R6.out Try.underlying84 rfl I34.out (by rw [pin_size _ _ _ HS.out]; decide) (pinCells gen epoch S) (pin_all _ _ _ HS.out) ?_
        refine hK _ _ ?_; clear hK K
        refine wpAny_take (i := 5) (v := ?_) rfl (by kernel_rfl) (by kernel_rfl) (by kernel_rfl) (fun _ _ _ h => nomatch h.1) (Or.inl ⟨by kernel_rfl, ?_⟩) ?_; rotate_left 1; (focus (intro w; go_simp; try with_reducible rfl))
        refine wpAny_take (i := 6) (v := ?_) rfl (by kernel_rfl) (by kernel_rfl) (by kernel_rfl) (fun _ _ _ h => nomatch h.1) (Or.inl ⟨by kernel_rfl, ?_⟩) ?_; rotate_left 1; (focus (intro w; go_simp; try with_reducible rfl))
        refine wpAny_take (i := 7) (v := ?_) rfl (by kernel_rfl) (by kernel_rfl) (by kernel_rfl) (fun _ _ _ h => nomatch h.1) (Or.inl ⟨by kernel_rfl, ?_⟩) ?_; rotate_left 1; (focus (intro w; go_simp; try with_reducible rfl))
        refine wpAny_take (i := 8) (v := ?_) rfl (by kernel_rfl) (by kernel_rfl) (by kernel_rfl) (fun _ _ _ h => nomatch h.1) (Or.inl ⟨by kernel_rfl, ?_⟩) ?_; rotate_left 1; (focus (intro w; go_simp; try with_reducible rfl))
        refine wpAny_take (i := 9) (v := ?_) rfl (by kernel_rfl) (by kernel_rfl) (by kernel_rfl) (fun _ _ _ h => nomatch h.1) (Or.inl ⟨by kernel_rfl, ?_⟩) ?_; rotate_left 1; (focus (intro w; go_simp; try with_reducible rfl))
        refine wpAny_take (i := 10) (v := ?_) rfl (by kernel_rfl) (by kernel_rfl) (by kernel_rfl) (fun _ _ _ h => nomatch h.1) (Or.inl ⟨by kernel_rfl, ?_⟩) ?_; rotate_left 1; (focus (intro w; go_simp; try with_reducible rfl))
        refine wpAny_take (i := 12) (v := ?_) rfl (by kernel_rfl) (by kernel_rfl) (by kernel_rfl) (fun _ _ _ h => nomatch h.1) (Or.inl ⟨by kernel_rfl, ?_⟩) ?_; rotate_left 1; (focus (intro w; go_simp; try with_reducible rfl))
        refine wpAny_ready (rs := [11, 13]) (by kernel_rfl) (by simp) ?_
        refine AllReady.cons rfl (fun K hK => ?_) ?_
        · go_simp; refine (sum_any A2 n2 cap2 bs2 _ (HO.out.1.below B6.out.drew) HO.out.2.1 HO.out.2.2 (by omega)).mono ?_; rintro e w7 ⟨rfl, hb7⟩; rw [HSe2.out]; have t2' : w7.cell? ⟨w.heap.size + 1, 2, none⟩ = some (.slice A n cap) := (hb7.cell (p := ⟨w.heap.size + 1, 2, none⟩) (by show w.heap.size + 1 < w6.heap.size; omega)).trans t2; have b7 := bx (show Below w6.heap.size w6 w7 from ⟨hb7.os, hb7.tape, hb7.output, hb7.size, hb7.block⟩); clear hb7
          refine hK _ _ ?_; clear hK K
          refine wpAny_ready (rs := [13]) (by kernel_rfl) (by simp) ?_
          refine AllReady.cons rfl (fun K hK => ?_) ?_
          · go_simp
            refine hK _ _ ?_; clear hK K
            refine wpAny_ready (rs := [14]) (by kernel_rfl) (by simp) ?_
            refine AllReady.cons rfl (fun K hK => ?_) ?_
            · go_simp; refine (sum_any A n cap bs _ (HT.out.1.below (B6.out.trans (b7.out.mono B6.out.size))) HT.out.2.1 HT.out.2.2 (by omega)).mono ?_; rintro e w8 ⟨rfl, hb8⟩; rw [HSe.out]; have b8 := bx (b7.out.trans (hb8.mono b7.out.size)); clear hb8
              refine hK _ _ ?_; clear hK K
              refine wpAny_take (i := 15) (v := ?_) rfl (by kernel_rfl) (by kernel_rfl) (by kernel_rfl) (fun _ _ _ h => nomatch h.1) (Or.inl ⟨by kernel_rfl, ?_⟩) ?_; rotate_left 1; (focus (intro w; go_simp; try with_reducible rfl))
              refine wpAny_take (i := 16) (v := ?_) rfl (by kernel_rfl) (by kernel_rfl) (by kernel_rfl) (fun _ _ _ h => nomatch h.1) (Or.inl ⟨by kernel_rfl, ?_⟩) ?_; rotate_left 1; (focus (intro w; go_simp; try with_reducible rfl))
              refine wpAny_take (i := 17) (v := ?_) rfl (by kernel_rfl) (by kernel_rfl) (by kernel_rfl) (fun _ _ _ h => nomatch h.1) (Or.inl ⟨by kernel_rfl, ?_⟩) ?_; rotate_left 1; (focus (intro w; go_simp; try with_reducible rfl))
              refine wpAny_done (by kernel_rfl) ?_ _
              refine ⟨rfl, ?_, b8.out⟩; kernel_rfl
            exact AllReady.nil
          exact AllReady.nil
        refine AllReady.cons rfl (fun K hK => ?_) ?_
        · go_simp
          refine hK _ _ ?_; clear hK K
          refine wpAny_ready (rs := [11]) (by kernel_rfl) (by simp) ?_
          refine AllReady.cons rfl (fun K hK => ?_) ?_
          · go_simp; refine (sum_any A2 n2 cap2 bs2 _ (HO.out.1.below B6.out.drew) HO.out.2.1 HO.out.2.2 (by omega)).mono ?_; rintro e w7 ⟨rfl, hb7⟩; rw [HSe2.out]; have t2' : w7.cell? ⟨w.heap.size + 1, 2, none⟩ = some (.slice A n cap) := (hb7.cell (p := ⟨w.heap.size + 1, 2, none⟩) (by show w.heap.size + 1 < w6.heap.size; omega)).trans t2; have b7 := bx (show Below w6.heap.size w6 w7 from ⟨hb7.os, hb7.tape, hb7.output, hb7.size, hb7.block⟩); clear hb7
            refine hK _ _ ?_; clear hK K
            refine wpAny_ready (rs := [14]) (by kernel_rfl) (by simp) ?_
            refine AllReady.cons rfl (fun K hK => ?_) ?_
            · go_simp; refine (sum_any A n cap bs _ (HT.out.1.below (B6.out.trans (b7.out.mono B6.out.size))) HT.out.2.1 HT.out.2.2 (by omega)).mono ?_; rintro e w8 ⟨rfl, hb8⟩; rw [HSe.out]; have b8 := bx (b7.out.trans (hb8.mono b7.out.size)); clear hb8
              refine hK _ _ ?_; clear hK K
              refine wpAny_take (i := 15) (v := ?_) rfl (by kernel_rfl) (by kernel_rfl) (by kernel_rfl) (fun _ _ _ h => nomatch h.1) (Or.inl ⟨by kernel_rfl, ?_⟩) ?_; rotate_left 1; (focus (intro w; go_simp; try with_reducible rfl))
              refine wpAny_take (i := 16) (v := ?_) rfl (by kernel_rfl) (by kernel_rfl) (by kernel_rfl) (fun _ _ _ h => nomatch h.1) (Or.inl ⟨by kernel_rfl, ?_⟩) ?_; rotate_left 1; (focus (intro w; go_simp; try with_reducible rfl))
              refine wpAny_take (i := 17) (v := ?_) rfl (by kernel_rfl) (by kernel_rfl) (by kernel_rfl) (fun _ _ _ h => nomatch h.1) (Or.inl ⟨by kernel_rfl, ?_⟩) ?_; rotate_left 1; (focus (intro w; go_simp; try with_reducible rfl))
              refine wpAny_done (by kernel_rfl) ?_ _
              refine ⟨rfl, ?_, b8.out⟩; kernel_rfl
            exact AllReady.nil
          exact AllReady.nil
        exact AllReady.nil
      exact AllReady.nil
    exact AllReady.nil
  intro w8 b8
  have hcd : (!(c == 0) == decide (S2 = S)) = false := by rw [HCC.out]; cases decide (S2 = S) <;> rfl
  have T8 := bx ((b8.block (w.heap.size + 1) (by omega)).trans T6.out)
  have Q8 := bx ((b8.block w1.heap.size z6).trans Q6.out)
  have B8 := bx (B6.out.trans (b8.mono B6.out.size))
  have t0' : w8.cell? ⟨w.heap.size + 1, 0, none⟩ = some (.int .u64 gen) := blk_cell T8.out rfl; have t1' : w8.cell? ⟨w.heap.size + 1, 1, none⟩ = some (.int .u64 epoch) := blk_cell T8.out rfl; have t2' : w8.cell? ⟨w.heap.size + 1, 2, none⟩ = some (.slice A n cap) := blk_cell T8.out rfl
  clear b8 T6 Q6 R6 t0 t1 t2 hneq hneq2 hsum
  have IS2 : Bx ((Try.prog.info? 84).map (·.size) = some (pinCells (gen + 1) epoch S2).size) := ⟨by rw [pin_size _ _ _ HS2.out]; exact I34.out⟩
  by_cases hm : gen = 18446744073709551615
  · have hm2 : (gen == 18446744073709551615) = true := by simp [hm]
    go_wp2_with fail
    · rename_i h; exact absurd h (by rw [hcd]; decide)
    · refine (one18_any _).mono ?_
      rintro e w9 ⟨rfl, hb9⟩
      go_wp2_with fail
      go_ret
      exact ⟨rfl, B8.out.trans (hb9.mono B8.out.size)⟩
    all_goals (rename_i h; exact absurd h (by rw [hm2]; decide))
  · have hm2 : (gen == 18446744073709551615) = false := by simp [hm]
    have hwr : (gen + 1) % 18446744073709551616 = gen + 1 := by omega
    clear hm
    go_wp2_with (first
      | ((with_reducible refine at_load 87 ?_); go_must (refine wpList_load_agg rfl 84 (.tmp 7) rfl w1.heap.size 0 rfl 84 (pinCells gen epoch S) 34 _ Q8.out Try.underlying84 rfl I34.out (by rw [pin_size _ _ _ HS.out]; decide) (pinCells gen epoch S) (pin_all _ _ _ HS.out) ?_)))
    · rename_i h; exact absurd h (by rw [hcd]; decide)
    refine (accept_at ⟨gen, epoch, S⟩ (gen + 1) epoch A2 n2 cap2 bs2 _ _ A4'.out _ HS.out (HO.out.1.below B8.out) HO.out.2.1 HO.out.2.2 (by omega)).mono ?_
    rintro e w9 ⟨rfl, hb9⟩
    have B9 := bx (B8.out.trans (hb9.mono B8.out.size))
    have T9 := bx ((hb9.block (w.heap.size + 1) (blk_lt T8.out)).trans T8.out)
    clear hb9 T8 Q8 t0' t1' t2' hcd
    go_wp2_with (first
      | ((with_reducible refine at_store (.tmp 13) (.tmp 95) ?_); go_must (refine wpList_store_agg (cells := pinCells (gen + 1) epoch S2) rfl 84 (.tmp 13) (.tmp 95) rfl w9.heap.size 0 rfl rfl 84 (pinCells 0 0 zero32) (blk_new w9 _) IS2.out (by rw [pin_size _ _ _ HS2.out]; decide) (pin_oneCell _ _ _) (pinCells (gen + 1) epoch S2) (pin_put _ rfl _ _ _ HS2.out) ?_; intro w10 hu10; have B10 := bx ((B9.out.alloc B9.out.size _).trans (hu10.below B9.out.size)); have t0 : w10.cell? ⟨w.heap.size + 1, 0, none⟩ = some (.int .u64 gen) := blk_cell (hu10.blk (blk_alloc T9.out) (Nat.ne_of_lt (blk_lt T9.out))) rfl; have q0 : w10.cell? ⟨w9.heap.size, 0, none⟩ = some (.int .u64 (gen + 1)) := blk_cell hu10.same rfl; clear hu10)))
    refine (one18_any _).mono ?_
    rintro e w11 ⟨rfl, hb11⟩
    go_wp2_with fail
    go_ret
    exact ⟨rfl, B10.out.trans (hb11.mono B10.out.size)⟩
end Go.Proofs.Ythnommoljikaiaa
