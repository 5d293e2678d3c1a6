/- The walk over the law AcceptRises. -/
import Derived.Test.YthnommoljikaiaaRise1
set_option linter.unusedSimpArgs false
set_option linter.unusedVariables false
namespace Go.Proofs.Ythnommoljikaiaa
open Go.RowKit

theorem pin_range (g e : Int) (s : List Int) : ∀ j v, (s.map (Value.int .u8))[j]? = some v → (pinCells g e s)[2 + j]? = some v := by
  intro j v h
  simpa [pinCells, pinList, Nat.add_comm 2 j] using h

set_option maxRecDepth 100000 in
set_option maxHeartbeats 2000000 in
theorem rises_any (A : Option Addr) (cap : Nat) (L : List Told) (w : World) (hA : RdT w A L) (hok : ∀ t ∈ L, t.s.Ok w ∧ U64 t.gen) (hcap : L.length ≤ cap) :
    Calls Try.prog 9 #[.slice A L.length cap] w fun e w' => e = .returned (.bool true) ∧ Below w.heap.size w w' := by
  have HA := bx hA; have HOK := bx hok
  have hb : Bx (Below w.heap.size w (w.alloc (.cells (pinCells 0 0 zero32) 84))) := ⟨(Below.refl _ _).alloc (Nat.le_refl _) _⟩
  have P0 : Bx ((w.alloc (.cells (pinCells 0 0 zero32) 84)).heap[w.heap.size]? = some (.cells (pinCells 0 0 zero32) 84 (0, 0))) := ⟨blk_new w _⟩
  have I34 : Bx ((Try.prog.info? 84).map (·.size) = some 34) := ⟨by kernel_rfl⟩
  clear hA hok
  go_enter Try.func9, Try.ntmps9
  go_wp2_with fail
  go_loopw [4] (fun i wr => ∃ (j : Nat) (p : Pin), j ≤ L.length ∧ i = .int .i64 j ∧ wr.heap[w.heap.size]? = some (.cells (pinCells p.g p.e p.s) 84 (0, 0)) ∧ p.s.length = 32 ∧ 0 ≤ p.g ∧ Below w.heap.size w wr)
    (fun i _ => L.length - (intOf i).toNat)
  case atStart => exact ⟨0, pin0, by omega, rfl, P0.out, rfl, by decide, hb.out⟩
  case round =>
    obtain ⟨j, ⟨pg, pe, ps⟩, hj, rfl, hp, hps, hpg, hbj⟩ := hrel
    dsimp only at hp hps hpg
    have HP := bx hp; have HPS := bx hps; have B0 := bx hbj
    clear hp hps hbj P0 hb
    by_cases hlt : j < L.length ∧ (j : Int) < 40
    · obtain ⟨hl1, hl2⟩ := hlt
      obtain ⟨b0, o0, rfl, hb0, hcells⟩ := HA.out (by omega)
      obtain ⟨c0, c1, c2⟩ := hcells j hl1
      have hsok := bx (HOK.out L[j] (List.getElem_mem hl1))
      obtain ⟨t, ht⟩ : ∃ t, t = L[j] := ⟨_, rfl⟩
      rw [← ht] at c0 c1 c2 hsok
      clear ht hcells
      replace c0 := (B0.out.cell (p := ⟨b0, o0 + j * 3, none⟩) hb0).trans c0
      replace c1 := (B0.out.cell (p := ⟨b0, o0 + j * 3 + 1, none⟩) hb0).trans c1
      replace c2 := (B0.out.cell (p := ⟨b0, o0 + j * 3 + 2, none⟩) hb0).trans c2
      obtain ⟨gen, epoch, ⟨A, n, cp, bs⟩⟩ := t
      change _ = some (Value.int .u64 gen) at c0
      change _ = some (Value.int .u64 epoch) at c1
      change _ = some (Value.slice A n cp) at c2
      have hW := bx (show Below w.heap.size w (wr.alloc (.cells #[.int .u64 gen, .int .u64 epoch, .slice A n cp] 86)) from B0.out.alloc B0.out.size _)
      have T0 := bx (blk_new wr (.cells #[.int .u64 gen, .int .u64 epoch, .slice A n cp] 86))
      have P0 : Bx ((wr.alloc (.cells #[.int .u64 gen, .int .u64 epoch, .slice A n cp] 86)).heap[w.heap.size]? = some (.cells (pinCells pg pe ps) 84 (0, 0))) := bx (blk_alloc HP.out)
      by_cases h500 : (500 : Int) < n
      · go_wp2_with fail
        exact ⟨⟨j + 1, ⟨pg, pe, ps⟩, by omega, by go_num, P0.out, HPS.out, hpg, hW.out⟩, by simp [intOf]; omega⟩
      have I34' : Bx ((Try.prog.info? 84).map (·.size) = some (pinCells gen epoch (shaOf bs)).size) := ⟨by rw [pin_size _ _ _ (shaOf_length bs)]; exact I34.out⟩
      rcases accept_code ⟨pg, pe, ps⟩ gen bs epoch with ⟨c, hc, hr, h0⟩ | ⟨hc, h0⟩
      · have HC := bx hc; have HR := bx hr
        have HLow := bx (refused_low _ _ _ _ _ hc h0 hpg)
        have hcb : (c == 0) = false := by rw [beq_eq_false_iff_ne]; exact h0
        have hneq2 : ∀ w, (Op.equalIn 10000 84 (.agg (pinCells 0 0 zero32)) (.agg (pinCells 0 0 zero32))).run Try.prog w = .ok true w := by
          intro w
          have := pin_eqIn 0 0 0 0 zero32 zero32 rfl rfl w
          simpa using this
        clear hc hr h0
        go_wp2_with (first
          | ((with_reducible refine at_load 27 ?_); go_must (refine wpList_load_agg rfl 84 (.tmp 3) rfl w.heap.size 0 rfl 84 (pinCells pg pe ps) 34 _ P0.out Try.underlying84 rfl I34.out (by rw [pin_size _ _ _ HPS.out]; decide) (pinCells pg pe ps) (pin_all _ _ _ HPS.out) ?_)))
        refine (accept_at ⟨pg, pe, ps⟩ gen epoch A n cp bs _ _ HC.out _ HPS.out (hsok.out.1.1.below hW.out) hsok.out.1.2.1 hsok.out.1.2.2 (by omega)).mono ?_
        rintro e w1 ⟨rfl, hb1⟩
        have B1 := bx (hW.out.trans (hb1.mono hW.out.size))
        have T1 := bx ((hb1.block wr.heap.size (by simp)).trans T0.out)
        have P1 := bx ((hb1.block w.heap.size (blk_lt P0.out)).trans P0.out)
        clear hb1
        go_wp2_with (first
          | ((with_reducible refine at_store (.tmp 6) (.tmp 35) ?_); go_must (refine wpList_store_agg (cells := pinCells 0 0 zero32) rfl 84 (.tmp 6) (.tmp 35) rfl w1.heap.size 0 rfl rfl 84 (pinCells 0 0 zero32) (blk_new w1 _) I34.out (by decide) (pin_oneCell _ _ _) (pinCells 0 0 zero32) (pin_put _ rfl _ _ _ rfl) ?_; intro w2 hu2; have Q2 := bx hu2.same; have T2 := bx (hu2.blk (blk_alloc T1.out) (Nat.ne_of_lt (blk_lt T1.out))); have P2 := bx (hu2.blk (blk_alloc P1.out) (Nat.ne_of_lt (blk_lt P1.out))); have B2 := bx ((B1.out.alloc B1.out.size _).trans (hu2.below B1.out.size)); clear hu2 T1 P1)))
        refine (refused_any c _).mono ?_
        rintro e w' ⟨rfl, rfl⟩
        rw [HR.out]
        have t0 : w2.cell? ⟨wr.heap.size, 0, none⟩ = some (.int .u64 gen) := blk_cell T2.out rfl
        have t1 : w2.cell? ⟨wr.heap.size, 1, none⟩ = some (.int .u64 epoch) := blk_cell T2.out rfl
        have q0 : w2.cell? ⟨w.heap.size, 0, none⟩ = some (.int .u64 pg) := blk_cell P2.out rfl
        have q1 : w2.cell? ⟨w.heap.size, 1, none⟩ = some (.int .u64 pe) := blk_cell P2.out rfl
        rcases HLow.out with hlow | ⟨hlow, hlow2⟩
        all_goals (
          go_wp2_with (first
            | ((with_reducible refine at_load 44 ?_); go_must (refine wpList_load_agg rfl 84 (.tmp 6) rfl w1.heap.size 0 rfl 84 (pinCells 0 0 zero32) 34 _ Q2.out Try.underlying84 rfl I34.out (by decide) (pinCells 0 0 zero32) (pin_all _ _ _ rfl) ?_))
            | ((with_reducible refine at_build 45 ?_); go_must (refine wpList_build3 rfl 84 [] rfl [] rfl (pinCells 0 0 zero32) (by kernel_rfl) ?_)))
          exact ⟨⟨j + 1, ⟨pg, pe, ps⟩, by omega, by go_num, P2.out, HPS.out, hpg, B2.out⟩, by simp [intOf]; omega⟩)
      · have hS := shaOf_length bs
        have hhi := kept_high _ _ _ _ hc
        generalize hSe : shaOf bs = S at *
        have HC := bx hc; have HS := bx hS; have HSe := bx hSe; have HHI := bx hhi
        clear hc h0 hS hSe hhi
        have hE : ∀ w, (Op.equalIn 10000 82 (.agg (ints .u8 S)) (.agg (ints .u8 S))).run Try.prog w = .ok true w := by
          intro w
          have := eq_ints Try.underlying82 Try.underlying5 (by kernel_rfl) 9998 S S HS.out HS.out w
          simpa using this
        go_wp2_with (first
          | ((with_reducible refine at_load 27 ?_); go_must (refine wpList_load_agg rfl 84 (.tmp 3) rfl w.heap.size 0 rfl 84 (pinCells pg pe ps) 34 _ P0.out Try.underlying84 rfl I34.out (by rw [pin_size _ _ _ HPS.out]; decide) (pinCells pg pe ps) (pin_all _ _ _ HPS.out) ?_)))
        refine (accept_at ⟨pg, pe, ps⟩ gen epoch A n cp bs _ _ HC.out _ HPS.out (hsok.out.1.1.below hW.out) hsok.out.1.2.1 hsok.out.1.2.2 (by omega)).mono ?_
        rintro e w1 ⟨rfl, hb1⟩
        have B1 := bx (hW.out.trans (hb1.mono hW.out.size))
        have T1 := bx ((hb1.block wr.heap.size (by simp)).trans T0.out)
        have P1 := bx ((hb1.block w.heap.size (blk_lt P0.out)).trans P0.out)
        clear hb1
        go_wp2_with (first
          | ((with_reducible refine at_store (.tmp 6) (.tmp 35) ?_); go_must (refine wpList_store_agg (cells := pinCells gen epoch S) rfl 84 (.tmp 6) (.tmp 35) rfl w1.heap.size 0 rfl rfl 84 (pinCells 0 0 zero32) (blk_new w1 _) I34'.out (by rw [pin_size _ _ _ HS.out]; decide) (pin_oneCell _ _ _) (pinCells gen epoch S) (pin_put _ rfl _ _ _ HS.out) ?_; intro w2 hu2; have Q2 := bx hu2.same; have T2 := bx (hu2.blk (blk_alloc T1.out) (Nat.ne_of_lt (blk_lt T1.out))); have P2 := bx (hu2.blk (blk_alloc P1.out) (Nat.ne_of_lt (blk_lt P1.out))); have B2 := bx ((B1.out.alloc B1.out.size _).trans (hu2.below B1.out.size)); clear hu2 T1 P1)))
        have z0 := blk_lt P2.out; have z1 := blk_lt Q2.out; have z2 := blk_lt T2.out
        obtain ⟨hd1, hd2, hd3⟩ := HHI.out
        rcases hd3 with hd3 | ⟨hd3, hd4⟩
        · --NE
          refine wp_region_held_drew (S := (fun w' => w'.heap[w1.heap.size]? = some (.cells (pinCells gen epoch S) 84 (0, 0)) ∧ w'.heap[w.heap.size]? = some (.cells (pinCells pg pe ps) 84 (0, 0)) ∧ w'.heap[wr.heap.size]? = some (.cells #[.int .u64 gen, .int .u64 epoch, .slice A n cp] 86 (0, 0)))) (by kernel_rfl) ⟨Q2.out, P2.out, T2.out⟩ (fun hS => ?_)
          refine takeH (i := 0) (d := 62) (v := ?_) rfl rfl (by kernel_rfl) (by kernel_rfl) (by kernel_rfl) (fun _ _ _ h => h) (Or.inl ⟨by kernel_rfl, ?_⟩) hS ?_; rotate_left 1; (focus ((intro w' hS'; clear hS'; go_simp; try with_reducible rfl); done))
          try simp only [List.setIfInBounds_toArray, List.set_cons_zero, List.set_cons_succ]
          refine takeH (i := 1) (d := 63) (v := ?_) rfl rfl (by kernel_rfl) (by kernel_rfl) (by kernel_rfl) (fun _ _ _ h => h) (Or.inl ⟨by kernel_rfl, ?_⟩) hS ?_; rotate_left 1; (focus ((intro w' hS'; have k1 : w'.cell? ⟨w1.heap.size, 0, none⟩ = some (.int .u64 gen) := blk_cell hS'.1 rfl; have k2 : w'.cell? ⟨w1.heap.size, 1, none⟩ = some (.int .u64 epoch) := blk_cell hS'.1 rfl; have k3 : w'.cell? ⟨w.heap.size, 0, none⟩ = some (.int .u64 pg) := blk_cell hS'.2.1 rfl; have k4 : w'.cell? ⟨w.heap.size, 1, none⟩ = some (.int .u64 pe) := blk_cell hS'.2.1 rfl; have k5 : w'.cell? ⟨wr.heap.size, 0, none⟩ = some (.int .u64 gen) := blk_cell hS'.2.2 rfl; have k6 : w'.cell? ⟨wr.heap.size, 1, none⟩ = some (.int .u64 epoch) := blk_cell hS'.2.2 rfl; have k7 : w'.cell? ⟨wr.heap.size, 2, none⟩ = some (.slice A n cp) := blk_cell hS'.2.2 rfl; clear hS'; go_simp; try with_reducible rfl); done))
          try simp only [List.setIfInBounds_toArray, List.set_cons_zero, List.set_cons_succ]
          refine takeH (i := 2) (d := 64) (v := ?_) rfl rfl (by kernel_rfl) (by kernel_rfl) (by kernel_rfl) (fun _ _ _ h => h) (Or.inl ⟨by kernel_rfl, ?_⟩) hS ?_; rotate_left 1; (focus ((intro w' hS'; clear hS'; go_simp; try with_reducible rfl); done))
          try simp only [List.setIfInBounds_toArray, List.set_cons_zero, List.set_cons_succ]
          refine takeH (i := 3) (d := 65) (v := ?_) rfl rfl (by kernel_rfl) (by kernel_rfl) (by kernel_rfl) (fun _ _ _ h => h) (Or.inl ⟨by kernel_rfl, ?_⟩) hS ?_; rotate_left 1; (focus ((intro w' hS'; have k1 : w'.cell? ⟨w1.heap.size, 0, none⟩ = some (.int .u64 gen) := blk_cell hS'.1 rfl; have k2 : w'.cell? ⟨w1.heap.size, 1, none⟩ = some (.int .u64 epoch) := blk_cell hS'.1 rfl; have k3 : w'.cell? ⟨w.heap.size, 0, none⟩ = some (.int .u64 pg) := blk_cell hS'.2.1 rfl; have k4 : w'.cell? ⟨w.heap.size, 1, none⟩ = some (.int .u64 pe) := blk_cell hS'.2.1 rfl; have k5 : w'.cell? ⟨wr.heap.size, 0, none⟩ = some (.int .u64 gen) := blk_cell hS'.2.2 rfl; have k6 : w'.cell? ⟨wr.heap.size, 1, none⟩ = some (.int .u64 epoch) := blk_cell hS'.2.2 rfl; have k7 : w'.cell? ⟨wr.heap.size, 2, none⟩ = some (.slice A n cp) := blk_cell hS'.2.2 rfl; clear hS'; go_simp; try with_reducible rfl); done))
          try simp only [List.setIfInBounds_toArray, List.set_cons_zero, List.set_cons_succ]
          refine takeH (i := 4) (d := 66) (v := ?_) rfl rfl (by kernel_rfl) (by kernel_rfl) (by kernel_rfl) (fun _ _ _ h => h) (Or.inl ⟨by kernel_rfl, ?_⟩) hS ?_; rotate_left 1; (focus ((intro w' hS'; clear hS'; go_simp; try with_reducible rfl); done))
          try simp only [List.setIfInBounds_toArray, List.set_cons_zero, List.set_cons_succ]
          refine takeH (i := 5) (d := 67) (v := ?_) rfl rfl (by kernel_rfl) (by kernel_rfl) (by kernel_rfl) (fun _ _ _ h => h) (Or.inl ⟨by kernel_rfl, ?_⟩) hS ?_; rotate_left 1; (focus ((intro w' hS'; clear hS'; go_simp; try with_reducible rfl); done))
          try simp only [List.setIfInBounds_toArray, List.set_cons_zero, List.set_cons_succ]
          refine takeH (i := 6) (d := 68) (v := ?_) rfl rfl (by kernel_rfl) (by kernel_rfl) (by kernel_rfl) (fun _ _ _ h => h) (Or.inl ⟨by kernel_rfl, ?_⟩) hS ?_; rotate_left 1; (focus ((intro w' hS'; clear hS'; go_simp; try with_reducible rfl); done))
          try simp only [List.setIfInBounds_toArray, List.set_cons_zero, List.set_cons_succ]
          refine takeH (i := 7) (d := 69) (v := ?_) rfl rfl (by kernel_rfl) (by kernel_rfl) (by kernel_rfl) (fun _ _ _ h => h) (Or.inl ⟨by kernel_rfl, ?_⟩) hS ?_; rotate_left 1; (focus ((intro w' hS'; have k1 : w'.cell? ⟨w1.heap.size, 0, none⟩ = some (.int .u64 gen) := blk_cell hS'.1 rfl; have k2 : w'.cell? ⟨w1.heap.size, 1, none⟩ = some (.int .u64 epoch) := blk_cell hS'.1 rfl; have k3 : w'.cell? ⟨w.heap.size, 0, none⟩ = some (.int .u64 pg) := blk_cell hS'.2.1 rfl; have k4 : w'.cell? ⟨w.heap.size, 1, none⟩ = some (.int .u64 pe) := blk_cell hS'.2.1 rfl; have k5 : w'.cell? ⟨wr.heap.size, 0, none⟩ = some (.int .u64 gen) := blk_cell hS'.2.2 rfl; have k6 : w'.cell? ⟨wr.heap.size, 1, none⟩ = some (.int .u64 epoch) := blk_cell hS'.2.2 rfl; have k7 : w'.cell? ⟨wr.heap.size, 2, none⟩ = some (.slice A n cp) := blk_cell hS'.2.2 rfl; clear hS'; go_simp; try with_reducible rfl); done))
          try simp only [List.setIfInBounds_toArray, List.set_cons_zero, List.set_cons_succ]
          refine takeH (i := 8) (d := 70) (v := ?_) rfl rfl (by kernel_rfl) (by kernel_rfl) (by kernel_rfl) (fun _ _ _ h => h) (Or.inl ⟨by kernel_rfl, ?_⟩) hS ?_; rotate_left 1; (focus ((intro w' hS'; clear hS'; go_simp; try with_reducible rfl); done))
          try simp only [List.setIfInBounds_toArray, List.set_cons_zero, List.set_cons_succ]
          refine takeH (i := 9) (d := 71) (v := ?_) rfl rfl (by kernel_rfl) (by kernel_rfl) (by kernel_rfl) (fun _ _ _ h => h) (Or.inl ⟨by kernel_rfl, ?_⟩) hS ?_; rotate_left 1; (focus ((intro w' hS'; have k1 : w'.cell? ⟨w1.heap.size, 0, none⟩ = some (.int .u64 gen) := blk_cell hS'.1 rfl; have k2 : w'.cell? ⟨w1.heap.size, 1, none⟩ = some (.int .u64 epoch) := blk_cell hS'.1 rfl; have k3 : w'.cell? ⟨w.heap.size, 0, none⟩ = some (.int .u64 pg) := blk_cell hS'.2.1 rfl; have k4 : w'.cell? ⟨w.heap.size, 1, none⟩ = some (.int .u64 pe) := blk_cell hS'.2.1 rfl; have k5 : w'.cell? ⟨wr.heap.size, 0, none⟩ = some (.int .u64 gen) := blk_cell hS'.2.2 rfl; have k6 : w'.cell? ⟨wr.heap.size, 1, none⟩ = some (.int .u64 epoch) := blk_cell hS'.2.2 rfl; have k7 : w'.cell? ⟨wr.heap.size, 2, none⟩ = some (.slice A n cp) := blk_cell hS'.2.2 rfl; clear hS'; go_simp; try with_reducible rfl); done))
          try simp only [List.setIfInBounds_toArray, List.set_cons_zero, List.set_cons_succ]
          refine takeH (i := 10) (d := 72) (v := ?_) rfl rfl (by kernel_rfl) (by kernel_rfl) (by kernel_rfl) (fun _ _ _ h => h) (Or.inl ⟨by kernel_rfl, ?_⟩) hS ?_; rotate_left 1; (focus ((intro w' hS'; clear hS'; go_simp; try with_reducible rfl); done))
          try simp only [List.setIfInBounds_toArray, List.set_cons_zero, List.set_cons_succ]
          refine takeH (i := 11) (d := 73) (v := ?_) rfl rfl (by kernel_rfl) (by kernel_rfl) (by kernel_rfl) (fun _ _ _ h => h) (Or.inl ⟨by kernel_rfl, ?_⟩) hS ?_; rotate_left 1; (focus ((intro w' hS'; clear hS'; go_simp; try with_reducible rfl); done))
          try simp only [List.setIfInBounds_toArray, List.set_cons_zero, List.set_cons_succ]
          refine takeH (i := 12) (d := 74) (v := ?_) rfl rfl (by kernel_rfl) (by kernel_rfl) (by kernel_rfl) (fun _ _ _ h => h) (Or.inl ⟨by kernel_rfl, ?_⟩) hS ?_; rotate_left 1; (focus ((intro w' hS'; clear hS'; go_simp; try with_reducible rfl); done))
          try simp only [List.setIfInBounds_toArray, List.set_cons_zero, List.set_cons_succ]
          refine takeH (i := 13) (d := 75) (v := ?_) rfl rfl (by kernel_rfl) (by kernel_rfl) (by kernel_rfl) (fun _ _ _ h => h) (Or.inl ⟨by kernel_rfl, ?_⟩) hS ?_; rotate_left 1; (focus ((intro w' hS'; clear hS'; go_simp; try with_reducible rfl); done))
          try simp only [List.setIfInBounds_toArray, List.set_cons_zero, List.set_cons_succ]
          refine takeH (i := 14) (d := 76) (v := ?_) rfl rfl (by kernel_rfl) (by kernel_rfl) (by kernel_rfl) (fun _ _ _ h => h) (Or.inl ⟨by kernel_rfl, ?_⟩) hS ?_; rotate_left 1; (focus ((intro w' hS'; have k1 : w'.cell? ⟨w1.heap.size, 0, none⟩ = some (.int .u64 gen) := blk_cell hS'.1 rfl; have k2 : w'.cell? ⟨w1.heap.size, 1, none⟩ = some (.int .u64 epoch) := blk_cell hS'.1 rfl; have k3 : w'.cell? ⟨w.heap.size, 0, none⟩ = some (.int .u64 pg) := blk_cell hS'.2.1 rfl; have k4 : w'.cell? ⟨w.heap.size, 1, none⟩ = some (.int .u64 pe) := blk_cell hS'.2.1 rfl; have k5 : w'.cell? ⟨wr.heap.size, 0, none⟩ = some (.int .u64 gen) := blk_cell hS'.2.2 rfl; have k6 : w'.cell? ⟨wr.heap.size, 1, none⟩ = some (.int .u64 epoch) := blk_cell hS'.2.2 rfl; have k7 : w'.cell? ⟨wr.heap.size, 2, none⟩ = some (.slice A n cp) := blk_cell hS'.2.2 rfl; clear hS'; go_simp; try with_reducible rfl); done))
          try simp only [List.setIfInBounds_toArray, List.set_cons_zero, List.set_cons_succ]
          refine takeH (i := 15) (d := 77) (v := ?_) rfl rfl (by kernel_rfl) (by kernel_rfl) (by kernel_rfl) (fun _ _ _ h => h) (Or.inl ⟨by kernel_rfl, ?_⟩) hS ?_; rotate_left 1; (focus ((intro w' hS'; clear hS'; go_simp; try with_reducible rfl); done))
          try simp only [List.setIfInBounds_toArray, List.set_cons_zero, List.set_cons_succ]
          refine takeH (i := 16) (d := 78) (v := ?_) rfl rfl (by kernel_rfl) (by kernel_rfl) (by kernel_rfl) (fun _ _ _ h => h) (Or.inl ⟨by kernel_rfl, ?_⟩) hS ?_; rotate_left 1; (focus ((intro w' hS'; have k1 : w'.cell? ⟨w1.heap.size, 0, none⟩ = some (.int .u64 gen) := blk_cell hS'.1 rfl; have k2 : w'.cell? ⟨w1.heap.size, 1, none⟩ = some (.int .u64 epoch) := blk_cell hS'.1 rfl; have k3 : w'.cell? ⟨w.heap.size, 0, none⟩ = some (.int .u64 pg) := blk_cell hS'.2.1 rfl; have k4 : w'.cell? ⟨w.heap.size, 1, none⟩ = some (.int .u64 pe) := blk_cell hS'.2.1 rfl; have k5 : w'.cell? ⟨wr.heap.size, 0, none⟩ = some (.int .u64 gen) := blk_cell hS'.2.2 rfl; have k6 : w'.cell? ⟨wr.heap.size, 1, none⟩ = some (.int .u64 epoch) := blk_cell hS'.2.2 rfl; have k7 : w'.cell? ⟨wr.heap.size, 2, none⟩ = some (.slice A n cp) := blk_cell hS'.2.2 rfl; clear hS'; go_simp; try with_reducible rfl); done))
          try simp only [List.setIfInBounds_toArray, List.set_cons_zero, List.set_cons_succ]
          refine takeH (i := 17) (d := 79) (v := ?_) rfl rfl (by kernel_rfl) (by kernel_rfl) (by kernel_rfl) (fun _ _ _ h => h) (Or.inl ⟨by kernel_rfl, ?_⟩) hS ?_; rotate_left 1; (focus ((intro w' hS'; clear hS'; go_simp; try with_reducible rfl); done))
          try simp only [List.setIfInBounds_toArray, List.set_cons_zero, List.set_cons_succ]
          refine takeH (i := 18) (d := 80) (v := ?_) rfl rfl (by kernel_rfl) (by kernel_rfl) (by kernel_rfl) (fun _ _ _ h => h) (Or.inl ⟨by kernel_rfl, ?_⟩) hS ?_; rotate_left 1; (focus ((intro w' hS'; clear hS'; go_simp; try with_reducible rfl); done))
          try simp only [List.setIfInBounds_toArray, List.set_cons_zero, List.set_cons_succ]
          refine takeH (i := 19) (d := 81) (v := undef) rfl rfl (by kernel_rfl) (by kernel_rfl) (by kernel_rfl) (fun _ _ _ h => h) (Or.inr ⟨by kernel_rfl, rfl⟩) hS ?_
          try simp only [List.setIfInBounds_toArray, List.set_cons_zero, List.set_cons_succ]
          refine takeH (i := 20) (d := 82) (v := undef) rfl rfl (by kernel_rfl) (by kernel_rfl) (by kernel_rfl) (fun _ _ _ h => h) (Or.inr ⟨by kernel_rfl, rfl⟩) hS ?_
          try simp only [List.setIfInBounds_toArray, List.set_cons_zero, List.set_cons_succ]
          refine takeH (i := 21) (d := 83) (v := undef) rfl rfl (by kernel_rfl) (by kernel_rfl) (by kernel_rfl) (fun _ _ _ h => h) (Or.inr ⟨by kernel_rfl, rfl⟩) hS ?_
          try simp only [List.setIfInBounds_toArray, List.set_cons_zero, List.set_cons_succ]
          refine takeH (i := 22) (d := 84) (v := undef) rfl rfl (by kernel_rfl) (by kernel_rfl) (by kernel_rfl) (fun _ _ _ h => h) (Or.inr ⟨by kernel_rfl, rfl⟩) hS ?_
          try simp only [List.setIfInBounds_toArray, List.set_cons_zero, List.set_cons_succ]
          refine takeH (i := 23) (d := 85) (v := undef) rfl rfl (by kernel_rfl) (by kernel_rfl) (by kernel_rfl) (fun _ _ _ h => h) (Or.inr ⟨by kernel_rfl, rfl⟩) hS ?_
          try simp only [List.setIfInBounds_toArray, List.set_cons_zero, List.set_cons_succ]
          refine takeH (i := 24) (d := 86) (v := ?_) rfl rfl (by kernel_rfl) (by kernel_rfl) (by kernel_rfl) (fun _ _ _ h => h) (Or.inl ⟨by kernel_rfl, ?_⟩) hS ?_; rotate_left 1; (focus ((intro w' hS'; clear hS'; go_simp; try with_reducible rfl); done))
          try simp only [List.setIfInBounds_toArray, List.set_cons_zero, List.set_cons_succ]
          refine takeH (i := 25) (d := 87) (v := ?_) rfl rfl (by kernel_rfl) (by kernel_rfl) (by kernel_rfl) (fun _ _ _ h => h) (Or.inl ⟨by kernel_rfl, ?_⟩) hS ?_; rotate_left 1; (focus ((intro w' hS'; clear hS'; go_simp; try with_reducible rfl); done))
          try simp only [List.setIfInBounds_toArray, List.set_cons_zero, List.set_cons_succ]
          refine takeH (i := 26) (d := 88) (v := ?_) rfl rfl (by kernel_rfl) (by kernel_rfl) (by kernel_rfl) (fun _ _ _ h => h) (Or.inl ⟨by kernel_rfl, ?_⟩) hS ?_; rotate_left 1; (focus ((intro w' hS'; clear hS'; go_simp; try with_reducible rfl); done))
          try simp only [List.setIfInBounds_toArray, List.set_cons_zero, List.set_cons_succ]
          refine takeH (i := 27) (d := 89) (v := ?_) rfl rfl (by kernel_rfl) (by kernel_rfl) (by kernel_rfl) (fun _ _ _ h => h) (Or.inl ⟨by kernel_rfl, ?_⟩) hS ?_; rotate_left 1; (focus ((intro w' hS'; clear hS'; go_simp; try with_reducible rfl); done))
          try simp only [List.setIfInBounds_toArray, List.set_cons_zero, List.set_cons_succ]
          refine takeH (i := 28) (d := 90) (v := ?_) rfl rfl (by kernel_rfl) (by kernel_rfl) (by kernel_rfl) (fun _ _ _ h => h) (Or.inl ⟨by kernel_rfl, ?_⟩) hS ?_; rotate_left 1; (focus ((intro w' hS'; have k1 : w'.cell? ⟨w1.heap.size, 0, none⟩ = some (.int .u64 gen) := blk_cell hS'.1 rfl; have k2 : w'.cell? ⟨w1.heap.size, 1, none⟩ = some (.int .u64 epoch) := blk_cell hS'.1 rfl; have k3 : w'.cell? ⟨w.heap.size, 0, none⟩ = some (.int .u64 pg) := blk_cell hS'.2.1 rfl; have k4 : w'.cell? ⟨w.heap.size, 1, none⟩ = some (.int .u64 pe) := blk_cell hS'.2.1 rfl; have k5 : w'.cell? ⟨wr.heap.size, 0, none⟩ = some (.int .u64 gen) := blk_cell hS'.2.2 rfl; have k6 : w'.cell? ⟨wr.heap.size, 1, none⟩ = some (.int .u64 epoch) := blk_cell hS'.2.2 rfl; have k7 : w'.cell? ⟨wr.heap.size, 2, none⟩ = some (.slice A n cp) := blk_cell hS'.2.2 rfl; clear hS'; go_simp; try with_reducible rfl); done))
          try simp only [List.setIfInBounds_toArray, List.set_cons_zero, List.set_cons_succ]
          refine takeH (i := 29) (d := 91) (v := ?_) rfl rfl (by kernel_rfl) (by kernel_rfl) (by kernel_rfl) (fun _ _ _ h => h) (Or.inl ⟨by kernel_rfl, ?_⟩) hS ?_; rotate_left 1; (focus ((intro w' hS'; clear hS'; go_simp; try with_reducible rfl); done))
          try simp only [List.setIfInBounds_toArray, List.set_cons_zero, List.set_cons_succ]
          refine takeH (i := 30) (d := 92) (v := ?_) rfl rfl (by kernel_rfl) (by kernel_rfl) (by kernel_rfl) (fun _ _ _ h => h) (Or.inl ⟨by kernel_rfl, ?_⟩) hS ?_; rotate_left 1; (focus ((intro w' hS'; have k1 : w'.cell? ⟨w1.heap.size, 0, none⟩ = some (.int .u64 gen) := blk_cell hS'.1 rfl; have k2 : w'.cell? ⟨w1.heap.size, 1, none⟩ = some (.int .u64 epoch) := blk_cell hS'.1 rfl; have k3 : w'.cell? ⟨w.heap.size, 0, none⟩ = some (.int .u64 pg) := blk_cell hS'.2.1 rfl; have k4 : w'.cell? ⟨w.heap.size, 1, none⟩ = some (.int .u64 pe) := blk_cell hS'.2.1 rfl; have k5 : w'.cell? ⟨wr.heap.size, 0, none⟩ = some (.int .u64 gen) := blk_cell hS'.2.2 rfl; have k6 : w'.cell? ⟨wr.heap.size, 1, none⟩ = some (.int .u64 epoch) := blk_cell hS'.2.2 rfl; have k7 : w'.cell? ⟨wr.heap.size, 2, none⟩ = some (.slice A n cp) := blk_cell hS'.2.2 rfl; clear hS'; go_simp; try with_reducible rfl); done))
          try simp only [List.setIfInBounds_toArray, List.set_cons_zero, List.set_cons_succ]
          refine takeH (i := 31) (d := 93) (v := ?_) rfl rfl (by kernel_rfl) (by kernel_rfl) (by kernel_rfl) (fun _ _ _ h => h) (Or.inl ⟨by kernel_rfl, ?_⟩) hS ?_; rotate_left 1; (focus ((intro w' hS'; clear hS'; go_simp; try with_reducible rfl); done))
          try simp only [List.setIfInBounds_toArray, List.set_cons_zero, List.set_cons_succ]
          refine takeH (i := 32) (d := 94) (v := ?_) rfl rfl (by kernel_rfl) (by kernel_rfl) (by kernel_rfl) (fun _ _ _ h => h) (Or.inl ⟨by kernel_rfl, ?_⟩) hS ?_; rotate_left 1; (focus ((intro w' hS'; clear hS'; go_simp; try with_reducible rfl); done))
          try simp only [List.setIfInBounds_toArray, List.set_cons_zero, List.set_cons_succ]
          refine takeH (i := 33) (d := 95) (v := ?_) rfl rfl (by kernel_rfl) (by kernel_rfl) (by kernel_rfl) (fun _ _ _ h => h) (Or.inl ⟨by kernel_rfl, ?_⟩) hS ?_; rotate_left 1; (focus ((intro w' hS'; clear hS'; go_simp; try with_reducible rfl); done))
          try simp only [List.setIfInBounds_toArray, List.set_cons_zero, List.set_cons_succ]
          refine takeH (i := 34) (d := 96) (v := ?_) rfl rfl (by kernel_rfl) (by kernel_rfl) (by kernel_rfl) (fun _ _ _ h => h) (Or.inl ⟨by kernel_rfl, ?_⟩) hS ?_; rotate_left 1; (focus ((intro w' hS'; clear hS'; go_simp; try with_reducible rfl); done))
          try simp only [List.setIfInBounds_toArray, List.set_cons_zero, List.set_cons_succ]
          refine takeH (i := 35) (d := 97) (v := ?_) rfl rfl (by kernel_rfl) (by kernel_rfl) (by kernel_rfl) (fun _ _ _ h => h) (Or.inl ⟨by kernel_rfl, ?_⟩) hS ?_; rotate_left 1; (focus ((intro w' hS'; have k1 : w'.cell? ⟨w1.heap.size, 0, none⟩ = some (.int .u64 gen) := blk_cell hS'.1 rfl; have k2 : w'.cell? ⟨w1.heap.size, 1, none⟩ = some (.int .u64 epoch) := blk_cell hS'.1 rfl; have k3 : w'.cell? ⟨w.heap.size, 0, none⟩ = some (.int .u64 pg) := blk_cell hS'.2.1 rfl; have k4 : w'.cell? ⟨w.heap.size, 1, none⟩ = some (.int .u64 pe) := blk_cell hS'.2.1 rfl; have k5 : w'.cell? ⟨wr.heap.size, 0, none⟩ = some (.int .u64 gen) := blk_cell hS'.2.2 rfl; have k6 : w'.cell? ⟨wr.heap.size, 1, none⟩ = some (.int .u64 epoch) := blk_cell hS'.2.2 rfl; have k7 : w'.cell? ⟨wr.heap.size, 2, none⟩ = some (.slice A n cp) := blk_cell hS'.2.2 rfl; clear hS'; go_simp; try with_reducible rfl); done))
          try simp only [List.setIfInBounds_toArray, List.set_cons_zero, List.set_cons_succ]
          refine takeH (i := 36) (d := 98) (v := ?_) rfl rfl (by kernel_rfl) (by kernel_rfl) (by kernel_rfl) (fun _ _ _ h => h) (Or.inl ⟨by kernel_rfl, ?_⟩) hS ?_; rotate_left 1; (focus ((intro w' hS'; clear hS'; go_simp; try with_reducible rfl); done))
          try simp only [List.setIfInBounds_toArray, List.set_cons_zero, List.set_cons_succ]
          refine takeH (i := 37) (d := 99) (v := ?_) rfl rfl (by kernel_rfl) (by kernel_rfl) (by kernel_rfl) (fun _ _ _ h => h) (Or.inl ⟨by kernel_rfl, ?_⟩) hS ?_; rotate_left 1; (focus ((intro w' hS'; have k1 : w'.cell? ⟨w1.heap.size, 0, none⟩ = some (.int .u64 gen) := blk_cell hS'.1 rfl; have k2 : w'.cell? ⟨w1.heap.size, 1, none⟩ = some (.int .u64 epoch) := blk_cell hS'.1 rfl; have k3 : w'.cell? ⟨w.heap.size, 0, none⟩ = some (.int .u64 pg) := blk_cell hS'.2.1 rfl; have k4 : w'.cell? ⟨w.heap.size, 1, none⟩ = some (.int .u64 pe) := blk_cell hS'.2.1 rfl; have k5 : w'.cell? ⟨wr.heap.size, 0, none⟩ = some (.int .u64 gen) := blk_cell hS'.2.2 rfl; have k6 : w'.cell? ⟨wr.heap.size, 1, none⟩ = some (.int .u64 epoch) := blk_cell hS'.2.2 rfl; have k7 : w'.cell? ⟨wr.heap.size, 2, none⟩ = some (.slice A n cp) := blk_cell hS'.2.2 rfl; clear hS'; go_simp; try with_reducible rfl); done))
          try simp only [List.setIfInBounds_toArray, List.set_cons_zero, List.set_cons_succ]
          refine takeH (i := 38) (d := 100) (v := ?_) rfl rfl (by kernel_rfl) (by kernel_rfl) (by kernel_rfl) (fun _ _ _ h => h) (Or.inl ⟨by kernel_rfl, ?_⟩) hS ?_; rotate_left 1; (focus ((intro w' hS'; clear hS'; go_simp; try with_reducible rfl); done))
          try simp only [List.setIfInBounds_toArray, List.set_cons_zero, List.set_cons_succ]
          refine takeH (i := 39) (d := 101) (v := ?_) rfl rfl (by kernel_rfl) (by kernel_rfl) (by kernel_rfl) (fun _ _ _ h => h) (Or.inl ⟨by kernel_rfl, ?_⟩) hS ?_; rotate_left 1; (focus ((intro w' hS'; clear hS'; go_simp; try with_reducible rfl); done))
          try simp only [List.setIfInBounds_toArray, List.set_cons_zero, List.set_cons_succ]
          refine takeH (i := 40) (d := 102) (v := ?_) rfl rfl (by kernel_rfl) (by kernel_rfl) (by kernel_rfl) (fun _ _ _ h => h) (Or.inl ⟨by kernel_rfl, ?_⟩) hS ?_; rotate_left 1; (focus ((intro w' hS'; clear hS'; go_simp; try with_reducible rfl); done))
          try simp only [List.setIfInBounds_toArray, List.set_cons_zero, List.set_cons_succ]
          refine takeH (i := 41) (d := 103) (v := ?_) rfl rfl (by kernel_rfl) (by kernel_rfl) (by kernel_rfl) (fun _ _ _ h => h) (Or.inl ⟨by kernel_rfl, ?_⟩) hS ?_; rotate_left 1; (focus ((intro w' hS'; clear hS'; go_simp; try with_reducible rfl); done))
          try simp only [List.setIfInBounds_toArray, List.set_cons_zero, List.set_cons_succ]
          refine takeH (i := 42) (d := 104) (v := .agg (ints .u8 S)) rfl rfl (by kernel_rfl) (by kernel_rfl) (by kernel_rfl) (fun _ _ _ h => h) (yieldsIf_load_mid (by kernel_rfl) 82 (.tmp 103) rfl w1.heap.size 2 rfl (S.map (Value.int .u8)) _ (fun w' h => blk_range (o := 2) h.1 (pin_range _ _ _)) Try.underlying82 rfl (by rw [List.length_map, HS.out]; kernel_rfl)) hS ?_
          try simp only [List.setIfInBounds_toArray, List.set_cons_zero, List.set_cons_succ]
          refine takeH (i := 43) (d := 105) (v := ?_) rfl rfl (by kernel_rfl) (by kernel_rfl) (by kernel_rfl) (fun _ _ _ h => h) (Or.inl ⟨by kernel_rfl, ?_⟩) hS ?_; rotate_left 1; (focus ((intro w' hS'; clear hS'; go_simp; try with_reducible rfl); done))
          try simp only [List.setIfInBounds_toArray, List.set_cons_zero, List.set_cons_succ]
          refine takeH (i := 44) (d := 106) (v := ?_) rfl rfl (by kernel_rfl) (by kernel_rfl) (by kernel_rfl) (fun _ _ _ h => h) (Or.inl ⟨by kernel_rfl, ?_⟩) hS ?_; rotate_left 1; (focus ((intro w' hS'; have k1 : w'.cell? ⟨w1.heap.size, 0, none⟩ = some (.int .u64 gen) := blk_cell hS'.1 rfl; have k2 : w'.cell? ⟨w1.heap.size, 1, none⟩ = some (.int .u64 epoch) := blk_cell hS'.1 rfl; have k3 : w'.cell? ⟨w.heap.size, 0, none⟩ = some (.int .u64 pg) := blk_cell hS'.2.1 rfl; have k4 : w'.cell? ⟨w.heap.size, 1, none⟩ = some (.int .u64 pe) := blk_cell hS'.2.1 rfl; have k5 : w'.cell? ⟨wr.heap.size, 0, none⟩ = some (.int .u64 gen) := blk_cell hS'.2.2 rfl; have k6 : w'.cell? ⟨wr.heap.size, 1, none⟩ = some (.int .u64 epoch) := blk_cell hS'.2.2 rfl; have k7 : w'.cell? ⟨wr.heap.size, 2, none⟩ = some (.slice A n cp) := blk_cell hS'.2.2 rfl; clear hS'; go_simp; try with_reducible rfl); done))
          try simp only [List.setIfInBounds_toArray, List.set_cons_zero, List.set_cons_succ]
          refine wpAnyH_ready (rs := [45]) (by kernel_rfl) (by simp) ?_
          refine AllReadyH.cons rfl (fun K hK => ?_) AllReadyH.nil
          go_simp
          refine (sum_any A n cp bs _ (hsok.out.1.1.below B2.out.drew) hsok.out.1.2.1 hsok.out.1.2.2 (by omega)).mono ?_
          rintro e w3 ⟨rfl, hb3⟩
          rw [HSe.out]
          have B3 := bx (B2.out.trans (show Below w.heap.size w2 w3 from (show Below w2.heap.size w2 w3 from ⟨hb3.os, hb3.tape, hb3.output, hb3.size, hb3.block⟩).mono B2.out.size))
          refine hK.out _ _ ?_ (fun hS2 => ?_)
          · exact ⟨(hb3.block w1.heap.size z1).trans hS.1, (hb3.block w.heap.size z0).trans hS.2.1, (hb3.block wr.heap.size z2).trans hS.2.2⟩
          clear hK K hS; have hS := hS2; clear hS2
          try simp only [Act.put, List.setIfInBounds_toArray, List.set_cons_zero, List.set_cons_succ]
          refine takeH (i := 46) (d := 108) (v := ?_) rfl rfl (by kernel_rfl) (by kernel_rfl) (by kernel_rfl) (fun _ _ _ h => h) (Or.inl ⟨by kernel_rfl, ?_⟩) hS ?_; rotate_left 1; (focus ((intro w' hS'; clear hS'; go_simp; try with_reducible rfl); done))
          try simp only [List.setIfInBounds_toArray, List.set_cons_zero, List.set_cons_succ]
          refine takeH (i := 47) (d := 109) (v := ?_) rfl rfl (by kernel_rfl) (by kernel_rfl) (by kernel_rfl) (fun _ _ _ h => h) (Or.inl ⟨by kernel_rfl, ?_⟩) hS ?_; rotate_left 1; (focus ((intro w' hS'; clear hS'; go_simp; try with_reducible rfl); done))
          try simp only [List.setIfInBounds_toArray, List.set_cons_zero, List.set_cons_succ]
          refine wpAnyH_done (by kernel_rfl) ?_ _
          go_wp2_with (first
            | ((with_reducible refine at_load 110 ?_); go_must (refine wpList_load_agg rfl 84 (.tmp 6) rfl w1.heap.size 0 rfl 84 (pinCells gen epoch S) 34 _ hS.1 Try.underlying84 rfl I34.out (by rw [pin_size _ _ _ HS.out]; decide) (pinCells gen epoch S) (pin_all _ _ _ HS.out) ?_))
            | ((with_reducible refine at_store (.tmp 3) (.tmp 110) ?_); go_must (refine wpList_store_agg (cells := pinCells gen epoch S) rfl 84 (.tmp 3) (.tmp 110) rfl w.heap.size 0 rfl rfl 84 (pinCells pg pe ps) hS.2.1 I34'.out (by rw [pin_size _ _ _ HPS.out, pin_size _ _ _ HS.out]; decide) (pin_oneCell _ _ _) (pinCells gen epoch S) (pin_put _ (pin_size _ _ _ HPS.out) _ _ _ HS.out) ?_; intro w4 hu4; have P4 := bx hu4.same; have B4 := bx (B3.out.trans (hu4.below (Nat.le_refl _))); clear hu4)))
          exact ⟨⟨j + 1, ⟨gen, epoch, S⟩, by omega, by go_num, P4.out, HS.out, hsok.out.2.1, B4.out⟩, by simp [intOf]; omega⟩
        · subst hd4
          refine wp_region_held_drew (S := (fun w' => w'.heap[w1.heap.size]? = some (.cells (pinCells gen epoch S) 84 (0, 0)) ∧ w'.heap[w.heap.size]? = some (.cells (pinCells pg pe S) 84 (0, 0)) ∧ w'.heap[wr.heap.size]? = some (.cells #[.int .u64 gen, .int .u64 epoch, .slice A n cp] 86 (0, 0)))) (by kernel_rfl) ⟨Q2.out, P2.out, T2.out⟩ (fun hS => ?_)
          refine takeH (i := 0) (d := 62) (v := ?_) rfl rfl (by kernel_rfl) (by kernel_rfl) (by kernel_rfl) (fun _ _ _ h => h) (Or.inl ⟨by kernel_rfl, ?_⟩) hS ?_; rotate_left 1; (focus ((intro w' hS'; clear hS'; go_simp; try with_reducible rfl); done))
          try simp only [List.setIfInBounds_toArray, List.set_cons_zero, List.set_cons_succ]
          refine takeH (i := 1) (d := 63) (v := ?_) rfl rfl (by kernel_rfl) (by kernel_rfl) (by kernel_rfl) (fun _ _ _ h => h) (Or.inl ⟨by kernel_rfl, ?_⟩) hS ?_; rotate_left 1; (focus ((intro w' hS'; have k1 : w'.cell? ⟨w1.heap.size, 0, none⟩ = some (.int .u64 gen) := blk_cell hS'.1 rfl; have k2 : w'.cell? ⟨w1.heap.size, 1, none⟩ = some (.int .u64 epoch) := blk_cell hS'.1 rfl; have k3 : w'.cell? ⟨w.heap.size, 0, none⟩ = some (.int .u64 pg) := blk_cell hS'.2.1 rfl; have k4 : w'.cell? ⟨w.heap.size, 1, none⟩ = some (.int .u64 pe) := blk_cell hS'.2.1 rfl; have k5 : w'.cell? ⟨wr.heap.size, 0, none⟩ = some (.int .u64 gen) := blk_cell hS'.2.2 rfl; have k6 : w'.cell? ⟨wr.heap.size, 1, none⟩ = some (.int .u64 epoch) := blk_cell hS'.2.2 rfl; have k7 : w'.cell? ⟨wr.heap.size, 2, none⟩ = some (.slice A n cp) := blk_cell hS'.2.2 rfl; clear hS'; go_simp; try with_reducible rfl); done))
          try simp only [List.setIfInBounds_toArray, List.set_cons_zero, List.set_cons_succ]
          refine takeH (i := 2) (d := 64) (v := ?_) rfl rfl (by kernel_rfl) (by kernel_rfl) (by kernel_rfl) (fun _ _ _ h => h) (Or.inl ⟨by kernel_rfl, ?_⟩) hS ?_; rotate_left 1; (focus ((intro w' hS'; clear hS'; go_simp; try with_reducible rfl); done))
          try simp only [List.setIfInBounds_toArray, List.set_cons_zero, List.set_cons_succ]
          refine takeH (i := 3) (d := 65) (v := ?_) rfl rfl (by kernel_rfl) (by kernel_rfl) (by kernel_rfl) (fun _ _ _ h => h) (Or.inl ⟨by kernel_rfl, ?_⟩) hS ?_; rotate_left 1; (focus ((intro w' hS'; have k1 : w'.cell? ⟨w1.heap.size, 0, none⟩ = some (.int .u64 gen) := blk_cell hS'.1 rfl; have k2 : w'.cell? ⟨w1.heap.size, 1, none⟩ = some (.int .u64 epoch) := blk_cell hS'.1 rfl; have k3 : w'.cell? ⟨w.heap.size, 0, none⟩ = some (.int .u64 pg) := blk_cell hS'.2.1 rfl; have k4 : w'.cell? ⟨w.heap.size, 1, none⟩ = some (.int .u64 pe) := blk_cell hS'.2.1 rfl; have k5 : w'.cell? ⟨wr.heap.size, 0, none⟩ = some (.int .u64 gen) := blk_cell hS'.2.2 rfl; have k6 : w'.cell? ⟨wr.heap.size, 1, none⟩ = some (.int .u64 epoch) := blk_cell hS'.2.2 rfl; have k7 : w'.cell? ⟨wr.heap.size, 2, none⟩ = some (.slice A n cp) := blk_cell hS'.2.2 rfl; clear hS'; go_simp; try with_reducible rfl); done))
          try simp only [List.setIfInBounds_toArray, List.set_cons_zero, List.set_cons_succ]
          refine takeH (i := 4) (d := 66) (v := ?_) rfl rfl (by kernel_rfl) (by kernel_rfl) (by kernel_rfl) (fun _ _ _ h => h) (Or.inl ⟨by kernel_rfl, ?_⟩) hS ?_; rotate_left 1; (focus ((intro w' hS'; clear hS'; go_simp; try with_reducible rfl); done))
          try simp only [List.setIfInBounds_toArray, List.set_cons_zero, List.set_cons_succ]
          refine takeH (i := 5) (d := 67) (v := ?_) rfl rfl (by kernel_rfl) (by kernel_rfl) (by kernel_rfl) (fun _ _ _ h => h) (Or.inl ⟨by kernel_rfl, ?_⟩) hS ?_; rotate_left 1; (focus ((intro w' hS'; clear hS'; go_simp; try with_reducible rfl); done))
          try simp only [List.setIfInBounds_toArray, List.set_cons_zero, List.set_cons_succ]
          refine takeH (i := 6) (d := 68) (v := ?_) rfl rfl (by kernel_rfl) (by kernel_rfl) (by kernel_rfl) (fun _ _ _ h => h) (Or.inl ⟨by kernel_rfl, ?_⟩) hS ?_; rotate_left 1; (focus ((intro w' hS'; clear hS'; go_simp; try with_reducible rfl); done))
          try simp only [List.setIfInBounds_toArray, List.set_cons_zero, List.set_cons_succ]
          refine takeH (i := 7) (d := 69) (v := ?_) rfl rfl (by kernel_rfl) (by kernel_rfl) (by kernel_rfl) (fun _ _ _ h => h) (Or.inl ⟨by kernel_rfl, ?_⟩) hS ?_; rotate_left 1; (focus ((intro w' hS'; have k1 : w'.cell? ⟨w1.heap.size, 0, none⟩ = some (.int .u64 gen) := blk_cell hS'.1 rfl; have k2 : w'.cell? ⟨w1.heap.size, 1, none⟩ = some (.int .u64 epoch) := blk_cell hS'.1 rfl; have k3 : w'.cell? ⟨w.heap.size, 0, none⟩ = some (.int .u64 pg) := blk_cell hS'.2.1 rfl; have k4 : w'.cell? ⟨w.heap.size, 1, none⟩ = some (.int .u64 pe) := blk_cell hS'.2.1 rfl; have k5 : w'.cell? ⟨wr.heap.size, 0, none⟩ = some (.int .u64 gen) := blk_cell hS'.2.2 rfl; have k6 : w'.cell? ⟨wr.heap.size, 1, none⟩ = some (.int .u64 epoch) := blk_cell hS'.2.2 rfl; have k7 : w'.cell? ⟨wr.heap.size, 2, none⟩ = some (.slice A n cp) := blk_cell hS'.2.2 rfl; clear hS'; go_simp; try with_reducible rfl); done))
          try simp only [List.setIfInBounds_toArray, List.set_cons_zero, List.set_cons_succ]
          refine takeH (i := 8) (d := 70) (v := ?_) rfl rfl (by kernel_rfl) (by kernel_rfl) (by kernel_rfl) (fun _ _ _ h => h) (Or.inl ⟨by kernel_rfl, ?_⟩) hS ?_; rotate_left 1; (focus ((intro w' hS'; clear hS'; go_simp; try with_reducible rfl); done))
          try simp only [List.setIfInBounds_toArray, List.set_cons_zero, List.set_cons_succ]
          refine takeH (i := 9) (d := 71) (v := ?_) rfl rfl (by kernel_rfl) (by kernel_rfl) (by kernel_rfl) (fun _ _ _ h => h) (Or.inl ⟨by kernel_rfl, ?_⟩) hS ?_; rotate_left 1; (focus ((intro w' hS'; have k1 : w'.cell? ⟨w1.heap.size, 0, none⟩ = some (.int .u64 gen) := blk_cell hS'.1 rfl; have k2 : w'.cell? ⟨w1.heap.size, 1, none⟩ = some (.int .u64 epoch) := blk_cell hS'.1 rfl; have k3 : w'.cell? ⟨w.heap.size, 0, none⟩ = some (.int .u64 pg) := blk_cell hS'.2.1 rfl; have k4 : w'.cell? ⟨w.heap.size, 1, none⟩ = some (.int .u64 pe) := blk_cell hS'.2.1 rfl; have k5 : w'.cell? ⟨wr.heap.size, 0, none⟩ = some (.int .u64 gen) := blk_cell hS'.2.2 rfl; have k6 : w'.cell? ⟨wr.heap.size, 1, none⟩ = some (.int .u64 epoch) := blk_cell hS'.2.2 rfl; have k7 : w'.cell? ⟨wr.heap.size, 2, none⟩ = some (.slice A n cp) := blk_cell hS'.2.2 rfl; clear hS'; go_simp; try with_reducible rfl); done))
          try simp only [List.setIfInBounds_toArray, List.set_cons_zero, List.set_cons_succ]
          refine takeH (i := 10) (d := 72) (v := ?_) rfl rfl (by kernel_rfl) (by kernel_rfl) (by kernel_rfl) (fun _ _ _ h => h) (Or.inl ⟨by kernel_rfl, ?_⟩) hS ?_; rotate_left 1; (focus ((intro w' hS'; clear hS'; go_simp; try with_reducible rfl); done))
          try simp only [List.setIfInBounds_toArray, List.set_cons_zero, List.set_cons_succ]
          refine takeH (i := 11) (d := 73) (v := ?_) rfl rfl (by kernel_rfl) (by kernel_rfl) (by kernel_rfl) (fun _ _ _ h => h) (Or.inl ⟨by kernel_rfl, ?_⟩) hS ?_; rotate_left 1; (focus ((intro w' hS'; clear hS'; go_simp; try with_reducible rfl); done))
          try simp only [List.setIfInBounds_toArray, List.set_cons_zero, List.set_cons_succ]
          refine takeH (i := 12) (d := 74) (v := ?_) rfl rfl (by kernel_rfl) (by kernel_rfl) (by kernel_rfl) (fun _ _ _ h => h) (Or.inl ⟨by kernel_rfl, ?_⟩) hS ?_; rotate_left 1; (focus ((intro w' hS'; clear hS'; go_simp; try with_reducible rfl); done))
          try simp only [List.setIfInBounds_toArray, List.set_cons_zero, List.set_cons_succ]
          refine takeH (i := 13) (d := 75) (v := ?_) rfl rfl (by kernel_rfl) (by kernel_rfl) (by kernel_rfl) (fun _ _ _ h => h) (Or.inl ⟨by kernel_rfl, ?_⟩) hS ?_; rotate_left 1; (focus ((intro w' hS'; clear hS'; go_simp; try with_reducible rfl); done))
          try simp only [List.setIfInBounds_toArray, List.set_cons_zero, List.set_cons_succ]
          refine takeH (i := 14) (d := 76) (v := ?_) rfl rfl (by kernel_rfl) (by kernel_rfl) (by kernel_rfl) (fun _ _ _ h => h) (Or.inl ⟨by kernel_rfl, ?_⟩) hS ?_; rotate_left 1; (focus ((intro w' hS'; have k1 : w'.cell? ⟨w1.heap.size, 0, none⟩ = some (.int .u64 gen) := blk_cell hS'.1 rfl; have k2 : w'.cell? ⟨w1.heap.size, 1, none⟩ = some (.int .u64 epoch) := blk_cell hS'.1 rfl; have k3 : w'.cell? ⟨w.heap.size, 0, none⟩ = some (.int .u64 pg) := blk_cell hS'.2.1 rfl; have k4 : w'.cell? ⟨w.heap.size, 1, none⟩ = some (.int .u64 pe) := blk_cell hS'.2.1 rfl; have k5 : w'.cell? ⟨wr.heap.size, 0, none⟩ = some (.int .u64 gen) := blk_cell hS'.2.2 rfl; have k6 : w'.cell? ⟨wr.heap.size, 1, none⟩ = some (.int .u64 epoch) := blk_cell hS'.2.2 rfl; have k7 : w'.cell? ⟨wr.heap.size, 2, none⟩ = some (.slice A n cp) := blk_cell hS'.2.2 rfl; clear hS'; go_simp; try with_reducible rfl); done))
          try simp only [List.setIfInBounds_toArray, List.set_cons_zero, List.set_cons_succ]
          refine takeH (i := 15) (d := 77) (v := ?_) rfl rfl (by kernel_rfl) (by kernel_rfl) (by kernel_rfl) (fun _ _ _ h => h) (Or.inl ⟨by kernel_rfl, ?_⟩) hS ?_; rotate_left 1; (focus ((intro w' hS'; clear hS'; go_simp; try with_reducible rfl); done))
          try simp only [List.setIfInBounds_toArray, List.set_cons_zero, List.set_cons_succ]
          refine takeH (i := 16) (d := 78) (v := ?_) rfl rfl (by kernel_rfl) (by kernel_rfl) (by kernel_rfl) (fun _ _ _ h => h) (Or.inl ⟨by kernel_rfl, ?_⟩) hS ?_; rotate_left 1; (focus ((intro w' hS'; have k1 : w'.cell? ⟨w1.heap.size, 0, none⟩ = some (.int .u64 gen) := blk_cell hS'.1 rfl; have k2 : w'.cell? ⟨w1.heap.size, 1, none⟩ = some (.int .u64 epoch) := blk_cell hS'.1 rfl; have k3 : w'.cell? ⟨w.heap.size, 0, none⟩ = some (.int .u64 pg) := blk_cell hS'.2.1 rfl; have k4 : w'.cell? ⟨w.heap.size, 1, none⟩ = some (.int .u64 pe) := blk_cell hS'.2.1 rfl; have k5 : w'.cell? ⟨wr.heap.size, 0, none⟩ = some (.int .u64 gen) := blk_cell hS'.2.2 rfl; have k6 : w'.cell? ⟨wr.heap.size, 1, none⟩ = some (.int .u64 epoch) := blk_cell hS'.2.2 rfl; have k7 : w'.cell? ⟨wr.heap.size, 2, none⟩ = some (.slice A n cp) := blk_cell hS'.2.2 rfl; clear hS'; go_simp; try with_reducible rfl); done))
          try simp only [List.setIfInBounds_toArray, List.set_cons_zero, List.set_cons_succ]
          refine takeH (i := 17) (d := 79) (v := ?_) rfl rfl (by kernel_rfl) (by kernel_rfl) (by kernel_rfl) (fun _ _ _ h => h) (Or.inl ⟨by kernel_rfl, ?_⟩) hS ?_; rotate_left 1; (focus ((intro w' hS'; clear hS'; go_simp; try with_reducible rfl); done))
          try simp only [List.setIfInBounds_toArray, List.set_cons_zero, List.set_cons_succ]
          refine takeH (i := 18) (d := 80) (v := ?_) rfl rfl (by kernel_rfl) (by kernel_rfl) (by kernel_rfl) (fun _ _ _ h => h) (Or.inl ⟨by kernel_rfl, ?_⟩) hS ?_; rotate_left 1; (focus ((intro w' hS'; clear hS'; go_simp; try with_reducible rfl); done))
          try simp only [List.setIfInBounds_toArray, List.set_cons_zero, List.set_cons_succ]
          refine takeH (i := 19) (d := 81) (v := ?_) rfl rfl (by kernel_rfl) (by kernel_rfl) (by kernel_rfl) (fun _ _ _ h => h) (Or.inl ⟨by kernel_rfl, ?_⟩) hS ?_; rotate_left 1; (focus ((intro w' hS'; clear hS'; go_simp; try with_reducible rfl); done))
          try simp only [List.setIfInBounds_toArray, List.set_cons_zero, List.set_cons_succ]
          refine takeH (i := 20) (d := 82) (v := .agg (ints .u8 S)) rfl rfl (by kernel_rfl) (by kernel_rfl) (by kernel_rfl) (fun _ _ _ h => h) (yieldsIf_load_mid (by kernel_rfl) 82 (.tmp 81) rfl w1.heap.size 2 rfl (S.map (Value.int .u8)) _ (fun w' h => blk_range (o := 2) h.1 (pin_range _ _ _)) Try.underlying82 rfl (by rw [List.length_map, HS.out]; kernel_rfl)) hS ?_
          try simp only [List.setIfInBounds_toArray, List.set_cons_zero, List.set_cons_succ]
          refine takeH (i := 21) (d := 83) (v := ?_) rfl rfl (by kernel_rfl) (by kernel_rfl) (by kernel_rfl) (fun _ _ _ h => h) (Or.inl ⟨by kernel_rfl, ?_⟩) hS ?_; rotate_left 1; (focus ((intro w' hS'; clear hS'; go_simp; try with_reducible rfl); done))
          try simp only [List.setIfInBounds_toArray, List.set_cons_zero, List.set_cons_succ]
          refine takeH (i := 22) (d := 84) (v := .agg (ints .u8 S)) rfl rfl (by kernel_rfl) (by kernel_rfl) (by kernel_rfl) (fun _ _ _ h => h) (yieldsIf_load_mid (by kernel_rfl) 82 (.tmp 83) rfl w.heap.size 2 rfl (S.map (Value.int .u8)) _ (fun w' h => blk_range (o := 2) h.2.1 (pin_range _ _ _)) Try.underlying82 rfl (by rw [List.length_map, HS.out]; kernel_rfl)) hS ?_
          try simp only [List.setIfInBounds_toArray, List.set_cons_zero, List.set_cons_succ]
          refine takeH (i := 23) (d := 85) (v := ?_) rfl rfl (by kernel_rfl) (by kernel_rfl) (by kernel_rfl) (fun _ _ _ h => h) (Or.inl ⟨by kernel_rfl, ?_⟩) hS ?_; rotate_left 1; (focus ((intro w' hS'; clear hS'; go_simp; try with_reducible rfl); done))
          try simp only [List.setIfInBounds_toArray, List.set_cons_zero, List.set_cons_succ]
          refine takeH (i := 24) (d := 86) (v := ?_) rfl rfl (by kernel_rfl) (by kernel_rfl) (by kernel_rfl) (fun _ _ _ h => h) (Or.inl ⟨by kernel_rfl, ?_⟩) hS ?_; rotate_left 1; (focus ((intro w' hS'; clear hS'; go_simp; try with_reducible rfl); done))
          try simp only [List.setIfInBounds_toArray, List.set_cons_zero, List.set_cons_succ]
          refine takeH (i := 25) (d := 87) (v := ?_) rfl rfl (by kernel_rfl) (by kernel_rfl) (by kernel_rfl) (fun _ _ _ h => h) (Or.inl ⟨by kernel_rfl, ?_⟩) hS ?_; rotate_left 1; (focus ((intro w' hS'; clear hS'; go_simp; try with_reducible rfl); done))
          try simp only [List.setIfInBounds_toArray, List.set_cons_zero, List.set_cons_succ]
          refine takeH (i := 26) (d := 88) (v := ?_) rfl rfl (by kernel_rfl) (by kernel_rfl) (by kernel_rfl) (fun _ _ _ h => h) (Or.inl ⟨by kernel_rfl, ?_⟩) hS ?_; rotate_left 1; (focus ((intro w' hS'; clear hS'; go_simp; try with_reducible rfl); done))
          try simp only [List.setIfInBounds_toArray, List.set_cons_zero, List.set_cons_succ]
          refine takeH (i := 27) (d := 89) (v := ?_) rfl rfl (by kernel_rfl) (by kernel_rfl) (by kernel_rfl) (fun _ _ _ h => h) (Or.inl ⟨by kernel_rfl, ?_⟩) hS ?_; rotate_left 1; (focus ((intro w' hS'; clear hS'; go_simp; try with_reducible rfl); done))
          try simp only [List.setIfInBounds_toArray, List.set_cons_zero, List.set_cons_succ]
          refine takeH (i := 28) (d := 90) (v := ?_) rfl rfl (by kernel_rfl) (by kernel_rfl) (by kernel_rfl) (fun _ _ _ h => h) (Or.inl ⟨by kernel_rfl, ?_⟩) hS ?_; rotate_left 1; (focus ((intro w' hS'; have k1 : w'.cell? ⟨w1.heap.size, 0, none⟩ = some (.int .u64 gen) := blk_cell hS'.1 rfl; have k2 : w'.cell? ⟨w1.heap.size, 1, none⟩ = some (.int .u64 epoch) := blk_cell hS'.1 rfl; have k3 : w'.cell? ⟨w.heap.size, 0, none⟩ = some (.int .u64 pg) := blk_cell hS'.2.1 rfl; have k4 : w'.cell? ⟨w.heap.size, 1, none⟩ = some (.int .u64 pe) := blk_cell hS'.2.1 rfl; have k5 : w'.cell? ⟨wr.heap.size, 0, none⟩ = some (.int .u64 gen) := blk_cell hS'.2.2 rfl; have k6 : w'.cell? ⟨wr.heap.size, 1, none⟩ = some (.int .u64 epoch) := blk_cell hS'.2.2 rfl; have k7 : w'.cell? ⟨wr.heap.size, 2, none⟩ = some (.slice A n cp) := blk_cell hS'.2.2 rfl; clear hS'; go_simp; try with_reducible rfl); done))
          try simp only [List.setIfInBounds_toArray, List.set_cons_zero, List.set_cons_succ]
          refine takeH (i := 29) (d := 91) (v := ?_) rfl rfl (by kernel_rfl) (by kernel_rfl) (by kernel_rfl) (fun _ _ _ h => h) (Or.inl ⟨by kernel_rfl, ?_⟩) hS ?_; rotate_left 1; (focus ((intro w' hS'; clear hS'; go_simp; try with_reducible rfl); done))
          try simp only [List.setIfInBounds_toArray, List.set_cons_zero, List.set_cons_succ]
          refine takeH (i := 30) (d := 92) (v := ?_) rfl rfl (by kernel_rfl) (by kernel_rfl) (by kernel_rfl) (fun _ _ _ h => h) (Or.inl ⟨by kernel_rfl, ?_⟩) hS ?_; rotate_left 1; (focus ((intro w' hS'; have k1 : w'.cell? ⟨w1.heap.size, 0, none⟩ = some (.int .u64 gen) := blk_cell hS'.1 rfl; have k2 : w'.cell? ⟨w1.heap.size, 1, none⟩ = some (.int .u64 epoch) := blk_cell hS'.1 rfl; have k3 : w'.cell? ⟨w.heap.size, 0, none⟩ = some (.int .u64 pg) := blk_cell hS'.2.1 rfl; have k4 : w'.cell? ⟨w.heap.size, 1, none⟩ = some (.int .u64 pe) := blk_cell hS'.2.1 rfl; have k5 : w'.cell? ⟨wr.heap.size, 0, none⟩ = some (.int .u64 gen) := blk_cell hS'.2.2 rfl; have k6 : w'.cell? ⟨wr.heap.size, 1, none⟩ = some (.int .u64 epoch) := blk_cell hS'.2.2 rfl; have k7 : w'.cell? ⟨wr.heap.size, 2, none⟩ = some (.slice A n cp) := blk_cell hS'.2.2 rfl; clear hS'; go_simp; try with_reducible rfl); done))
          try simp only [List.setIfInBounds_toArray, List.set_cons_zero, List.set_cons_succ]
          refine takeH (i := 31) (d := 93) (v := ?_) rfl rfl (by kernel_rfl) (by kernel_rfl) (by kernel_rfl) (fun _ _ _ h => h) (Or.inl ⟨by kernel_rfl, ?_⟩) hS ?_; rotate_left 1; (focus ((intro w' hS'; clear hS'; go_simp; try with_reducible rfl); done))
          try simp only [List.setIfInBounds_toArray, List.set_cons_zero, List.set_cons_succ]
          refine takeH (i := 32) (d := 94) (v := ?_) rfl rfl (by kernel_rfl) (by kernel_rfl) (by kernel_rfl) (fun _ _ _ h => h) (Or.inl ⟨by kernel_rfl, ?_⟩) hS ?_; rotate_left 1; (focus ((intro w' hS'; clear hS'; go_simp; try with_reducible rfl); done))
          try simp only [List.setIfInBounds_toArray, List.set_cons_zero, List.set_cons_succ]
          refine takeH (i := 33) (d := 95) (v := ?_) rfl rfl (by kernel_rfl) (by kernel_rfl) (by kernel_rfl) (fun _ _ _ h => h) (Or.inl ⟨by kernel_rfl, ?_⟩) hS ?_; rotate_left 1; (focus ((intro w' hS'; clear hS'; go_simp; try with_reducible rfl); done))
          try simp only [List.setIfInBounds_toArray, List.set_cons_zero, List.set_cons_succ]
          refine takeH (i := 34) (d := 96) (v := ?_) rfl rfl (by kernel_rfl) (by kernel_rfl) (by kernel_rfl) (fun _ _ _ h => h) (Or.inl ⟨by kernel_rfl, ?_⟩) hS ?_; rotate_left 1; (focus ((intro w' hS'; clear hS'; go_simp; try with_reducible rfl); done))
          try simp only [List.setIfInBounds_toArray, List.set_cons_zero, List.set_cons_succ]
          refine takeH (i := 35) (d := 97) (v := ?_) rfl rfl (by kernel_rfl) (by kernel_rfl) (by kernel_rfl) (fun _ _ _ h => h) (Or.inl ⟨by kernel_rfl, ?_⟩) hS ?_; rotate_left 1; (focus ((intro w' hS'; have k1 : w'.cell? ⟨w1.heap.size, 0, none⟩ = some (.int .u64 gen) := blk_cell hS'.1 rfl; have k2 : w'.cell? ⟨w1.heap.size, 1, none⟩ = some (.int .u64 epoch) := blk_cell hS'.1 rfl; have k3 : w'.cell? ⟨w.heap.size, 0, none⟩ = some (.int .u64 pg) := blk_cell hS'.2.1 rfl; have k4 : w'.cell? ⟨w.heap.size, 1, none⟩ = some (.int .u64 pe) := blk_cell hS'.2.1 rfl; have k5 : w'.cell? ⟨wr.heap.size, 0, none⟩ = some (.int .u64 gen) := blk_cell hS'.2.2 rfl; have k6 : w'.cell? ⟨wr.heap.size, 1, none⟩ = some (.int .u64 epoch) := blk_cell hS'.2.2 rfl; have k7 : w'.cell? ⟨wr.heap.size, 2, none⟩ = some (.slice A n cp) := blk_cell hS'.2.2 rfl; clear hS'; go_simp; try with_reducible rfl); done))
          try simp only [List.setIfInBounds_toArray, List.set_cons_zero, List.set_cons_succ]
          refine takeH (i := 36) (d := 98) (v := ?_) rfl rfl (by kernel_rfl) (by kernel_rfl) (by kernel_rfl) (fun _ _ _ h => h) (Or.inl ⟨by kernel_rfl, ?_⟩) hS ?_; rotate_left 1; (focus ((intro w' hS'; clear hS'; go_simp; try with_reducible rfl); done))
          try simp only [List.setIfInBounds_toArray, List.set_cons_zero, List.set_cons_succ]
          refine takeH (i := 37) (d := 99) (v := ?_) rfl rfl (by kernel_rfl) (by kernel_rfl) (by kernel_rfl) (fun _ _ _ h => h) (Or.inl ⟨by kernel_rfl, ?_⟩) hS ?_; rotate_left 1; (focus ((intro w' hS'; have k1 : w'.cell? ⟨w1.heap.size, 0, none⟩ = some (.int .u64 gen) := blk_cell hS'.1 rfl; have k2 : w'.cell? ⟨w1.heap.size, 1, none⟩ = some (.int .u64 epoch) := blk_cell hS'.1 rfl; have k3 : w'.cell? ⟨w.heap.size, 0, none⟩ = some (.int .u64 pg) := blk_cell hS'.2.1 rfl; have k4 : w'.cell? ⟨w.heap.size, 1, none⟩ = some (.int .u64 pe) := blk_cell hS'.2.1 rfl; have k5 : w'.cell? ⟨wr.heap.size, 0, none⟩ = some (.int .u64 gen) := blk_cell hS'.2.2 rfl; have k6 : w'.cell? ⟨wr.heap.size, 1, none⟩ = some (.int .u64 epoch) := blk_cell hS'.2.2 rfl; have k7 : w'.cell? ⟨wr.heap.size, 2, none⟩ = some (.slice A n cp) := blk_cell hS'.2.2 rfl; clear hS'; go_simp; try with_reducible rfl); done))
          try simp only [List.setIfInBounds_toArray, List.set_cons_zero, List.set_cons_succ]
          refine takeH (i := 38) (d := 100) (v := ?_) rfl rfl (by kernel_rfl) (by kernel_rfl) (by kernel_rfl) (fun _ _ _ h => h) (Or.inl ⟨by kernel_rfl, ?_⟩) hS ?_; rotate_left 1; (focus ((intro w' hS'; clear hS'; go_simp; try with_reducible rfl); done))
          try simp only [List.setIfInBounds_toArray, List.set_cons_zero, List.set_cons_succ]
          refine takeH (i := 39) (d := 101) (v := ?_) rfl rfl (by kernel_rfl) (by kernel_rfl) (by kernel_rfl) (fun _ _ _ h => h) (Or.inl ⟨by kernel_rfl, ?_⟩) hS ?_; rotate_left 1; (focus ((intro w' hS'; clear hS'; go_simp; try with_reducible rfl); done))
          try simp only [List.setIfInBounds_toArray, List.set_cons_zero, List.set_cons_succ]
          refine takeH (i := 40) (d := 102) (v := ?_) rfl rfl (by kernel_rfl) (by kernel_rfl) (by kernel_rfl) (fun _ _ _ h => h) (Or.inl ⟨by kernel_rfl, ?_⟩) hS ?_; rotate_left 1; (focus ((intro w' hS'; clear hS'; go_simp; try with_reducible rfl); done))
          try simp only [List.setIfInBounds_toArray, List.set_cons_zero, List.set_cons_succ]
          refine takeH (i := 41) (d := 103) (v := ?_) rfl rfl (by kernel_rfl) (by kernel_rfl) (by kernel_rfl) (fun _ _ _ h => h) (Or.inl ⟨by kernel_rfl, ?_⟩) hS ?_; rotate_left 1; (focus ((intro w' hS'; clear hS'; go_simp; try with_reducible rfl); done))
          try simp only [List.setIfInBounds_toArray, List.set_cons_zero, List.set_cons_succ]
          refine takeH (i := 42) (d := 104) (v := .agg (ints .u8 S)) rfl rfl (by kernel_rfl) (by kernel_rfl) (by kernel_rfl) (fun _ _ _ h => h) (yieldsIf_load_mid (by kernel_rfl) 82 (.tmp 103) rfl w1.heap.size 2 rfl (S.map (Value.int .u8)) _ (fun w' h => blk_range (o := 2) h.1 (pin_range _ _ _)) Try.underlying82 rfl (by rw [List.length_map, HS.out]; kernel_rfl)) hS ?_
          try simp only [List.setIfInBounds_toArray, List.set_cons_zero, List.set_cons_succ]
          refine takeH (i := 43) (d := 105) (v := ?_) rfl rfl (by kernel_rfl) (by kernel_rfl) (by kernel_rfl) (fun _ _ _ h => h) (Or.inl ⟨by kernel_rfl, ?_⟩) hS ?_; rotate_left 1; (focus ((intro w' hS'; clear hS'; go_simp; try with_reducible rfl); done))
          try simp only [List.setIfInBounds_toArray, List.set_cons_zero, List.set_cons_succ]
          refine takeH (i := 44) (d := 106) (v := ?_) rfl rfl (by kernel_rfl) (by kernel_rfl) (by kernel_rfl) (fun _ _ _ h => h) (Or.inl ⟨by kernel_rfl, ?_⟩) hS ?_; rotate_left 1; (focus ((intro w' hS'; have k1 : w'.cell? ⟨w1.heap.size, 0, none⟩ = some (.int .u64 gen) := blk_cell hS'.1 rfl; have k2 : w'.cell? ⟨w1.heap.size, 1, none⟩ = some (.int .u64 epoch) := blk_cell hS'.1 rfl; have k3 : w'.cell? ⟨w.heap.size, 0, none⟩ = some (.int .u64 pg) := blk_cell hS'.2.1 rfl; have k4 : w'.cell? ⟨w.heap.size, 1, none⟩ = some (.int .u64 pe) := blk_cell hS'.2.1 rfl; have k5 : w'.cell? ⟨wr.heap.size, 0, none⟩ = some (.int .u64 gen) := blk_cell hS'.2.2 rfl; have k6 : w'.cell? ⟨wr.heap.size, 1, none⟩ = some (.int .u64 epoch) := blk_cell hS'.2.2 rfl; have k7 : w'.cell? ⟨wr.heap.size, 2, none⟩ = some (.slice A n cp) := blk_cell hS'.2.2 rfl; clear hS'; go_simp; try with_reducible rfl); done))
          try simp only [List.setIfInBounds_toArray, List.set_cons_zero, List.set_cons_succ]
          refine wpAnyH_ready (rs := [45]) (by kernel_rfl) (by simp) ?_
          refine AllReadyH.cons rfl (fun K hK => ?_) AllReadyH.nil
          go_simp
          refine (sum_any A n cp bs _ (hsok.out.1.1.below B2.out.drew) hsok.out.1.2.1 hsok.out.1.2.2 (by omega)).mono ?_
          rintro e w3 ⟨rfl, hb3⟩
          rw [HSe.out]
          have B3 := bx (B2.out.trans (show Below w.heap.size w2 w3 from (show Below w2.heap.size w2 w3 from ⟨hb3.os, hb3.tape, hb3.output, hb3.size, hb3.block⟩).mono B2.out.size))
          refine hK.out _ _ ?_ (fun hS2 => ?_)
          · exact ⟨(hb3.block w1.heap.size z1).trans hS.1, (hb3.block w.heap.size z0).trans hS.2.1, (hb3.block wr.heap.size z2).trans hS.2.2⟩
          clear hK K hS; have hS := hS2; clear hS2
          try simp only [Act.put, List.setIfInBounds_toArray, List.set_cons_zero, List.set_cons_succ]
          refine takeH (i := 46) (d := 108) (v := ?_) rfl rfl (by kernel_rfl) (by kernel_rfl) (by kernel_rfl) (fun _ _ _ h => h) (Or.inl ⟨by kernel_rfl, ?_⟩) hS ?_; rotate_left 1; (focus ((intro w' hS'; clear hS'; go_simp; try with_reducible rfl); done))
          try simp only [List.setIfInBounds_toArray, List.set_cons_zero, List.set_cons_succ]
          refine takeH (i := 47) (d := 109) (v := ?_) rfl rfl (by kernel_rfl) (by kernel_rfl) (by kernel_rfl) (fun _ _ _ h => h) (Or.inl ⟨by kernel_rfl, ?_⟩) hS ?_; rotate_left 1; (focus ((intro w' hS'; clear hS'; go_simp; try with_reducible rfl); done))
          try simp only [List.setIfInBounds_toArray, List.set_cons_zero, List.set_cons_succ]
          refine wpAnyH_done (by kernel_rfl) ?_ _
          go_wp2_with (first
            | ((with_reducible refine at_load 110 ?_); go_must (refine wpList_load_agg rfl 84 (.tmp 6) rfl w1.heap.size 0 rfl 84 (pinCells gen epoch S) 34 _ hS.1 Try.underlying84 rfl I34.out (by rw [pin_size _ _ _ HS.out]; decide) (pinCells gen epoch S) (pin_all _ _ _ HS.out) ?_))
            | ((with_reducible refine at_store (.tmp 3) (.tmp 110) ?_); go_must (refine wpList_store_agg (cells := pinCells gen epoch S) rfl 84 (.tmp 3) (.tmp 110) rfl w.heap.size 0 rfl rfl 84 (pinCells pg pe S) hS.2.1 I34'.out (by rw [pin_size _ _ _ HS.out, pin_size _ _ _ HS.out]; decide) (pin_oneCell _ _ _) (pinCells gen epoch S) (pin_put _ (pin_size _ _ _ HS.out) _ _ _ HS.out) ?_; intro w4 hu4; have P4 := bx hu4.same; have B4 := bx (B3.out.trans (hu4.below (Nat.le_refl _))); clear hu4)))
          exact ⟨⟨j + 1, ⟨gen, epoch, S⟩, by omega, by go_num, P4.out, HS.out, hsok.out.2.1, B4.out⟩, by simp [intOf]; omega⟩
    · go_wp2_with fail
      all_goals (
        refine (one18_any _).mono ?_
        rintro e w2 ⟨rfl, hb2⟩
        go_wp2_with fail
        go_ret
        exact ⟨rfl, B0.out.trans (hb2.mono B0.out.size)⟩)
end Go.Proofs.Ythnommoljikaiaa
