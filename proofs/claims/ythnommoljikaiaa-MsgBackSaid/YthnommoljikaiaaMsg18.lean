/- MsgBack: the walk over the law. -/
import Derived.Test.YthnommoljikaiaaMsg17
set_option linter.unusedSimpArgs false
set_option linter.unusedVariables false
namespace Go.Proofs.Ythnommoljikaiaa
open Go.RowKit

set_option maxRecDepth 100000 in
set_option maxHeartbeats 4000000 in
theorem back20_any (q p : MsgA) (w : World) (hq : q.Full w) (hqr : q.Rng) (hp : p.Full w) (hpr : p.Rng) :
    Calls Try.prog 17 #[.agg q.reqC, .agg p.repC] w fun e w' => e = .returned (.bool true) ∧ Below w.heap.size w w' := by
  obtain ⟨w0, hw0⟩ : ∃ w0, w0 = (w.alloc (.cells q.reqC 116)).alloc (.cells p.repC 118) := ⟨_, rfl⟩
  have K0 : Bx (w0.heap[w.heap.size]? = some (.cells q.reqC 116 (0, 0))) := ⟨by rw [hw0]; exact heap_alloc2_old w _ _⟩
  have K1 : Bx (w0.heap[w.heap.size + 1]? = some (.cells p.repC 118 (0, 0))) := ⟨by rw [hw0]; exact heap_alloc2_new w _ _⟩
  have B0 : Bx (Below w.heap.size w w0) := ⟨by rw [hw0]; exact ((Below.refl _ _).alloc (Nat.le_refl _) _).alloc (by simp) _⟩
  have HF := bx (hq.below B0.out); have PF := bx (hp.below B0.out)
  have IQ : Bx ((Try.prog.info? 116).map (·.size) = some q.reqC.size) := ⟨req_is hq.1⟩
  have IP : Bx ((Try.prog.info? 118).map (·.size) = some p.repC.size) := ⟨rep_is⟩
  have gq := req_get q.c q.i q.k q.nm q.g (.slice q.A2 q.n2 q.cap2) (.slice q.A3 q.n3 q.cap3) hq.1
  have SQ : Bx (q.reqC.size = 22 ∧ ∀ v ∈ q.reqC.toList, v.oneCell' = true) := ⟨⟨req_size _ _ _ _ _ _ _ hq.1, req_one _ _ _ _ _ _ _ _ _ _ _⟩⟩
  have SP : Bx (p.repC.size = 6 ∧ ∀ v ∈ p.repC.toList, v.oneCell' = true) := ⟨⟨rfl, rep_one _ _ _ _ _ _ _ _ _ _⟩⟩
  have MQ := bx (fun A2 c2 A3 c3 => mkQ_is hq.1 (A2 := A2) (c2 := c2) (A3 := A3) (c3 := c3))
  have MP := bx (fun A2 c2 A3 c3 => mkP_is (m := p) (A2 := A2) (c2 := c2) (A3 := A3) (c3 := c3))
  have HW := bx hw0
  have HK0 : Bx (∀ w', Below w0.heap.size w0 w' → w'.heap[w.heap.size]? = some (.cells q.reqC 116 (0, 0))) := ⟨fun w' hb => (hb.block _ (blk_lt K0.out)).trans K0.out⟩
  have HK1 : Bx (∀ w', Below w0.heap.size w0 w' → w'.heap[w.heap.size + 1]? = some (.cells p.repC 118 (0, 0))) := ⟨fun w' hb => (hb.block _ (blk_lt K1.out)).trans K1.out⟩
  have HC : Bx (∀ w', Below w0.heap.size w0 w' → w'.cell? ⟨w.heap.size, 20, none⟩ = some (.slice q.A2 q.n2 q.cap2) ∧ w'.cell? ⟨w.heap.size, 21, none⟩ = some (.slice q.A3 q.n3 q.cap3) ∧ w'.cell? ⟨w.heap.size + 1, 4, none⟩ = some (.slice p.A2 p.n2 p.cap2) ∧ w'.cell? ⟨w.heap.size + 1, 5, none⟩ = some (.slice p.A3 p.n3 p.cap3) ∧ w'.cell? ⟨w.heap.size, 1, none⟩ = some (.int .u64 q.i) ∧ w'.cell? ⟨w.heap.size + 1, 2, none⟩ = some (.int .i64 p.k)) := ⟨fun w' hb =>
    ⟨blk_cell (HK0.out w' hb) gq.2.1, blk_cell (HK0.out w' hb) gq.2.2, blk_cell (HK1.out w' hb) rfl, blk_cell (HK1.out w' hb) rfl, blk_cell (HK0.out w' hb) rfl, blk_cell (HK1.out w' hb) rfl⟩⟩
  have HQ : Bx (∀ w', Below w0.heap.size w0 w' → Calls Try.prog 53 #[.agg q.reqC] w' (PutOut w' q.putQ)) := ⟨fun w' hb => (HF.out.below hb).putq⟩
  have HP : Bx (∀ w', Below w0.heap.size w0 w' → Calls Try.prog 56 #[.agg p.repC] w' (PutOut w' p.putP)) := ⟨fun w' hb => (PF.out.below hb).putp⟩
  have HOne := bx one20_any
  have EQ : q.putQ.2 = 0 ∨ q.putQ.2 = 2 := putM_err
  have EP : p.putP.2 = 0 ∨ p.putP.2 = 2 := putM_err
  have WQ : Bx (∀ L, q.putQ = (L, 0) → ∀ n, L.length = n → WayQ w0 q L n) := ⟨fun L h n hn => HF.out.wayq hqr h n hn⟩
  have WP : Bx (∀ L, p.putP = (L, 0) → ∀ n, L.length = n → WayP w0 p L n) := ⟨fun L h n hn => PF.out.wayp hpr h n hn⟩
  obtain ⟨i1, hi1⟩ : ∃ i1, IntKind.u64.wrap (q.i + 1) = i1 := ⟨_, rfl⟩
  obtain ⟨k1, hk1⟩ : ∃ k1, bits .xor .i64 p.k 1 = k1 := ⟨_, rfl⟩
  have hne1 : i1 ≠ q.i := hi1 ▸ u64_next_ne hqr.1
  have hne2 : k1 ≠ p.k := hk1 ▸ xor_one_ne p.k
  have CQO : Bx (∀ nv dv nv' dv' w', Calls Try.prog 64 #[.agg (reqCells q.c q.i q.k q.nm q.g nv dv), .agg (reqCells q.c i1 q.k q.nm q.g nv' dv')] w' fun e w'' => e = .returned (.bool false) ∧ Below w'.heap.size w' w'') := ⟨fun nv dv nv' dv' w' =>
    sameq_false q.c q.i q.k q.nm q.g q.c i1 q.k q.nm q.g nv dv nv' dv' w' hq.1 hq.1 trivial trivial (by simp [coreB, Ne.symm hne1])⟩
  have CPO : Bx (∀ nv dv nv' dv' w', Calls Try.prog 65 #[.agg (repCells p.c p.i p.k p.g nv dv), .agg (repCells p.c p.i k1 p.g nv' dv')] w' fun e w'' => e = .returned (.bool false) ∧ Below w'.heap.size w' w'') := ⟨fun nv dv nv' dv' w' =>
    samep_false p.c p.i p.k zero16 p.g p.c p.i k1 zero16 p.g nv dv nv' dv' w' rfl rfl rfl rfl (by simp [coreB, Ne.symm hne2])⟩
  have SO : Bx ((q.reqC.setIfInBounds 1 (.int .u64 i1)) = reqCells q.c i1 q.k q.nm q.g (.slice q.A2 q.n2 q.cap2) (.slice q.A3 q.n3 q.cap3)) := ⟨req_other _ _ _ _ _ _ _ _⟩
  have SA : Bx ((p.repC.setIfInBounds 2 (.int .i64 k1)) = repCells p.c p.i k1 p.g (.slice p.A2 p.n2 p.cap2) (.slice p.A3 p.n3 p.cap3)) := ⟨rep_again _ _ _ _ _ _ _⟩
  have IO : Bx ((Try.prog.info? 116).map (·.size) = some (reqCells q.c i1 q.k q.nm q.g (.slice q.A2 q.n2 q.cap2) (.slice q.A3 q.n3 q.cap3)).size) := ⟨req_is hq.1⟩
  have IA : Bx ((Try.prog.info? 118).map (·.size) = some (repCells p.c p.i k1 p.g (.slice p.A2 p.n2 p.cap2) (.slice p.A3 p.n3 p.cap3)).size) := ⟨rep_is⟩
  have CQO' : Bx (∀ w', Calls Try.prog 64 #[.agg q.reqC, .agg (reqCells q.c i1 q.k q.nm q.g (.slice q.A2 q.n2 q.cap2) (.slice q.A3 q.n3 q.cap3))] w' fun e w'' => e = .returned (.bool false) ∧ Below w'.heap.size w' w'') := ⟨fun w' => CQO.out _ _ _ _ w'⟩
  have CPO' : Bx (∀ w', Calls Try.prog 65 #[.agg p.repC, .agg (repCells p.c p.i k1 p.g (.slice p.A2 p.n2 p.cap2) (.slice p.A3 p.n3 p.cap3))] w' fun e w'' => e = .returned (.bool false) ∧ Below w'.heap.size w' w'') := ⟨fun w' => CPO.out _ _ _ _ w'⟩
  obtain ⟨q1, q2, q3, q4, _, _⟩ := HC.out w0 (Below.refl _ _)
  clear hw0 hq hp gq hqr hpr hne1 hne2 CQO CPO K0 K1
  generalize reqCells q.c i1 q.k q.nm q.g (.slice q.A2 q.n2 q.cap2) (.slice q.A3 q.n3 q.cap3) = CO at *
  generalize repCells p.c p.i k1 p.g (.slice p.A2 p.n2 p.cap2) (.slice p.A3 p.n3 p.cap3) = CA at *
  generalize q.putQ = pq at *
  generalize p.putP = pp at *
  obtain ⟨LQ, eq⟩ := pq
  obtain ⟨LP, ep⟩ := pp
  dsimp only at EQ EP
  generalize hCQ : q.reqC = CQ at *
  generalize hCP : p.repC = CP at *
  by_cases big : (12000 < q.n3 ∨ 12000 < p.n3) ∨ (300 < q.n2 ∨ 300 < p.n2)
  · have ways : ((12000 : Int) < q.n3) ∨ (¬ (12000 : Int) < q.n3 ∧ (12000 : Int) < p.n3) ∨ (¬ (12000 : Int) < q.n3 ∧ ¬ (12000 : Int) < p.n3 ∧ (300 : Int) < q.n2) ∨ (¬ (12000 : Int) < q.n3 ∧ ¬ (12000 : Int) < p.n3 ∧ ¬ (300 : Int) < q.n2 ∧ (300 : Int) < p.n2) := by omega
    clear big
    rcases ways with h1 | ⟨h1, h2⟩ | ⟨h1, h2, h3⟩ | ⟨h1, h2, h3, h4⟩
    all_goals
      go_enter Try.func17, Try.ntmps17
      go_upto_region 1 with fail
      rw [← HW.out]
      clear HW
      go_wp2_with fail
      go_ret
      exact ⟨rfl, B0.out⟩
  · have h1 : ¬ (12000 : Int) < q.n3 := by omega
    have h2 : ¬ (12000 : Int) < p.n3 := by omega
    have h3 : ¬ (300 : Int) < q.n2 := by omega
    have h4 : ¬ (300 : Int) < p.n2 := by omega
    clear big HF PF
    go_enter Try.func17, Try.ntmps17
    go_upto_region 1 with fail
    rw [← HW.out]
    clear HW
    go_wp2_with (first
      | ((with_reducible refine at_load 44 ?_); go_must (refine load_all 116 (.tmp 2) rfl rfl rfl (HK0.out w0 (Below.refl _ _)) Try.underlying116 rfl IQ.out ?_)))
    clear h1 h2 h3 h4
    refine (HQ.out _ (Below.refl _ _)).mono ?_
    rintro e w1 ⟨A5, c5, rfl, hr5, hn5, hc5, hb⟩
    dsimp only at hr5 hc5 ⊢
    have B1 := bx hb; have N5 := bx hn5
    obtain ⟨n, hn⟩ : ∃ n, LQ.length = n := ⟨_, rfl⟩
    rw [hn] at hr5 hc5 ⊢
    have R1 := bx hr5; have C5 := bx hc5; have LN := bx hn
    clear hb hn5 q1 q2 q3 q4 hr5 hc5 hn
    go_upto_if 49 with fail
    go_cut [] from 43 to 84 (fun wc => Below w0.heap.size w0 wc)
    case first =>
      rcases EQ with rfl | rfl
      · have W := bx (WQ.out LQ rfl n LN.out)
        clear WQ WP HQ HP
        go_wp2_with fail
        refine (W.out.read A5 c5 _ R1.out N5.out C5.out).mono ?_
        rintro e w2 ⟨A2, c2, A3, c3, rfl, hx2, hx3, hb⟩
        have B2 := bx (B1.out.trans (hb.mono B1.out.size)); have R2 := bx (R1.out.below hb); have X2 := bx hx2; have X3 := bx hx3
        have SM := bx (W.out.same A2 c2 A3 c3); rw [hCQ] at SM
        have IM := bx (MQ.out A2 c2 A3 c3)
        clear hb hx2 hx3 R1 MQ
        generalize q.mkQ A2 c2 A3 c3 = CX at *
        go_wp2_with (first
          | ((with_reducible refine at_store (.tmp 7) (.tmp 53) ?_); go_must (refine store_all (cs := CX) 116 (.tmp 7) (.tmp 53) rfl rfl rfl rfl (blk_new w2 _) IM.out.1 (by rw [IM.out.2.1]; rfl) IM.out.2.2 ?_; intro w3 hu3; have b3 := ((Below.refl w2.heap.size w2).alloc (Nat.le_refl _) _).trans (hu3.below (Nat.le_refl _)); have C3 := bx hu3.same; have R3 := bx (R2.out.below b3); have Y2 := bx (X2.out.below b3); have Y3 := bx (X3.out.below b3); have B3 := bx (B2.out.trans (b3.mono B2.out.size)); clear hu3 b3 R2 X2 X3)))
        refine (W.out.other A5 c5 _ R3.out N5.out C5.out).mono ?_
        rintro e w4 ⟨rfl, hb⟩
        have D4 := bx hb
        clear hb
        go_wp2_with (first
          | ((with_reducible refine at_store (.tmp 9) (.tmp 58) ?_); go_must (refine store_all (cs := repCells 0 0 0 0 nilV nilV) 118 (.tmp 9) (.tmp 58) rfl rfl rfl rfl (blk_new w4 _) rep_is rfl (rep_one _ _ _ _ _ _ _ _ _ _) ?_; intro w5 hu5; have b5 := ((Below.refl w4.heap.size w4).alloc (Nat.le_refl _) _).trans (hu5.below (Nat.le_refl _)); have D5 := bx (D4.out.trans (b5.mono D4.out.size)); have R5 := bx (R3.out.below D5.out); clear hu5 b5 D4))
          | ((with_reducible refine at_call 63 ?_); go_must (refine wpList_app rfl (.tmp 61) (.tmp 62) rfl w5.heap.size _ [] rfl (OwB.made w5 w5.heap.size [] (Nat.le_refl _) (by decide)) A5 n c5 LQ rfl (R5.out.alloc' _) N5.out (by have := W.out.len; simp; omega) (by simp) ?_; intro v6 w6 h1 h2; rw [List.nil_append] at h1; have O6 := bx h1; have D6 := bx ((OwB.made w5 w5.heap.size [] (Nat.le_refl _) (by decide)).below h2 ((Below.refl w5.heap.size w5).alloc (Nat.le_refl _) _) (Nat.le_refl _) (by simp)); clear h1 h2))
          | ((with_reducible refine at_call 65 ?_); go_must (refine wpList_app rfl (.tmp 63) (.tmp 64) rfl w5.heap.size v6 LQ rfl (O6.out.alloc _) (some ⟨w6.heap.size, 0, none⟩) 1 1 [0] rfl (rdB_one _ _ _ rfl) (fun h => by cases h) (by have := W.out.len; rw [LN.out]; omega) (Nat.le_trans D6.out.size (by simp)) ?_; intro v7 w7 h1 h2; have O7 := bx h1; have D7 := bx (D5.out.trans (((O6.out.alloc _).below h2 (D6.out.alloc D6.out.size _) (Nat.le_refl _) (Nat.le_trans D6.out.size (by simp))).mono D5.out.size)); clear h1 h2)))
        obtain ⟨A7, c7, rfl, hr7, hc7, hn7⟩ := O7.out.rdn (n := n + 1) (by rw [List.length_append, LN.out]; rfl)
        have R7 := bx hr7; have N7 := bx hn7; have C7 := bx hc7
        clear hr7 hc7 hn7
        refine (W.out.more A7 c7 _ R7.out N7.out C7.out).mono ?_
        rintro e w8 ⟨rfl, hb⟩
        have D8 := bx (D7.out.trans (hb.mono D7.out.size))
        clear hb
        go_wp2_with (first
          | ((with_reducible refine at_store (.tmp 11) (.tmp 67) ?_); go_must (refine store_all (cs := reqCells 0 0 0 zero16 0 nilV nilV) 116 (.tmp 11) (.tmp 67) rfl rfl rfl rfl (blk_new w8 _) (req_is rfl) rfl (req_one _ _ _ _ _ _ _ _ _ _ _) ?_; intro w9 hu9; have b9 := ((Below.refl w8.heap.size w8).alloc (Nat.le_refl _) _).trans (hu9.below (Nat.le_refl _)); have D9 := bx (D8.out.trans (b9.mono D8.out.size)); have B9 := bx (B3.out.trans (D9.out.mono B3.out.size)); have C9 := bx ((D9.out.block _ (blk_lt C3.out)).trans C3.out); have K9 := bx (HK0.out _ B9.out); clear hu9 b9 D8))
          | ((with_reducible refine at_load 72 ?_); go_must (refine load_all 116 (.tmp 7) rfl rfl rfl C9.out Try.underlying116 rfl IM.out.1 ?_))
          | ((with_reducible refine at_load 73 ?_); go_must (refine load_all 116 (.tmp 2) rfl rfl rfl K9.out Try.underlying116 rfl IQ.out ?_)))
        with_reducible refine (SM.out _ (Y2.out.below D9.out) (Y3.out.below D9.out) B9.out).mono ?_
        rintro e w10 ⟨rfl, hb⟩
        have B10 := bx (B9.out.trans (hb.mono B9.out.size))
        clear hb
        go_wp2_with fail
        go_meet
        case rel => exact B10.out
      · clear WQ WP HQ HP
        go_wp2_with fail
        go_meet
        case rel => exact B1.out
    case rest =>
      rename World => wa
      have BA := bx hcut
      clear hcut EQ WQ HQ MQ R1 C5 LN N5 B1
      go_wp2_with (first
        | ((with_reducible refine at_load 86 ?_); go_must (refine load_all 118 (.tmp 3) rfl rfl rfl (HK1.out _ BA.out) Try.underlying118 rfl IP.out ?_)))
      refine (HP.out _ BA.out).mono ?_
      rintro e w1 ⟨A5, c5, rfl, hr5, hn5, hc5, hb⟩
      dsimp only at hr5 hc5 ⊢
      have B1 := bx (BA.out.trans (hb.mono BA.out.size)); have N5 := bx hn5
      obtain ⟨m, hn⟩ : ∃ m, LP.length = m := ⟨_, rfl⟩
      rw [hn] at hr5 hc5 ⊢
      have R1 := bx hr5; have C5 := bx hc5; have LN := bx hn
      clear hb hn5 hr5 hc5 hn
      go_upto_if 91 with fail
      go_cut [] from 85 to 113 (fun wc => Below w0.heap.size w0 wc)
      case first =>
        rcases EP with rfl | rfl
        · have W := bx (WP.out LP rfl m LN.out)
          clear WP HP
          go_wp2_with fail
          refine (W.out.read A5 c5 _ R1.out N5.out C5.out).mono ?_
          rintro e w2 ⟨A2, c2, A3, c3, rfl, hx2, hx3, hb⟩
          have B2 := bx (B1.out.trans (hb.mono B1.out.size)); have R2 := bx (R1.out.below hb); have X2 := bx hx2; have X3 := bx hx3
          have SM := bx (W.out.same A2 c2 A3 c3); rw [hCP] at SM
          have IM := bx (MP.out A2 c2 A3 c3)
          clear hb hx2 hx3 R1 MP
          generalize p.mkP A2 c2 A3 c3 = CX at *
          go_wp2_with (first
            | ((with_reducible refine at_store (.tmp 15) (.tmp 95) ?_); go_must (refine store_all (cs := CX) 118 (.tmp 15) (.tmp 95) rfl rfl rfl rfl (blk_new w2 _) IM.out.1 (by rw [IM.out.2.1]; rfl) IM.out.2.2 ?_; intro w3 hu3; have b3 := ((Below.refl w2.heap.size w2).alloc (Nat.le_refl _) _).trans (hu3.below (Nat.le_refl _)); have C3 := bx hu3.same; have R3 := bx (R2.out.below b3); have Y2 := bx (X2.out.below b3); have Y3 := bx (X3.out.below b3); have B3 := bx (B2.out.trans (b3.mono B2.out.size)); clear hu3 b3 R2 X2 X3)))
          refine (W.out.other A5 c5 _ R3.out N5.out C5.out).mono ?_
          rintro e w8 ⟨rfl, hb⟩
          have D8 := bx hb
          clear hb
          go_wp2_with (first
            | ((with_reducible refine at_store (.tmp 17) (.tmp 100) ?_); go_must (refine store_all (cs := reqCells 0 0 0 zero16 0 nilV nilV) 116 (.tmp 17) (.tmp 100) rfl rfl rfl rfl (blk_new w8 _) (req_is rfl) rfl (req_one _ _ _ _ _ _ _ _ _ _ _) ?_; intro w9 hu9; have b9 := ((Below.refl w8.heap.size w8).alloc (Nat.le_refl _) _).trans (hu9.below (Nat.le_refl _)); have D9 := bx (D8.out.trans (b9.mono D8.out.size)); have B9 := bx (B3.out.trans (D9.out.mono B3.out.size)); have C9 := bx ((D9.out.block _ (blk_lt C3.out)).trans C3.out); have K9 := bx (HK1.out _ B9.out); clear hu9 b9 D8))
            | ((with_reducible refine at_load 105 ?_); go_must (refine load_all 118 (.tmp 15) rfl rfl rfl C9.out Try.underlying118 rfl IM.out.1 ?_))
            | ((with_reducible refine at_load 106 ?_); go_must (refine load_all 118 (.tmp 3) rfl rfl rfl K9.out Try.underlying118 rfl IP.out ?_)))
          with_reducible refine (SM.out _ (Y2.out.below D9.out) (Y3.out.below D9.out) B9.out).mono ?_
          rintro e w10 ⟨rfl, hb⟩
          have B10 := bx (B9.out.trans (hb.mono B9.out.size))
          clear hb
          go_wp2_with fail
          go_meet
          case rel => exact B10.out
        · clear WP HP
          go_wp2_with fail
          go_meet
          case rel => exact B1.out
      case rest =>
        rename World => wb
        have BB := bx hcut
        clear hcut BA WP HP EP MP R1 C5 LN N5 B1
        have KB := bx (HK0.out _ BB.out)
        obtain ⟨_, _, _, _, z1, z2⟩ := HC.out _ BB.out
        clear z1 z2
        go_upto_region 17 with (first
          | ((with_reducible refine at_load 114 ?_); go_must (refine load_all 116 (.tmp 2) rfl rfl rfl KB.out Try.underlying116 rfl IQ.out ?_))
          | ((with_reducible refine at_store (.tmp 19) (.tmp 114) ?_); go_must (refine store_all (cs := CQ) 116 (.tmp 19) (.tmp 114) rfl rfl rfl rfl (blk_new wb _) IQ.out (by rw [SQ.out.1]; rfl) SQ.out.2 ?_; intro w3 hu3; have b3 := ((Below.refl wb.heap.size wb).alloc (Nat.le_refl _) _).trans (hu3.below (Nat.le_refl _)); have C3 := bx hu3.same; have B3 := bx (BB.out.trans (b3.mono BB.out.size)); clear hu3 b3)))
        have L3 := bx (show w0.heap.size ≤ wb.heap.size from BB.out.size)
        obtain ⟨_, _, _, _, z1, _⟩ := HC.out _ B3.out
        have f3 := blk_frozen 1 C3.out
        have e3 : w3.cell? ⟨wb.heap.size, 1, none⟩ = some (.int .u64 q.i) := blk_cell C3.out (by rw [← hCQ]; rfl)
        go_upto_region 18 with fail
        clear z1 f3 e3
        obtain ⟨w4, hw4⟩ : ∃ w4, w4 = w3.setCell ⟨wb.heap.size, 1, none⟩ (.int .u64 i1) := ⟨_, rfl⟩
        have u4 := upd_cell (j := 1) C3.out (.int .u64 i1)
        rw [SO.out] at u4
        rw [← hw4] at u4 ⊢
        have C4 := bx u4.same; have B4 := bx (B3.out.trans (u4.below L3.out)); have K4 := bx (HK1.out _ B4.out); have L4 := bx (blk_lt u4.same)
        clear hw4 u4 C3
        go_upto_region 19 with (first
          | ((with_reducible refine at_load 119 ?_); go_must (refine load_all 118 (.tmp 3) rfl rfl rfl K4.out Try.underlying118 rfl IP.out ?_))
          | ((with_reducible refine at_store (.tmp 20) (.tmp 119) ?_); go_must (refine store_all (cs := CP) 118 (.tmp 20) (.tmp 119) rfl rfl rfl rfl (blk_new w4 _) IP.out (by rw [SP.out.1]; rfl) SP.out.2 ?_; intro w5 hu5; have b5 := ((Below.refl w4.heap.size w4).alloc (Nat.le_refl _) _).trans (hu5.below (Nat.le_refl _)); have C5 := bx hu5.same; have D5 := bx ((b5.block _ L4.out).trans C4.out); have B5 := bx (B4.out.trans (b5.mono B4.out.size)); clear hu5 b5)))
        obtain ⟨_, _, _, _, _, z2⟩ := HC.out _ B5.out
        have f5 := blk_frozen 2 C5.out
        have e5 : w5.cell? ⟨w4.heap.size, 2, none⟩ = some (.int .i64 p.k) := blk_cell C5.out (by rw [← hCP]; rfl)
        go_upto_region 20 with fail
        clear z2 f5 e5
        obtain ⟨w6, hw6⟩ : ∃ w6, w6 = w5.setCell ⟨w4.heap.size, 2, none⟩ (.int .i64 k1) := ⟨_, rfl⟩
        have u6 := upd_cell (j := 2) C5.out (.int .i64 k1)
        rw [SA.out] at u6
        rw [← hw6] at u6 ⊢
        have C6 := bx u6.same; have D6 := bx (u6.blk D5.out (Nat.ne_of_lt L4.out)); have B6 := bx (B5.out.trans (u6.below B4.out.size)); have KQ6 := bx (HK0.out _ B6.out)
        clear hw6 u6 C5
        go_wp2_with (first
          | ((with_reducible refine at_load 124 ?_); go_must (refine load_all 116 (.tmp 2) rfl rfl rfl KQ6.out Try.underlying116 rfl IQ.out ?_))
          | ((with_reducible refine at_load 125 ?_); go_must (refine load_all 116 (.tmp 19) rfl rfl rfl D6.out Try.underlying116 rfl IO.out ?_)))
        with_reducible refine (CQO'.out _).mono ?_
        rintro e w7 ⟨rfl, hb⟩
        have B7 := bx (B6.out.trans (hb.mono B6.out.size)); have KP7 := bx (HK1.out _ B7.out); have C7 := bx ((hb.block _ (blk_lt C6.out)).trans C6.out)
        clear hb
        go_wp2_with (first
          | ((with_reducible refine at_load 129 ?_); go_must (refine load_all 118 (.tmp 3) rfl rfl rfl KP7.out Try.underlying118 rfl IP.out ?_))
          | ((with_reducible refine at_load 130 ?_); go_must (refine load_all 118 (.tmp 20) rfl rfl rfl C7.out Try.underlying118 rfl IA.out ?_)))
        with_reducible refine (CPO'.out _).mono ?_
        rintro e w8 ⟨rfl, hb⟩
        have B8 := bx (B7.out.trans (hb.mono B7.out.size))
        clear hb
        go_wp2_with fail
        with_reducible refine (HOne.out _).mono ?_
        rintro e w9 ⟨rfl, hb⟩
        have B9 := bx (B0.out.trans ((B8.out.trans (hb.mono B8.out.size)).mono B0.out.size))
        clear hb
        go_wp2_with fail
        go_ret
        exact ⟨rfl, B9.out⟩
end Go.Proofs.Ythnommoljikaiaa
