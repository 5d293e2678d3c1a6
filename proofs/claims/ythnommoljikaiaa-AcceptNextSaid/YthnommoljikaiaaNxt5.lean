/- AcceptNext: the walk over the law. -/
import Derived.Test.YthnommoljikaiaaNxt4
import Derived.Test.YthnommoljikaiaaAcc2
set_option linter.unusedSimpArgs false
set_option linter.unusedVariables false
namespace Go.Proofs.Ythnommoljikaiaa
open Go.RowKit

theorem bodyC_size (g e wr st : Int) (rv pv : Value) : (bodyC g e wr st rv pv).size = 6 := rfl
set_option maxRecDepth 100000 in
set_option maxHeartbeats 2000000 in
theorem next18_any (b : BodyA) (writer stamp : Int) (w : World) (hF : b.Full w) (hg : 0 ≤ b.g ∧ b.g < 18446744073709551616) :
    Calls Try.prog 8 #[.agg b.cells, .int .i64 writer, .int .u64 stamp] w fun e w' => e = .returned (.bool true) ∧ Below w.heap.size w w' := by
  obtain ⟨w0, hw0⟩ : ∃ w0, w0 = w.alloc (.cells b.cells 69) := ⟨_, rfl⟩
  have K0 : Bx (w0.heap[w.heap.size]? = some (.cells b.cells 69 (0, 0))) := ⟨by rw [hw0]; exact blk_new w _⟩
  have B0 : Bx (Below w.heap.size w w0) := ⟨by rw [hw0]; exact (Below.refl _ _).alloc (Nat.le_refl _) _⟩
  have HF := bx (hF.below B0.out)
  have HO := bx (own17_any b w0 HF.out)
  have HK : Bx (∀ w', Below w0.heap.size w0 w' → w'.heap[w.heap.size]? = some (.cells b.cells 69 (0, 0))) := ⟨fun w' hb => (hb.block _ (blk_lt K0.out)).trans K0.out⟩
  have HN := bx (fun w' => next_any b.g b.e b.wr b.st b.RA b.rn b.rc b.PA b.pn b.pc writer stamp w' hg)
  have HS : Bx (b.Few → ∀ w', Below w0.heap.size w0 w' → Calls Try.prog 39 #[.agg (bodyC (b.g + 1) b.e writer stamp (.slice b.RA b.rn b.rc) (.slice b.PA b.pn b.pc)), .agg (bodyC (b.g + 1) b.e writer stamp (.slice b.RA b.rn b.rc) (.slice b.PA b.pn b.pc))] w' fun e w'' => e = .returned (.bool true) ∧ Below w'.heap.size w' w'') := ⟨fun h w' hb =>
    same17_any { b with g := b.g + 1, wr := writer, st := stamp } w' (HF.out.below hb) h⟩
  have HW := bx hw0
  have HOne := bx one18_any
  clear hw0 hF K0 HF
  obtain ⟨g, ep, wi, st, RA, rn, rc, rs, PA, pn, pc, pk⟩ := b
  dsimp only at hg HN HS
  have HOX : Bx (∀ e w', OwnO w0 ⟨g, ep, wi, st, RA, rn, rc, rs, PA, pn, pc, pk⟩ e w' → ∃ A1 n1 c1 A2 n2 c2 few, e = .returned (.tuple #[.agg (bodyC g ep wi st (.slice A1 n1 c1) (.slice A2 n2 c2)), .int .i64 few]) ∧ (few = 0 ∨ (few = 1 ∧ BodyA.Few ⟨g, ep, wi, st, RA, rn, rc, rs, PA, pn, pc, pk⟩)) ∧ Below w0.heap.size w0 w') := ⟨fun e w' h => h⟩
  generalize BodyA.Few ⟨g, ep, wi, st, RA, rn, rc, rs, PA, pn, pc, pk⟩ = FEW at *
  generalize OwnO w0 ⟨g, ep, wi, st, RA, rn, rc, rs, PA, pn, pc, pk⟩ = OUT at *
  change Bx (Calls Try.prog 36 #[.agg (bodyC g ep wi st (.slice RA rn rc) (.slice PA pn pc))] w0 OUT) at HO
  change Bx (∀ w', Below w0.heap.size w0 w' → w'.heap[w.heap.size]? = some (.cells (bodyC g ep wi st (.slice RA rn rc) (.slice PA pn pc)) 69 (0, 0))) at HK
  change Bx (w0 = w.alloc (.cells (bodyC g ep wi st (.slice RA rn rc) (.slice PA pn pc)) 69)) at HW
  show Calls Try.prog 8 #[.agg (bodyC g ep wi st (.slice RA rn rc) (.slice PA pn pc)), .int .i64 writer, .int .u64 stamp] w _
  obtain ⟨CB, hCB⟩ : ∃ CB, bodyC g ep wi st (.slice RA rn rc) (.slice PA pn pc) = CB := ⟨_, rfl⟩
  have HCB : Bx (CB[0]? = some (.int .u64 g) ∧ (Try.prog.info? 69).map (·.size) = some CB.size ∧ CB.size = 6 ∧ ∀ v ∈ CB.toList, v.oneCell' = true) := ⟨by rw [← hCB]; exact ⟨rfl, body_is _ _ _ _ _ _ _ _ _ _, rfl, body_one _ _ _ _ _ _ _ _ _ _⟩⟩
  have HS0 : Bx (∀ x, CB.setIfInBounds 0 x = #[x, .int .u64 ep, .int .i64 wi, .int .u64 st, .slice RA rn rc, .slice PA pn pc]) := ⟨fun x => by rw [← hCB]; rfl⟩
  rw [hCB] at HO HK HN HW ⊢
  clear hCB
  go_enter Try.func8, Try.ntmps8
  go_upto_region 1 with fail
  rw [← HW.out]
  clear HW
  go_wp2_with (first
    | ((with_reducible refine at_load 13 ?_); go_must (refine load_all 69 (.tmp 3) rfl rfl rfl (HK.out w0 (Below.refl _ _)) Try.underlying69 rfl HCB.out.2.1 ?_)))
  refine HO.out.mono ?_
  rintro e w1 hO
  obtain ⟨A1, n1, c1, A2, n2, c2, few, rfl, hfew, hb⟩ := HOX.out e w1 hO
  have B1 := bx hb
  clear hO hb HO HOX
  rcases hfew with rfl | ⟨rfl, hfew⟩
  · clear HN HS
    go_wp2_with (first
      | ((with_reducible refine at_store (.tmp 7) (.tmp 15) ?_); go_must (refine store_all (cs := bodyC g ep wi st (.slice A1 n1 c1) (.slice A2 n2 c2)) 73 (.tmp 7) (.tmp 15) rfl rfl rfl rfl (blk_new w1 _) (rbody_is _ _ _ _ _ _ _ _ _ _) rfl (body_one _ _ _ _ _ _ _ _ _ _) ?_; intro w2 hu2; have B2 := bx (B1.out.trans ((((Below.refl w1.heap.size w1).alloc (Nat.le_refl _) _).trans (hu2.below (Nat.le_refl _))).mono B1.out.size)); clear hu2)))
    go_ret
    exact ⟨rfl, B0.out.trans (B2.out.mono B0.out.size)⟩
  · have HSM := bx (HS.out hfew)
    clear HS
    have NX : (g = 18446744073709551615 ∧ nextOf g ep wi st (.slice RA rn rc) (.slice PA pn pc) writer stamp = (bodyZ, 15)) ∨ ((g == 18446744073709551615) = false ∧ writer < 1 ∧ nextOf g ep wi st (.slice RA rn rc) (.slice PA pn pc) writer stamp = (bodyZ, 2)) ∨ ((g == 18446744073709551615) = false ∧ (¬ writer < 1 ∧ 255 < writer) ∧ nextOf g ep wi st (.slice RA rn rc) (.slice PA pn pc) writer stamp = (bodyZ, 2))
        ∨ ((g == 18446744073709551615) = false ∧ (¬ writer < 1 ∧ ¬ 255 < writer) ∧ g + 1 < 18446744073709551616 ∧ nextOf g ep wi st (.slice RA rn rc) (.slice PA pn pc) writer stamp = (bodyC (g + 1) ep writer stamp (.slice RA rn rc) (.slice PA pn pc), 0)) := by
      unfold nextOf
      by_cases h1 : g = 18446744073709551615
      · exact .inl ⟨h1, if_pos h1⟩
      · have h1' : (g == 18446744073709551615) = false := by simp [h1]
        rw [if_neg h1]
        by_cases h2 : writer < 1
        · exact .inr (.inl ⟨h1', h2, if_pos (.inl h2)⟩)
        · by_cases h3 : 255 < writer
          · exact .inr (.inr (.inl ⟨h1', ⟨h2, h3⟩, if_pos (.inr h3)⟩))
          · exact .inr (.inr (.inr ⟨h1', ⟨h2, h3⟩, by omega, if_neg (by omega)⟩))
    go_wp2_with (first
      | ((with_reducible refine at_store (.tmp 7) (.tmp 15) ?_); go_must (refine store_all (cs := bodyC g ep wi st (.slice A1 n1 c1) (.slice A2 n2 c2)) 73 (.tmp 7) (.tmp 15) rfl rfl rfl rfl (blk_new w1 _) (rbody_is _ _ _ _ _ _ _ _ _ _) rfl (body_one _ _ _ _ _ _ _ _ _ _) ?_; intro w2 hu2; have B2 := bx (B1.out.trans ((((Below.refl w1.heap.size w1).alloc (Nat.le_refl _) _).trans (hu2.below (Nat.le_refl _))).mono B1.out.size)); clear hu2))
      | ((with_reducible refine at_load 20 ?_); go_must (refine load_all 69 (.tmp 3) rfl rfl rfl (HK.out w2 B2.out) Try.underlying69 rfl HCB.out.2.1 ?_)))
    rcases NX with ⟨rfl, hn⟩ | ⟨hg1, h1, hn⟩ | ⟨hg1, ⟨h1, h2⟩, hn⟩ | ⟨hg1, ⟨h1, h2⟩, hg2, hn⟩
    · clear B1
      rw [hn] at HN
      clear hn HSM
      refine (HN.out _).mono ?_
      rintro e w3 ⟨rfl, hb⟩
      have B3 := bx (B2.out.trans (hb.mono B2.out.size))
      clear hb HN
      go_wp2_with (first
        | ((with_reducible refine at_store (.tmp 9) (.tmp 24) ?_); go_must (refine store_all (cs := bodyZ) 69 (.tmp 9) (.tmp 24) rfl rfl rfl rfl (blk_new w3 _) (body_is _ _ _ _ _ _ _ _ _ _) rfl (body_one _ _ _ _ _ _ _ _ _ _) ?_; intro w4 hu4; have B4 := bx (B3.out.trans ((((Below.refl w3.heap.size w3).alloc (Nat.le_refl _) _).trans (hu4.below (Nat.le_refl _))).mono B3.out.size)); have z0 := blk_cell (HK.out w4 B4.out) HCB.out.1; clear hu4)))
      refine (HOne.out _).mono ?_
      rintro e w5 ⟨rfl, hb⟩
      have B5 := bx (B4.out.trans (hb.mono B4.out.size))
      clear hb z0
      go_wp2_with fail
      go_ret
      exact ⟨rfl, B0.out.trans (B5.out.mono B0.out.size)⟩
    · clear B1
      rw [hn] at HN
      clear hn HSM
      refine (HN.out _).mono ?_
      rintro e w3 ⟨rfl, hb⟩
      have B3 := bx (B2.out.trans (hb.mono B2.out.size))
      clear hb HN
      go_wp2_with (first
        | ((with_reducible refine at_store (.tmp 9) (.tmp 24) ?_); go_must (refine store_all (cs := bodyZ) 69 (.tmp 9) (.tmp 24) rfl rfl rfl rfl (blk_new w3 _) (body_is _ _ _ _ _ _ _ _ _ _) rfl (body_one _ _ _ _ _ _ _ _ _ _) ?_; intro w4 hu4; have B4 := bx (B3.out.trans ((((Below.refl w3.heap.size w3).alloc (Nat.le_refl _) _).trans (hu4.below (Nat.le_refl _))).mono B3.out.size)); have z0 := blk_cell (HK.out w4 B4.out) HCB.out.1; clear hu4)))
      refine (HOne.out _).mono ?_
      rintro e w5 ⟨rfl, hb⟩
      have B5 := bx (B4.out.trans (hb.mono B4.out.size))
      clear hb z0
      go_wp2_with fail
      go_ret
      exact ⟨rfl, B0.out.trans (B5.out.mono B0.out.size)⟩
    · clear B1
      rw [hn] at HN
      clear hn HSM
      refine (HN.out _).mono ?_
      rintro e w3 ⟨rfl, hb⟩
      have B3 := bx (B2.out.trans (hb.mono B2.out.size))
      clear hb HN
      go_wp2_with (first
        | ((with_reducible refine at_store (.tmp 9) (.tmp 24) ?_); go_must (refine store_all (cs := bodyZ) 69 (.tmp 9) (.tmp 24) rfl rfl rfl rfl (blk_new w3 _) (body_is _ _ _ _ _ _ _ _ _ _) rfl (body_one _ _ _ _ _ _ _ _ _ _) ?_; intro w4 hu4; have B4 := bx (B3.out.trans ((((Below.refl w3.heap.size w3).alloc (Nat.le_refl _) _).trans (hu4.below (Nat.le_refl _))).mono B3.out.size)); have z0 := blk_cell (HK.out w4 B4.out) HCB.out.1; clear hu4)))
      refine (HOne.out _).mono ?_
      rintro e w5 ⟨rfl, hb⟩
      have B5 := bx (B4.out.trans (hb.mono B4.out.size))
      clear hb z0
      go_wp2_with fail
      go_ret
      exact ⟨rfl, B0.out.trans (B5.out.mono B0.out.size)⟩
    · have hw1 : IntKind.u64.wrap (g + 1) = g + 1 := by unfold IntKind.wrap; simp [IntKind.bits, IntKind.signed]; omega
      have hw2 : (g + 1) % 18446744073709551616 = g + 1 := by omega
      rw [hn] at HN
      obtain ⟨gg, hgg⟩ : ∃ gg, g + 1 = gg := ⟨_, rfl⟩
      rw [hgg] at HN HSM hw1 hw2
      have HGG := bx hgg
      clear hn B1 hg2 hg
      have IX : Bx ((Try.prog.info? 69).map (·.size) = some (bodyC gg ep writer stamp (.slice RA rn rc) (.slice PA pn pc)).size ∧ (bodyC gg ep writer stamp (.slice RA rn rc) (.slice PA pn pc)).size = 6 ∧ ∀ v ∈ (bodyC gg ep writer stamp (.slice RA rn rc) (.slice PA pn pc)).toList, v.oneCell' = true) := ⟨⟨body_is _ _ _ _ _ _ _ _ _ _, rfl, body_one _ _ _ _ _ _ _ _ _ _⟩⟩
      have EX : Bx (#[.int .u64 gg, .int .u64 ep, .int .i64 writer, .int .u64 stamp, .slice RA rn rc, .slice PA pn pc] = bodyC gg ep writer stamp (.slice RA rn rc) (.slice PA pn pc)) := ⟨rfl⟩
      generalize bodyC gg ep writer stamp (.slice RA rn rc) (.slice PA pn pc) = CX at *
      refine (HN.out _).mono ?_
      rintro e w3 ⟨rfl, hb⟩
      have B3 := bx (B2.out.trans (hb.mono B2.out.size))
      clear hb HN
      go_upto_region 10 with (first
        | ((with_reducible refine at_store (.tmp 9) (.tmp 24) ?_); go_must (refine store_all (cs := CX) 69 (.tmp 9) (.tmp 24) rfl rfl rfl rfl (blk_new w3 _) IX.out.1 (by rw [IX.out.2.1]; rfl) IX.out.2.2 ?_; intro w4 hu4; have C4 := bx hu4.same; have B4 := bx (B3.out.trans ((((Below.refl w3.heap.size w3).alloc (Nat.le_refl _) _).trans (hu4.below (Nat.le_refl _))).mono B3.out.size)); have z0 := blk_cell (HK.out w4 B4.out) HCB.out.1; clear hu4))
        | ((with_reducible refine at_load 45 ?_); go_must (refine load_all 69 (.tmp 3) rfl rfl rfl (HK.out w4 B4.out) Try.underlying69 rfl HCB.out.2.1 ?_))
        | ((with_reducible refine at_store (.tmp 11) (.tmp 45) ?_); go_must (refine store_all (cs := CB) 69 (.tmp 11) (.tmp 45) rfl rfl rfl rfl (blk_new w4 _) HCB.out.2.1 (by rw [HCB.out.2.2.1]; rfl) HCB.out.2.2.2 ?_; intro w5 hu5; have b5 := ((Below.refl w4.heap.size w4).alloc (Nat.le_refl _) _).trans (hu5.below (Nat.le_refl _)); have C5 := bx hu5.same; have X5 := bx ((b5.block _ (blk_lt C4.out)).trans C4.out); have L5 := bx (blk_lt C4.out); have L4 := bx B4.out.size; have B5 := bx (B4.out.trans (b5.mono B4.out.size)); clear hu5 b5 z0)))
      have z0 := blk_cell (HK.out w5 B5.out) HCB.out.1
      have e0 : w5.cell? ⟨w4.heap.size, 0, none⟩ = some (.int .u64 g) := blk_cell C5.out HCB.out.1
      have f0 := blk_frozen 0 C5.out
      go_upto_region 11 with fail
      obtain ⟨w6, hw6⟩ : ∃ w6, w6 = w5.setCell ⟨w4.heap.size, 0, none⟩ (.int .u64 gg) := ⟨_, rfl⟩
      have u6 := updC (j := 0) C5.out (.int .u64 gg)
      rw [HS0.out] at u6
      rw [← hw6] at u6 ⊢
      have C6 := bx u6.same; have X6 := bx (u6.blk X5.out (Nat.ne_of_lt L5.out)); have B6 := bx (B5.out.trans (u6.below L4.out))
      have f2 := blk_frozen 2 C6.out; have f3 := blk_frozen 3 C6.out
      have y2 : w6.cell? ⟨w4.heap.size, 2, none⟩ = some (.int .i64 wi) := blk_cell C6.out rfl
      have y3 : w6.cell? ⟨w4.heap.size, 3, none⟩ = some (.int .u64 st) := blk_cell C6.out rfl
      clear hw6 u6 z0 e0 f0 C5 X5 hgg hw1 hw2
      go_upto_region 12 with fail
      have V1 := bx (updC (j := 2) C6.out (.int .i64 writer))
      have V2 := bx (updC (j := 3) V1.out.same (.int .u64 stamp))
      obtain ⟨w7, hw7⟩ : ∃ w7, w7 = (w6.setCell ⟨w4.heap.size, 2, none⟩ (.int .i64 writer)).setCell ⟨w4.heap.size, 3, none⟩ (.int .u64 stamp) := ⟨_, rfl⟩
      rw [← hw7] at V2 ⊢
      have C7 : Bx (w7.heap[w4.heap.size]? = some (.cells CX 69 (0, 0))) := ⟨by rw [← EX.out]; exact V2.out.same⟩
      have X7 := bx (V2.out.blk (V1.out.blk X6.out (Nat.ne_of_lt L5.out)) (Nat.ne_of_lt L5.out))
      have B7 := bx (B6.out.trans ((V1.out.below L4.out).trans (V2.out.below L4.out)))
      clear hw7 f2 f3 y2 y3 V1 V2 C6 X6
      go_wp2_with (first
        | ((with_reducible refine at_load 57 ?_); go_must (refine load_all 69 (.tmp 9) rfl rfl rfl X7.out Try.underlying69 rfl IX.out.1 ?_))
        | ((with_reducible refine at_load 58 ?_); go_must (refine load_all 69 (.tmp 11) rfl rfl rfl C7.out Try.underlying69 rfl IX.out.1 ?_)))
      with_reducible refine (HSM.out _ B7.out).mono ?_
      rintro e w8 ⟨rfl, hb⟩
      have B8 := bx (B7.out.trans (hb.mono B7.out.size))
      clear hb
      go_wp2_with fail
      refine (HOne.out _).mono ?_
      rintro e w9 ⟨rfl, hb⟩
      have B9 := bx (B8.out.trans (hb.mono B8.out.size))
      clear hb
      go_wp2_with fail
      go_ret
      exact ⟨rfl, B0.out.trans (B9.out.mono B0.out.size)⟩
end Go.Proofs.Ythnommoljikaiaa
