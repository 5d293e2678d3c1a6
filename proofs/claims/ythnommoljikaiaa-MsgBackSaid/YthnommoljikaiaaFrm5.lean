/- The walk over frame.Read. -/
import Derived.Test.YthnommoljikaiaaFrm4
set_option linter.unusedSimpArgs false
set_option linter.unusedVariables false
namespace Go.Proofs.Ythnommoljikaiaa
open Go.RowKit

theorem results_tmp4 {fn : Func} {t u v x : Tmp} (h : fn.results = #[.tmp t, .tmp u, .tmp v, .tmp x]) (tmps : Array Value) (P : Program) (w : World) :
    (results fn tmps).run P w = .ok (.tuple #[tmps.getD t undef, tmps.getD u undef, tmps.getD v undef, tmps.getD x undef]) w := by
  simp [results, h]
theorem readOf_bad {bs : List Int} {N c : Int} (h : lenOf bs = (N, c)) (hc : ¬ c = 0) : readOf bs = (0, [], 0, c) := by rw [readOf, h, if_pos hc]
theorem readOf_short {bs : List Int} {N : Int} (h : lenOf bs = (N, 0)) (hc : (bs.length : Int) < N) : readOf bs = (0, [], 0, 10) := by rw [readOf, h, if_neg (by simp), if_pos hc]
theorem readOf_sum {bs : List Int} {M : Nat} (h : lenOf bs = ((M : Int) + 12, 0)) (hc : ¬ (bs.length : Int) < (M : Int) + 12) (hs : ¬ (shaOf (bs.take (M + 8))).take 4 = (bs.drop (M + 8)).take 4) : readOf bs = (0, [], 0, 12) := by
  rw [readOf, h, if_neg (by simp), if_neg hc]
  have e : ((M : Int) + 12).toNat - 4 = M + 8 := by omega
  show (if (shaOf (bs.take (((M : Int) + 12).toNat - 4))).take 4 ≠ (bs.drop (((M : Int) + 12).toNat - 4)).take 4 then _ else _) = _
  rw [e, if_pos hs]
theorem readOf_good {bs : List Int} {M : Nat} (h : lenOf bs = ((M : Int) + 12, 0)) (hc : ¬ (bs.length : Int) < (M : Int) + 12) (hs : (shaOf (bs.take (M + 8))).take 4 = (bs.drop (M + 8)).take 4) :
    readOf bs = (bs.getD 3 0, (bs.drop 8).take M, (M : Int) + 12, 0) := by
  rw [readOf, h, if_neg (by simp), if_neg hc]
  have e : ((M : Int) + 12).toNat - 4 = M + 8 := by omega
  have e2 : ((M : Int) + 12).toNat - 12 = M := by omega
  show (if (shaOf (bs.take (((M : Int) + 12).toNat - 4))).take 4 ≠ (bs.drop (((M : Int) + 12).toNat - 4)).take 4 then _ else (bs.getD 3 0, (bs.drop 8).take (((M : Int) + 12).toNat - 12), _, _)) = _
  rw [e, e2, if_neg (fun hn => hn hs)]

set_option maxRecDepth 100000 in
set_option maxHeartbeats 1000000 in
theorem read_any (A : Option Addr) (n cap : Nat) (bs : List Int) (w : World) (hrd : RdB w A n bs) (hnil : A = none → cap = 0) (hcap : n ≤ cap) (hB : IsB bs) (hbig : n ≤ 8796093022208) :
    Calls Try.prog 51 #[.slice A n cap] w fun e w' => ∃ v, e = .returned (.tuple #[.int .i64 (readOf bs).1, v, .int .i64 (readOf bs).2.2.1, .int .i64 (readOf bs).2.2.2]) ∧ BytesV w' v (readOf bs).2.1 ∧ Below w.heap.size w w' := by
  have HRD := bx hrd; have HNIL := bx hnil; have HB := bx hB
  have HLEN := length_any A n cap bs w hrd hnil hcap hB (by omega)
  have hok := @lenOf_ok bs hB
  generalize hrf : readOf bs = r at *
  generalize hlf : lenOf bs = p at *
  obtain ⟨N, c⟩ := p
  dsimp only at hok HLEN
  have HRF := bx hrf; have HLF := bx hlf; have HOK := bx hok; have HLN := bx HLEN
  clear hrd hnil hB hrf hlf hok HLEN
  go_enter Try.func51, Try.ntmps51
  go_wp2_with fail
  refine HLN.out.mono ?_
  rintro e w1 ⟨rfl, hb1⟩
  have B1 := bx hb1
  clear hb1 HLN
  by_cases hbad : c = 0
  · subst hbad
    obtain ⟨h8, h12, hN⟩ := HOK.out rfl
    obtain ⟨M, rfl⟩ : ∃ M : Nat, N = (M : Int) + 12 := ⟨(N - 12).toNat, by omega⟩
    have HL := bx HRD.out.1
    have hM : M ≤ 65536 := by omega
    clear HOK h8 h12 hN
    by_cases hshort : (n : Int) < (M : Int) + 12
    · have hr := readOf_short HLF.out (by rw [HL.out]; exact hshort)
      rw [HRF.out] at hr
      subst hr
      go_wp2_with fail
      refine bodyPost_ret (results_tmp4 rfl _ _ _) rfl ?_
      exact ⟨_, rfl, bytesV_nil _, B1.out⟩
    · obtain ⟨b, o, rfl, hb, _⟩ := HRD.out.2 (by omega)
      have R1 := bx (HRD.out.below B1.out)
      have hs1 := fun w => sl_h Try.underlying22 Try.sizeOf5 (some ⟨b, o, none⟩) n cap (M + 8) (by omega) .i64 ((M : Int) + 8) (by omega) w
      have hs2 := fun w => sl_lh Try.underlying22 Try.sizeOf5 (some ⟨b, o, none⟩) n cap (M + 8) (M + 12) (by omega) (by omega) .i64 .i64 ((M : Int) + 8) ((M : Int) + 12) (by omega) (by omega) w
      rw [if_neg (by omega)] at hs2
      have e4 : M + 12 - (M + 8) = 4 := by omega
      simp only [Option.map_some, Addr.add_mid, e4] at hs2
      clear e4
      have Ra := bx (rdB_take (M + 8) R1.out (by omega))
      have Rb := bx (rdB_sub (M + 8) 4 R1.out (by omega))
      have HBa := bx (isB_take HB.out (M + 8)); have HBb := bx (isB_take (isB_drop HB.out (M + 8)) 4)
      obtain ⟨q, hq⟩ : ∃ q, decide ((shaOf (bs.take (M + 8))).take 4 = (bs.drop (M + 8)).take 4) = q := ⟨_, rfl⟩
      have HQ := bx hq
      clear hq
      have hw8 : IntKind.i64.wrap ((M : Int) + 12 - 4) = (M : Int) + 8 := by rw [IntWalk.i64_in _ (by omega)]; omega
      have hw9 : ((M : Int) + 8).toNat = M + 8 := by omega
      have hw10 : ((M : Int) + 12).toNat = M + 12 := by omega
      have hS0 : Below w1.heap.size w1 w1.drew := (Below.refl _ _).drew
      go_wp2_with fail
      refine wp_region_held_drew (S := (fun w' => Below w1.heap.size w1 w')) (by kernel_rfl) hS0 (fun hS => ?_)
      refine takeH (i := 0) (d := 24) (v := ?_) rfl rfl (by kernel_rfl) (by kernel_rfl) (by kernel_rfl) (fun _ _ _ h => h) (Or.inl ⟨by kernel_rfl, ?_⟩) hS ?_; rotate_left 1; (focus ((intro w' hS'; clear hS'; go_simp; try with_reducible rfl); done))
      try simp only [List.setIfInBounds_toArray, List.set_cons_zero, List.set_cons_succ]
      refine takeH (i := 1) (d := 25) (v := ?_) rfl rfl (by kernel_rfl) (by kernel_rfl) (by kernel_rfl) (fun _ _ _ h => h) (Or.inl ⟨by kernel_rfl, ?_⟩) hS ?_; rotate_left 1; (focus ((intro w' hS'; clear hS'; go_simp; try with_reducible rfl); done))
      try simp only [List.setIfInBounds_toArray, List.set_cons_zero, List.set_cons_succ]
      refine takeH (i := 2) (d := 26) (v := ?_) rfl rfl (by kernel_rfl) (by kernel_rfl) (by kernel_rfl) (fun _ _ _ h => h) (Or.inl ⟨by kernel_rfl, ?_⟩) hS ?_; rotate_left 1; (focus ((intro w' hS'; clear hS'; go_simp; try with_reducible rfl); done))
      try simp only [List.setIfInBounds_toArray, List.set_cons_zero, List.set_cons_succ]
      refine takeH (i := 3) (d := 27) (v := ?_) rfl rfl (by kernel_rfl) (by kernel_rfl) (by kernel_rfl) (fun _ _ _ h => h) (Or.inl ⟨by kernel_rfl, ?_⟩) hS ?_; rotate_left 1; (focus ((intro w' hS'; clear hS'; go_simp; try with_reducible rfl); done))
      try simp only [List.setIfInBounds_toArray, List.set_cons_zero, List.set_cons_succ]
      refine takeH (i := 5) (d := 29) (v := ?_) rfl rfl (by kernel_rfl) (by kernel_rfl) (by kernel_rfl) (fun _ _ _ h => h) (Or.inl ⟨by kernel_rfl, ?_⟩) hS ?_; rotate_left 1; (focus ((intro w' hS'; clear hS'; go_simp; try with_reducible rfl); done))
      try simp only [List.setIfInBounds_toArray, List.set_cons_zero, List.set_cons_succ]
      refine takeH (i := 6) (d := 30) (v := ?_) rfl rfl (by kernel_rfl) (by kernel_rfl) (by kernel_rfl) (fun _ _ _ h => h) (Or.inl ⟨by kernel_rfl, ?_⟩) hS ?_; rotate_left 1; (focus ((intro w' hS'; clear hS'; go_simp; try with_reducible rfl); done))
      try simp only [List.setIfInBounds_toArray, List.set_cons_zero, List.set_cons_succ]
      refine takeH (i := 7) (d := 31) (v := ?_) rfl rfl (by kernel_rfl) (by kernel_rfl) (by kernel_rfl) (fun _ _ _ h => h) (Or.inl ⟨by kernel_rfl, ?_⟩) hS ?_; rotate_left 1; (focus ((intro w' hS'; clear hS'; go_simp; try with_reducible rfl); done))
      try simp only [List.setIfInBounds_toArray, List.set_cons_zero, List.set_cons_succ]
      refine takeH (i := 8) (d := 32) (v := ?_) rfl rfl (by kernel_rfl) (by kernel_rfl) (by kernel_rfl) (fun _ _ _ h => h) (Or.inl ⟨by kernel_rfl, ?_⟩) hS ?_; rotate_left 1; (focus ((intro w' hS'; clear hS'; go_simp; try with_reducible rfl); done))
      try simp only [List.setIfInBounds_toArray, List.set_cons_zero, List.set_cons_succ]
      refine takeH (i := 9) (d := 33) (v := ?_) rfl rfl (by kernel_rfl) (by kernel_rfl) (by kernel_rfl) (fun _ _ _ h => h) (Or.inl ⟨by kernel_rfl, ?_⟩) hS ?_; rotate_left 1; (focus ((intro w' hS'; clear hS'; go_simp; try with_reducible rfl); done))
      try simp only [List.setIfInBounds_toArray, List.set_cons_zero, List.set_cons_succ]
      refine wpAnyH_ready (rs := [4]) (by kernel_rfl) (by simp) ?_
      refine AllReadyH.cons rfl (fun K hK => ?_) AllReadyH.nil
      go_simp
      refine (check_any (some ⟨b, o, none⟩) (M + 8) cap _ _ (Ra.out.below hS) HBa.out (by omega) (by omega)).mono ?_
      rintro e w3 ⟨g, rfl, hr3, hg3, hb3⟩
      have HR3 := bx hr3
      have hS3 := hS.trans (hb3.mono hS.size)
      clear hr3 hg3 hb3
      refine hK.out _ _ ?_ (fun hS2 => ?_)
      · exact hS3
      clear hK K hS; have hS := hS2; clear hS2
      try simp only [Act.put, List.setIfInBounds_toArray, List.set_cons_zero, List.set_cons_succ]
      refine wpAnyH_ready (rs := [10]) (by kernel_rfl) (by simp) ?_
      refine AllReadyH.cons rfl (fun K hK => ?_) AllReadyH.nil
      go_simp
      refine (equal_any (some ⟨g, 0, none⟩) 4 32 _ _ 4 (cap - (M + 8)) _ _ HR3.out (Rb.out.below hS) (isB_take (shaOf_isB _) 4) HBb.out).mono ?_
      rintro e w4 ⟨rfl, rfl⟩
      rw [HQ.out]
      refine hK.out _ _ ?_ (fun hS2 => ?_)
      · exact hS
      clear hK K hS; have hS := hS2; clear hS2
      try simp only [Act.put, List.setIfInBounds_toArray, List.set_cons_zero, List.set_cons_succ]
      refine takeH (i := 11) (d := 35) (v := ?_) rfl rfl (by kernel_rfl) (by kernel_rfl) (by kernel_rfl) (fun _ _ _ h => h) (Or.inl ⟨by kernel_rfl, ?_⟩) hS ?_; rotate_left 1; (focus ((intro w' hS'; clear hS'; go_simp; try with_reducible rfl); done))
      try simp only [List.setIfInBounds_toArray, List.set_cons_zero, List.set_cons_succ]
      refine takeH (i := 12) (d := 23) (v := ?_) rfl rfl (by kernel_rfl) (by kernel_rfl) (by kernel_rfl) (fun _ _ _ h => h) (Or.inl ⟨by kernel_rfl, ?_⟩) hS ?_; rotate_left 1; (focus ((intro w' hS'; clear hS'; go_simp; try with_reducible rfl); done))
      try simp only [List.setIfInBounds_toArray, List.set_cons_zero, List.set_cons_succ]
      refine wpAnyH_done (by kernel_rfl) ?_ _
      have B3 := bx (B1.out.trans (hS.mono B1.out.size))
      have R3 := bx (HRD.out.below B3.out)
      cases q with
      | false =>
        have hr := readOf_sum HLF.out (by rw [HL.out]; omega) (of_decide_eq_false HQ.out)
        rw [HRF.out] at hr
        subst hr
        go_wp2_with fail
        refine bodyPost_ret (results_tmp4 rfl _ _ _) rfl ?_
        exact ⟨_, rfl, bytesV_nil _, B3.out⟩
      | true =>
        have hr := readOf_good HLF.out (by rw [HL.out]; omega) (of_decide_eq_true HQ.out)
        rw [HRF.out] at hr
        subst hr
        have hs3 := fun w => sl_lh Try.underlying22 Try.sizeOf5 (some ⟨b, o, none⟩) n cap 8 (M + 8) (by omega) (by omega) .i64 .i64 8 ((M : Int) + 8) rfl (by omega) w
        rw [if_neg (by omega)] at hs3
        have e4 : M + 8 - 8 = M := by omega
        simp only [Option.map_some, Addr.add_mid, e4] at hs3
        clear e4
        have Rc := bx (rdB_sub 8 M R3.out (by omega))
        have HM : Bx (((bs.drop 8).take M).length = M) := ⟨Rc.out.1⟩
        go_wp2_with fail
        refine (bclone_any (some ⟨b, o + 8, none⟩) M (cap - 8) _ _ Rc.out (fun h => by cases h) (by omega)).mono ?_
        rintro e w5 ⟨v, rfl, ho5, hb5⟩
        obtain ⟨A5, c5, rfl, hr5, hc5, hn5⟩ := ho5.rdn HM.out
        have B5 := bx (B3.out.trans (hb5.mono B3.out.size))
        have HR5 := bx hr5; have HN5 := bx hn5
        have R5 := R3.out.below hb5
        obtain ⟨b', o', e', _, hcells⟩ := R5.2 (by omega)
        cases e'
        have hk3 := hcells 3 (by omega)
        clear hr5 hn5 hb5 ho5 hcells R5
        generalize hc3e : bs.getD 3 0 = c3 at *
        have HC3 := bx hc3e
        clear hc3e
        go_wp2_with fail
        have h3n : (3 : Int) < n := by omega
        have hc5' : (M : Int) ≤ c5 := by omega
        have hS0 : w5.drew.cell? ⟨b, o + 3, none⟩ = some (.int .u8 c3) ∧ Below w5.heap.size w5 w5.drew := ⟨hk3, (Below.refl _ _).drew⟩
        refine wp_region_held_drew (S := (fun w' => w'.cell? ⟨b, o + 3, none⟩ = some (.int .u8 c3) ∧ Below w5.heap.size w5 w')) (by kernel_rfl) hS0 (fun hS => ?_)
        refine takeH (i := 0) (d := 41) (v := ?_) rfl rfl (by kernel_rfl) (by kernel_rfl) (by kernel_rfl) (fun _ _ _ h => h) (Or.inl ⟨by kernel_rfl, ?_⟩) hS ?_; rotate_left 1; (focus ((intro w' hS'; clear hS'; go_simp; try with_reducible rfl); done))
        try simp only [List.setIfInBounds_toArray, List.set_cons_zero, List.set_cons_succ]
        refine takeH (i := 1) (d := 42) (v := ?_) rfl rfl (by kernel_rfl) (by kernel_rfl) (by kernel_rfl) (fun _ _ _ h => h) (Or.inl ⟨by kernel_rfl, ?_⟩) hS ?_; rotate_left 1; (focus ((intro w' hS'; clear hS'; go_simp; try with_reducible rfl); done))
        try simp only [List.setIfInBounds_toArray, List.set_cons_zero, List.set_cons_succ]
        refine takeH (i := 2) (d := 43) (v := ?_) rfl rfl (by kernel_rfl) (by kernel_rfl) (by kernel_rfl) (fun _ _ _ h => h) (Or.inl ⟨by kernel_rfl, ?_⟩) hS ?_; rotate_left 1; (focus ((intro w' hS'; obtain ⟨k1, k2⟩ := hS'; clear k2; go_simp; try with_reducible rfl); done))
        try simp only [List.setIfInBounds_toArray, List.set_cons_zero, List.set_cons_succ]
        refine takeH (i := 3) (d := 44) (v := ?_) rfl rfl (by kernel_rfl) (by kernel_rfl) (by kernel_rfl) (fun _ _ _ h => h) (Or.inl ⟨by kernel_rfl, ?_⟩) hS ?_; rotate_left 1; (focus ((intro w' hS'; clear hS'; go_simp; try with_reducible rfl); done))
        try simp only [List.setIfInBounds_toArray, List.set_cons_zero, List.set_cons_succ]
        refine takeH (i := 4) (d := 45) (v := ?_) rfl rfl (by kernel_rfl) (by kernel_rfl) (by kernel_rfl) (fun _ _ _ h => h) (Or.inl ⟨by kernel_rfl, ?_⟩) hS ?_; rotate_left 1; (focus ((intro w' hS'; clear hS'; go_simp; try with_reducible rfl); done))
        try simp only [List.setIfInBounds_toArray, List.set_cons_zero, List.set_cons_succ]
        refine takeH (i := 5) (d := 46) (v := ?_) rfl rfl (by kernel_rfl) (by kernel_rfl) (by kernel_rfl) (fun _ _ _ h => h) (Or.inl ⟨by kernel_rfl, ?_⟩) hS ?_; rotate_left 1; (focus ((intro w' hS'; clear hS'; go_simp; try with_reducible rfl); done))
        try simp only [List.setIfInBounds_toArray, List.set_cons_zero, List.set_cons_succ]
        refine takeH (i := 6) (d := 47) (v := ?_) rfl rfl (by kernel_rfl) (by kernel_rfl) (by kernel_rfl) (fun _ _ _ h => h) (Or.inl ⟨by kernel_rfl, ?_⟩) hS ?_; rotate_left 1; (focus ((intro w' hS'; clear hS'; go_simp; try with_reducible rfl); done))
        try simp only [List.setIfInBounds_toArray, List.set_cons_zero, List.set_cons_succ]
        refine takeH (i := 7) (d := 48) (v := ?_) rfl rfl (by kernel_rfl) (by kernel_rfl) (by kernel_rfl) (fun _ _ _ h => h) (Or.inl ⟨by kernel_rfl, ?_⟩) hS ?_; rotate_left 1; (focus ((intro w' hS'; clear hS'; go_simp; try with_reducible rfl); done))
        try simp only [List.setIfInBounds_toArray, List.set_cons_zero, List.set_cons_succ]
        refine takeH (i := 8) (d := 49) (v := ?_) rfl rfl (by kernel_rfl) (by kernel_rfl) (by kernel_rfl) (fun _ _ _ h => h) (Or.inl ⟨by kernel_rfl, ?_⟩) hS ?_; rotate_left 1; (focus ((intro w' hS'; clear hS'; go_simp; try with_reducible rfl); done))
        try simp only [List.setIfInBounds_toArray, List.set_cons_zero, List.set_cons_succ]
        refine takeH (i := 9) (d := 50) (v := ?_) rfl rfl (by kernel_rfl) (by kernel_rfl) (by kernel_rfl) (fun _ _ _ h => h) (Or.inl ⟨by kernel_rfl, ?_⟩) hS ?_; rotate_left 1; (focus ((intro w' hS'; clear hS'; go_simp; try with_reducible rfl); done))
        try simp only [List.setIfInBounds_toArray, List.set_cons_zero, List.set_cons_succ]
        refine takeH (i := 10) (d := 51) (v := ?_) rfl rfl (by kernel_rfl) (by kernel_rfl) (by kernel_rfl) (fun _ _ _ h => h) (Or.inl ⟨by kernel_rfl, ?_⟩) hS ?_; rotate_left 1; (focus ((intro w' hS'; clear hS'; go_simp; try with_reducible rfl); done))
        try simp only [List.setIfInBounds_toArray, List.set_cons_zero, List.set_cons_succ]
        refine takeH (i := 11) (d := 2) (v := ?_) rfl rfl (by kernel_rfl) (by kernel_rfl) (by kernel_rfl) (fun _ _ _ h => h) (Or.inl ⟨by kernel_rfl, ?_⟩) hS ?_; rotate_left 1; (focus ((intro w' hS'; clear hS'; go_simp; try with_reducible rfl); done))
        try simp only [List.setIfInBounds_toArray, List.set_cons_zero, List.set_cons_succ]
        refine takeH (i := 12) (d := 3) (v := ?_) rfl rfl (by kernel_rfl) (by kernel_rfl) (by kernel_rfl) (fun _ _ _ h => h) (Or.inl ⟨by kernel_rfl, ?_⟩) hS ?_; rotate_left 1; (focus ((intro w' hS'; clear hS'; go_simp; try with_reducible rfl); done))
        try simp only [List.setIfInBounds_toArray, List.set_cons_zero, List.set_cons_succ]
        refine takeH (i := 13) (d := 4) (v := ?_) rfl rfl (by kernel_rfl) (by kernel_rfl) (by kernel_rfl) (fun _ _ _ h => h) (Or.inl ⟨by kernel_rfl, ?_⟩) hS ?_; rotate_left 1; (focus ((intro w' hS'; clear hS'; go_simp; try with_reducible rfl); done))
        try simp only [List.setIfInBounds_toArray, List.set_cons_zero, List.set_cons_succ]
        refine takeH (i := 14) (d := 5) (v := ?_) rfl rfl (by kernel_rfl) (by kernel_rfl) (by kernel_rfl) (fun _ _ _ h => h) (Or.inl ⟨by kernel_rfl, ?_⟩) hS ?_; rotate_left 1; (focus ((intro w' hS'; clear hS'; go_simp; try with_reducible rfl); done))
        try simp only [List.setIfInBounds_toArray, List.set_cons_zero, List.set_cons_succ]
        refine wpAnyH_done (by kernel_rfl) ?_ _
        go_wp2_with fail
        have hb3 := HB.out 3
        rw [HC3.out] at hb3
        have hw3 : IntKind.i64.wrap c3 = c3 := IntWalk.i64_in _ (by omega)
        have e3 : bs[3]?.getD 0 = c3 := by rw [← HC3.out]; simp [List.getD_eq_getElem?_getD]
        rw [hw3, e3]
        refine bodyPost_ret (results_tmp4 rfl _ _ _) rfl ?_
        exact ⟨.slice A5 M M, rfl, ⟨A5, M, by rw [HM.out], by rw [HM.out]; exact HR5.out.below hS.2, by rw [HM.out]; exact Nat.le_refl _, fun h => by have := HN5.out h; omega⟩, B5.out.trans (hS.2.mono B5.out.size)⟩
  · have hr := readOf_bad HLF.out hbad
    rw [HRF.out] at hr
    subst hr
    have hc0 : (c == 0) = false := by simp [hbad]
    have hc1 : (c != 0) = true := by simp [hbad]
    go_wp2_with fail
    refine bodyPost_ret (results_tmp4 rfl _ _ _) rfl ?_
    exact ⟨_, rfl, bytesV_nil _, B1.out⟩
end Go.Proofs.Ythnommoljikaiaa
