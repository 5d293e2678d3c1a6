/- The law AcceptTells: its last part (regions 7 to 17). -/
import Derived.Test.YthnommoljikaiaaTel4
import Derived.Test.YthnommoljikaiaaErrs
import Derived.Test.YthnommoljikaiaaAcc3
import Derived.Test.YthnommoljikaiaaOpenB
import Derived.Test.YthnommoljikaiaaTel5l
set_option linter.unusedSimpArgs false
set_option linter.unusedVariables false
namespace Go.Proofs.Ythnommoljikaiaa
open Go.RowKit

noncomputable def tailT : Code := ((Try.f11.body.bind (seqOf 7)).getD .skip)
set_option maxRecDepth 1000000 in
set_option maxHeartbeats 8000000 in
theorem tells_tail (pg pe : Int) (ps : List Int) (A2 : Option Addr) (n2 cap2 : Nat) (bs2 : List Int) (w w5 : World) (hp : ps.length = 32) (hpB : IsB ps) (hpu : (0 ≤ pg ∧ pg < 18446744073709551616) ∧ (0 ≤ pe ∧ pe < 18446744073709551616)) (ho1 : RdB w A2 n2 bs2) (ho2 : IsB bs2) (ho4 : A2 = none → cap2 = 0) (h2 : n2 ≤ 200)
    (hP5 : w5.heap[w.heap.size]? = some (.cells (pinCells pg pe ps) 84 (0, 0))) (hB5 : Below w.heap.size w w5) (s0 s1 s4 s5 s6 s7 s8 s9 s10 s11 s12 s13 s14 s15 s16 s17 s18 s19 s20 s21 s22 s23 s24 s25 s26 s27 s28 s29 s30 s31 s32 s33 s34 s35 s36 s37 s38 s39 s40 s41 s42 s43 s44 s45 s46 s47 s48 s49 s50 s51 s52 s53 s54 s55 s56 s57 s58 s59 s60 s61 s62 s63 s64 s65 s66 s67 s68 s69 s70 s71 s72 s73 s74 s75 s76 s77 s78 s79 s80 s81 s82 s83 s84 s85 s86 s87 s88 s89 s90 s91 s92 s93 s94 s95 s96 s97 s98 s99 s100 s101 s102 s103 s104 s105 s106 s107 s108 s109 s110 s111 s112 s113 s114 s115 s116 s117 s118 s119 s120 s121 s122 s123 s124 s125 s126 s127 s128 s129 s130 s131 s132 s133 s134 s135 s136 s137 s138 s139 s140 s141 : Value) :
    tailT.wp Try.prog (bodyPost Try.prog Try.f11 (fun e w' => e = .returned (.bool true) ∧ Below w.heap.size w w')) ⟨#[s0, s1, .slice A2 n2 cap2, .pointer (some ⟨w.heap.size, 0, none⟩), s4, s5, s6, s7, s8, s9, s10, s11, s12, s13, s14, s15, s16, s17, s18, s19, s20, s21, s22, s23, s24, s25, s26, s27, s28, s29, s30, s31, s32, s33, s34, s35, s36, s37, s38, s39, s40, s41, s42, s43, s44, s45, s46, s47, s48, s49, s50, s51, s52, s53, s54, s55, s56, s57, s58, s59, s60, s61, s62, s63, s64, s65, s66, s67, s68, s69, s70, s71, s72, s73, s74, s75, s76, s77, s78, s79, s80, s81, s82, s83, s84, s85, s86, s87, s88, s89, s90, s91, s92, s93, s94, s95, s96, s97, s98, s99, s100, s101, s102, s103, s104, s105, s106, s107, s108, s109, s110, s111, s112, s113, s114, s115, s116, s117, s118, s119, s120, s121, s122, s123, s124, s125, s126, s127, s128, s129, s130, s131, s132, s133, s134, s135, s136, s137, s138, s139, s140, s141], []⟩ w5 := by
  conv => arg 2; whnf
  have HO1 := bx ho1; have HO2 := bx ho2; have HO4 := bx ho4; have HP := bx hp; have HPB := bx hpB; have HN2 := bx ho1.1; have HPU := bx hpu; have P5 := bx hP5; have B5 := bx hB5
  clear ho1 ho2 ho4 hp hpB hpu hP5 hB5
  have I34 := bx pin_info
  have PNP := fun w => pin_neq_self pg pe ps HP.out w
  have HA1 : Bx (∀ w, Calls Try.prog 44 #[.agg (pinCells pg pe ps)] w fun e w' => e = .returned (.agg (ownCells pg pe (strOfNums ps))) ∧ Below w.heap.size w w') := ⟨fun w => own18_any ⟨pg, pe, ps⟩ w HP.out⟩
  have SP := bx (readPin_put ⟨pg, pe, ps⟩ HP.out HPU.out.1 HPU.out.2)
  have HA4 : Bx (∀ w, Calls Try.prog 47 #[.agg (ownCells pg pe (strOfNums ps))] w fun x w' => x = .returned (.string (strOfNums (be pg 8 ++ be pe 8 ++ ps))) ∧ Below w.heap.size w w') := ⟨fun w => rput18_any pg pe ps w (by rw [HP.out]; decide) HPU.out.1 HPU.out.2⟩
  have HA5 := bx (fun w => aput_any ⟨pg, pe, ps⟩ w HP.out)
  have SPB : Bx (IsB (be pg 8 ++ be pe 8 ++ ps)) := ⟨isB_append (isB_append (be_isB _ _) (be_isB _ _)) HPB.out⟩
  dsimp only at SP HA5
  generalize hL : be pg 8 ++ be pe 8 ++ ps = L at *
  generalize strOfNums ps = sp at *
  clear hL
  go_wp2_with (first
    | ((with_reducible refine at_load 72 ?_); go_must (refine wpList_load_agg rfl 84 (.tmp 3) rfl w.heap.size 0 rfl 84 (pinCells pg pe ps) 34 _ P5.out Try.underlying84 rfl I34.out (by rw [pin_size _ _ _ HP.out]; decide) (pinCells pg pe ps) (pin_all _ _ _ HP.out) ?_)))
  refine (HA5.out _).mono ?_
  rintro x w6 ⟨A3, c3, rfl, hr3, hn3, hb6⟩
  have R6 := bx hr3; have N6 := bx hn3; have P6 := bx ((hb6.block _ (blk_lt P5.out)).trans P5.out); have B6 := bx (B5.out.trans (hb6.mono B5.out.size))
  clear hr3 hn3 hb6 P5 B5 HA5
  go_wp2_with fail
  refine (aread_any A3 48 c3 L w6 R6.out N6.out SPB.out (by decide)).mono ?_
  rw [SP.out]
  rintro x w7 ⟨rfl, hb7⟩
  have R7 := bx (R6.out.below hb7); have P7 := bx ((hb7.block _ (blk_lt P6.out)).trans P6.out); have B7 := bx (B6.out.trans (hb7.mono B6.out.size))
  clear hb7 P6 B6 R6
  dsimp only [Pin.val]
  go_wp2_with (first
    | ((with_reducible refine at_store (.tmp 12) (.tmp 77) ?_); go_must (refine wpList_store_agg (cells := pinCells pg pe ps) rfl 84 (.tmp 12) (.tmp 77) rfl w7.heap.size 0 rfl rfl 84 (pinCells 0 0 zero32) (blk_new w7 _) (by rw [pin_size _ _ _ HP.out]; exact I34.out) (by rw [pin_size _ _ _ HP.out]; decide) (pin_oneCell _ _ _) (pinCells pg pe ps) (pin_put _ rfl _ _ _ HP.out) ?_; intro w8 hu8)))
  have hl1 := blk_lt P7.out
  have P8 := bx (hu8.blk (blk_alloc P7.out) (by omega)); have D8 := bx hu8.same
  have B8 := bx ((B7.out.alloc B7.out.size _).trans (hu8.below B7.out.size))
  have R8 := bx (R7.out.below (((Below.refl _ _).alloc (Nat.le_refl _) _).trans (hu8.below (Nat.le_refl _))))
  clear hu8 hl1 P7 B7 R7
  refine (aread_any A2 n2 cap2 bs2 w8 (HO1.out.below B8.out) HO4.out HO2.out (by omega)).mono ?_
  rintro x w9 ⟨rfl, hb9⟩
  have P9 := bx ((hb9.block _ (blk_lt P8.out)).trans P8.out); have D9 := bx ((hb9.block _ (blk_lt D8.out)).trans D8.out); have B9 := bx (B8.out.trans (hb9.mono B8.out.size)); have R9 := bx (R8.out.below hb9)
  clear hb9 P8 D8 B8 R8
  have KC := bx (readPin_code bs2); have KS := bx (readPin_s bs2); have KU := bx (readPin_u64 bs2 HO2.out); have KP := bx (fun h => put_readPin bs2 HO2.out h)
  generalize readPin bs2 = K at *
  obtain ⟨⟨kg, ke, ks⟩, kc⟩ := K
  dsimp only [Pin.val] at *
  go_upto_region 10 with (first
    | ((with_reducible refine at_store (.tmp 14) (.tmp 82) ?_); go_must (refine wpList_store_agg (cells := pinCells kg ke ks) rfl 84 (.tmp 14) (.tmp 82) rfl w9.heap.size 0 rfl rfl 84 (pinCells 0 0 zero32) (blk_new w9 _) (by rw [pin_size _ _ _ KS.out]; exact I34.out) (by rw [pin_size _ _ _ KS.out]; decide) (pin_oneCell _ _ _) (pinCells kg ke ks) (pin_put _ rfl _ _ _ KS.out) ?_; intro w10 hu10)))
  have hl1 := blk_lt P9.out
  have hl2 := blk_lt D9.out
  have Pa := bx (hu10.blk (blk_alloc P9.out) (by omega)); have Da := bx (hu10.blk (blk_alloc D9.out) (by omega)); have Ka := bx hu10.same
  have Ba := bx ((B9.out.alloc B9.out.size _).trans (hu10.below B9.out.size))
  have Ra := bx (R9.out.below (((Below.refl _ _).alloc (Nat.le_refl _) _).trans (hu10.below (Nat.le_refl _))))
  clear hu10 hl1 hl2 P9 D9 B9 R9
  have CV1 : Bx (∀ w', Below w10.heap.size w10 w' → (convert 22 9 (.slice A3 48 c3)).run Try.prog w' = .ok (.string (strOfNums L)) w' ∧ (convert 22 9 (.slice A2 n2 cap2)).run Try.prog w' = .ok (.string (strOfNums bs2)) w') := ⟨fun w' hb => ⟨str_of (Ra.out.below hb) c3, str_of ((HO1.out.below Ba.out).below hb) cap2⟩⟩
  have HA6 : Bx (∀ w, Calls Try.prog 44 #[.agg (pinCells kg ke ks)] w fun e w' => e = .returned (.agg (ownCells kg ke (strOfNums ks))) ∧ Below w.heap.size w w') := ⟨fun w => own18_any ⟨kg, ke, ks⟩ w KS.out⟩
  by_cases h48 : n2 = 48
  · have HA7 : Bx (∀ w, Calls Try.prog 47 #[.agg (ownCells kg ke (strOfNums ks))] w fun x w' => x = .returned (.string (strOfNums bs2)) ∧ Below w.heap.size w w') := ⟨fun w => by
      have h := rput18_any kg ke ks w (by rw [KS.out]; decide) KU.out.1 KU.out.2
      rw [KP.out (by rw [HN2.out]; exact h48)] at h
      exact h⟩
    obtain rfl : kc = 0 := by have := KC.out; rw [if_pos (by rw [HN2.out]; exact h48)] at this; exact this
    subst h48
    clear KC KU KP
    generalize strOfNums ks = sk at *
    generalize strOfNums bs2 = sb2 at *
    generalize strOfNums L = sL at *
    try simp only [Act.put]
    refine region_quietC (fun w' => Below w10.heap.size w10 w') (by kernel_rfl) (by kernel_rfl) ((Below.refl _ _).drew) ?_
    repeat (first
      | (refine quiet_take (v := .agg (pinCells pg pe ps)) 86 rfl (by kernel_rfl) (fun w' hw' => quietAt_load_agg 84 (.tmp 3) rfl w.heap.size 0 rfl 84 (pinCells pg pe ps) 34 _ ((hw'.block _ (blk_lt Pa.out)).trans Pa.out) Try.underlying84 rfl I34.out (by rw [pin_size _ _ _ HP.out]; decide) (pinCells pg pe ps) (pin_all _ _ _ HP.out)) ?_; try simp only [List.setIfInBounds_toArray, List.set_cons_zero, List.set_cons_succ])
      | (refine quiet_take (v := .agg (pinCells pg pe ps)) 95 rfl (by kernel_rfl) (fun w' hw' => quietAt_load_agg 84 (.tmp 12) rfl w7.heap.size 0 rfl 84 (pinCells pg pe ps) 34 _ ((hw'.block _ (blk_lt Da.out)).trans Da.out) Try.underlying84 rfl I34.out (by rw [pin_size _ _ _ HP.out]; decide) (pinCells pg pe ps) (pin_all _ _ _ HP.out)) ?_; try simp only [List.setIfInBounds_toArray, List.set_cons_zero, List.set_cons_succ])
      | (refine quiet_take (v := .agg (pinCells pg pe ps)) 96 rfl (by kernel_rfl) (fun w' hw' => quietAt_load_agg 84 (.tmp 3) rfl w.heap.size 0 rfl 84 (pinCells pg pe ps) 34 _ ((hw'.block _ (blk_lt Pa.out)).trans Pa.out) Try.underlying84 rfl I34.out (by rw [pin_size _ _ _ HP.out]; decide) (pinCells pg pe ps) (pin_all _ _ _ HP.out)) ?_; try simp only [List.setIfInBounds_toArray, List.set_cons_zero, List.set_cons_succ])
      | (refine quiet_take (v := .agg (pinCells kg ke ks)) 111 rfl (by kernel_rfl) (fun w' hw' => quietAt_load_agg 84 (.tmp 14) rfl w9.heap.size 0 rfl 84 (pinCells kg ke ks) 34 _ ((hw'.block _ (blk_lt Ka.out)).trans Ka.out) Try.underlying84 rfl I34.out (by rw [pin_size _ _ _ KS.out]; decide) (pinCells kg ke ks) (pin_all _ _ _ KS.out)) ?_; try simp only [List.setIfInBounds_toArray, List.set_cons_zero, List.set_cons_succ])
      | (refine quiet_take (v := ?_) _ rfl (by kernel_rfl) ?_ ?_; rotate_left 1; (focus (first | (intro w' hw'; clear hw'; unfold Oper.quietAt; go_simp; done) | (intro w' hw'; clear hw'; unfold Oper.quietAt; go_simp; with_reducible rfl) | (intro w' hw'; obtain ⟨k0, k1⟩ := CV1.out w' hw'; unfold Oper.quietAt; go_simp; first | done | with_reducible rfl | ((with_reducible refine (HA1.out w').mono ?_); rintro x w9 ⟨rfl, hb⟩; refine ⟨?_, hw'.trans (hb.mono hw'.size)⟩; with_reducible rfl) | ((with_reducible refine (HA4.out w').mono ?_); rintro x w9 ⟨rfl, hb⟩; refine ⟨?_, hw'.trans (hb.mono hw'.size)⟩; with_reducible rfl) | ((with_reducible refine (HA6.out w').mono ?_); rintro x w9 ⟨rfl, hb⟩; refine ⟨?_, hw'.trans (hb.mono hw'.size)⟩; with_reducible rfl) | ((with_reducible refine (HA7.out w').mono ?_); rintro x w9 ⟨rfl, hb⟩; refine ⟨?_, hw'.trans (hb.mono hw'.size)⟩; with_reducible rfl)))); try simp only [List.setIfInBounds_toArray, List.set_cons_zero, List.set_cons_succ]))
    refine wpQuiet_nil ?_
    intro w11 hw11
    have Bb := bx (Ba.out.trans (hw11.mono Ba.out.size))
    clear hw11 Pa Da Ka Ba Ra CV1 HA1 HA4 HA6
    go_step
    go_step
    go_step
    first
      | (refine tells_loop _ _ _ _ _ _ _ _ _ _ _ _ _ _ _ _ _ _ _ _ _ _ _ _ _ _ _ _ _ _ _ _ _ _ _ _ _ _ _ _ _ _ _ _ _ _ _ _ _ _ _ _ _ _ _ _ _ _ _ _ _ _ _ _ _ _ _ _ _ _ _ _ _ _ _ _ _ _ _ _ _ _ _ _ _ _ _ _ _ _ _ _ _ _ _ _ _ _ _ _ _ _ _ _ _ _ _ _ _ _ _ _ _ _ _ _ _ _ _ _ _ _ _ _ _ _ _ _ _ _ _ _ _ _ _ _ _ _ _ _ _ _ _ _ ?_)
      | (go_step; refine tells_loop _ _ _ _ _ _ _ _ _ _ _ _ _ _ _ _ _ _ _ _ _ _ _ _ _ _ _ _ _ _ _ _ _ _ _ _ _ _ _ _ _ _ _ _ _ _ _ _ _ _ _ _ _ _ _ _ _ _ _ _ _ _ _ _ _ _ _ _ _ _ _ _ _ _ _ _ _ _ _ _ _ _ _ _ _ _ _ _ _ _ _ _ _ _ _ _ _ _ _ _ _ _ _ _ _ _ _ _ _ _ _ _ _ _ _ _ _ _ _ _ _ _ _ _ _ _ _ _ _ _ _ _ _ _ _ _ _ _ _ _ _ _ _ _ ?_)
      | (go_step; go_step; refine tells_loop _ _ _ _ _ _ _ _ _ _ _ _ _ _ _ _ _ _ _ _ _ _ _ _ _ _ _ _ _ _ _ _ _ _ _ _ _ _ _ _ _ _ _ _ _ _ _ _ _ _ _ _ _ _ _ _ _ _ _ _ _ _ _ _ _ _ _ _ _ _ _ _ _ _ _ _ _ _ _ _ _ _ _ _ _ _ _ _ _ _ _ _ _ _ _ _ _ _ _ _ _ _ _ _ _ _ _ _ _ _ _ _ _ _ _ _ _ _ _ _ _ _ _ _ _ _ _ _ _ _ _ _ _ _ _ _ _ _ _ _ _ _ _ _ ?_)
      | (go_step; go_step; go_step; refine tells_loop _ _ _ _ _ _ _ _ _ _ _ _ _ _ _ _ _ _ _ _ _ _ _ _ _ _ _ _ _ _ _ _ _ _ _ _ _ _ _ _ _ _ _ _ _ _ _ _ _ _ _ _ _ _ _ _ _ _ _ _ _ _ _ _ _ _ _ _ _ _ _ _ _ _ _ _ _ _ _ _ _ _ _ _ _ _ _ _ _ _ _ _ _ _ _ _ _ _ _ _ _ _ _ _ _ _ _ _ _ _ _ _ _ _ _ _ _ _ _ _ _ _ _ _ _ _ _ _ _ _ _ _ _ _ _ _ _ _ _ _ _ _ _ _ ?_)
      | (go_step; go_step; go_step; go_step; refine tells_loop _ _ _ _ _ _ _ _ _ _ _ _ _ _ _ _ _ _ _ _ _ _ _ _ _ _ _ _ _ _ _ _ _ _ _ _ _ _ _ _ _ _ _ _ _ _ _ _ _ _ _ _ _ _ _ _ _ _ _ _ _ _ _ _ _ _ _ _ _ _ _ _ _ _ _ _ _ _ _ _ _ _ _ _ _ _ _ _ _ _ _ _ _ _ _ _ _ _ _ _ _ _ _ _ _ _ _ _ _ _ _ _ _ _ _ _ _ _ _ _ _ _ _ _ _ _ _ _ _ _ _ _ _ _ _ _ _ _ _ _ _ _ _ _ ?_)
      | (go_step; go_step; go_step; go_step; go_step; refine tells_loop _ _ _ _ _ _ _ _ _ _ _ _ _ _ _ _ _ _ _ _ _ _ _ _ _ _ _ _ _ _ _ _ _ _ _ _ _ _ _ _ _ _ _ _ _ _ _ _ _ _ _ _ _ _ _ _ _ _ _ _ _ _ _ _ _ _ _ _ _ _ _ _ _ _ _ _ _ _ _ _ _ _ _ _ _ _ _ _ _ _ _ _ _ _ _ _ _ _ _ _ _ _ _ _ _ _ _ _ _ _ _ _ _ _ _ _ _ _ _ _ _ _ _ _ _ _ _ _ _ _ _ _ _ _ _ _ _ _ _ _ _ _ _ _ ?_)
    intro y6 y16 y119 y120 y121 y122 y123 y124 y125 y126 y127 y128 y129 y130 y131 y132 y133 y134 y135 y136
    go_wp2_with fail
    refine (refused_nil _).mono ?_
    rintro x w12 ⟨rfl, rfl⟩
    go_wp2_with fail
    refine (one18_any _).mono ?_
    rintro x w13 ⟨rfl, hb13⟩
    have Bc := bx (Bb.out.trans (hb13.mono Bb.out.size))
    clear hb13
    go_wp2_with fail
    go_ret
    exact ⟨rfl, Bc.out⟩
  · obtain rfl : kc = 11 := by have := KC.out; rw [if_neg (by rw [HN2.out]; exact h48)] at this; exact this
    have h48' : ((n2 : Int) == 48) = false := by simp; omega
    clear KC KU KP h48
    generalize strOfNums bs2 = sb2 at *
    generalize strOfNums L = sL at *
    try simp only [Act.put]
    refine region_quietC (fun w' => Below w10.heap.size w10 w') (by kernel_rfl) (by kernel_rfl) ((Below.refl _ _).drew) ?_
    repeat (first
      | (refine quiet_skip 111 rfl (by kernel_rfl) ?_; try simp only [List.setIfInBounds_toArray, List.set_cons_zero, List.set_cons_succ])
      | (refine quiet_skip 112 rfl (by kernel_rfl) ?_; try simp only [List.setIfInBounds_toArray, List.set_cons_zero, List.set_cons_succ])
      | (refine quiet_skip 113 rfl (by kernel_rfl) ?_; try simp only [List.setIfInBounds_toArray, List.set_cons_zero, List.set_cons_succ])
      | (refine quiet_skip 114 rfl (by kernel_rfl) ?_; try simp only [List.setIfInBounds_toArray, List.set_cons_zero, List.set_cons_succ])
      | (refine quiet_skip 115 rfl (by kernel_rfl) ?_; try simp only [List.setIfInBounds_toArray, List.set_cons_zero, List.set_cons_succ])
      | (refine quiet_skip 116 rfl (by kernel_rfl) ?_; try simp only [List.setIfInBounds_toArray, List.set_cons_zero, List.set_cons_succ])
      | (refine quiet_take (v := .agg (pinCells pg pe ps)) 86 rfl (by kernel_rfl) (fun w' hw' => quietAt_load_agg 84 (.tmp 3) rfl w.heap.size 0 rfl 84 (pinCells pg pe ps) 34 _ ((hw'.block _ (blk_lt Pa.out)).trans Pa.out) Try.underlying84 rfl I34.out (by rw [pin_size _ _ _ HP.out]; decide) (pinCells pg pe ps) (pin_all _ _ _ HP.out)) ?_; try simp only [List.setIfInBounds_toArray, List.set_cons_zero, List.set_cons_succ])
      | (refine quiet_take (v := .agg (pinCells pg pe ps)) 95 rfl (by kernel_rfl) (fun w' hw' => quietAt_load_agg 84 (.tmp 12) rfl w7.heap.size 0 rfl 84 (pinCells pg pe ps) 34 _ ((hw'.block _ (blk_lt Da.out)).trans Da.out) Try.underlying84 rfl I34.out (by rw [pin_size _ _ _ HP.out]; decide) (pinCells pg pe ps) (pin_all _ _ _ HP.out)) ?_; try simp only [List.setIfInBounds_toArray, List.set_cons_zero, List.set_cons_succ])
      | (refine quiet_take (v := .agg (pinCells pg pe ps)) 96 rfl (by kernel_rfl) (fun w' hw' => quietAt_load_agg 84 (.tmp 3) rfl w.heap.size 0 rfl 84 (pinCells pg pe ps) 34 _ ((hw'.block _ (blk_lt Pa.out)).trans Pa.out) Try.underlying84 rfl I34.out (by rw [pin_size _ _ _ HP.out]; decide) (pinCells pg pe ps) (pin_all _ _ _ HP.out)) ?_; try simp only [List.setIfInBounds_toArray, List.set_cons_zero, List.set_cons_succ])
      | (refine quiet_take (v := ?_) _ rfl (by kernel_rfl) ?_ ?_; rotate_left 1; (focus (first | (intro w' hw'; clear hw'; unfold Oper.quietAt; go_simp; done) | (intro w' hw'; clear hw'; unfold Oper.quietAt; go_simp; with_reducible rfl) | (intro w' hw'; obtain ⟨k0, k1⟩ := CV1.out w' hw'; unfold Oper.quietAt; go_simp; first | done | with_reducible rfl | ((with_reducible refine (HA1.out w').mono ?_); rintro x w9 ⟨rfl, hb⟩; refine ⟨?_, hw'.trans (hb.mono hw'.size)⟩; with_reducible rfl) | ((with_reducible refine (HA4.out w').mono ?_); rintro x w9 ⟨rfl, hb⟩; refine ⟨?_, hw'.trans (hb.mono hw'.size)⟩; with_reducible rfl)))); try simp only [List.setIfInBounds_toArray, List.set_cons_zero, List.set_cons_succ]))
    refine wpQuiet_nil ?_
    intro w11 hw11
    have Bb := bx (Ba.out.trans (hw11.mono Ba.out.size))
    clear hw11 Pa Da Ka Ba Ra CV1 HA1 HA4 HA6
    go_step
    go_step
    go_step
    first
      | (refine tells_loop _ _ _ _ _ _ _ _ _ _ _ _ _ _ _ _ _ _ _ _ _ _ _ _ _ _ _ _ _ _ _ _ _ _ _ _ _ _ _ _ _ _ _ _ _ _ _ _ _ _ _ _ _ _ _ _ _ _ _ _ _ _ _ _ _ _ _ _ _ _ _ _ _ _ _ _ _ _ _ _ _ _ _ _ _ _ _ _ _ _ _ _ _ _ _ _ _ _ _ _ _ _ _ _ _ _ _ _ _ _ _ _ _ _ _ _ _ _ _ _ _ _ _ _ _ _ _ _ _ _ _ _ _ _ _ _ _ _ _ _ _ _ _ _ ?_)
      | (go_step; refine tells_loop _ _ _ _ _ _ _ _ _ _ _ _ _ _ _ _ _ _ _ _ _ _ _ _ _ _ _ _ _ _ _ _ _ _ _ _ _ _ _ _ _ _ _ _ _ _ _ _ _ _ _ _ _ _ _ _ _ _ _ _ _ _ _ _ _ _ _ _ _ _ _ _ _ _ _ _ _ _ _ _ _ _ _ _ _ _ _ _ _ _ _ _ _ _ _ _ _ _ _ _ _ _ _ _ _ _ _ _ _ _ _ _ _ _ _ _ _ _ _ _ _ _ _ _ _ _ _ _ _ _ _ _ _ _ _ _ _ _ _ _ _ _ _ _ ?_)
      | (go_step; go_step; refine tells_loop _ _ _ _ _ _ _ _ _ _ _ _ _ _ _ _ _ _ _ _ _ _ _ _ _ _ _ _ _ _ _ _ _ _ _ _ _ _ _ _ _ _ _ _ _ _ _ _ _ _ _ _ _ _ _ _ _ _ _ _ _ _ _ _ _ _ _ _ _ _ _ _ _ _ _ _ _ _ _ _ _ _ _ _ _ _ _ _ _ _ _ _ _ _ _ _ _ _ _ _ _ _ _ _ _ _ _ _ _ _ _ _ _ _ _ _ _ _ _ _ _ _ _ _ _ _ _ _ _ _ _ _ _ _ _ _ _ _ _ _ _ _ _ _ ?_)
      | (go_step; go_step; go_step; refine tells_loop _ _ _ _ _ _ _ _ _ _ _ _ _ _ _ _ _ _ _ _ _ _ _ _ _ _ _ _ _ _ _ _ _ _ _ _ _ _ _ _ _ _ _ _ _ _ _ _ _ _ _ _ _ _ _ _ _ _ _ _ _ _ _ _ _ _ _ _ _ _ _ _ _ _ _ _ _ _ _ _ _ _ _ _ _ _ _ _ _ _ _ _ _ _ _ _ _ _ _ _ _ _ _ _ _ _ _ _ _ _ _ _ _ _ _ _ _ _ _ _ _ _ _ _ _ _ _ _ _ _ _ _ _ _ _ _ _ _ _ _ _ _ _ _ ?_)
      | (go_step; go_step; go_step; go_step; refine tells_loop _ _ _ _ _ _ _ _ _ _ _ _ _ _ _ _ _ _ _ _ _ _ _ _ _ _ _ _ _ _ _ _ _ _ _ _ _ _ _ _ _ _ _ _ _ _ _ _ _ _ _ _ _ _ _ _ _ _ _ _ _ _ _ _ _ _ _ _ _ _ _ _ _ _ _ _ _ _ _ _ _ _ _ _ _ _ _ _ _ _ _ _ _ _ _ _ _ _ _ _ _ _ _ _ _ _ _ _ _ _ _ _ _ _ _ _ _ _ _ _ _ _ _ _ _ _ _ _ _ _ _ _ _ _ _ _ _ _ _ _ _ _ _ _ ?_)
      | (go_step; go_step; go_step; go_step; go_step; refine tells_loop _ _ _ _ _ _ _ _ _ _ _ _ _ _ _ _ _ _ _ _ _ _ _ _ _ _ _ _ _ _ _ _ _ _ _ _ _ _ _ _ _ _ _ _ _ _ _ _ _ _ _ _ _ _ _ _ _ _ _ _ _ _ _ _ _ _ _ _ _ _ _ _ _ _ _ _ _ _ _ _ _ _ _ _ _ _ _ _ _ _ _ _ _ _ _ _ _ _ _ _ _ _ _ _ _ _ _ _ _ _ _ _ _ _ _ _ _ _ _ _ _ _ _ _ _ _ _ _ _ _ _ _ _ _ _ _ _ _ _ _ _ _ _ _ ?_)
    intro y6 y16 y119 y120 y121 y122 y123 y124 y125 y126 y127 y128 y129 y130 y131 y132 y133 y134 y135 y136
    go_wp2_with fail
    refine (refused_nil _).mono ?_
    rintro x w12 ⟨rfl, rfl⟩
    go_wp2_with fail
    refine (one18_any _).mono ?_
    rintro x w13 ⟨rfl, hb13⟩
    have Bc := bx (Bb.out.trans (hb13.mono Bb.out.size))
    clear hb13
    go_wp2_with fail
    go_ret
    exact ⟨rfl, Bc.out⟩
end Go.Proofs.Ythnommoljikaiaa
