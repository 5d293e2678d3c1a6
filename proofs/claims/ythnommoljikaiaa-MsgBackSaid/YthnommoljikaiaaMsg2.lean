/- Messages: the walks over head and tail. -/
import Derived.Test.YthnommoljikaiaaMsg1
import Derived.Test.YthnommoljikaiaaReg3
set_option linter.unusedSimpArgs false
set_option linter.unusedVariables false
namespace Go.Proofs.Ythnommoljikaiaa
open Go.RowKit

theorem rdB_blk {w : World} {b n : Nat} {T : TypeId} {l : List Int} (h : w.heap[b]? = some (.cells (ints .u8 l) T (0, 0))) (hn : l.length = n) : RdB w (some ⟨b, 0, none⟩) n l :=
  ⟨hn, fun _ => ⟨b, 0, rfl, blk_lt h, fun j hj => by rw [Nat.zero_add]; exact blk_int h j (by omega)⟩⟩
theorem rdB_one (w : World) (T : TypeId) (c : Int) {b : Nat} (hb : b = w.heap.size) : RdB (w.alloc (.cells #[.int .u8 c] T)) (some ⟨b, 0, none⟩) 1 [c] := hb ▸ rdB_made w T [c]
theorem RdB.alloc' {w : World} {A : Option Addr} {n : Nat} {bs : List Int} (h : RdB w A n bs) (o : Obj) : RdB (w.alloc o) A n bs := h.below ((Below.refl _ _).alloc (Nat.le_refl _) _)
theorem RdB.drew' {w : World} {A : Option Addr} {n : Nat} {bs : List Int} (h : RdB w A n bs) : RdB w.drew A n bs := h.below (Below.refl _ _).drew
theorem OwB.drew' {w : World} {base : Nat} {v : Value} {bs : List Int} (h : OwB w base v bs) : OwB w.drew base v bs := h.kept (Below.refl _ _).drew
theorem core_rd {w : World} {b : Nat} {c k i g : Int} {nm : List Int} (hs : nm.length = 16) (h : w.heap[b]? = some (.cells (coreCells c k i g nm) 187 (0, 0))) : RdB w (some ⟨b, 4, none⟩) 16 nm :=
  ⟨hs, fun _ => ⟨b, 4, rfl, blk_lt h, fun j hj => blk_cell h (by
    have e1 : (coreList c k i g nm)[4 + j]? = some (.int .u8 (nm.getD j 0)) := by
      rw [show 4 + j = j + 1 + 1 + 1 + 1 by omega]
      simp [coreList, List.getD_eq_getElem?_getD, List.getElem?_eq_getElem (show j < nm.length by omega)]
    simpa [coreCells] using e1)⟩⟩
def headOf (named : Bool) (c k i g : Int) (nm : List Int) : List Int := ([c] ++ be i 8 ++ [k] ++ (if named then nm else [])) ++ be g 8
theorem headOf_length (named : Bool) (c k i g : Int) (nm : List Int) (h : nm.length = 16) : (headOf named c k i g nm).length = if named then 34 else 18 := by
  cases named <;> simp [headOf, be_length, h]
set_option maxRecDepth 100000 in
set_option maxHeartbeats 800000 in
theorem mhead_any (named : Bool) (c k i g : Int) (nm : List Int) (w : World) (h : nm.length = 16) (hc : IntKind.u8.wrap c = c) (hk : IntKind.u8.wrap k = k) :
    Calls Try.prog 97 #[.agg (coreCells c k i g nm), .bool named] w fun e w' => ∃ r, e = .returned r ∧ OwB w' w.heap.size r (headOf named c k i g nm) ∧ Below w.heap.size w w' := by
  obtain ⟨w0, hw0⟩ : ∃ w0, w0 = w.alloc (.cells (coreCells c k i g nm) 187) := ⟨_, rfl⟩
  have K0 : Bx (w0.heap[w.heap.size]? = some (.cells (coreCells c k i g nm) 187 (0, 0))) := ⟨by rw [hw0]; exact blk_new w _⟩
  have B0 : Bx (Below w.heap.size w w0) := ⟨by rw [hw0]; exact (Below.refl _ _).alloc (Nat.le_refl _) _⟩
  have H := bx h
  have HC : Bx (∀ w', Below w0.heap.size w0 w' → w'.cell? ⟨w.heap.size, 0, none⟩ = some (.int .i64 c) ∧ w'.cell? ⟨w.heap.size, 1, none⟩ = some (.int .i64 k) ∧ w'.cell? ⟨w.heap.size, 2, none⟩ = some (.int .u64 i) ∧ w'.cell? ⟨w.heap.size, 3, none⟩ = some (.int .u64 g)) := ⟨fun w' hb => by
    have hk := (hb.block _ (blk_lt K0.out)).trans K0.out
    exact ⟨blk_cell hk rfl, blk_cell hk rfl, blk_cell hk rfl, blk_cell hk rfl⟩⟩
  have HRD : Bx (∀ w', Below w0.heap.size w0 w' → RdB w' (some ⟨w.heap.size, 4, none⟩) 16 nm) := ⟨fun w' hb => core_rd H.out ((hb.block _ (blk_lt K0.out)).trans K0.out)⟩
  have sl := fun w' => arr_slice_all (P := Try.prog) (t := 113) Try.underlying113 Try.sizeOf5 w.heap.size 4 w'
  have L9 : Bx (([c] ++ be i 8).length = 9) := ⟨by simp [be_length]⟩
  have LA : Bx (([c] ++ be i 8 ++ [k]).length = 10) := ⟨by simp [be_length]⟩
  have LB : Bx (([c] ++ be i 8 ++ [k] ++ nm).length = 26) := ⟨by simp [be_length, h]⟩
  have HW := bx hw0
  clear h hw0
  cases named
  all_goals
    go_enter Try.func97, Try.ntmps97
    go_upto_region 1 with fail
    rw [← HW.out]
    clear HW
    have hS0 : Below w0.heap.size w0 w0.drew := (Below.refl _ _).drew
    refine wp_region_held_drew (S := (fun w' => Below w0.heap.size w0 w')) (by kernel_rfl) hS0 (fun hS => ?_)
    refine takeH (i := 0) (d := 6) (v := ?_) rfl rfl (by kernel_rfl) (by kernel_rfl) (by kernel_rfl) (fun _ _ _ h => h) (Or.inl ⟨by kernel_rfl, ?_⟩) hS ?_; rotate_left 1; (focus ((intro w' hS'; clear hS'; go_simp; try with_reducible rfl); done))
    try simp only [List.setIfInBounds_toArray, List.set_cons_zero, List.set_cons_succ]
    refine takeH (i := 1) (d := 7) (v := ?_) rfl rfl (by kernel_rfl) (by kernel_rfl) (by kernel_rfl) (fun _ _ _ h => h) (Or.inl ⟨by kernel_rfl, ?_⟩) hS ?_; rotate_left 1; (focus ((intro w' hS'; obtain ⟨z0, z1, z2, z3⟩ := HC.out w' hS'; clear hS'; go_simp; try with_reducible rfl); done))
    try simp only [List.setIfInBounds_toArray, List.set_cons_zero, List.set_cons_succ]
    refine takeH (i := 2) (d := 8) (v := ?_) rfl rfl (by kernel_rfl) (by kernel_rfl) (by kernel_rfl) (fun _ _ _ h => h) (Or.inl ⟨by kernel_rfl, ?_⟩) hS ?_; rotate_left 1; (focus ((intro w' hS'; clear hS'; go_simp; try with_reducible rfl); done))
    try simp only [List.setIfInBounds_toArray, List.set_cons_zero, List.set_cons_succ]
    refine takeH (i := 4) (d := 10) (v := ?_) rfl rfl (by kernel_rfl) (by kernel_rfl) (by kernel_rfl) (fun _ _ _ h => h) (Or.inl ⟨by kernel_rfl, ?_⟩) hS ?_; rotate_left 1; (focus ((intro w' hS'; clear hS'; go_simp; try with_reducible rfl); done))
    try simp only [List.setIfInBounds_toArray, List.set_cons_zero, List.set_cons_succ]
    refine takeH (i := 5) (d := 11) (v := ?_) rfl rfl (by kernel_rfl) (by kernel_rfl) (by kernel_rfl) (fun _ _ _ h => h) (Or.inl ⟨by kernel_rfl, ?_⟩) hS ?_; rotate_left 1; (focus ((intro w' hS'; obtain ⟨z0, z1, z2, z3⟩ := HC.out w' hS'; clear hS'; go_simp; try with_reducible rfl); done))
    try simp only [List.setIfInBounds_toArray, List.set_cons_zero, List.set_cons_succ]
    refine takeH (i := 7) (d := 13) (v := ?_) rfl rfl (by kernel_rfl) (by kernel_rfl) (by kernel_rfl) (fun _ _ _ h => h) (Or.inl ⟨by kernel_rfl, ?_⟩) hS ?_; rotate_left 1; (focus ((intro w' hS'; clear hS'; go_simp; try with_reducible rfl); done))
    try simp only [List.setIfInBounds_toArray, List.set_cons_zero, List.set_cons_succ]
    refine takeH (i := 8) (d := 14) (v := ?_) rfl rfl (by kernel_rfl) (by kernel_rfl) (by kernel_rfl) (fun _ _ _ h => h) (Or.inl ⟨by kernel_rfl, ?_⟩) hS ?_; rotate_left 1; (focus ((intro w' hS'; obtain ⟨z0, z1, z2, z3⟩ := HC.out w' hS'; clear hS'; go_simp; try with_reducible rfl); done))
    try simp only [List.setIfInBounds_toArray, List.set_cons_zero, List.set_cons_succ]
    refine takeH (i := 9) (d := 15) (v := ?_) rfl rfl (by kernel_rfl) (by kernel_rfl) (by kernel_rfl) (fun _ _ _ h => h) (Or.inl ⟨by kernel_rfl, ?_⟩) hS ?_; rotate_left 1; (focus ((intro w' hS'; clear hS'; go_simp; try with_reducible rfl); done))
    try simp only [List.setIfInBounds_toArray, List.set_cons_zero, List.set_cons_succ]
    refine wpAnyH_ready (rs := [3, 10]) (by kernel_rfl) (by simp) ?_
    refine AllReadyH.cons rfl (fun K hK => ?_) ?_
    · go_simp
      refine hK.out _ _ ?_ (fun hS2 => ?_)
      · exact hS.alloc hS.size _
      clear hK K hS; have hS := hS2; clear hS2
      try simp only [Act.put, List.setIfInBounds_toArray, List.set_cons_zero, List.set_cons_succ]
      refine wpAnyH_ready (rs := [6, 10]) (by kernel_rfl) (by simp) ?_
      refine AllReadyH.cons rfl (fun K hK => ?_) ?_
      · go_simp
        refine (wput_any (some ⟨_, 0, none⟩) 1 1 [c] i 8 _ (by first | exact rdB_one _ _ _ (by simp) | exact (rdB_one _ _ _ (by simp)).alloc' _ | exact (rdB_one _ _ _ (by simp)).drew' | exact ((rdB_one _ _ _ (by simp)).alloc' _).drew' | exact ((rdB_one _ _ _ (by simp)).drew'.alloc' _).drew') (fun h => by cases h) (by decide) (by decide)).mono ?_
        rintro x w1 ⟨r, rfl, ho, hb⟩
        have O2 := bx (ho.base_le hS.size); have HB2 := bx hb
        clear ho hb
        refine hK.out _ _ ?_ (fun hS2 => ?_)
        · exact hS.trans (HB2.out.mono hS.size)
        clear hK K hS; have hS := hS2; clear hS2
        try simp only [Act.put, List.setIfInBounds_toArray, List.set_cons_zero, List.set_cons_succ]
        refine wpAnyH_ready (rs := [10]) (by kernel_rfl) (by simp) ?_
        refine AllReadyH.cons rfl (fun K hK => ?_) AllReadyH.nil
        go_simp
        refine hK.out _ _ ?_ (fun hS2 => ?_)
        · exact hS.alloc hS.size _
        clear hK K hS; have hS := hS2; clear hS2
        try simp only [Act.put, List.setIfInBounds_toArray, List.set_cons_zero, List.set_cons_succ]
        refine wpAnyH_ready (rs := [11]) (by kernel_rfl) (by simp) ?_
        refine readyH_list rfl (fun K hK => ?_) AllReadyH.nil
        refine wpList_app rfl (.tmp 12) (.tmp 16) rfl w0.heap.size r ([c] ++ be i 8) rfl (by first | exact O2.out | exact O2.out.alloc _ | exact O2.out.drew' | exact (O2.out.alloc _).drew') (some ⟨_, 0, none⟩) 1 1 [k] rfl (by first | exact rdB_one _ _ _ (by simp) | exact (rdB_one _ _ _ (by simp)).drew' | exact (rdB_one _ _ _ (by simp)).below HB2.out | exact (rdB_one _ _ _ (by simp)).drew'.below HB2.out | exact ((rdB_one _ _ _ (by simp)).alloc' _).below HB2.out | exact ((rdB_one _ _ _ (by simp)).alloc' _).drew'.below HB2.out | exact ((rdB_one _ _ _ (by simp)).drew'.alloc' _).drew'.below HB2.out) (fun h => by cases h) (by rw [L9.out]; decide) hS.size ?_
        intro v3 w3 h1 h2
        have O3 := bx h1; have G3 := bx h2
        clear h1 h2
        show wpList _ _ K [] (Act.put _ (some 17) v3) w3
        refine hK.out _ _ ?_ (fun hS2 => ?_)
        · exact (show OwB _ w0.heap.size r ([c] ++ be i 8) by first | exact O2.out | exact O2.out.alloc _ | exact O2.out.drew' | exact (O2.out.alloc _).drew').below G3.out hS (Nat.le_refl _) hS.size
        clear hK K hS; have hS := hS2; clear hS2
        try simp only [Act.put, List.setIfInBounds_toArray, List.set_cons_zero, List.set_cons_succ]
        refine takeH (i := 12) (d := 5) (v := ?_) rfl rfl (by kernel_rfl) (by kernel_rfl) (by kernel_rfl) (fun _ _ _ h => h) (Or.inl ⟨by kernel_rfl, ?_⟩) hS ?_; rotate_left 1; (focus ((intro w' hS'; clear hS'; go_simp; try with_reducible rfl); done))
        try simp only [List.setIfInBounds_toArray, List.set_cons_zero, List.set_cons_succ]
        refine wpAnyH_done (by kernel_rfl) ?_ _
        have HS := bx hS
        clear hS
        obtain ⟨y0, y1, y2, y3⟩ := HC.out _ HS.out
        clear y0 y1 y2
        go_wp2_with (first
          | ((with_reducible refine at_call 22 ?_); go_must (refine wpList_app rfl (.tmp 19) (.tmp 21) rfl w0.heap.size v3 ([c] ++ be i 8 ++ [k]) rfl O3.out (some ⟨w.heap.size, 4, none⟩) 16 16 nm rfl (HRD.out _ HS.out) (fun h => by cases h) (by rw [LA.out]; decide) HS.out.size ?_; intro v4 w4 h1 h2; have O4 := bx h1; have B4 := bx (O3.out.below h2 HS.out (Nat.le_refl _) HS.out.size); have z3 := (HC.out _ B4.out).2.2.2; clear y3 h1 h2)))
        first
          | (obtain ⟨A4, c4, rfl, hr4, hc4, hn4⟩ := O4.out.rdn LB.out
             have B5 := B4
             refine (wput_any A4 26 c4 _ g 8 _ hr4 hn4 (by decide) (by decide)).mono ?_)
          | (obtain ⟨A4, c4, rfl, hr4, hc4, hn4⟩ := O3.out.rdn LA.out
             have B5 := HS
             refine (wput_any A4 10 c4 _ g 8 _ hr4 hn4 (by decide) (by decide)).mono ?_)
        rintro x w5 ⟨r5, rfl, ho, hb⟩
        have O5 := bx ho; have B6 := bx (B0.out.trans ((B5.out.trans (hb.mono B5.out.size)).mono B0.out.size))
        have B7 := bx (Nat.le_trans B0.out.size B5.out.size)
        clear ho hb
        go_wp2_with fail
        go_ret
        exact ⟨_, rfl, by first | exact O5.out.base_le B7.out | (have := O5.out.base_le B7.out; simpa [headOf] using this), B6.out⟩
      refine AllReadyH.cons rfl (fun K hK => ?_) ?_
      · go_simp
        refine hK.out _ _ ?_ (fun hS2 => ?_)
        · exact hS.alloc hS.size _
        clear hK K hS; have hS := hS2; clear hS2
        try simp only [Act.put, List.setIfInBounds_toArray, List.set_cons_zero, List.set_cons_succ]
        refine wpAnyH_ready (rs := [6]) (by kernel_rfl) (by simp) ?_
        refine AllReadyH.cons rfl (fun K hK => ?_) AllReadyH.nil
        go_simp
        refine (wput_any (some ⟨_, 0, none⟩) 1 1 [c] i 8 _ (by first | exact rdB_one _ _ _ (by simp) | exact (rdB_one _ _ _ (by simp)).alloc' _ | exact (rdB_one _ _ _ (by simp)).drew' | exact ((rdB_one _ _ _ (by simp)).alloc' _).drew' | exact ((rdB_one _ _ _ (by simp)).drew'.alloc' _).drew') (fun h => by cases h) (by decide) (by decide)).mono ?_
        rintro x w1 ⟨r, rfl, ho, hb⟩
        have O2 := bx (ho.base_le hS.size); have HB2 := bx hb
        clear ho hb
        refine hK.out _ _ ?_ (fun hS2 => ?_)
        · exact hS.trans (HB2.out.mono hS.size)
        clear hK K hS; have hS := hS2; clear hS2
        try simp only [Act.put, List.setIfInBounds_toArray, List.set_cons_zero, List.set_cons_succ]
        refine wpAnyH_ready (rs := [11]) (by kernel_rfl) (by simp) ?_
        refine readyH_list rfl (fun K hK => ?_) AllReadyH.nil
        refine wpList_app rfl (.tmp 12) (.tmp 16) rfl w0.heap.size r ([c] ++ be i 8) rfl (by first | exact O2.out | exact O2.out.alloc _ | exact O2.out.drew' | exact (O2.out.alloc _).drew') (some ⟨_, 0, none⟩) 1 1 [k] rfl (by first | exact rdB_one _ _ _ (by simp) | exact (rdB_one _ _ _ (by simp)).drew' | exact (rdB_one _ _ _ (by simp)).below HB2.out | exact (rdB_one _ _ _ (by simp)).drew'.below HB2.out | exact ((rdB_one _ _ _ (by simp)).alloc' _).below HB2.out | exact ((rdB_one _ _ _ (by simp)).alloc' _).drew'.below HB2.out | exact ((rdB_one _ _ _ (by simp)).drew'.alloc' _).drew'.below HB2.out) (fun h => by cases h) (by rw [L9.out]; decide) hS.size ?_
        intro v3 w3 h1 h2
        have O3 := bx h1; have G3 := bx h2
        clear h1 h2
        show wpList _ _ K [] (Act.put _ (some 17) v3) w3
        refine hK.out _ _ ?_ (fun hS2 => ?_)
        · exact (show OwB _ w0.heap.size r ([c] ++ be i 8) by first | exact O2.out | exact O2.out.alloc _ | exact O2.out.drew' | exact (O2.out.alloc _).drew').below G3.out hS (Nat.le_refl _) hS.size
        clear hK K hS; have hS := hS2; clear hS2
        try simp only [Act.put, List.setIfInBounds_toArray, List.set_cons_zero, List.set_cons_succ]
        refine takeH (i := 12) (d := 5) (v := ?_) rfl rfl (by kernel_rfl) (by kernel_rfl) (by kernel_rfl) (fun _ _ _ h => h) (Or.inl ⟨by kernel_rfl, ?_⟩) hS ?_; rotate_left 1; (focus ((intro w' hS'; clear hS'; go_simp; try with_reducible rfl); done))
        try simp only [List.setIfInBounds_toArray, List.set_cons_zero, List.set_cons_succ]
        refine wpAnyH_done (by kernel_rfl) ?_ _
        have HS := bx hS
        clear hS
        obtain ⟨y0, y1, y2, y3⟩ := HC.out _ HS.out
        clear y0 y1 y2
        go_wp2_with (first
          | ((with_reducible refine at_call 22 ?_); go_must (refine wpList_app rfl (.tmp 19) (.tmp 21) rfl w0.heap.size v3 ([c] ++ be i 8 ++ [k]) rfl O3.out (some ⟨w.heap.size, 4, none⟩) 16 16 nm rfl (HRD.out _ HS.out) (fun h => by cases h) (by rw [LA.out]; decide) HS.out.size ?_; intro v4 w4 h1 h2; have O4 := bx h1; have B4 := bx (O3.out.below h2 HS.out (Nat.le_refl _) HS.out.size); have z3 := (HC.out _ B4.out).2.2.2; clear y3 h1 h2)))
        first
          | (obtain ⟨A4, c4, rfl, hr4, hc4, hn4⟩ := O4.out.rdn LB.out
             have B5 := B4
             refine (wput_any A4 26 c4 _ g 8 _ hr4 hn4 (by decide) (by decide)).mono ?_)
          | (obtain ⟨A4, c4, rfl, hr4, hc4, hn4⟩ := O3.out.rdn LA.out
             have B5 := HS
             refine (wput_any A4 10 c4 _ g 8 _ hr4 hn4 (by decide) (by decide)).mono ?_)
        rintro x w5 ⟨r5, rfl, ho, hb⟩
        have O5 := bx ho; have B6 := bx (B0.out.trans ((B5.out.trans (hb.mono B5.out.size)).mono B0.out.size))
        have B7 := bx (Nat.le_trans B0.out.size B5.out.size)
        clear ho hb
        go_wp2_with fail
        go_ret
        exact ⟨_, rfl, by first | exact O5.out.base_le B7.out | (have := O5.out.base_le B7.out; simpa [headOf] using this), B6.out⟩
      exact AllReadyH.nil
    refine AllReadyH.cons rfl (fun K hK => ?_) ?_
    · go_simp
      refine hK.out _ _ ?_ (fun hS2 => ?_)
      · exact hS.alloc hS.size _
      clear hK K hS; have hS := hS2; clear hS2
      try simp only [Act.put, List.setIfInBounds_toArray, List.set_cons_zero, List.set_cons_succ]
      refine wpAnyH_ready (rs := [3]) (by kernel_rfl) (by simp) ?_
      refine AllReadyH.cons rfl (fun K hK => ?_) AllReadyH.nil
      go_simp
      refine hK.out _ _ ?_ (fun hS2 => ?_)
      · exact hS.alloc hS.size _
      clear hK K hS; have hS := hS2; clear hS2
      try simp only [Act.put, List.setIfInBounds_toArray, List.set_cons_zero, List.set_cons_succ]
      refine wpAnyH_ready (rs := [6]) (by kernel_rfl) (by simp) ?_
      refine AllReadyH.cons rfl (fun K hK => ?_) AllReadyH.nil
      go_simp
      refine (wput_any (some ⟨_, 0, none⟩) 1 1 [c] i 8 _ (by first | exact rdB_one _ _ _ (by simp) | exact (rdB_one _ _ _ (by simp)).alloc' _ | exact (rdB_one _ _ _ (by simp)).drew' | exact ((rdB_one _ _ _ (by simp)).alloc' _).drew' | exact ((rdB_one _ _ _ (by simp)).drew'.alloc' _).drew') (fun h => by cases h) (by decide) (by decide)).mono ?_
      rintro x w1 ⟨r, rfl, ho, hb⟩
      have O2 := bx (ho.base_le hS.size); have HB2 := bx hb
      clear ho hb
      refine hK.out _ _ ?_ (fun hS2 => ?_)
      · exact hS.trans (HB2.out.mono hS.size)
      clear hK K hS; have hS := hS2; clear hS2
      try simp only [Act.put, List.setIfInBounds_toArray, List.set_cons_zero, List.set_cons_succ]
      refine wpAnyH_ready (rs := [11]) (by kernel_rfl) (by simp) ?_
      refine readyH_list rfl (fun K hK => ?_) AllReadyH.nil
      refine wpList_app rfl (.tmp 12) (.tmp 16) rfl w0.heap.size r ([c] ++ be i 8) rfl (by first | exact O2.out | exact O2.out.alloc _ | exact O2.out.drew' | exact (O2.out.alloc _).drew') (some ⟨_, 0, none⟩) 1 1 [k] rfl (by first | exact rdB_one _ _ _ (by simp) | exact (rdB_one _ _ _ (by simp)).drew' | exact (rdB_one _ _ _ (by simp)).below HB2.out | exact (rdB_one _ _ _ (by simp)).drew'.below HB2.out | exact ((rdB_one _ _ _ (by simp)).alloc' _).below HB2.out | exact ((rdB_one _ _ _ (by simp)).alloc' _).drew'.below HB2.out | exact ((rdB_one _ _ _ (by simp)).drew'.alloc' _).drew'.below HB2.out) (fun h => by cases h) (by rw [L9.out]; decide) hS.size ?_
      intro v3 w3 h1 h2
      have O3 := bx h1; have G3 := bx h2
      clear h1 h2
      show wpList _ _ K [] (Act.put _ (some 17) v3) w3
      refine hK.out _ _ ?_ (fun hS2 => ?_)
      · exact (show OwB _ w0.heap.size r ([c] ++ be i 8) by first | exact O2.out | exact O2.out.alloc _ | exact O2.out.drew' | exact (O2.out.alloc _).drew').below G3.out hS (Nat.le_refl _) hS.size
      clear hK K hS; have hS := hS2; clear hS2
      try simp only [Act.put, List.setIfInBounds_toArray, List.set_cons_zero, List.set_cons_succ]
      refine takeH (i := 12) (d := 5) (v := ?_) rfl rfl (by kernel_rfl) (by kernel_rfl) (by kernel_rfl) (fun _ _ _ h => h) (Or.inl ⟨by kernel_rfl, ?_⟩) hS ?_; rotate_left 1; (focus ((intro w' hS'; clear hS'; go_simp; try with_reducible rfl); done))
      try simp only [List.setIfInBounds_toArray, List.set_cons_zero, List.set_cons_succ]
      refine wpAnyH_done (by kernel_rfl) ?_ _
      have HS := bx hS
      clear hS
      obtain ⟨y0, y1, y2, y3⟩ := HC.out _ HS.out
      clear y0 y1 y2
      go_wp2_with (first
        | ((with_reducible refine at_call 22 ?_); go_must (refine wpList_app rfl (.tmp 19) (.tmp 21) rfl w0.heap.size v3 ([c] ++ be i 8 ++ [k]) rfl O3.out (some ⟨w.heap.size, 4, none⟩) 16 16 nm rfl (HRD.out _ HS.out) (fun h => by cases h) (by rw [LA.out]; decide) HS.out.size ?_; intro v4 w4 h1 h2; have O4 := bx h1; have B4 := bx (O3.out.below h2 HS.out (Nat.le_refl _) HS.out.size); have z3 := (HC.out _ B4.out).2.2.2; clear y3 h1 h2)))
      first
        | (obtain ⟨A4, c4, rfl, hr4, hc4, hn4⟩ := O4.out.rdn LB.out
           have B5 := B4
           refine (wput_any A4 26 c4 _ g 8 _ hr4 hn4 (by decide) (by decide)).mono ?_)
        | (obtain ⟨A4, c4, rfl, hr4, hc4, hn4⟩ := O3.out.rdn LA.out
           have B5 := HS
           refine (wput_any A4 10 c4 _ g 8 _ hr4 hn4 (by decide) (by decide)).mono ?_)
      rintro x w5 ⟨r5, rfl, ho, hb⟩
      have O5 := bx ho; have B6 := bx (B0.out.trans ((B5.out.trans (hb.mono B5.out.size)).mono B0.out.size))
      have B7 := bx (Nat.le_trans B0.out.size B5.out.size)
      clear ho hb
      go_wp2_with fail
      go_ret
      exact ⟨_, rfl, by first | exact O5.out.base_le B7.out | (have := O5.out.base_le B7.out; simpa [headOf] using this), B6.out⟩
    exact AllReadyH.nil
set_option maxRecDepth 100000 in
set_option maxHeartbeats 800000 in
theorem mtail_any (A : Option Addr) (n cap : Nat) (bs : List Int) (A2 : Option Addr) (n2 cap2 : Nat) (flat : List Int) (A3 : Option Addr) (n3 cap3 : Nat) (ds : List Int) (w : World) (hrd : RdB w A n bs) (hnil : A = none → cap = 0) (hrd2 : RdB w A2 (16 * n2) flat) (hrd3 : RdB w A3 n3 ds) (hnil3 : A3 = none → cap3 = 0) (hb : n ≤ 4096) (hb2 : n2 ≤ 65536) (hb3 : n3 ≤ 65536) :
    Calls Try.prog 96 #[.slice A n cap, .slice A2 n2 cap2, .slice A3 n3 cap3] w fun e w' => ∃ r, e = .returned r ∧ OwB w' w.heap.size r (bs ++ be n2 2 ++ flat ++ be n3 4 ++ ds) ∧ Below w.heap.size w w' := by
  have HRD := bx hrd; have HNIL := bx hnil; have HRD2 := bx hrd2; have HRD3 := bx hrd3; have HNIL3 := bx hnil3
  have hw : (n2 : Int) % 18446744073709551616 = n2 := by omega
  have LN := bx hrd.1; have L2 := bx hrd2.1
  clear hrd hnil hrd2 hrd3 hnil3
  go_enter Try.func96, Try.ntmps96
  go_wp2_with fail
  refine (wput_any A n cap bs n2 2 _ HRD.out HNIL.out (by omega) (by decide)).mono ?_
  rintro e w1 ⟨r, rfl, ho, hb⟩
  have HO := bx ho; have B1 := bx hb
  clear ho hb
  go_wp2_with fail
  go_loopw [0, 16] (fun s i wr => ∃ j : Nat, j ≤ n2 ∧ i = .int .i64 j ∧ OwB wr w.heap.size s (bs ++ be n2 2 ++ flat.take (16 * j)) ∧ Below w.heap.size w wr) (fun _ i _ => (n2 - intOf i).toNat)
  case atStart => exact ⟨0, by omega, rfl, by rw [Nat.mul_zero, List.take_zero, List.append_nil]; exact HO.out, B1.out⟩
  case round =>
    rename_i sl
    obtain ⟨j, hj, rfl, ho, hb⟩ := hrel
    have HO' := bx ho; have B := bx hb
    clear ho hb HO B1
    by_cases hjn : j < n2
    · have hjn' : (j : Int) < n2 := by omega
      obtain ⟨b0, o0, rfl, hl0, hc0⟩ := HRD2.out.2 (by omega)
      have HNM : Bx (((flat.drop (16 * j)).take 16).length = 16) := ⟨by rw [List.length_take, List.length_drop, L2.out]; omega⟩
      have HR : Bx (wr.rangeAt b0 (o0 + j * 16) (((flat.drop (16 * j)).take 16).map (Value.int .u8))) := ⟨fun q v hv => by
        have hq : q < 16 := by
          have := (List.getElem?_eq_some_iff.1 hv).1
          rw [List.length_map, HNM.out] at this
          exact this
        have h9 := (rdB_sub (16 * j) 16 (HRD2.out.below B.out) (by omega)).2 (by decide)
        obtain ⟨b9, o9, e9, _, hc9⟩ := h9
        cases e9
        rw [Nat.mul_comm j 16, hc9 q hq, ← hv, List.getElem?_map]
        rw [List.getD_eq_getElem?_getD, List.getElem?_eq_getElem (show q < ((flat.drop (16 * j)).take 16).length by rw [HNM.out]; exact hq)]
        rfl⟩
      have HT : Bx (flat.take (16 * j) ++ (flat.drop (16 * j)).take 16 = flat.take (16 * (j + 1))) := ⟨by rw [show 16 * (j + 1) = 16 * j + 16 by omega, List.take_add]⟩
      have HL : Bx ((bs ++ be n2 2 ++ flat.take (16 * j)).length + 16 ≤ 70368744177664) := ⟨by rw [List.length_append, List.length_append, be_length, List.length_take, LN.out, L2.out]; omega⟩
      have HI : Bx ((Try.prog.info? 113).map (·.size) = some (((flat.drop (16 * j)).take 16).map (Value.int .u8)).length) := ⟨by rw [List.length_map, HNM.out]; exact name_info⟩
      clear hl0 hc0
      generalize hnm : (flat.drop (16 * j)).take 16 = nm at *
      have slz := arr_slice_all (P := Try.prog) (t := 113) Try.underlying113 Try.sizeOf5 wr.heap.size 0
      clear hnm
      go_wp2_with (first
        | ((with_reducible refine at_load 19 ?_); go_must (refine wpList_load_mid rfl 113 (.tmp 18) rfl b0 (o0 + j * 16) rfl (nm.map (Value.int .u8)) _ HR.out Try.underlying113 rfl HI.out ?_))
        | ((with_reducible refine at_store (.tmp 8) (.tmp 19) ?_); go_must (refine store_all (cs := ints .u8 nm) 113 (.tmp 8) (.tmp 19) rfl rfl rfl rfl (blk_new wr _) (by rw [ints_size, HNM.out]; exact name_info) (by rw [ints_size, HNM.out]; rfl) (ints_oneCell _ _) ?_; intro w2 hu2; have R2 := bx (rdB_blk hu2.same HNM.out); have B2 := bx ((B.out.alloc B.out.size _).trans (hu2.below B.out.size)); have O2 := bx (HO'.out.kept (((Below.refl wr.heap.size wr).alloc (Nat.le_refl _) _).trans (hu2.below (Nat.le_refl _)))); clear hu2))
        | ((with_reducible refine at_call 22 ?_); go_must (refine wpList_app rfl (.tmp 20) (.tmp 21) rfl w.heap.size _ (bs ++ be n2 2 ++ flat.take (16 * j)) rfl O2.out (some ⟨wr.heap.size, 0, none⟩) 16 16 nm rfl R2.out (fun h => by cases h) HL.out B2.out.size ?_; intro v' w' h1 h2; have K1 := bx h1; have K2 := bx h2; clear h1 h2)))
      go_roundw
      case rel => exact ⟨j + 1, by omega, rfl, by have := K1.out; rw [List.append_assoc, HT.out] at this; exact this, O2.out.below K2.out B2.out (Nat.le_refl _) B2.out.size⟩
      case measure => simp only [intOf]; omega
    · have hj2 : j = n2 := by omega
      subst hj2
      have hjn' : ¬ (j : Int) < j := by omega
      rw [List.take_of_length_le (by rw [L2.out]; exact Nat.le_refl _)] at HO'
      obtain ⟨L, hL⟩ : ∃ L, L = bs ++ be j 2 ++ flat := ⟨_, rfl⟩
      obtain ⟨n4, hn4⟩ : ∃ n4, L.length = n4 := ⟨_, rfl⟩
      have HL : Bx (n4 ≤ 8796093022208) := ⟨by rw [← hn4, hL, List.length_append, List.length_append, be_length, LN.out, L2.out]; omega⟩
      rw [← hL] at HO'
      obtain ⟨A4, c4, rfl, hr4, hc4, hn5⟩ := HO'.out.rdn hn4
      have R4 := bx hr4; have N4 := bx hn5; have R3 := bx (HRD3.out.below B.out); have HLe := bx hL
      clear hr4 hn4 hc4 hL hn5
      go_wp2_with fail
      refine (sized_any A4 n4 c4 L A3 n3 cap3 ds _ R4.out N4.out R3.out HNIL3.out HL.out (by omega)).mono ?_
      rintro e w5 ⟨r5, rfl, ho, hb⟩
      rw [HLe.out] at ho
      have O5 := bx (ho.base_le B.out.size); have B5 := bx (B.out.trans (hb.mono B.out.size))
      clear ho hb
      go_wp2_with fail
      go_ret
      exact ⟨_, rfl, O5.out, B5.out⟩
end Go.Proofs.Ythnommoljikaiaa
