/- AcceptTells: accept.Put. -/
import Derived.Test.YthnommoljikaiaaTel1
import Derived.Test.YthnommoljikaiaaReg3
set_option linter.unusedSimpArgs false
set_option linter.unusedVariables false
namespace Go.Proofs.Ythnommoljikaiaa
open Go.RowKit

set_option maxRecDepth 100000 in
set_option maxHeartbeats 400000 in
theorem aput_any (p : Pin) (w : World) (hp : p.s.length = 32) :
    Calls Try.prog 45 #[p.val] w fun x w' => ∃ A c, x = .returned (.slice A 48 c) ∧ RdB w' A 48 (be p.g 8 ++ be p.e 8 ++ p.s) ∧ (A = none → c = 0) ∧ Below w.heap.size w w' := by
  obtain ⟨g, e, s⟩ := p
  dsimp only at hp ⊢
  show Calls Try.prog 45 #[.agg (pinCells g e s)] w _
  obtain ⟨w0, hw0⟩ : ∃ w0, w0 = w.alloc (.cells (pinCells g e s) 84) := ⟨_, rfl⟩
  have K0 : Bx (w0.heap[w.heap.size]? = some (.cells (pinCells g e s) 84 (0, 0))) := ⟨by rw [hw0]; exact blk_new w _⟩
  have B0 : Bx (Below w.heap.size w w0) := ⟨by rw [hw0]; exact (Below.refl _ _).alloc (Nat.le_refl _) _⟩
  have HS := bx hp
  have HC : Bx (∀ w', Below w0.heap.size w0 w' → w'.cell? ⟨w.heap.size, 0, none⟩ = some (.int .u64 g) ∧ w'.cell? ⟨w.heap.size, 1, none⟩ = some (.int .u64 e)) := ⟨fun w' hb => by
    have hk := (hb.block _ (blk_lt K0.out)).trans K0.out
    exact ⟨blk_cell hk rfl, blk_cell hk rfl⟩⟩
  have HRD : Bx (∀ w', Below w0.heap.size w0 w' → RdB w' (some ⟨w.heap.size, 2, none⟩) 32 s) := ⟨fun w' hb => pin_rd HS.out ((hb.block _ (blk_lt K0.out)).trans K0.out)⟩
  have sl := fun w' => arr_slice_all (P := Try.prog) Try.underlying81 Try.sizeOf5 w.heap.size 2 w'
  have HG : Bx (([] ++ be g 8).length = 8) := ⟨by rw [List.nil_append, be_length]⟩
  have HE : Bx (([] ++ be g 8 ++ be e 8).length = 16) := ⟨by rw [List.nil_append, List.length_append, be_length, be_length]⟩
  have HT : Bx ([] ++ be g 8 ++ be e 8 ++ s = be g 8 ++ be e 8 ++ s) := ⟨by rw [List.nil_append]⟩
  have HL : Bx (([] ++ be g 8 ++ be e 8 ++ s).length = 48) := ⟨by rw [List.length_append, HE.out, HS.out]⟩
  have HW := bx hw0
  clear hp hw0
  go_enter Try.func45, Try.ntmps45
  go_upto_region 1 with fail
  rw [← HW.out]
  clear HW
  have hS0 : Below w0.heap.size w0 w0.drew := (Below.refl _ _).drew
  refine wp_region_held_drew (S := (fun w' => Below w0.heap.size w0 w')) (by kernel_rfl) hS0 (fun hS => ?_)
  refine takeH (i := 0) (d := 3) (v := ?_) rfl rfl (by kernel_rfl) (by kernel_rfl) (by kernel_rfl) (fun _ _ _ h => h) (Or.inl ⟨by kernel_rfl, ?_⟩) hS ?_; rotate_left 1; (focus ((intro w' hS'; clear hS'; go_simp; try with_reducible rfl); done))
  try simp only [List.setIfInBounds_toArray, List.set_cons_zero, List.set_cons_succ]
  refine takeH (i := 1) (d := 4) (v := ?_) rfl rfl (by kernel_rfl) (by kernel_rfl) (by kernel_rfl) (fun _ _ _ h => h) (Or.inl ⟨by kernel_rfl, ?_⟩) hS ?_; rotate_left 1; (focus ((intro w' hS'; obtain ⟨z0, z1⟩ := HC.out w' hS'; clear hS'; go_simp; try with_reducible rfl); done))
  try simp only [List.setIfInBounds_toArray, List.set_cons_zero, List.set_cons_succ]
  refine takeH (i := 3) (d := 6) (v := ?_) rfl rfl (by kernel_rfl) (by kernel_rfl) (by kernel_rfl) (fun _ _ _ h => h) (Or.inl ⟨by kernel_rfl, ?_⟩) hS ?_; rotate_left 1; (focus ((intro w' hS'; clear hS'; go_simp; try with_reducible rfl); done))
  try simp only [List.setIfInBounds_toArray, List.set_cons_zero, List.set_cons_succ]
  refine takeH (i := 4) (d := 7) (v := ?_) rfl rfl (by kernel_rfl) (by kernel_rfl) (by kernel_rfl) (fun _ _ _ h => h) (Or.inl ⟨by kernel_rfl, ?_⟩) hS ?_; rotate_left 1; (focus ((intro w' hS'; obtain ⟨z0, z1⟩ := HC.out w' hS'; clear hS'; go_simp; try with_reducible rfl); done))
  try simp only [List.setIfInBounds_toArray, List.set_cons_zero, List.set_cons_succ]
  refine takeH (i := 6) (d := 9) (v := ?_) rfl rfl (by kernel_rfl) (by kernel_rfl) (by kernel_rfl) (fun _ _ _ h => h) (Or.inl ⟨by kernel_rfl, ?_⟩) hS ?_; rotate_left 1; (focus ((intro w' hS'; clear hS'; go_simp; try with_reducible rfl); done))
  try simp only [List.setIfInBounds_toArray, List.set_cons_zero, List.set_cons_succ]
  refine takeH (i := 7) (d := 10) (v := ?_) rfl rfl (by kernel_rfl) (by kernel_rfl) (by kernel_rfl) (fun _ _ _ h => h) (Or.inl ⟨by kernel_rfl, ?_⟩) hS ?_; rotate_left 1; (focus ((intro w' hS'; clear hS'; go_simp; try with_reducible rfl); done))
  try simp only [List.setIfInBounds_toArray, List.set_cons_zero, List.set_cons_succ]
  refine wpAnyH_ready (rs := [2]) (by kernel_rfl) (by simp) ?_
  refine AllReadyH.cons rfl (fun K hK => ?_) AllReadyH.nil
  go_simp
  refine (wput_any none 0 0 [] g 8 _ ⟨rfl, fun h => absurd h (by decide)⟩ (fun _ => rfl) (by decide) (by decide)).mono ?_
  rintro x w1 ⟨r, rfl, ho, hb⟩
  obtain ⟨A1, c1, rfl, hr1, hc1, hn1⟩ := ho.rdn HG.out
  have R1 := bx hr1; have N1 := bx hn1; have HB1 := bx hb
  clear ho hb hr1 hc1 hn1
  refine hK.out _ _ ?_ (fun hS2 => ?_)
  · exact hS.trans (HB1.out.mono hS.size)
  clear hK K hS; have hS := hS2; clear hS2
  try simp only [Act.put, List.setIfInBounds_toArray, List.set_cons_zero, List.set_cons_succ]
  refine wpAnyH_ready (rs := [5]) (by kernel_rfl) (by simp) ?_
  refine AllReadyH.cons rfl (fun K hK => ?_) AllReadyH.nil
  go_simp
  refine (wput_any A1 8 c1 ([] ++ be g 8) e 8 _ R1.out N1.out (by decide) (by decide)).mono ?_
  rintro x w2 ⟨r, rfl, ho, hb⟩
  have O2 := bx (ho.base_le hS.size); have HB2 := bx hb
  clear ho hb
  refine hK.out _ _ ?_ (fun hS2 => ?_)
  · exact hS.trans (HB2.out.mono hS.size)
  clear hK K hS; have hS := hS2; clear hS2
  try simp only [Act.put, List.setIfInBounds_toArray, List.set_cons_zero, List.set_cons_succ]
  refine wpAnyH_ready (rs := [8]) (by kernel_rfl) (by simp) ?_
  refine readyH_list rfl (fun K hK => ?_) AllReadyH.nil
  refine wpList_app rfl (.tmp 8) (.tmp 10) rfl w0.heap.size r ([] ++ be g 8 ++ be e 8) rfl O2.out (some ⟨w.heap.size, 2, none⟩) 32 32 s rfl (HRD.out _ hS) (fun h => by cases h) (by rw [HE.out]; decide) hS.size ?_
  intro v3 w3 h1 h2
  have O3 := bx h1; have G3 := bx h2
  clear h1 h2
  show wpList _ _ K [] (Act.put _ (some 11) v3) w3
  refine hK.out _ _ ?_ (fun hS2 => ?_)
  · exact O2.out.below G3.out hS (Nat.le_refl _) hS.size
  clear hK K hS; have hS := hS2; clear hS2
  try simp only [Act.put, List.setIfInBounds_toArray, List.set_cons_zero, List.set_cons_succ]
  refine takeH (i := 9) (d := 2) (v := ?_) rfl rfl (by kernel_rfl) (by kernel_rfl) (by kernel_rfl) (fun _ _ _ h => h) (Or.inl ⟨by kernel_rfl, ?_⟩) hS ?_; rotate_left 1; (focus ((intro w' hS'; clear hS'; go_simp; try with_reducible rfl); done))
  try simp only [List.setIfInBounds_toArray, List.set_cons_zero, List.set_cons_succ]
  refine wpAnyH_done (by kernel_rfl) ?_ _
  obtain ⟨A3, c3, rfl, hr3, hc3, hn3⟩ := O3.out.rdn HL.out
  rw [HT.out] at hr3
  have R3 := bx hr3; have N3 := bx hn3; have B3 := bx (B0.out.trans (hS.mono B0.out.size))
  clear hr3 hc3 hn3 hS hS0
  go_wp2_with fail
  go_ret
  exact ⟨A3, c3, rfl, R3.out, N3.out, B3.out⟩
end Go.Proofs.Ythnommoljikaiaa
