/- The walk over Clone of a disk. -/
import Derived.Test.YthnommoljikaiaaDsk14
set_option linter.unusedSimpArgs false
set_option linter.unusedVariables false
namespace Go.Proofs.Ythnommoljikaiaa
open Go.RowKit

theorem dInfo : (Try.prog.info? 63).map (·.size) = some 5 := by kernel_rfl
theorem undCells_one {u : List (Int × List Int)} : ∀ x ∈ undCells u, x.oneCell' = true := by
  intro x hx
  simp only [undCells, List.mem_flatMap, List.mem_cons, List.mem_map] at hx
  obtain ⟨y, _, rfl | ⟨z, _, rfl⟩⟩ := hx <;> rfl
theorem ownsRow_base {w : World} {b b' : Nat} {e : TypeId} {size : Nat} {v : Value} {n : Nat} {xs : List Value} (h : w.ownsRow b e size v n xs) (hb : b' ≤ b) : w.ownsRow b' e size v n xs ∧ ∀ k, v.ownBlock = some k → b ≤ k := by
  obtain ⟨h1, h2 | ⟨g, cap, cur, e', hg, h3⟩⟩ := h
  · exact ⟨⟨h1, .inl h2⟩, fun k hk => by rw [h2.1] at hk; cases hk⟩
  · exact ⟨⟨h1, .inr ⟨g, cap, cur, e', by omega, h3⟩⟩, fun k hk => by rw [e'] at hk; cases hk; exact hg⟩
/-- A disk whose parts were cloned. -/
theorem DskAt.cloned {w w6 : World} {S : Nat → Prop} {D mb C mb5 B5 : Nat} {uv v6 mv uv0 : Value} {st : DSt} {g : Int → Option Value} (h : DskAt w S D mb uv st) (hg : ∀ k, (g k = none ∧ st.f k = zeros256) ∨ g k = some (.agg (ints .u8 (st.f k))))
    (hC : w6.heap[C]? = some (.cells (dCells st.n mv uv0 st.left st.down) 63 (0, 0))) (hm : MapI .i64 w6 mb5 g) (hv : w6.ownsRow B5 142 257 v6 st.und.length (undCells st.und))
    (hC0 : w.heap.size ≤ C) (hm5 : C < mb5) (hB5 : C < B5) :
    DskIs ((w6.setCell ⟨C, 1, none⟩ (.map (some mb5))).setCell ⟨C, 2, none⟩ v6) (fun k => w.heap.size ≤ k) C st := by
  have hu := (upd_cell hC (j := 1) (.map (some mb5))).trans (upd_cell (upd_cell hC (j := 1) (.map (some mb5))).same (j := 2) v6)
  obtain ⟨hv0, hvb⟩ := ownsRow_base hv (Nat.zero_le _)
  exact ⟨mb5, v6, hu.same, ⟨g, hm.same (hu.other mb5 (by omega)), hg⟩, ownsRow_same hv0 (fun k hk => hu.other k (by have := hvb k hk; omega)), hC0, by omega, (fun k hk => by have := hvb k hk; omega), h.secs, h.unds, h.lo, h.hi, h.n1, h.n2⟩

set_option maxRecDepth 100000 in
set_option maxHeartbeats 1000000 in
theorem dclone_any (w : World) (S : Nat → Prop) (D : Nat) (st : DSt) (h : DskIs w S D st) (hu : st.und.length ≤ 100000) :
    Calls Try.prog 35 #[.pointer (some ⟨D, 0, none⟩)] w fun e w' => ∃ C, e = .returned (.pointer (some ⟨C, 0, none⟩)) ∧ DskIs w' (fun k => w.heap.size ≤ k) C st ∧ Below w.heap.size w w' := by
  obtain ⟨mb, uv, hd⟩ := h
  have HN := bx (none_any w D st.n (.map (some mb)) uv st.left st.down hd.blk hd.n1)
  obtain ⟨g, hm, hg⟩ := hd.map
  obtain ⟨uA, uc, hue⟩ := ownsRow_len hd.und
  obtain ⟨L, hL⟩ : ∃ L, L = st.und.length := ⟨_, rfl⟩
  have hue2 : uv = .slice uA L uc := by rw [hue, hL]
  subst hue2
  have HL := bx hL
  have HS : Bx (∀ w', Below w.heap.size w w' → w'.cell? ⟨D, 1, none⟩ = some (.map (some mb)) ∧ w'.cell? ⟨D, 2, none⟩ = some (.slice uA L uc) ∧ MapI .i64 w' mb g ∧ w'.ownsRow 0 142 257 (.slice uA L uc) L (undCells st.und)) :=
    ⟨fun w' hb => ⟨blk_cell ((hb.block D (blk_lt hd.blk)).trans hd.blk) rfl, blk_cell ((hb.block D (blk_lt hd.blk)).trans hd.blk) rfl, hm.same (hb.block mb hm.lt), by rw [hL]; rw [hL] at hd; exact (hd.kept hb).und⟩⟩
  have HD := bx hd; have HG := bx hg
  have HLL : Bx (L ≤ 100000) := ⟨by rw [hL]; exact hu⟩
  have HW0 : Bx ((w.alloc (.cells (dCells 0 (.map none) (.slice none 0 0) 0 false) 63)).heap[w.heap.size]? = some (.cells (dCells 0 (.map none) (.slice none 0 0) 0 false) 63 (0, 0))) := ⟨blk_new w _⟩
  have h1c : ∀ v ∈ (dCells st.n (.map (some mb)) (.slice uA L uc) st.left st.down).toList, v.oneCell' = true := by
    intro v hv
    simp only [dCells, List.mem_cons, List.not_mem_nil, or_false] at hv
    rcases hv with rfl | rfl | rfl | rfl | rfl <;> rfl
  have H1C := bx h1c
  clear hd hm hg hue hL hu h1c
  go_enter Try.func35, Try.ntmps35
  go_wp2_with fail
  refine HN.out.mono ?_
  rintro e w' ⟨rfl, rfl⟩
  go_wp2_with (first
    | ((with_reducible refine at_load 8 ?_); go_must (refine wpList_load_agg rfl 63 (.tmp 7) rfl D 0 rfl 63 (dCells st.n (.map (some mb)) (.slice uA L uc) st.left st.down) 5 _ HD.out.blk Try.underlying63 rfl dInfo (Nat.le_refl 5) (dCells st.n (.map (some mb)) (.slice uA L uc) st.left st.down) rfl ?_))
    | ((with_reducible refine at_store (.tmp 3) (.tmp 8) ?_); go_must (refine wpList_store_agg rfl 63 (.tmp 3) (.tmp 8) rfl w.heap.size 0 (dCells st.n (.map (some mb)) (.slice uA L uc) st.left st.down) rfl rfl 63 (dCells 0 (.map none) (.slice none 0 0) 0 false) HW0.out dInfo (Nat.le_refl 5) H1C.out (dCells st.n (.map (some mb)) (.slice uA L uc) st.left st.down) (putRow_all _ _ rfl) ?_; intro w2 hu2; have P2 := bx hu2.same; have B2 := bx (((Below.refl w.heap.size w).alloc (Nat.le_refl _) (.cells (dCells 0 (.map none) (.slice none 0 0) 0 false) 63)).trans (hu2.below (Nat.le_refl _))); clear hu2)))
  have hS0 : Below w.heap.size w w2.drew := B2.out.drew
  have P2d : Bx (w2.drew.heap[w.heap.size]? = some (.cells (dCells st.n (.map (some mb)) (.slice uA L uc) st.left st.down) 63 (0, 0))) := ⟨P2.out⟩
  refine wp_region_held_drew (S := (fun w' => Below w.heap.size w w')) (by kernel_rfl) hS0 (fun hS => ?_)
  refine takeH (i := 0) (d := 9) (v := ?_) rfl rfl (by kernel_rfl) (by kernel_rfl) (by kernel_rfl) (fun _ _ _ h => h) (Or.inl ⟨by kernel_rfl, ?_⟩) hS ?_; rotate_left 1; (focus ((intro w' hS'; clear hS'; go_simp; try with_reducible rfl); done))
  try simp only [List.setIfInBounds_toArray, List.set_cons_zero, List.set_cons_succ]
  refine takeH (i := 1) (d := 10) (v := ?_) rfl rfl (by kernel_rfl) (by kernel_rfl) (by kernel_rfl) (fun _ _ _ h => h) (Or.inl ⟨by kernel_rfl, ?_⟩) hS ?_; rotate_left 1; (focus ((intro w' hS'; clear hS'; go_simp; try with_reducible rfl); done))
  try simp only [List.setIfInBounds_toArray, List.set_cons_zero, List.set_cons_succ]
  refine takeH (i := 2) (d := 11) (v := ?_) rfl rfl (by kernel_rfl) (by kernel_rfl) (by kernel_rfl) (fun _ _ _ h => h) (Or.inl ⟨by kernel_rfl, ?_⟩) hS ?_; rotate_left 1; (focus ((intro w' hS'; clear hS'; go_simp; try with_reducible rfl); done))
  try simp only [List.setIfInBounds_toArray, List.set_cons_zero, List.set_cons_succ]
  refine takeH (i := 3) (d := 12) (v := ?_) rfl rfl (by kernel_rfl) (by kernel_rfl) (by kernel_rfl) (fun _ _ _ h => h) (Or.inl ⟨by kernel_rfl, ?_⟩) hS ?_; rotate_left 1; (focus ((intro w' hS'; obtain ⟨k1, k2, k3, k4⟩ := HS.out w' hS'; clear hS' k3 k4; go_simp; try with_reducible rfl); done))
  try simp only [List.setIfInBounds_toArray, List.set_cons_zero, List.set_cons_succ]
  refine takeH (i := 5) (d := 14) (v := ?_) rfl rfl (by kernel_rfl) (by kernel_rfl) (by kernel_rfl) (fun _ _ _ h => h) (Or.inl ⟨by kernel_rfl, ?_⟩) hS ?_; rotate_left 1; (focus ((intro w' hS'; clear hS'; go_simp; try with_reducible rfl); done))
  try simp only [List.setIfInBounds_toArray, List.set_cons_zero, List.set_cons_succ]
  refine takeH (i := 6) (d := 15) (v := ?_) rfl rfl (by kernel_rfl) (by kernel_rfl) (by kernel_rfl) (fun _ _ _ h => h) (Or.inl ⟨by kernel_rfl, ?_⟩) hS ?_; rotate_left 1; (focus ((intro w' hS'; clear hS'; go_simp; try with_reducible rfl); done))
  try simp only [List.setIfInBounds_toArray, List.set_cons_zero, List.set_cons_succ]
  refine takeH (i := 7) (d := 16) (v := ?_) rfl rfl (by kernel_rfl) (by kernel_rfl) (by kernel_rfl) (fun _ _ _ h => h) (Or.inl ⟨by kernel_rfl, ?_⟩) hS ?_; rotate_left 1; (focus ((intro w' hS'; clear hS'; go_simp; try with_reducible rfl); done))
  try simp only [List.setIfInBounds_toArray, List.set_cons_zero, List.set_cons_succ]
  refine takeH (i := 8) (d := 17) (v := ?_) rfl rfl (by kernel_rfl) (by kernel_rfl) (by kernel_rfl) (fun _ _ _ h => h) (Or.inl ⟨by kernel_rfl, ?_⟩) hS ?_; rotate_left 1; (focus ((intro w' hS'; obtain ⟨k1, k2, k3, k4⟩ := HS.out w' hS'; clear hS' k3 k4; go_simp; try with_reducible rfl); done))
  try simp only [List.setIfInBounds_toArray, List.set_cons_zero, List.set_cons_succ]
  refine wpAnyH_ready (rs := [4]) (by kernel_rfl) (by simp) ?_
  refine AllReadyH.cons rfl (fun K hK => ?_) AllReadyH.nil
  go_simp
  refine (mclone_any _ mb g (HS.out _ hS).2.2.1).mono ?_
  rintro e w5 ⟨rfl, hm5, hb5⟩
  have HM5 := bx hm5; have HB5 := bx hb5; have P5 := bx ((hb5.block _ (blk_lt P2d.out)).trans P2d.out)
  clear hm5 hb5
  refine hK.out _ _ ?_ (fun hS2 => ?_)
  · exact hS.trans (HB5.out.mono hS.size)
  clear hK K hS; have hS := hS2; clear hS2
  try simp only [Act.put, List.setIfInBounds_toArray, List.set_cons_zero, List.set_cons_succ]
  refine wpAnyH_ready (rs := [9]) (by kernel_rfl) (by simp) ?_
  refine AllReadyH.cons rfl (fun K hK => ?_) AllReadyH.nil
  go_simp
  refine (wclone_any _ (.slice uA L uc) L (undCells st.und) (HS.out _ hS).2.2.2 undCells_one HLL.out).mono ?_
  rintro e w6 ⟨v6, rfl, hv6, hb6⟩
  obtain ⟨A6, m6, c6, rfl⟩ := ownsRow_slice hv6
  have HV6 := bx hv6; have HB6 := bx hb6; have P6 := bx ((hb6.block _ (blk_lt P5.out)).trans P5.out); have HM6 := bx (HM5.out.same (hb6.block _ HM5.out.lt))
  have c61 : w6.cell? ⟨w.heap.size, 1, none⟩ = some (.map (some mb)) := blk_cell P6.out rfl
  have f61 : w6.frozen? ⟨w.heap.size, 1, none⟩ = false := blk_frozen 1 P6.out
  have c62 : w6.cell? ⟨w.heap.size, 2, none⟩ = some (.slice uA L uc) := blk_cell P6.out rfl
  have f62 : w6.frozen? ⟨w.heap.size, 2, none⟩ = false := blk_frozen 2 P6.out
  clear hv6 hb6
  refine hK.out _ _ ?_ (fun hS2 => ?_)
  · exact hS.trans (HB6.out.mono hS.size)
  clear hK K hS; have hS := hS2; clear hS2
  try simp only [Act.put, List.setIfInBounds_toArray, List.set_cons_zero, List.set_cons_succ]
  refine takeH (i := 10) (d := 19) (v := ?_) rfl rfl (by kernel_rfl) (by kernel_rfl) (by kernel_rfl) (fun _ _ _ h => h) (Or.inl ⟨by kernel_rfl, ?_⟩) hS ?_; rotate_left 1; (focus ((intro w' hS'; clear hS'; go_simp; try with_reducible rfl); done))
  try simp only [List.setIfInBounds_toArray, List.set_cons_zero, List.set_cons_succ]
  refine wpAnyH_ready (rs := [11]) (by kernel_rfl) (by simp) ?_
  refine AllReadyH.cons rfl (fun K hK => ?_) AllReadyH.nil
  go_simp
  refine hK.out _ _ ?_ (fun hS2 => ?_)
  · exact hS.setCell (Nat.le_refl _) _
  clear hK K hS; have hS := hS2; clear hS2
  try simp only [Act.put, List.setIfInBounds_toArray, List.set_cons_zero, List.set_cons_succ]
  refine takeH (i := 12) (d := 20) (v := ?_) rfl rfl (by kernel_rfl) (by kernel_rfl) (by kernel_rfl) (fun _ _ _ h => h) (Or.inl ⟨by kernel_rfl, ?_⟩) hS ?_; rotate_left 1; (focus ((intro w' hS'; clear hS'; go_simp; try with_reducible rfl); done))
  try simp only [List.setIfInBounds_toArray, List.set_cons_zero, List.set_cons_succ]
  refine wpAnyH_ready (rs := [13]) (by kernel_rfl) (by simp) ?_
  refine AllReadyH.cons rfl (fun K hK => ?_) AllReadyH.nil
  go_simp
  refine hK.out _ _ ?_ (fun hS2 => ?_)
  · exact hS.setCell (Nat.le_refl _) _
  clear hK K hS; have hS := hS2; clear hS2
  try simp only [Act.put, List.setIfInBounds_toArray, List.set_cons_zero, List.set_cons_succ]
  refine wpAnyH_done (by kernel_rfl) ?_ _
  have BF := bx hS
  clear hS hS0 c61 f61 c62 f62
  go_wp2_with fail
  go_ret
  have hlt : w.heap.size < w2.drew.heap.size := blk_lt P2d.out
  refine ⟨w.heap.size, rfl, ?_, BF.out⟩
  have HV6' := HV6.out
  rw [HL.out] at HV6'
  exact HD.out.cloned HG.out P6.out HM6.out HV6' (Nat.le_refl _) hlt (Nat.lt_of_lt_of_le hlt HB5.out.size)
end Go.Proofs.Ythnommoljikaiaa
