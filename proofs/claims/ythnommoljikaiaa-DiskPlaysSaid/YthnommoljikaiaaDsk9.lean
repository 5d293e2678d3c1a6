/- The walk over Fall. -/
import Derived.Test.YthnommoljikaiaaDsk8
set_option linter.unusedSimpArgs false
set_option linter.unusedVariables false
namespace Go.Proofs.Ythnommoljikaiaa
open Go.RowKit

/-- n whole numbers can be read there. -/
def RdI (w : World) (A : Option Addr) (n : Nat) (fs : List Int) : Prop :=
  fs.length = n ∧ (0 < n → ∃ b o, A = some ⟨b, o, none⟩ ∧ b < w.heap.size ∧ ∀ j, j < n → w.cell? ⟨b, o + j, none⟩ = some (.int .i64 (fs.getD j 0)))
theorem RdI.below {w w' : World} {A : Option Addr} {n : Nat} {fs : List Int} (h : RdI w A n fs) (hb : Below w.heap.size w w') : RdI w' A n fs :=
  ⟨h.1, fun hn => by
    obtain ⟨b, o, rfl, hl, hc⟩ := h.2 hn
    exact ⟨b, o, rfl, Nat.lt_of_lt_of_le hl hb.size, fun j hj => (hb.cell (p := ⟨b, o + j, none⟩) hl).trans (hc j hj)⟩⟩
theorem RdI.onlyMap {w w' : World} {A : Option Addr} {n mb : Nat} {fs : List Int} {g : Int → Option Value} (h : RdI w A n fs) (hm : MapI .i64 w mb g) (ho : Only (fun j => j = mb) w w') : RdI w' A n fs :=
  ⟨h.1, fun hn => by
    obtain ⟨b, o, rfl, hl, hc⟩ := h.2 hn
    have hne : b ≠ mb := fun e => by
      obtain ⟨es, c, hb, _⟩ := hm
      have h0 := hc 0 hn
      rw [e] at h0
      simp [World.cell?, hb] at h0
    exact ⟨b, o, rfl, Nat.lt_of_lt_of_le hl ho.size, fun j hj => (World.cell?_of_block (w := w) (a := ⟨b, o + j, none⟩) (ho.block b hl hne)).trans (hc j hj)⟩⟩
/-- The fate of the k-th write: one that is not told of is lost. -/
def fate (fs : List Int) (k : Nat) : Int := fs.getD k 0
def fallOf (st : DSt) (fs : List Int) : DSt := { settled st (fate fs) with left := -1, down := false }
theorem fate_beyond {fs : List Int} {k : Nat} (h : fs.length ≤ k) : fate fs k = 0 := by simp [fate, List.getD_eq_getElem?_getD, List.getElem?_eq_none h]
theorem settleOf_zero (st : DSt) (a : Int) (b : List Int) : settleOf st a b 0 = st := by rw [settleOf, if_pos (Int.le_refl 0)]

set_option maxRecDepth 100000 in
set_option maxHeartbeats 2000000 in
theorem dfall_any (w : World) (S : Nat → Prop) (D : Nat) (st : DSt) (A : Option Addr) (n cap : Nat) (fs : List Int) (h : DskIs w S D st) (hf : RdI w A n fs) (hu : st.und.length ≤ 100000) (hn : n ≤ 1152921504606846976) :
    Calls Try.prog 23 #[.pointer (some ⟨D, 0, none⟩), .slice A n cap] w fun e w' => e = .returned (.tuple #[]) ∧ DskIs w' S D (fallOf st fs) ∧ Only S w w' := by
  obtain ⟨mb, uv, hd⟩ := h
  have HN := bx (none_any w D st.n (.map (some mb)) uv st.left st.down hd.blk hd.n1)
  have HD := bx hd; have HFS := bx hf
  obtain ⟨uA, uc, hue⟩ := ownsRow_len hd.und
  obtain ⟨L, hL⟩ : ∃ L, L = st.und.length := ⟨_, rfl⟩
  have HE : Bx (uv = .slice uA L uc) := ⟨by rw [hue, hL]⟩
  have hL2 : L ≤ 100000 := by rw [hL]; exact hu
  have c2 : w.cell? ⟨D, 2, none⟩ = some (.slice uA L uc) := by rw [← HE.out]; exact blk_cell hd.blk rfl
  have HL := bx hL
  clear hd hf hue hL hu
  go_enter Try.func23, Try.ntmps23
  go_wp2_with fail
  refine HN.out.mono ?_
  rintro e w' ⟨rfl, rfl⟩
  go_wp2_with fail
  go_loopw [13] (fun q wr => ∃ k : Nat, k ≤ L ∧ q = .int .i64 k ∧ DskAt wr S D mb uv (settleUp st (fate fs) k) ∧ Only (fun j => j = mb) w wr) (fun q _ => L - (intOf q).toNat)
  case atStart => exact ⟨0, Nat.zero_le _, rfl, HD.out, Only.refl _ _⟩
  case round =>
    obtain ⟨k, hk, rfl, hp, hb⟩ := hrel
    have PR := bx hp; have BR := bx hb
    clear hp hb c2
    have hrest := settleUp_rest st (fate fs) k
    by_cases hlt : k < L
    · have hkl : k < st.und.length := by rw [← HL.out]; exact hlt
      have hex := und_extract (u := st.und) (w := wr) (uv := uv) (by have := PR.out.und; rw [hrest.1] at this; exact this) HD.out.unds (by omega)
      have hst := settleUp_succ st (fate fs) k hkl
      have hok := HD.out.unds st.und[k] (List.getElem_mem hkl)
      obtain ⟨g, cap', cur, hue, hh, hcap, hx⟩ := hex
      obtain ⟨hx1, hx2⟩ := hx k hkl
      rw [HE.out] at hue
      simp only [Value.slice.injEq] at hue
      obtain ⟨rfl, hx0, rfl⟩ := hue
      clear hx0
      generalize st.und[k] = x at hst hok hx2
      obtain ⟨xa, xb⟩ := x
      dsimp only at hst hok hx2
      have HX1 := bx hx1; have HX2 := bx hx2; have HOX := bx hok; have H2 := bx hh; have HSX := bx hst
      have hix : (k : Int) < L := by omega
      have HWI : Bx ((Try.prog.info? 142).map (·.size) = some (wCells xa xb).size) := ⟨by rw [wCells_size hok]; exact wrInfo⟩
      have HWF : Bx (0 + (wCells xa xb).size ≤ (wCells 0 zeros256).size) := ⟨by rw [wCells_size hok, wCells_size zeros_ok]; decide⟩
      have HWP : Bx (putRow (wCells 0 zeros256) 0 (wCells xa xb).toList = wCells xa xb) := ⟨putRow_all _ _ (by rw [Array.length_toList, wCells_size hok, wCells_size zeros_ok])⟩
      have EW : Bx ((wCells xa xb).extract 0 (0 + 257) = wCells xa xb) := ⟨by rw [← wCells_size (at_ := xa) hok, Nat.zero_add, Array.extract_size]⟩
      have HFR := bx (show RdI wr A n fs by obtain ⟨g0, hm0, _⟩ := HD.out.map; exact HFS.out.onlyMap hm0 BR.out)
      clear hh hx hx1 hx2 hok hst hrest
      by_cases hkn : k < n
      · have hkn' : (k : Int) < n := by omega
        obtain ⟨fb, fo, rfl, hfl, hfc⟩ := HFR.out.2 (by omega)
        have hfk := hfc k hkn
        have hfe : Bx (fate fs k = fs.getD k 0) := ⟨rfl⟩
        generalize fs.getD k 0 = fk at hfk hfe
        have HFK := bx hfk
        clear hfk hfc hkn
        go_wp2_with (first
          | ((with_reducible refine at_load 17 ?_); go_must (refine wpList_load_agg rfl 142 (.tmp 16) rfl g (k * 257) rfl 142 cur 257 _ H2.out Try.underlying142 rfl wrInfo HX1.out (wCells xa xb) HX2.out ?_))
          | ((with_reducible refine at_store (.tmp 5) (.tmp 17) ?_); go_must (refine wpList_store_agg rfl 142 (.tmp 5) (.tmp 17) rfl wr.heap.size 0 (wCells xa xb) rfl rfl 142 (wCells 0 zeros256) (blk_wr wr) HWI.out HWF.out (wCells_one _ _) (wCells xa xb) HWP.out ?_; intro w5 hu5; have b5 := ((Below.refl wr.heap.size wr).alloc (Nat.le_refl _) (.cells Try.zeroCells142 142)).trans (hu5.below (Nat.le_refl _)); have P5 := bx hu5.same; have B5 := bx b5; clear hu5 b5)))
        have HD5 := bx (PR.out.kept B5.out)
        have hS0 : Only (fun j => j = mb) w5 w5.drew := (Only.refl _ _).drew
        have HF5 : Bx (∀ w', Only (fun j => j = mb) w5 w' → w'.heap[wr.heap.size]? = some (.cells (wCells xa xb) 142 (0, 0)) ∧ w'.cell? ⟨fb, fo + k, none⟩ = some (.int .i64 fk)) := ⟨fun w' ho => by
          have h1 : wr.heap.size ≠ mb := fun e => by have := PR.out.lt mb (.inr (.inl rfl)); omega
          have h2 : fb ≠ mb := fun e => by
            obtain ⟨g0, ⟨es, c, hb, _⟩, _⟩ := PR.out.map
            have h0 := HFK.out
            rw [e] at h0
            simp [World.cell?, hb] at h0
          exact ⟨(ho.block _ (blk_lt P5.out) h1).trans P5.out, (World.cell?_of_block (w := w5) (a := ⟨fb, fo + k, none⟩) (ho.block fb (Nat.lt_of_lt_of_le hfl B5.out.size) h2)).trans ((B5.out.cell (p := ⟨fb, fo + k, none⟩) hfl).trans HFK.out)⟩⟩
        have HD5d := bx (HD5.out.kept (Below.refl w5.heap.size w5).drew)
        refine wp_region_held_drew (S := (fun w' => Only (fun j => j = mb) w5 w')) (by kernel_rfl) hS0 (fun hS => ?_)
        refine takeH (i := 0) (d := 22) (v := ?_) rfl rfl (by kernel_rfl) (by kernel_rfl) (by kernel_rfl) (fun _ _ _ h => h) (Or.inl ⟨by kernel_rfl, ?_⟩) hS ?_; rotate_left 1; (focus ((intro w' hS'; clear hS'; go_simp; try with_reducible rfl); done))
        try simp only [List.setIfInBounds_toArray, List.set_cons_zero, List.set_cons_succ]
        refine takeH (i := 1) (d := 23) (v := .agg (wCells xa xb)) rfl rfl (by kernel_rfl) (by kernel_rfl) (by kernel_rfl) (fun _ _ _ h => h) (Or.inl ⟨by kernel_rfl, fun w' hS' => exec_load_agg 142 (.tmp 5) rfl wr.heap.size 0 rfl 142 (wCells xa xb) 257 _ (HF5.out w' hS').1 Try.underlying142 rfl wrInfo (by rw [wCells_size HOX.out]; decide) (wCells xa xb) EW.out⟩) hS ?_
        try simp only [List.setIfInBounds_toArray, List.set_cons_zero, List.set_cons_succ]
        refine takeH (i := 2) (d := 24) (v := ?_) rfl rfl (by kernel_rfl) (by kernel_rfl) (by kernel_rfl) (fun _ _ _ h => h) (Or.inl ⟨by kernel_rfl, ?_⟩) hS ?_; rotate_left 1; (focus ((intro w' hS'; clear hS'; go_simp; try with_reducible rfl); done))
        try simp only [List.setIfInBounds_toArray, List.set_cons_zero, List.set_cons_succ]
        refine takeH (i := 3) (d := 25) (v := ?_) rfl rfl (by kernel_rfl) (by kernel_rfl) (by kernel_rfl) (fun _ _ _ h => h) (Or.inl ⟨by kernel_rfl, ?_⟩) hS ?_; rotate_left 1; (focus ((intro w' hS'; clear hS'; go_simp; try with_reducible rfl); done))
        try simp only [List.setIfInBounds_toArray, List.set_cons_zero, List.set_cons_succ]
        refine takeH (i := 4) (d := 26) (v := ?_) rfl rfl (by kernel_rfl) (by kernel_rfl) (by kernel_rfl) (fun _ _ _ h => h) (Or.inl ⟨by kernel_rfl, ?_⟩) hS ?_; rotate_left 1; (focus ((intro w' hS'; clear hS'; go_simp; try with_reducible rfl); done))
        try simp only [List.setIfInBounds_toArray, List.set_cons_zero, List.set_cons_succ]
        refine takeH (i := 5) (d := 27) (v := ?_) rfl rfl (by kernel_rfl) (by kernel_rfl) (by kernel_rfl) (fun _ _ _ h => h) (Or.inl ⟨by kernel_rfl, ?_⟩) hS ?_; rotate_left 1; (focus ((intro w' hS'; have k1 := (HF5.out w' hS').2; clear hS'; go_simp; try with_reducible rfl); done))
        try simp only [List.setIfInBounds_toArray, List.set_cons_zero, List.set_cons_succ]
        refine wpAnyH_ready (rs := [6]) (by kernel_rfl) (by simp) ?_
        refine AllReadyH.cons rfl (fun K hK => ?_) AllReadyH.nil
        go_simp
        refine (settle_any _ S D mb uv (settleUp st (fate fs) k) xa xb fk HD5d.out HOX.out).mono ?_
        rintro e w6 ⟨rfl, hd6, ho6⟩
        rw [← hfe.out, ← HSX.out] at hd6
        have HD6 := bx hd6; have O6 := bx ho6
        clear hd6 ho6
        refine hK.out _ _ ?_ (fun hS2 => ?_)
        · exact hS.trans O6.out
        clear hK K hS; have hS := hS2; clear hS2
        try simp only [Act.put, List.setIfInBounds_toArray, List.set_cons_zero, List.set_cons_succ]
        refine wpAnyH_done (by kernel_rfl) ?_ _
        have OR := bx ((BR.out.trans (only_of_below B5.out)).trans hS)
        clear hS hS0
        go_wp2_with fail
        exact ⟨⟨k + 1, by omega, by go_num, HD6.out, OR.out⟩, by simp [intOf]; omega⟩
      · have hkn' : ¬ (k : Int) < n := by omega
        have hz : fate fs k = 0 := fate_beyond (by rw [HFS.out.1]; omega)
        have HSZ : Bx (settleUp st (fate fs) (k + 1) = settleUp st (fate fs) k) := ⟨by rw [HSX.out, hz, settleOf_zero]⟩
        clear hz
        go_wp2_with (first
          | ((with_reducible refine at_load 17 ?_); go_must (refine wpList_load_agg rfl 142 (.tmp 16) rfl g (k * 257) rfl 142 cur 257 _ H2.out Try.underlying142 rfl wrInfo HX1.out (wCells xa xb) HX2.out ?_))
          | ((with_reducible refine at_store (.tmp 5) (.tmp 17) ?_); go_must (refine wpList_store_agg rfl 142 (.tmp 5) (.tmp 17) rfl wr.heap.size 0 (wCells xa xb) rfl rfl 142 (wCells 0 zeros256) (blk_wr wr) HWI.out HWF.out (wCells_one _ _) (wCells xa xb) HWP.out ?_; intro w5 hu5; have b5 := ((Below.refl wr.heap.size wr).alloc (Nat.le_refl _) (.cells Try.zeroCells142 142)).trans (hu5.below (Nat.le_refl _)); have B5 := bx b5; clear hu5 b5)))
        exact ⟨⟨k + 1, by omega, by go_num, by rw [HSZ.out]; exact PR.out.kept B5.out, BR.out.trans (only_of_below B5.out)⟩, by simp [intOf]; omega⟩
    · obtain rfl : k = L := by omega
      have hix : ¬ (k : Int) < k := by omega
      have f2 : wr.frozen? ⟨D, 2, none⟩ = false := blk_frozen 2 PR.out.blk
      have f3 : wr.frozen? ⟨D, 3, none⟩ = false := blk_frozen 3 PR.out.blk
      have f4 : wr.frozen? ⟨D, 4, none⟩ = false := blk_frozen 4 PR.out.blk
      have e2 : wr.cell? ⟨D, 2, none⟩ = some uv := blk_cell PR.out.blk rfl
      have e3 : wr.cell? ⟨D, 3, none⟩ = some (.int .i64 (settleUp st (fate fs) k).left) := blk_cell PR.out.blk rfl
      have e4 : wr.cell? ⟨D, 4, none⟩ = some (.bool (settleUp st (fate fs) k).down) := blk_cell PR.out.blk rfl
      have HF := bx PR.out.clear
      clear hrest
      go_wp2_with fail
      refine bodyPost_end (results_none rfl _ _ _) rfl ?_
      have hu4 := upd_cell HF.out.1.blk (j := 4) (.bool false)
      have hu3 := upd_cell hu4.same (j := 3) (.int .i64 (-1))
      have hu := hu4.trans hu3
      refine ⟨rfl, ⟨mb, .slice none 0 0, ?_⟩, ((BR.out.mono (fun j hj => hj ▸ HD.out.inM)).trans HF.out.2).upd hu HD.out.inD⟩
      have := HF.out.1.upd (left := -1) (down := false) hu (by decide) (by decide)
      show DskAt _ S D mb _ (fallOf st fs)
      rw [fallOf, settled, ← HL.out]
      exact this
end Go.Proofs.Ythnommoljikaiaa
