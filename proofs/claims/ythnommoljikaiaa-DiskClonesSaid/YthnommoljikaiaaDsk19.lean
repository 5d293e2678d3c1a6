/- The law DiskClones returns true, whatever is written and done. -/
import Derived.Test.YthnommoljikaiaaDsk18
set_option linter.unusedSimpArgs false
set_option linter.unusedVariables false
namespace Go.Proofs.Ythnommoljikaiaa
open Go.RowKit

theorem write_len (st : DSt) (i : Int) (bs : List Int) : (writeOf st i bs).1.und.length ≤ st.und.length + 1 := by
  unfold writeOf
  split
  · show st.und.length ≤ _; omega
  · split
    · show st.und.length ≤ _; omega
    · show (st.und ++ [_]).length ≤ _
      rw [List.length_append]
      exact Nat.le_refl _
theorem sync_len (st : DSt) : (syncOf st).1.und.length ≤ st.und.length := by
  unfold syncOf
  split
  · exact Nat.le_refl _
  · split
    · exact Nat.le_refl _
    · exact Nat.zero_le _
theorem padTo_take {bs : List Int} : (padTo bs).take bs.length = bs := by rw [padTo, List.take_append_of_le_length (Nat.le_refl _), List.take_of_length_le (Nat.le_refl _)]

set_option maxRecDepth 100000 in
set_option maxHeartbeats 8000000 in
theorem clones_any (at0 : Int) (s : Sl) (A : Option Addr) (n cap : Nat) (ls : List ActV) (w : World) (hs : s.Full w) (hl : RowsA w A n ls) (hbig : n ≤ maxLen) :
    Calls Try.prog 6 #[.int .i64 at0, s.val, .slice A n cap] w fun e w' => e = .returned (.bool true) ∧ Below w.heap.size w w' := by
  obtain ⟨sA, sn, sc, sbs⟩ := s
  obtain ⟨⟨hr1, hB1, hc1⟩, hn1, _⟩ := hs
  dsimp only at hr1 hB1 hc1 hn1
  show Calls Try.prog 6 #[.int .i64 at0, .slice sA sn sc, .slice A n cap] w _
  unfold maxLen at hbig
  have HR1 := bx hr1; have HB1 := bx hB1; have HL1 := bx hr1.1; have HRW := bx hl
  clear hr1 hB1 hn1 hl
  by_cases hlong : 256 < sn
  · have h1' : (256 : Int) < sn := by omega
    go_enter Try.func6, Try.ntmps6
    go_wp2_with fail
    refine (dnew_any w 4 (by decide) (by decide)).mono ?_
    rintro e w1 ⟨D, rfl, hd1, hb1⟩
    have B1 := bx hb1
    clear hd1 hb1
    go_wp2_with fail
    go_ret
    exact ⟨rfl, B1.out⟩
  · have h1' : ¬ (256 : Int) < sn := by omega
    have hl1 : sbs.length ≤ 256 := by rw [HL1.out]; omega
    have hsn : sn ≤ 256 := by omega
    obtain ⟨at_, hat, ha0, ha1⟩ : ∃ i, bits .and .i64 at0 3 = i ∧ 0 ≤ i ∧ i ≤ 3 := by
      have : 0 ≤ bits .and .i64 at0 3 ∧ bits .and .i64 at0 3 ≤ 3 := and_le14 at0 3 (by decide)
      exact ⟨_, rfl, this.1, this.2⟩
    have HAT := bx hat
    have hw1 : writeOf (dst0 4) at_ sbs = (⟨4, fun _ => zeros256, [(at_, padTo sbs)], -1, false⟩, 0) := write_up (st := dst0 4) rfl rfl ha0 (by show at_ < 4; omega) hl1
    have hpo := padTo_ok hl1 HB1.out
    have hpt : (padTo sbs).take sn = sbs := by rw [← HL1.out]; exact padTo_take
    have hk2 : ∃ f, syncOf ⟨4, fun _ => zeros256, [(at_, padTo sbs)], -1, false⟩ = (⟨4, f, [], -1, false⟩, 0) ∧ f at_ = padTo sbs := by
      refine ⟨_, by rw [sync_up rfl rfl (by show (1 : Int) ≤ 4; decide)]; rfl, ?_⟩
      show (settleOf ⟨4, fun _ => zeros256, [(at_, padTo sbs)], -1, false⟩ at_ (padTo sbs) 256).f at_ = _
      rw [settle_f hpo.1 zeros_ok.1, if_pos rfl]
    obtain ⟨f2, hsy, hf2⟩ := hk2
    have hrd : readD ⟨4, fun _ => zeros256, [(at_, padTo sbs)], -1, false⟩ at_ = (padTo sbs, 0) := by
      rw [read_up rfl ha0 (by show at_ < 4; omega)]
      show ((if at_ = at_ then padTo sbs else zeros256), (0 : Int)) = _
      rw [if_pos rfl]
    have hsf : safeOf ⟨4, f2, [], -1, false⟩ at_ = (padTo sbs, 0) := by rw [safe_up ha0 (by show at_ < 4; omega)]; exact congrArg (·, 0) hf2
    have HW1 := bx hw1; have HSY := bx hsy; have HRD := bx hrd; have HSF := bx hsf
    have HPO := bx hpo; have HPT := bx hpt
    generalize hst1 : (⟨4, fun _ => zeros256, [(at_, padTo sbs)], -1, false⟩ : DSt) = st1 at *
    have HU1 : Bx (st1.und.length = 1) := ⟨by rw [← hst1]; rfl⟩
    have HUA : Bx (undAts st1.und = [at_]) := ⟨by rw [← hst1]; rfl⟩
    have HDN : Bx (st1.down = false) := ⟨by rw [← hst1]⟩
    generalize padTo sbs = p at *
    clear hat hw1 hsy hf2 hpo hl1 hlong hst1 hrd hsf hpt
    go_enter Try.func6, Try.ntmps6
    go_wp2_with fail
    refine (dnew_any w 4 (by decide) (by decide)).mono ?_
    rintro e w1 ⟨D, rfl, hd1, hb1⟩
    have HD1 := bx hd1; have B1 := bx hb1
    clear hd1 hb1
    go_wp2_with fail
    rw [HAT.out]
    refine (dwrite_any _ (fun k => w.heap.size ≤ k) D (dst0 4) at_ sA sn sc sbs HD1.out (fun j hj => by have := B1.out.size; omega) (HR1.out.below B1.out) HB1.out (by decide)).mono ?_
    rintro e w2 ⟨rfl, hd2, ho2⟩
    rw [HW1.out] at hd2 ⊢
    have HD2 := bx hd2.restrict; have B2 := bx (B1.out.trans (ho2.below B1.out.size (fun k hk => hk)))
    clear hd2 ho2
    go_wp2_with fail
    refine (dclone_any _ _ D st1 HD2.out (by rw [HU1.out]; decide)).mono ?_
    rintro e w3 ⟨C, rfl, hdc3, hb3⟩
    have HD3 := bx (HD2.out.kept hb3); have B3 := bx (B2.out.trans (hb3.mono B2.out.size)); have Z3 := bx hb3.size
    have HDC := bx hdc3.restrict
    clear hdc3 hb3
    obtain ⟨Sd, hSd⟩ : ∃ Sd : Nat → Prop, Sd = fun j => (w.heap.size ≤ j ∧ j < w2.heap.size) ∨ w3.heap.size ≤ j := ⟨_, rfl⟩
    have HSD1 : Bx (∀ j, w3.heap.size ≤ j → Sd j) := ⟨fun j hj => by rw [hSd]; exact .inr hj⟩
    have HSD2 : Bx (∀ j, Sd j → w.heap.size ≤ j) := ⟨fun j hj => by rw [hSd] at hj; rcases hj with h | h <;> have := B3.out.size <;> omega⟩
    have HSD3 : Bx (∀ j, w2.heap.size ≤ j → j < w3.heap.size → ¬ Sd j) := ⟨fun j h1 h2 h3 => by rw [hSd] at h3; rcases h3 with h | h <;> omega⟩
    have HD3' : Bx (DskIs w3 Sd D st1) := ⟨HD3.out.mono fun j hj => by rw [hSd]; exact .inl hj⟩
    clear hSd HD3
    go_wp2_with fail
    go_loopw [10] (fun q wr => ∃ (k : Nat) (st : DSt), k ≤ 30 ∧ q = .int .i64 k ∧ DskIs wr Sd D st ∧ st.und.length ≤ k + 1 ∧ Only Sd w3 wr ∧ Below w.heap.size w wr) (fun q _ => 30 - (intOf q).toNat)
    case atStart => exact ⟨0, st1, by decide, rfl, HD3'.out, by rw [HU1.out]; decide, Only.refl _ _, B3.out⟩
    case round =>
      obtain ⟨k, st, hk, rfl, hdr, hkp, hor, hbr⟩ := hrel
      have HDR := bx hdr; have HKP := bx hkp; have OR := bx hor; have BR := bx hbr
      clear hdr hkp hor hbr
      by_cases hgo : (k : Int) < n ∧ (k : Int) < 30
      · obtain ⟨hg1, hg2⟩ := hgo
        obtain ⟨lb, lo, rfl, hlb, hlc⟩ := HRW.out.2.1 (by omega)
        have hkl : k < ls.length := by rw [HRW.out.1]; omega
        have hcl := fun i v hv => (BR.out.cell (p := ⟨lb, lo + k * 4 + i, none⟩) hlb).trans (hlc k hkl i v hv)
        have hfu := HRW.out.2.2 ls[k] (List.getElem_mem hkl)
        generalize ls[k] = av at hcl hfu
        obtain ⟨kd, N, sb, sf⟩ := av
        have HCL := bx hcl
        obtain ⟨⟨⟨hbr, hbb, hbc⟩, hbn, _⟩, ⟨hfr, hfn, hfc, _⟩, hN1, hN2⟩ := hfu
        obtain ⟨bA, bn, bc, bs6⟩ := sb
        obtain ⟨fA, fn, fc, fs6⟩ := sf
        dsimp only at hbr hbb hbc hbn hfr hfn hfc hN1 hN2
        have HBR := bx hbr; have HBB := bx hbb; have HFR := bx hfr; have HNR := bx hN2
        clear hcl hlc hbr hbb hbn hfr hfn hN1 hN2
        by_cases k0 : kd = 0
        · have e0 : (kd == 0) = true := by simp [k0]
          have e1 : (kd == 1) = false := by simp [k0]
          have e2 : (kd == 2) = false := by simp [k0]
          have e3 : (kd == 3) = false := by simp [k0]
          clear k0
          by_cases hbl : (bn : Int) < 300
          · go_wp2_with (first
            | ((with_reducible refine at_load 62 ?_); go_must (refine wpList_load_cells rfl 45 (.tmp 61) rfl lb (lo + k * 4) rfl _ 4 _ HCL.out Try.underlying45 rfl actInfo rfl ?_))
            | ((with_reducible refine at_store (.tmp 11) (.tmp 62) ?_); go_must (refine wpList_store_agg rfl 45 (.tmp 11) (.tmp 62) rfl wr.heap.size 0 _ rfl rfl 45 actZero (blk_new wr _) actInfo (Nat.le_refl 4) (act_one _) _ (putRow_all _ _ rfl) ?_; intro w6 hu6; have B6 := bx (((Below.refl wr.heap.size wr).alloc (Nat.le_refl _) (.cells actZero 45)).trans (hu6.below (Nat.le_refl _))); have c0 : w6.cell? ⟨wr.heap.size, 0, none⟩ = some (.int .i64 kd) := blk_cell hu6.same rfl; have c1 : w6.cell? ⟨wr.heap.size, 1, none⟩ = some (.int .i64 N) := blk_cell hu6.same rfl; have c2 : w6.cell? ⟨wr.heap.size, 2, none⟩ = some (.slice bA bn bc) := blk_cell hu6.same rfl; have c3 : w6.cell? ⟨wr.heap.size, 3, none⟩ = some (.slice fA fn fc) := blk_cell hu6.same rfl; clear hu6)))
            have HD6 := bx (HDR.out.kept B6.out); have O6 := bx (OR.out.trans (only_of_below B6.out)); have B06 := bx (BR.out.trans (B6.out.mono BR.out.size)); have HS6 : Bx (∀ j, w6.heap.size ≤ j → Sd j) := ⟨fun j hj => HSD1.out j (by have h1 := OR.out.size; have h2 := B6.out.size; omega)⟩
            refine (dwrite_any _ Sd D st N bA bn bc bs6 HD6.out HS6.out (HBR.out.below B06.out) HBB.out (by have := HKP.out; exact Nat.le_trans this (by omega))).mono ?_
            rintro e w7 ⟨rfl, hd7, ho7⟩
            have HD7 := bx hd7; have O7 := bx (O6.out.trans ho7); have B07 := bx (B06.out.trans (ho7.below B06.out.size HSD2.out))
            clear hd7 ho7
            go_wp2_with fail
            exact ⟨⟨k + 1, (writeOf st N bs6).1, by omega, by go_num, HD7.out, by have := HKP.out; have := write_len st N bs6; omega, O7.out, B07.out⟩, by simp [intOf]; omega⟩
          · go_wp2_with (first
            | ((with_reducible refine at_load 62 ?_); go_must (refine wpList_load_cells rfl 45 (.tmp 61) rfl lb (lo + k * 4) rfl _ 4 _ HCL.out Try.underlying45 rfl actInfo rfl ?_))
            | ((with_reducible refine at_store (.tmp 11) (.tmp 62) ?_); go_must (refine wpList_store_agg rfl 45 (.tmp 11) (.tmp 62) rfl wr.heap.size 0 _ rfl rfl 45 actZero (blk_new wr _) actInfo (Nat.le_refl 4) (act_one _) _ (putRow_all _ _ rfl) ?_; intro w6 hu6; have B6 := bx (((Below.refl wr.heap.size wr).alloc (Nat.le_refl _) (.cells actZero 45)).trans (hu6.below (Nat.le_refl _))); have c0 : w6.cell? ⟨wr.heap.size, 0, none⟩ = some (.int .i64 kd) := blk_cell hu6.same rfl; have c1 : w6.cell? ⟨wr.heap.size, 1, none⟩ = some (.int .i64 N) := blk_cell hu6.same rfl; have c2 : w6.cell? ⟨wr.heap.size, 2, none⟩ = some (.slice bA bn bc) := blk_cell hu6.same rfl; have c3 : w6.cell? ⟨wr.heap.size, 3, none⟩ = some (.slice fA fn fc) := blk_cell hu6.same rfl; clear hu6)))
            have HD6 := bx (HDR.out.kept B6.out); have O6 := bx (OR.out.trans (only_of_below B6.out)); have B06 := bx (BR.out.trans (B6.out.mono BR.out.size)); have HS6 : Bx (∀ j, w6.heap.size ≤ j → Sd j) := ⟨fun j hj => HSD1.out j (by have h1 := OR.out.size; have h2 := B6.out.size; omega)⟩
            exact ⟨⟨k + 1, st, by omega, by go_num, HD6.out, by have := HKP.out; omega, O6.out, B06.out⟩, by simp [intOf]; omega⟩
        · by_cases k1 : kd = 1
          · have e0 : (kd == 0) = false := by simp [k0]
            have e1 : (kd == 1) = true := by simp [k1]
            clear k0 k1
            go_wp2_with (first
            | ((with_reducible refine at_load 62 ?_); go_must (refine wpList_load_cells rfl 45 (.tmp 61) rfl lb (lo + k * 4) rfl _ 4 _ HCL.out Try.underlying45 rfl actInfo rfl ?_))
            | ((with_reducible refine at_store (.tmp 11) (.tmp 62) ?_); go_must (refine wpList_store_agg rfl 45 (.tmp 11) (.tmp 62) rfl wr.heap.size 0 _ rfl rfl 45 actZero (blk_new wr _) actInfo (Nat.le_refl 4) (act_one _) _ (putRow_all _ _ rfl) ?_; intro w6 hu6; have B6 := bx (((Below.refl wr.heap.size wr).alloc (Nat.le_refl _) (.cells actZero 45)).trans (hu6.below (Nat.le_refl _))); have c0 : w6.cell? ⟨wr.heap.size, 0, none⟩ = some (.int .i64 kd) := blk_cell hu6.same rfl; have c1 : w6.cell? ⟨wr.heap.size, 1, none⟩ = some (.int .i64 N) := blk_cell hu6.same rfl; have c2 : w6.cell? ⟨wr.heap.size, 2, none⟩ = some (.slice bA bn bc) := blk_cell hu6.same rfl; have c3 : w6.cell? ⟨wr.heap.size, 3, none⟩ = some (.slice fA fn fc) := blk_cell hu6.same rfl; clear hu6)))
            have HD6 := bx (HDR.out.kept B6.out); have O6 := bx (OR.out.trans (only_of_below B6.out)); have B06 := bx (BR.out.trans (B6.out.mono BR.out.size)); have HS6 : Bx (∀ j, w6.heap.size ≤ j → Sd j) := ⟨fun j hj => HSD1.out j (by have h1 := OR.out.size; have h2 := B6.out.size; omega)⟩
            refine (dsync_any _ Sd D st HD6.out (by have := HKP.out; exact Nat.le_trans this (by omega))).mono ?_
            rintro e w7 ⟨rfl, hd7, ho7⟩
            have HD7 := bx hd7; have O7 := bx (O6.out.trans ho7); have B07 := bx (B06.out.trans (ho7.below B06.out.size HSD2.out))
            clear hd7 ho7
            go_wp2_with fail
            exact ⟨⟨k + 1, (syncOf st).1, by omega, by go_num, HD7.out, by have := HKP.out; have := sync_len st; omega, O7.out, B07.out⟩, by simp [intOf]; omega⟩
          · by_cases k2 : kd = 2
            · have e0 : (kd == 0) = false := by simp [k0]
              have e1 : (kd == 1) = false := by simp [k1]
              have e2 : (kd == 2) = true := by simp [k2]
              clear k0 k1 k2
              go_wp2_with (first
            | ((with_reducible refine at_load 62 ?_); go_must (refine wpList_load_cells rfl 45 (.tmp 61) rfl lb (lo + k * 4) rfl _ 4 _ HCL.out Try.underlying45 rfl actInfo rfl ?_))
            | ((with_reducible refine at_store (.tmp 11) (.tmp 62) ?_); go_must (refine wpList_store_agg rfl 45 (.tmp 11) (.tmp 62) rfl wr.heap.size 0 _ rfl rfl 45 actZero (blk_new wr _) actInfo (Nat.le_refl 4) (act_one _) _ (putRow_all _ _ rfl) ?_; intro w6 hu6; have B6 := bx (((Below.refl wr.heap.size wr).alloc (Nat.le_refl _) (.cells actZero 45)).trans (hu6.below (Nat.le_refl _))); have c0 : w6.cell? ⟨wr.heap.size, 0, none⟩ = some (.int .i64 kd) := blk_cell hu6.same rfl; have c1 : w6.cell? ⟨wr.heap.size, 1, none⟩ = some (.int .i64 N) := blk_cell hu6.same rfl; have c2 : w6.cell? ⟨wr.heap.size, 2, none⟩ = some (.slice bA bn bc) := blk_cell hu6.same rfl; have c3 : w6.cell? ⟨wr.heap.size, 3, none⟩ = some (.slice fA fn fc) := blk_cell hu6.same rfl; clear hu6)))
              have HD6 := bx (HDR.out.kept B6.out); have O6 := bx (OR.out.trans (only_of_below B6.out)); have B06 := bx (BR.out.trans (B6.out.mono BR.out.size)); have HS6 : Bx (∀ j, w6.heap.size ≤ j → Sd j) := ⟨fun j hj => HSD1.out j (by have h1 := OR.out.size; have h2 := B6.out.size; omega)⟩
              refine (arm_any _ Sd D st N HD6.out HNR.out).mono ?_
              rintro e w7 ⟨rfl, hd7, ho7⟩
              have HD7 := bx hd7; have O7 := bx (O6.out.trans ho7); have B07 := bx (B06.out.trans (ho7.below B06.out.size HSD2.out))
              clear hd7 ho7
              go_wp2_with fail
              exact ⟨⟨k + 1, (armOf st N), by omega, by go_num, HD7.out, by have := HKP.out; exact Nat.le_trans this (by omega), O7.out, B07.out⟩, by simp [intOf]; omega⟩
            · by_cases k3 : kd = 3
              · have e0 : (kd == 0) = false := by simp [k0]
                have e1 : (kd == 1) = false := by simp [k1]
                have e2 : (kd == 2) = false := by simp [k2]
                have e3 : (kd == 3) = true := by simp [k3]
                clear k0 k1 k2 k3
                by_cases hfl : (fn : Int) < 100
                · go_wp2_with (first
            | ((with_reducible refine at_load 62 ?_); go_must (refine wpList_load_cells rfl 45 (.tmp 61) rfl lb (lo + k * 4) rfl _ 4 _ HCL.out Try.underlying45 rfl actInfo rfl ?_))
            | ((with_reducible refine at_store (.tmp 11) (.tmp 62) ?_); go_must (refine wpList_store_agg rfl 45 (.tmp 11) (.tmp 62) rfl wr.heap.size 0 _ rfl rfl 45 actZero (blk_new wr _) actInfo (Nat.le_refl 4) (act_one _) _ (putRow_all _ _ rfl) ?_; intro w6 hu6; have B6 := bx (((Below.refl wr.heap.size wr).alloc (Nat.le_refl _) (.cells actZero 45)).trans (hu6.below (Nat.le_refl _))); have c0 : w6.cell? ⟨wr.heap.size, 0, none⟩ = some (.int .i64 kd) := blk_cell hu6.same rfl; have c1 : w6.cell? ⟨wr.heap.size, 1, none⟩ = some (.int .i64 N) := blk_cell hu6.same rfl; have c2 : w6.cell? ⟨wr.heap.size, 2, none⟩ = some (.slice bA bn bc) := blk_cell hu6.same rfl; have c3 : w6.cell? ⟨wr.heap.size, 3, none⟩ = some (.slice fA fn fc) := blk_cell hu6.same rfl; clear hu6)))
                  have HD6 := bx (HDR.out.kept B6.out); have O6 := bx (OR.out.trans (only_of_below B6.out)); have B06 := bx (BR.out.trans (B6.out.mono BR.out.size)); have HS6 : Bx (∀ j, w6.heap.size ≤ j → Sd j) := ⟨fun j hj => HSD1.out j (by have h1 := OR.out.size; have h2 := B6.out.size; omega)⟩
                  refine (fates_any _ fA fn fc fs6 (HFR.out.below B06.out) (by omega)).mono ?_
                  rintro e w7 ⟨v7, rfl, hv7, hb7⟩
                  obtain ⟨A7, q7, rfl, hri7, _⟩ := ownsRow_rdI hv7
                  have HD7 := bx (HD6.out.kept hb7); have O7 := bx (O6.out.trans (only_of_below hb7)); have B07 := bx (B06.out.trans (hb7.mono B06.out.size)); have RI7 := bx hri7
                  clear hv7 hb7 hri7
                  go_wp2_with fail
                  refine (dfall_any _ Sd D st A7 fn q7 fs6 HD7.out RI7.out (by have := HKP.out; exact Nat.le_trans this (by omega)) (by omega)).mono ?_
                  rintro e w8 ⟨rfl, hd8, ho8⟩
                  have HD8 := bx hd8; have O8 := bx (O7.out.trans ho8); have B08 := bx (B07.out.trans (ho8.below B07.out.size HSD2.out))
                  clear hd8 ho8
                  go_wp2_with fail
                  exact ⟨⟨k + 1, (fallOf st fs6), by omega, by go_num, HD8.out, Nat.zero_le _, O8.out, B08.out⟩, by simp [intOf]; omega⟩
                · go_wp2_with (first
            | ((with_reducible refine at_load 62 ?_); go_must (refine wpList_load_cells rfl 45 (.tmp 61) rfl lb (lo + k * 4) rfl _ 4 _ HCL.out Try.underlying45 rfl actInfo rfl ?_))
            | ((with_reducible refine at_store (.tmp 11) (.tmp 62) ?_); go_must (refine wpList_store_agg rfl 45 (.tmp 11) (.tmp 62) rfl wr.heap.size 0 _ rfl rfl 45 actZero (blk_new wr _) actInfo (Nat.le_refl 4) (act_one _) _ (putRow_all _ _ rfl) ?_; intro w6 hu6; have B6 := bx (((Below.refl wr.heap.size wr).alloc (Nat.le_refl _) (.cells actZero 45)).trans (hu6.below (Nat.le_refl _))); have c0 : w6.cell? ⟨wr.heap.size, 0, none⟩ = some (.int .i64 kd) := blk_cell hu6.same rfl; have c1 : w6.cell? ⟨wr.heap.size, 1, none⟩ = some (.int .i64 N) := blk_cell hu6.same rfl; have c2 : w6.cell? ⟨wr.heap.size, 2, none⟩ = some (.slice bA bn bc) := blk_cell hu6.same rfl; have c3 : w6.cell? ⟨wr.heap.size, 3, none⟩ = some (.slice fA fn fc) := blk_cell hu6.same rfl; clear hu6)))
                  have HD6 := bx (HDR.out.kept B6.out); have O6 := bx (OR.out.trans (only_of_below B6.out)); have B06 := bx (BR.out.trans (B6.out.mono BR.out.size)); have HS6 : Bx (∀ j, w6.heap.size ≤ j → Sd j) := ⟨fun j hj => HSD1.out j (by have h1 := OR.out.size; have h2 := B6.out.size; omega)⟩
                  exact ⟨⟨k + 1, st, by omega, by go_num, HD6.out, by have := HKP.out; omega, O6.out, B06.out⟩, by simp [intOf]; omega⟩
              · have e0 : (kd == 0) = false := by simp [k0]
                have e1 : (kd == 1) = false := by simp [k1]
                have e2 : (kd == 2) = false := by simp [k2]
                have e3 : (kd == 3) = false := by simp [k3]
                clear k0 k1 k2 k3
                go_wp2_with (first
            | ((with_reducible refine at_load 62 ?_); go_must (refine wpList_load_cells rfl 45 (.tmp 61) rfl lb (lo + k * 4) rfl _ 4 _ HCL.out Try.underlying45 rfl actInfo rfl ?_))
            | ((with_reducible refine at_store (.tmp 11) (.tmp 62) ?_); go_must (refine wpList_store_agg rfl 45 (.tmp 11) (.tmp 62) rfl wr.heap.size 0 _ rfl rfl 45 actZero (blk_new wr _) actInfo (Nat.le_refl 4) (act_one _) _ (putRow_all _ _ rfl) ?_; intro w6 hu6; have B6 := bx (((Below.refl wr.heap.size wr).alloc (Nat.le_refl _) (.cells actZero 45)).trans (hu6.below (Nat.le_refl _))); have c0 : w6.cell? ⟨wr.heap.size, 0, none⟩ = some (.int .i64 kd) := blk_cell hu6.same rfl; have c1 : w6.cell? ⟨wr.heap.size, 1, none⟩ = some (.int .i64 N) := blk_cell hu6.same rfl; have c2 : w6.cell? ⟨wr.heap.size, 2, none⟩ = some (.slice bA bn bc) := blk_cell hu6.same rfl; have c3 : w6.cell? ⟨wr.heap.size, 3, none⟩ = some (.slice fA fn fc) := blk_cell hu6.same rfl; clear hu6)))
                have HD6 := bx (HDR.out.kept B6.out); have O6 := bx (OR.out.trans (only_of_below B6.out)); have B06 := bx (BR.out.trans (B6.out.mono BR.out.size)); have HS6 : Bx (∀ j, w6.heap.size ≤ j → Sd j) := ⟨fun j hj => HSD1.out j (by have h1 := OR.out.size; have h2 := B6.out.size; omega)⟩
                exact ⟨⟨k + 1, st, by omega, by go_num, HD6.out, by have := HKP.out; omega, O6.out, B06.out⟩, by simp [intOf]; omega⟩
      · have hex : (¬ (k : Int) < n) ∨ ((k : Int) < n ∧ ¬ (k : Int) < 30) := by
          by_cases h : (k : Int) < n
          · exact .inr ⟨h, fun h2 => hgo ⟨h, h2⟩⟩
          · exact .inl h
        clear hgo
        have HCR := bx (HDC.out.only OR.out (fun j hj => HSD3.out j hj.1 hj.2))
        rcases hex with h1 | ⟨h1, h2⟩
        all_goals
          go_wp2_with fail
          refine (under_any _ _ C st1 HCR.out (by rw [HU1.out]; decide)).mono ?_
          rintro e w7 ⟨v, rfl, hv7, hb7⟩
          rw [HU1.out, HUA.out] at hv7
          obtain ⟨A7, c7, rfl, hri7, hfr7⟩ := ownsRow_rdI hv7
          obtain ⟨ub, uo, rfl, hub, huc⟩ := hri7.2 (by decide)
          have hu0 : w7.cell? ⟨ub, uo, none⟩ = some (.int .i64 at_) := huc 0 (by decide)
          have HU0 := bx hu0
          have HUB : Bx (wr.heap.size ≤ ub) := ⟨by have := hfr7 ub rfl; simpa using this⟩
          have HC7 := bx (HCR.out.kept hb7); have B7 := bx (BR.out.trans (hb7.mono BR.out.size)); have Z7 := bx hb7.size
          clear hv7 hb7 hri7 huc hu0 hfr7
          go_wp2_with fail
          refine (dread_any _ _ C st1 at_ HC7.out (by rw [HU1.out]; decide)).mono ?_
          rintro e w8 ⟨v, rfl, hv8, hfr8, hb8⟩
          rw [HRD.out] at hv8 ⊢
          obtain ⟨A8, c8, rfl, hr8, hc8, hn8⟩ := hv8
          dsimp only at hr8 hc8
          rw [HPO.out.1] at hr8 hc8 hfr8 ⊢
          have R8 := bx hr8; have F8 := bx hfr8; have HC8 := bx (HC7.out.kept hb8); have B8 := bx (B7.out.trans (hb8.mono B7.out.size))
          have HU8 := bx ((hb8.cell (p := ⟨ub, uo, none⟩) hub).trans HU0.out); have Z8 := bx hb8.size
          clear hr8 hn8 hfr8 hb8
          have sl := fun w => sl_h Try.underlying22 Try.sizeOf5 A8 256 c8 sn (by omega) .i64 (sn : Int) rfl w
          have hr8t := rdB_take sn R8.out hsn
          rw [HPT.out] at hr8t
          have OZ := bx OR.out.size
          have HT : Bx (∀ w', Only (fun j => w2.heap.size ≤ j ∧ j < w3.heap.size) w8 w' → (convert 22 9 (.slice A8 sn c8)).run Try.prog w' = .ok (.string (strOfNums sbs)) w' ∧ (convert 22 9 (.slice sA sn sc)).run Try.prog w' = .ok (.string (strOfNums sbs)) w' ∧ w'.cell? ⟨ub, uo, none⟩ = some (.int .i64 at_)) := ⟨fun w' ho =>
            ⟨str_of (hr8t.only (cap := c8) ho (fun j hj h => by have h1 := F8.out j (by cases A8 <;> exact hj); have h2 : j < w3.heap.size := h.2; have := OZ.out; have := Z7.out; omega)) c8,
             str_of (HR1.out.below (B8.out.trans (ho.below B8.out.size (fun j hj => by have h1 : w2.heap.size ≤ j := hj.1; have := B2.out.size; omega)))) sc,
             (World.cell?_of_block (w := w8) (a := ⟨ub, uo, none⟩) (ho.block ub (by have := cell_inB HU8.out; exact this) (fun h => by have h2 := h.2; have := HUB.out; have := OZ.out; omega))).trans HU8.out⟩⟩
          generalize hsp : strOfNums sbs = sp at *
          have HC8d := bx (HC8.out.kept (Below.refl w8.heap.size w8).drew)
          have hS0 : Only (fun j => w2.heap.size ≤ j ∧ j < w3.heap.size) w8 w8.drew := (Only.refl _ _).drew
          clear hr8t hsp
          go_wp2_with fail
          refine wp_region_held_drew (S := (fun w' => Only (fun j => w2.heap.size ≤ j ∧ j < w3.heap.size) w8 w')) (by kernel_rfl) hS0 (fun hS => ?_)
          refine takeH (i := 0) (d := 106) (v := ?_) rfl rfl (by kernel_rfl) (by kernel_rfl) (by kernel_rfl) (fun _ _ _ h => h) (Or.inl ⟨by kernel_rfl, ?_⟩) hS ?_; rotate_left 1; (focus ((intro w' hS'; clear hS'; go_simp; try with_reducible rfl); done))
          try simp only [List.setIfInBounds_toArray, List.set_cons_zero, List.set_cons_succ]
          refine takeH (i := 1) (d := 107) (v := ?_) rfl rfl (by kernel_rfl) (by kernel_rfl) (by kernel_rfl) (fun _ _ _ h => h) (Or.inl ⟨by kernel_rfl, ?_⟩) hS ?_; rotate_left 1; (focus ((intro w' hS'; clear hS'; go_simp; try with_reducible rfl); done))
          try simp only [List.setIfInBounds_toArray, List.set_cons_zero, List.set_cons_succ]
          refine takeH (i := 2) (d := 108) (v := ?_) rfl rfl (by kernel_rfl) (by kernel_rfl) (by kernel_rfl) (fun _ _ _ h => h) (Or.inl ⟨by kernel_rfl, ?_⟩) hS ?_; rotate_left 1; (focus ((intro w' hS'; clear hS'; go_simp; try with_reducible rfl); done))
          try simp only [List.setIfInBounds_toArray, List.set_cons_zero, List.set_cons_succ]
          refine takeH (i := 3) (d := 109) (v := ?_) rfl rfl (by kernel_rfl) (by kernel_rfl) (by kernel_rfl) (fun _ _ _ h => h) (Or.inl ⟨by kernel_rfl, ?_⟩) hS ?_; rotate_left 1; (focus ((intro w' hS'; clear hS'; go_simp; try with_reducible rfl); done))
          try simp only [List.setIfInBounds_toArray, List.set_cons_zero, List.set_cons_succ]
          refine takeH (i := 4) (d := 110) (v := ?_) rfl rfl (by kernel_rfl) (by kernel_rfl) (by kernel_rfl) (fun _ _ _ h => h) (Or.inl ⟨by kernel_rfl, ?_⟩) hS ?_; rotate_left 1; (focus ((intro w' hS'; clear hS'; go_simp; try with_reducible rfl); done))
          try simp only [List.setIfInBounds_toArray, List.set_cons_zero, List.set_cons_succ]
          refine takeH (i := 5) (d := 111) (v := ?_) rfl rfl (by kernel_rfl) (by kernel_rfl) (by kernel_rfl) (fun _ _ _ h => h) (Or.inl ⟨by kernel_rfl, ?_⟩) hS ?_; rotate_left 1; (focus ((intro w' hS'; clear hS'; go_simp; try with_reducible rfl); done))
          try simp only [List.setIfInBounds_toArray, List.set_cons_zero, List.set_cons_succ]
          refine takeH (i := 6) (d := 112) (v := ?_) rfl rfl (by kernel_rfl) (by kernel_rfl) (by kernel_rfl) (fun _ _ _ h => h) (Or.inl ⟨by kernel_rfl, ?_⟩) hS ?_; rotate_left 1; (focus ((intro w' hS'; clear hS'; go_simp; try with_reducible rfl); done))
          try simp only [List.setIfInBounds_toArray, List.set_cons_zero, List.set_cons_succ]
          refine takeH (i := 7) (d := 113) (v := ?_) rfl rfl (by kernel_rfl) (by kernel_rfl) (by kernel_rfl) (fun _ _ _ h => h) (Or.inl ⟨by kernel_rfl, ?_⟩) hS ?_; rotate_left 1; (focus ((intro w' hS'; clear hS'; go_simp; try with_reducible rfl); done))
          try simp only [List.setIfInBounds_toArray, List.set_cons_zero, List.set_cons_succ]
          refine takeH (i := 8) (d := 114) (v := ?_) rfl rfl (by kernel_rfl) (by kernel_rfl) (by kernel_rfl) (fun _ _ _ h => h) (Or.inl ⟨by kernel_rfl, ?_⟩) hS ?_; rotate_left 1; (focus ((intro w' hS'; clear hS'; go_simp; try with_reducible rfl); done))
          try simp only [List.setIfInBounds_toArray, List.set_cons_zero, List.set_cons_succ]
          refine takeH (i := 9) (d := 115) (v := ?_) rfl rfl (by kernel_rfl) (by kernel_rfl) (by kernel_rfl) (fun _ _ _ h => h) (Or.inl ⟨by kernel_rfl, ?_⟩) hS ?_; rotate_left 1; (focus ((intro w' hS'; clear hS'; go_simp; try with_reducible rfl); done))
          try simp only [List.setIfInBounds_toArray, List.set_cons_zero, List.set_cons_succ]
          refine takeH (i := 10) (d := 116) (v := ?_) rfl rfl (by kernel_rfl) (by kernel_rfl) (by kernel_rfl) (fun _ _ _ h => h) (Or.inl ⟨by kernel_rfl, ?_⟩) hS ?_; rotate_left 1; (focus ((intro w' hS'; clear hS'; go_simp; try with_reducible rfl); done))
          try simp only [List.setIfInBounds_toArray, List.set_cons_zero, List.set_cons_succ]
          refine takeH (i := 11) (d := 117) (v := ?_) rfl rfl (by kernel_rfl) (by kernel_rfl) (by kernel_rfl) (fun _ _ _ h => h) (Or.inl ⟨by kernel_rfl, ?_⟩) hS ?_; rotate_left 1; (focus ((intro w' hS'; clear hS'; go_simp; try with_reducible rfl); done))
          try simp only [List.setIfInBounds_toArray, List.set_cons_zero, List.set_cons_succ]
          refine takeH (i := 12) (d := 118) (v := ?_) rfl rfl (by kernel_rfl) (by kernel_rfl) (by kernel_rfl) (fun _ _ _ h => h) (Or.inl ⟨by kernel_rfl, ?_⟩) hS ?_; rotate_left 1; (focus ((intro w' hS'; obtain ⟨k1, k2, k3⟩ := HT.out w' hS'; clear hS'; go_simp; try with_reducible rfl); done))
          try simp only [List.setIfInBounds_toArray, List.set_cons_zero, List.set_cons_succ]
          refine takeH (i := 13) (d := 119) (v := ?_) rfl rfl (by kernel_rfl) (by kernel_rfl) (by kernel_rfl) (fun _ _ _ h => h) (Or.inl ⟨by kernel_rfl, ?_⟩) hS ?_; rotate_left 1; (focus ((intro w' hS'; clear hS'; go_simp; try with_reducible rfl); done))
          try simp only [List.setIfInBounds_toArray, List.set_cons_zero, List.set_cons_succ]
          refine takeH (i := 14) (d := 120) (v := ?_) rfl rfl (by kernel_rfl) (by kernel_rfl) (by kernel_rfl) (fun _ _ _ h => h) (Or.inl ⟨by kernel_rfl, ?_⟩) hS ?_; rotate_left 1; (focus ((intro w' hS'; obtain ⟨k1, k2, k3⟩ := HT.out w' hS'; clear hS'; go_simp; try with_reducible rfl); done))
          try simp only [List.setIfInBounds_toArray, List.set_cons_zero, List.set_cons_succ]
          refine takeH (i := 15) (d := 121) (v := ?_) rfl rfl (by kernel_rfl) (by kernel_rfl) (by kernel_rfl) (fun _ _ _ h => h) (Or.inl ⟨by kernel_rfl, ?_⟩) hS ?_; rotate_left 1; (focus ((intro w' hS'; clear hS'; go_simp; try with_reducible rfl); done))
          try simp only [List.setIfInBounds_toArray, List.set_cons_zero, List.set_cons_succ]
          refine takeH (i := 16) (d := 122) (v := ?_) rfl rfl (by kernel_rfl) (by kernel_rfl) (by kernel_rfl) (fun _ _ _ h => h) (Or.inl ⟨by kernel_rfl, ?_⟩) hS ?_; rotate_left 1; (focus ((intro w' hS'; clear hS'; go_simp; try with_reducible rfl); done))
          try simp only [List.setIfInBounds_toArray, List.set_cons_zero, List.set_cons_succ]
          refine takeH (i := 17) (d := 123) (v := ?_) rfl rfl (by kernel_rfl) (by kernel_rfl) (by kernel_rfl) (fun _ _ _ h => h) (Or.inl ⟨by kernel_rfl, ?_⟩) hS ?_; rotate_left 1; (focus ((intro w' hS'; clear hS'; go_simp; try with_reducible rfl); done))
          try simp only [List.setIfInBounds_toArray, List.set_cons_zero, List.set_cons_succ]
          refine takeH (i := 18) (d := 124) (v := ?_) rfl rfl (by kernel_rfl) (by kernel_rfl) (by kernel_rfl) (fun _ _ _ h => h) (Or.inl ⟨by kernel_rfl, ?_⟩) hS ?_; rotate_left 1; (focus ((intro w' hS'; clear hS'; go_simp; try with_reducible rfl); done))
          try simp only [List.setIfInBounds_toArray, List.set_cons_zero, List.set_cons_succ]
          refine takeH (i := 19) (d := 125) (v := ?_) rfl rfl (by kernel_rfl) (by kernel_rfl) (by kernel_rfl) (fun _ _ _ h => h) (Or.inl ⟨by kernel_rfl, ?_⟩) hS ?_; rotate_left 1; (focus ((intro w' hS'; clear hS'; go_simp; try with_reducible rfl); done))
          try simp only [List.setIfInBounds_toArray, List.set_cons_zero, List.set_cons_succ]
          refine takeH (i := 20) (d := 126) (v := ?_) rfl rfl (by kernel_rfl) (by kernel_rfl) (by kernel_rfl) (fun _ _ _ h => h) (Or.inl ⟨by kernel_rfl, ?_⟩) hS ?_; rotate_left 1; (focus ((intro w' hS'; clear hS'; go_simp; try with_reducible rfl); done))
          try simp only [List.setIfInBounds_toArray, List.set_cons_zero, List.set_cons_succ]
          refine takeH (i := 21) (d := 127) (v := ?_) rfl rfl (by kernel_rfl) (by kernel_rfl) (by kernel_rfl) (fun _ _ _ h => h) (Or.inl ⟨by kernel_rfl, ?_⟩) hS ?_; rotate_left 1; (focus ((intro w' hS'; clear hS'; go_simp; try with_reducible rfl); done))
          try simp only [List.setIfInBounds_toArray, List.set_cons_zero, List.set_cons_succ]
          refine takeH (i := 22) (d := 128) (v := ?_) rfl rfl (by kernel_rfl) (by kernel_rfl) (by kernel_rfl) (fun _ _ _ h => h) (Or.inl ⟨by kernel_rfl, ?_⟩) hS ?_; rotate_left 1; (focus ((intro w' hS'; clear hS'; go_simp; try with_reducible rfl); done))
          try simp only [List.setIfInBounds_toArray, List.set_cons_zero, List.set_cons_succ]
          refine takeH (i := 23) (d := 129) (v := ?_) rfl rfl (by kernel_rfl) (by kernel_rfl) (by kernel_rfl) (fun _ _ _ h => h) (Or.inl ⟨by kernel_rfl, ?_⟩) hS ?_; rotate_left 1; (focus ((intro w' hS'; clear hS'; go_simp; try with_reducible rfl); done))
          try simp only [List.setIfInBounds_toArray, List.set_cons_zero, List.set_cons_succ]
          refine takeH (i := 24) (d := 130) (v := ?_) rfl rfl (by kernel_rfl) (by kernel_rfl) (by kernel_rfl) (fun _ _ _ h => h) (Or.inl ⟨by kernel_rfl, ?_⟩) hS ?_; rotate_left 1; (focus ((intro w' hS'; clear hS'; go_simp; try with_reducible rfl); done))
          try simp only [List.setIfInBounds_toArray, List.set_cons_zero, List.set_cons_succ]
          refine takeH (i := 25) (d := 131) (v := ?_) rfl rfl (by kernel_rfl) (by kernel_rfl) (by kernel_rfl) (fun _ _ _ h => h) (Or.inl ⟨by kernel_rfl, ?_⟩) hS ?_; rotate_left 1; (focus ((intro w' hS'; obtain ⟨k1, k2, k3⟩ := HT.out w' hS'; clear hS'; go_simp; try with_reducible rfl); done))
          try simp only [List.setIfInBounds_toArray, List.set_cons_zero, List.set_cons_succ]
          refine takeH (i := 26) (d := 132) (v := ?_) rfl rfl (by kernel_rfl) (by kernel_rfl) (by kernel_rfl) (fun _ _ _ h => h) (Or.inl ⟨by kernel_rfl, ?_⟩) hS ?_; rotate_left 1; (focus ((intro w' hS'; clear hS'; go_simp; try with_reducible rfl); done))
          try simp only [List.setIfInBounds_toArray, List.set_cons_zero, List.set_cons_succ]
          refine takeH (i := 27) (d := 133) (v := ?_) rfl rfl (by kernel_rfl) (by kernel_rfl) (by kernel_rfl) (fun _ _ _ h => h) (Or.inl ⟨by kernel_rfl, ?_⟩) hS ?_; rotate_left 1; (focus ((intro w' hS'; clear hS'; go_simp; try with_reducible rfl); done))
          try simp only [List.setIfInBounds_toArray, List.set_cons_zero, List.set_cons_succ]
          refine takeH (i := 28) (d := 134) (v := ?_) rfl rfl (by kernel_rfl) (by kernel_rfl) (by kernel_rfl) (fun _ _ _ h => h) (Or.inl ⟨by kernel_rfl, ?_⟩) hS ?_; rotate_left 1; (focus ((intro w' hS'; clear hS'; go_simp; try with_reducible rfl); done))
          try simp only [List.setIfInBounds_toArray, List.set_cons_zero, List.set_cons_succ]
          refine takeH (i := 29) (d := 135) (v := ?_) rfl rfl (by kernel_rfl) (by kernel_rfl) (by kernel_rfl) (fun _ _ _ h => h) (Or.inl ⟨by kernel_rfl, ?_⟩) hS ?_; rotate_left 1; (focus ((intro w' hS'; clear hS'; go_simp; try with_reducible rfl); done))
          try simp only [List.setIfInBounds_toArray, List.set_cons_zero, List.set_cons_succ]
          refine takeH (i := 30) (d := 136) (v := ?_) rfl rfl (by kernel_rfl) (by kernel_rfl) (by kernel_rfl) (fun _ _ _ h => h) (Or.inl ⟨by kernel_rfl, ?_⟩) hS ?_; rotate_left 1; (focus ((intro w' hS'; clear hS'; go_simp; try with_reducible rfl); done))
          try simp only [List.setIfInBounds_toArray, List.set_cons_zero, List.set_cons_succ]
          refine wpAnyH_ready (rs := [31]) (by kernel_rfl) (by simp) ?_
          refine AllReadyH.cons rfl (fun K hK => ?_) AllReadyH.nil
          go_simp
          refine (down_any _ _ C st1 HC8d.out).mono ?_
          rintro e w' ⟨rfl, rfl⟩
          rw [HDN.out]
          refine hK.out _ _ ?_ (fun hS2 => ?_)
          · exact hS
          clear hK K hS; have hS := hS2; clear hS2
          try simp only [Act.put, List.setIfInBounds_toArray, List.set_cons_zero, List.set_cons_succ]
          refine takeH (i := 32) (d := 138) (v := ?_) rfl rfl (by kernel_rfl) (by kernel_rfl) (by kernel_rfl) (fun _ _ _ h => h) (Or.inl ⟨by kernel_rfl, ?_⟩) hS ?_; rotate_left 1; (focus ((intro w' hS'; clear hS'; go_simp; try with_reducible rfl); done))
          try simp only [List.setIfInBounds_toArray, List.set_cons_zero, List.set_cons_succ]
          refine takeH (i := 33) (d := 139) (v := ?_) rfl rfl (by kernel_rfl) (by kernel_rfl) (by kernel_rfl) (fun _ _ _ h => h) (Or.inl ⟨by kernel_rfl, ?_⟩) hS ?_; rotate_left 1; (focus ((intro w' hS'; clear hS'; go_simp; try with_reducible rfl); done))
          try simp only [List.setIfInBounds_toArray, List.set_cons_zero, List.set_cons_succ]
          refine takeH (i := 34) (d := 140) (v := ?_) rfl rfl (by kernel_rfl) (by kernel_rfl) (by kernel_rfl) (fun _ _ _ h => h) (Or.inl ⟨by kernel_rfl, ?_⟩) hS ?_; rotate_left 1; (focus ((intro w' hS'; clear hS'; go_simp; try with_reducible rfl); done))
          try simp only [List.setIfInBounds_toArray, List.set_cons_zero, List.set_cons_succ]
          refine wpAnyH_ready (rs := [35]) (by kernel_rfl) (by simp) ?_
          refine AllReadyH.cons rfl (fun K hK => ?_) AllReadyH.nil
          go_simp
          refine (dsync_any _ _ C st1 HC8d.out (by rw [HU1.out]; decide)).mono ?_
          rintro e w9 ⟨rfl, hd9, ho9⟩
          rw [HSY.out] at hd9 ⊢
          have HD9 := bx hd9; have HO9 := bx ho9
          clear hd9 ho9
          refine hK.out _ _ ?_ (fun hS2 => ?_)
          · exact hS.trans (HO9.out.mono (fun j hj => ⟨hj.1, hj.2⟩))
          clear hK K hS; have hS := hS2; clear hS2
          try simp only [Act.put, List.setIfInBounds_toArray, List.set_cons_zero, List.set_cons_succ]
          refine takeH (i := 36) (d := 142) (v := ?_) rfl rfl (by kernel_rfl) (by kernel_rfl) (by kernel_rfl) (fun _ _ _ h => h) (Or.inl ⟨by kernel_rfl, ?_⟩) hS ?_; rotate_left 1; (focus ((intro w' hS'; clear hS'; go_simp; try with_reducible rfl); done))
          try simp only [List.setIfInBounds_toArray, List.set_cons_zero, List.set_cons_succ]
          refine takeH (i := 37) (d := 143) (v := ?_) rfl rfl (by kernel_rfl) (by kernel_rfl) (by kernel_rfl) (fun _ _ _ h => h) (Or.inl ⟨by kernel_rfl, ?_⟩) hS ?_; rotate_left 1; (focus ((intro w' hS'; clear hS'; go_simp; try with_reducible rfl); done))
          try simp only [List.setIfInBounds_toArray, List.set_cons_zero, List.set_cons_succ]
          refine wpAnyH_done (by kernel_rfl) ?_ _
          have O9 := bx hS
          have B9 := bx (B8.out.trans (hS.below B8.out.size (fun j hj => by have := B2.out.size; have := hj.1; omega)))
          have R9 := bx (R8.out.only (cap := c8) hS (fun j hj h => by have h1 := F8.out j hj; have h2 := h.2; have := OZ.out; have := Z7.out; omega))
          clear hS hS0
          go_wp2_with fail
          refine (dsafe_any _ _ C _ at_ HD9.out).mono ?_
          rintro e w10 ⟨v, rfl, hv10, _, hb10⟩
          rw [HSF.out] at hv10 ⊢
          obtain ⟨A10, c10, rfl, hr10, hc10, hn10⟩ := hv10
          dsimp only at hr10 hc10
          rw [HPO.out.1] at hr10 hc10 ⊢
          have B10 := bx (B9.out.trans (hb10.mono B9.out.size))
          have st1' := str_of hr10 c10
          have st2' := str_of (R9.out.below hb10) c8
          generalize strOfNums p = sq at *
          clear hr10 hn10 hb10
          go_wp2_with fail
          refine (one14_any _).mono ?_
          rintro e w11 ⟨rfl, hb11⟩
          have B11 := bx (B10.out.trans (hb11.mono B10.out.size))
          clear hb11
          go_wp2_with fail
          go_ret
          exact ⟨rfl, B11.out⟩
end Go.Proofs.Ythnommoljikaiaa
