/- The law DiskKeeps returns true, whatever is written and done. -/
import Derived.Test.YthnommoljikaiaaDsk17
set_option linter.unusedSimpArgs false
set_option linter.unusedVariables false
namespace Go.Proofs.Ythnommoljikaiaa
open Go.RowKit

theorem and_le14 (x : Int) (m : Nat) (hm : m < 4611686018427387904) : 0 ≤ bits .and .i64 x m ∧ bits .and .i64 x m ≤ m := by
  have h2 : (BitVec.ofInt 64 (m : Int)).toNat = m := by
    rw [BitVec.ofInt_natCast, BitVec.toNat_ofNat]; exact Nat.mod_eq_of_lt (by omega)
  have hx : (BitVec.ofInt 64 x).toNat &&& m ≤ m := Nat.and_le_right
  have e : bits .and .i64 x m = IntKind.i64.wrap (((BitVec.ofInt 64 x).toNat &&& m : Nat) : Int) := by
    show IntKind.i64.wrap ((BitVec.ofInt 64 x &&& BitVec.ofInt 64 (m : Int)).toNat : Int) = _
    rw [BitVec.toNat_and, h2]
  rw [e, IntWalk.i64_in _ (by omega)]
  omega

set_option maxRecDepth 100000 in
set_option maxHeartbeats 8000000 in
theorem keeps_any (at0 : Int) (s : Sl) (A : Option Addr) (n cap : Nat) (ls : List ActV) (w : World) (hs : s.Full w) (hl : RowsA w A n ls) (hbig : n ≤ maxLen) :
    Calls Try.prog 5 #[.int .i64 at0, s.val, .slice A n cap] w fun e w' => e = .returned (.bool true) ∧ Below w.heap.size w w' := by
  obtain ⟨sA, sn, sc, sbs⟩ := s
  obtain ⟨⟨hr1, hB1, hc1⟩, hn1, _⟩ := hs
  dsimp only at hr1 hB1 hc1 hn1
  show Calls Try.prog 5 #[.int .i64 at0, .slice sA sn sc, .slice A n cap] w _
  unfold maxLen at hbig
  have HR1 := bx hr1; have HB1 := bx hB1; have HL1 := bx hr1.1; have HRW := bx hl
  clear hr1 hB1 hn1 hl
  by_cases hlong : 256 < sn
  · have h1' : (256 : Int) < sn := by omega
    go_enter Try.func5, Try.ntmps5
    go_wp2_with fail
    refine (dnew_any w 8 (by decide) (by decide)).mono ?_
    rintro e w1 ⟨D, rfl, hd1, hb1⟩
    have B1 := bx hb1
    clear hd1 hb1
    go_wp2_with fail
    go_ret
    exact ⟨rfl, B1.out⟩
  · have h1' : ¬ (256 : Int) < sn := by omega
    have hl1 : sbs.length ≤ 256 := by rw [HL1.out]; omega
    obtain ⟨at_, hat, ha0, ha1⟩ : ∃ i, bits .and .i64 at0 7 = i ∧ 0 ≤ i ∧ i ≤ 7 := by
      have : 0 ≤ bits .and .i64 at0 7 ∧ bits .and .i64 at0 7 ≤ 7 := and_le14 at0 7 (by decide)
      exact ⟨_, rfl, this.1, this.2⟩
    have HAT := bx hat
    have hw1 : writeOf (dst0 8) at_ sbs = (⟨8, fun _ => zeros256, [(at_, padTo sbs)], -1, false⟩, 0) := write_up (st := dst0 8) rfl rfl ha0 (by show at_ < 8; omega) hl1
    have hpo := padTo_ok hl1 HB1.out
    have hk2 : ∃ f, syncOf ⟨8, fun _ => zeros256, [(at_, padTo sbs)], -1, false⟩ = (⟨8, f, [], -1, false⟩, 0) ∧ f at_ = padTo sbs := by
      refine ⟨_, by rw [sync_up rfl rfl (by show (1 : Int) ≤ 8; decide)]; rfl, ?_⟩
      show (settleOf ⟨8, fun _ => zeros256, [(at_, padTo sbs)], -1, false⟩ at_ (padTo sbs) 256).f at_ = _
      rw [settle_f hpo.1 zeros_ok.1, if_pos rfl]
    obtain ⟨f2, hsy, hf2⟩ := hk2
    have HW1 := bx hw1; have HSY := bx hsy
    have HK2 : Bx (Keeps 8 at_ (padTo sbs) 0 ⟨8, f2, [], -1, false⟩) := ⟨⟨rfl, hf2, (fun x hx => by cases hx), Nat.le_refl _⟩⟩
    have HR2 : Bx (readD ⟨8, f2, [], -1, false⟩ at_ = (padTo sbs, 0)) := ⟨HK2.out.read rfl rfl ha0 (by omega)⟩
    have HPO := bx hpo
    generalize hst2 : (⟨8, f2, [], -1, false⟩ : DSt) = st2 at *
    have HU2 : Bx (st2.und.length = 0) := ⟨by rw [← hst2]; rfl⟩
    generalize padTo sbs = p at *
    clear hat hw1 hsy hf2 hpo hl1 hlong hst2
    have hSS : ∀ w' : World, w.heap.size ≤ w'.heap.size → ∀ j, w'.heap.size ≤ j → w.heap.size ≤ j := fun w' h j hj => by omega
    have HSS := bx hSS
    clear hSS
    go_enter Try.func5, Try.ntmps5
    go_wp2_with fail
    refine (dnew_any w 8 (by decide) (by decide)).mono ?_
    rintro e w1 ⟨D, rfl, hd1, hb1⟩
    have HD1 := bx hd1; have B1 := bx hb1
    clear hd1 hb1
    go_wp2_with fail
    rw [HAT.out]
    refine (dwrite_any _ (fun k => w.heap.size ≤ k) D (dst0 8) at_ sA sn sc sbs HD1.out (HSS.out _ B1.out.size) (HR1.out.below B1.out) HB1.out (by decide)).mono ?_
    rintro e w2 ⟨rfl, hd2, ho2⟩
    rw [HW1.out] at hd2 ⊢
    have HD2 := bx hd2; have B2 := bx (B1.out.trans (ho2.below B1.out.size (fun k hk => hk)))
    clear hd2 ho2
    go_wp2_with fail
    refine (dsync_any _ (fun k => w.heap.size ≤ k) D _ HD2.out (by show 1 ≤ 100000; decide)).mono ?_
    rintro e w3 ⟨rfl, hd3, ho3⟩
    rw [HSY.out] at hd3 ⊢
    have HD3 := bx hd3.restrict; have B3 := bx (B2.out.trans (ho3.below B2.out.size (fun k hk => hk)))
    clear hd3 ho3
    go_wp2_with fail
    refine (dread_any _ _ D st2 at_ HD3.out (by rw [HU2.out]; decide)).mono ?_
    rintro e w4 ⟨v, rfl, hv4, hfr4, hb4⟩
    rw [HR2.out] at hv4 ⊢
    obtain ⟨A4, c4, rfl, hr4, hc4, hn4⟩ := hv4
    dsimp only at hr4 hc4
    rw [HPO.out.1] at hr4 hc4 hfr4 ⊢
    have R4 := bx hr4; have F4 := bx hfr4; have HD4 := bx (HD3.out.kept hb4); have B4 := bx (B3.out.trans (hb4.mono B3.out.size)); have Z4 := bx hb4.size
    clear hr4 hn4 hfr4 hb4
    go_wp2_with fail
    refine (dclone_any _ _ D st2 HD4.out (by rw [HU2.out]; decide)).mono ?_
    rintro e w5 ⟨C, rfl, hdc5, hb5⟩
    have R5 := bx (R4.out.below hb5); have HD5 := bx (HD4.out.kept hb5); have B5 := bx (B4.out.trans (hb5.mono B4.out.size)); have Z5 := bx hb5.size
    have HDC := bx hdc5.restrict
    clear hdc5 hb5
    obtain ⟨Sd, hSd⟩ : ∃ Sd : Nat → Prop, Sd = fun j => (w.heap.size ≤ j ∧ j < w3.heap.size) ∨ w5.heap.size ≤ j := ⟨_, rfl⟩
    have HSD1 : Bx (∀ j, w5.heap.size ≤ j → Sd j) := ⟨fun j hj => by rw [hSd]; exact .inr hj⟩
    have HSD2 : Bx (∀ j, Sd j → w.heap.size ≤ j) := ⟨fun j hj => by rw [hSd] at hj; rcases hj with h | h <;> have := B5.out.size <;> omega⟩
    have HSD3 : Bx (∀ j, w3.heap.size ≤ j → j < w5.heap.size → ¬ Sd j) := ⟨fun j h1 h2 h3 => by rw [hSd] at h3; rcases h3 with h | h <;> omega⟩
    have HD5' : Bx (DskIs w5 Sd D st2) := ⟨HD5.out.mono fun j hj => by rw [hSd]; exact .inl hj⟩
    have F4L : Bx (∀ j, (Value.slice A4 256 c4).ownBlock = some j → 0 < 256 → w3.heap.size ≤ j ∧ j < w4.heap.size) := ⟨fun j hj _ => by
      obtain ⟨b, o, e, hbl, _⟩ := R4.out.2 (by decide)
      rw [e] at hj
      cases hj
      exact ⟨F4.out b (by rw [e]; rfl), hbl⟩⟩
    clear hSd HD5
    go_wp2_with fail
    go_loopw [12] (fun q wr => ∃ (k : Nat) (st : DSt), k ≤ 40 ∧ q = .int .i64 k ∧ DskIs wr Sd D st ∧ Keeps 8 at_ p k st ∧ Only Sd w5 wr ∧ Below w.heap.size w wr) (fun q _ => 40 - (intOf q).toNat)
    case atStart => exact ⟨0, st2, by decide, rfl, HD5'.out, HK2.out, Only.refl _ _, B5.out⟩
    case round =>
      obtain ⟨k, st, hk, rfl, hdr, hkp, hor, hbr⟩ := hrel
      have HDR := bx hdr; have HKP := bx hkp; have OR := bx hor; have BR := bx hbr
      clear hdr hkp hor hbr
      by_cases hgo : (k : Int) < n ∧ (k : Int) < 40
      · obtain ⟨hg1, hg2⟩ := hgo
        obtain ⟨lb, lo, rfl, hlb, hlc⟩ := HRW.out.2.1 (by omega)
        have hkl : k < ls.length := by rw [HRW.out.1]; omega
        have hcl := fun i v hv => (BR.out.cell (p := ⟨lb, lo + k * 4 + i, none⟩) hlb).trans (hlc k hkl i v hv)
        have hfu := HRW.out.2.2 ls[k] (List.getElem_mem hkl)
        generalize ls[k] = av at hcl hfu
        obtain ⟨kd, N, sb, sf⟩ := av
        have HCL := bx hcl
        obtain ⟨⟨⟨hbr, hbb, hbc⟩, hbn, _⟩, ⟨hfr, hfn, hfc, _⟩, hN1, hN2⟩ := hfu
        obtain ⟨bA, bn, bc, bs6⟩ := sb
        obtain ⟨fA, fn, fc, fs6⟩ := sf
        dsimp only at hbr hbb hbc hbn hfr hfn hfc hN1 hN2
        have HBR := bx hbr; have HBB := bx hbb; have HFR := bx hfr; have HNR := bx hN2
        clear hcl hlc hbr hbb hbn hfr hfn hN1 hN2
        by_cases k0 : kd = 0
        · have e0 : (kd == 0) = true := by simp [k0]
          have e1 : (kd == 1) = false := by simp [k0]
          have e2 : (kd == 2) = false := by simp [k0]
          have e3 : (kd == 3) = false := by simp [k0]
          clear k0
          by_cases hna : N = at_
          · have hne : (N != at_) = false := by simp [hna]
            clear hna
            go_wp2_with (first
            | ((with_reducible refine at_load 72 ?_); go_must (refine wpList_load_cells rfl 45 (.tmp 71) rfl lb (lo + k * 4) rfl _ 4 _ HCL.out Try.underlying45 rfl actInfo rfl ?_))
            | ((with_reducible refine at_store (.tmp 13) (.tmp 72) ?_); go_must (refine wpList_store_agg rfl 45 (.tmp 13) (.tmp 72) rfl wr.heap.size 0 _ rfl rfl 45 actZero (blk_new wr _) actInfo (Nat.le_refl 4) (act_one _) _ (putRow_all _ _ rfl) ?_; intro w6 hu6; have B6 := bx (((Below.refl wr.heap.size wr).alloc (Nat.le_refl _) (.cells actZero 45)).trans (hu6.below (Nat.le_refl _))); have c0 : w6.cell? ⟨wr.heap.size, 0, none⟩ = some (.int .i64 kd) := blk_cell hu6.same rfl; have c1 : w6.cell? ⟨wr.heap.size, 1, none⟩ = some (.int .i64 N) := blk_cell hu6.same rfl; have c2 : w6.cell? ⟨wr.heap.size, 2, none⟩ = some (.slice bA bn bc) := blk_cell hu6.same rfl; have c3 : w6.cell? ⟨wr.heap.size, 3, none⟩ = some (.slice fA fn fc) := blk_cell hu6.same rfl; clear hu6)))
            have HD6 := bx (HDR.out.kept B6.out); have O6 := bx (OR.out.trans (only_of_below B6.out)); have B06 := bx (BR.out.trans (B6.out.mono BR.out.size)); have HS6 : Bx (∀ j, w6.heap.size ≤ j → Sd j) := ⟨fun j hj => HSD1.out j (by have h1 := OR.out.size; have h2 := B6.out.size; omega)⟩
            exact ⟨⟨k + 1, st, by omega, by go_num, HD6.out, HKP.out.more (by omega), O6.out, B06.out⟩, by simp [intOf]; omega⟩
          · have hne : (N != at_) = true := by simp [hna]
            have HNA := bx hna
            clear hna
            by_cases hbl : (bn : Int) < 300
            · go_wp2_with (first
            | ((with_reducible refine at_load 72 ?_); go_must (refine wpList_load_cells rfl 45 (.tmp 71) rfl lb (lo + k * 4) rfl _ 4 _ HCL.out Try.underlying45 rfl actInfo rfl ?_))
            | ((with_reducible refine at_store (.tmp 13) (.tmp 72) ?_); go_must (refine wpList_store_agg rfl 45 (.tmp 13) (.tmp 72) rfl wr.heap.size 0 _ rfl rfl 45 actZero (blk_new wr _) actInfo (Nat.le_refl 4) (act_one _) _ (putRow_all _ _ rfl) ?_; intro w6 hu6; have B6 := bx (((Below.refl wr.heap.size wr).alloc (Nat.le_refl _) (.cells actZero 45)).trans (hu6.below (Nat.le_refl _))); have c0 : w6.cell? ⟨wr.heap.size, 0, none⟩ = some (.int .i64 kd) := blk_cell hu6.same rfl; have c1 : w6.cell? ⟨wr.heap.size, 1, none⟩ = some (.int .i64 N) := blk_cell hu6.same rfl; have c2 : w6.cell? ⟨wr.heap.size, 2, none⟩ = some (.slice bA bn bc) := blk_cell hu6.same rfl; have c3 : w6.cell? ⟨wr.heap.size, 3, none⟩ = some (.slice fA fn fc) := blk_cell hu6.same rfl; clear hu6)))
              have HD6 := bx (HDR.out.kept B6.out); have O6 := bx (OR.out.trans (only_of_below B6.out)); have B06 := bx (BR.out.trans (B6.out.mono BR.out.size)); have HS6 : Bx (∀ j, w6.heap.size ≤ j → Sd j) := ⟨fun j hj => HSD1.out j (by have h1 := OR.out.size; have h2 := B6.out.size; omega)⟩
              refine (dwrite_any _ Sd D st N bA bn bc bs6 HD6.out HS6.out (HBR.out.below B06.out) HBB.out (by have := HKP.out; exact Nat.le_trans this.2.2.2 (by omega))).mono ?_
              rintro e w7 ⟨rfl, hd7, ho7⟩
              have HD7 := bx hd7; have O7 := bx (O6.out.trans ho7); have B07 := bx (B06.out.trans (ho7.below B06.out.size HSD2.out))
              clear hd7 ho7
              go_wp2_with fail
              exact ⟨⟨k + 1, (writeOf st N bs6).1, by omega, by go_num, HD7.out, HKP.out.write N bs6 HNA.out, O7.out, B07.out⟩, by simp [intOf]; omega⟩
            · go_wp2_with (first
            | ((with_reducible refine at_load 72 ?_); go_must (refine wpList_load_cells rfl 45 (.tmp 71) rfl lb (lo + k * 4) rfl _ 4 _ HCL.out Try.underlying45 rfl actInfo rfl ?_))
            | ((with_reducible refine at_store (.tmp 13) (.tmp 72) ?_); go_must (refine wpList_store_agg rfl 45 (.tmp 13) (.tmp 72) rfl wr.heap.size 0 _ rfl rfl 45 actZero (blk_new wr _) actInfo (Nat.le_refl 4) (act_one _) _ (putRow_all _ _ rfl) ?_; intro w6 hu6; have B6 := bx (((Below.refl wr.heap.size wr).alloc (Nat.le_refl _) (.cells actZero 45)).trans (hu6.below (Nat.le_refl _))); have c0 : w6.cell? ⟨wr.heap.size, 0, none⟩ = some (.int .i64 kd) := blk_cell hu6.same rfl; have c1 : w6.cell? ⟨wr.heap.size, 1, none⟩ = some (.int .i64 N) := blk_cell hu6.same rfl; have c2 : w6.cell? ⟨wr.heap.size, 2, none⟩ = some (.slice bA bn bc) := blk_cell hu6.same rfl; have c3 : w6.cell? ⟨wr.heap.size, 3, none⟩ = some (.slice fA fn fc) := blk_cell hu6.same rfl; clear hu6)))
              have HD6 := bx (HDR.out.kept B6.out); have O6 := bx (OR.out.trans (only_of_below B6.out)); have B06 := bx (BR.out.trans (B6.out.mono BR.out.size)); have HS6 : Bx (∀ j, w6.heap.size ≤ j → Sd j) := ⟨fun j hj => HSD1.out j (by have h1 := OR.out.size; have h2 := B6.out.size; omega)⟩
              exact ⟨⟨k + 1, st, by omega, by go_num, HD6.out, HKP.out.more (by omega), O6.out, B06.out⟩, by simp [intOf]; omega⟩
        · by_cases k1 : kd = 1
          · have e0 : (kd == 0) = false := by simp [k0]
            have e1 : (kd == 1) = true := by simp [k1]
            clear k0 k1
            go_wp2_with (first
            | ((with_reducible refine at_load 72 ?_); go_must (refine wpList_load_cells rfl 45 (.tmp 71) rfl lb (lo + k * 4) rfl _ 4 _ HCL.out Try.underlying45 rfl actInfo rfl ?_))
            | ((with_reducible refine at_store (.tmp 13) (.tmp 72) ?_); go_must (refine wpList_store_agg rfl 45 (.tmp 13) (.tmp 72) rfl wr.heap.size 0 _ rfl rfl 45 actZero (blk_new wr _) actInfo (Nat.le_refl 4) (act_one _) _ (putRow_all _ _ rfl) ?_; intro w6 hu6; have B6 := bx (((Below.refl wr.heap.size wr).alloc (Nat.le_refl _) (.cells actZero 45)).trans (hu6.below (Nat.le_refl _))); have c0 : w6.cell? ⟨wr.heap.size, 0, none⟩ = some (.int .i64 kd) := blk_cell hu6.same rfl; have c1 : w6.cell? ⟨wr.heap.size, 1, none⟩ = some (.int .i64 N) := blk_cell hu6.same rfl; have c2 : w6.cell? ⟨wr.heap.size, 2, none⟩ = some (.slice bA bn bc) := blk_cell hu6.same rfl; have c3 : w6.cell? ⟨wr.heap.size, 3, none⟩ = some (.slice fA fn fc) := blk_cell hu6.same rfl; clear hu6)))
            have HD6 := bx (HDR.out.kept B6.out); have O6 := bx (OR.out.trans (only_of_below B6.out)); have B06 := bx (BR.out.trans (B6.out.mono BR.out.size)); have HS6 : Bx (∀ j, w6.heap.size ≤ j → Sd j) := ⟨fun j hj => HSD1.out j (by have h1 := OR.out.size; have h2 := B6.out.size; omega)⟩
            refine (dsync_any _ Sd D st HD6.out (by have := HKP.out; exact Nat.le_trans this.2.2.2 (by omega))).mono ?_
            rintro e w7 ⟨rfl, hd7, ho7⟩
            have HD7 := bx hd7; have O7 := bx (O6.out.trans ho7); have B07 := bx (B06.out.trans (ho7.below B06.out.size HSD2.out))
            clear hd7 ho7
            go_wp2_with fail
            exact ⟨⟨k + 1, (syncOf st).1, by omega, by go_num, HD7.out, HKP.out.sync.more (by omega), O7.out, B07.out⟩, by simp [intOf]; omega⟩
          · by_cases k2 : kd = 2
            · have e0 : (kd == 0) = false := by simp [k0]
              have e1 : (kd == 1) = false := by simp [k1]
              have e2 : (kd == 2) = true := by simp [k2]
              clear k0 k1 k2
              go_wp2_with (first
            | ((with_reducible refine at_load 72 ?_); go_must (refine wpList_load_cells rfl 45 (.tmp 71) rfl lb (lo + k * 4) rfl _ 4 _ HCL.out Try.underlying45 rfl actInfo rfl ?_))
            | ((with_reducible refine at_store (.tmp 13) (.tmp 72) ?_); go_must (refine wpList_store_agg rfl 45 (.tmp 13) (.tmp 72) rfl wr.heap.size 0 _ rfl rfl 45 actZero (blk_new wr _) actInfo (Nat.le_refl 4) (act_one _) _ (putRow_all _ _ rfl) ?_; intro w6 hu6; have B6 := bx (((Below.refl wr.heap.size wr).alloc (Nat.le_refl _) (.cells actZero 45)).trans (hu6.below (Nat.le_refl _))); have c0 : w6.cell? ⟨wr.heap.size, 0, none⟩ = some (.int .i64 kd) := blk_cell hu6.same rfl; have c1 : w6.cell? ⟨wr.heap.size, 1, none⟩ = some (.int .i64 N) := blk_cell hu6.same rfl; have c2 : w6.cell? ⟨wr.heap.size, 2, none⟩ = some (.slice bA bn bc) := blk_cell hu6.same rfl; have c3 : w6.cell? ⟨wr.heap.size, 3, none⟩ = some (.slice fA fn fc) := blk_cell hu6.same rfl; clear hu6)))
              have HD6 := bx (HDR.out.kept B6.out); have O6 := bx (OR.out.trans (only_of_below B6.out)); have B06 := bx (BR.out.trans (B6.out.mono BR.out.size)); have HS6 : Bx (∀ j, w6.heap.size ≤ j → Sd j) := ⟨fun j hj => HSD1.out j (by have h1 := OR.out.size; have h2 := B6.out.size; omega)⟩
              refine (arm_any _ Sd D st N HD6.out HNR.out).mono ?_
              rintro e w7 ⟨rfl, hd7, ho7⟩
              have HD7 := bx hd7; have O7 := bx (O6.out.trans ho7); have B07 := bx (B06.out.trans (ho7.below B06.out.size HSD2.out))
              clear hd7 ho7
              go_wp2_with fail
              exact ⟨⟨k + 1, (armOf st N), by omega, by go_num, HD7.out, (HKP.out.arm N).more (by omega), O7.out, B07.out⟩, by simp [intOf]; omega⟩
            · by_cases k3 : kd = 3
              · have e0 : (kd == 0) = false := by simp [k0]
                have e1 : (kd == 1) = false := by simp [k1]
                have e2 : (kd == 2) = false := by simp [k2]
                have e3 : (kd == 3) = true := by simp [k3]
                clear k0 k1 k2 k3
                by_cases hfl : (fn : Int) < 200
                · go_wp2_with (first
            | ((with_reducible refine at_load 72 ?_); go_must (refine wpList_load_cells rfl 45 (.tmp 71) rfl lb (lo + k * 4) rfl _ 4 _ HCL.out Try.underlying45 rfl actInfo rfl ?_))
            | ((with_reducible refine at_store (.tmp 13) (.tmp 72) ?_); go_must (refine wpList_store_agg rfl 45 (.tmp 13) (.tmp 72) rfl wr.heap.size 0 _ rfl rfl 45 actZero (blk_new wr _) actInfo (Nat.le_refl 4) (act_one _) _ (putRow_all _ _ rfl) ?_; intro w6 hu6; have B6 := bx (((Below.refl wr.heap.size wr).alloc (Nat.le_refl _) (.cells actZero 45)).trans (hu6.below (Nat.le_refl _))); have c0 : w6.cell? ⟨wr.heap.size, 0, none⟩ = some (.int .i64 kd) := blk_cell hu6.same rfl; have c1 : w6.cell? ⟨wr.heap.size, 1, none⟩ = some (.int .i64 N) := blk_cell hu6.same rfl; have c2 : w6.cell? ⟨wr.heap.size, 2, none⟩ = some (.slice bA bn bc) := blk_cell hu6.same rfl; have c3 : w6.cell? ⟨wr.heap.size, 3, none⟩ = some (.slice fA fn fc) := blk_cell hu6.same rfl; clear hu6)))
                  have HD6 := bx (HDR.out.kept B6.out); have O6 := bx (OR.out.trans (only_of_below B6.out)); have B06 := bx (BR.out.trans (B6.out.mono BR.out.size)); have HS6 : Bx (∀ j, w6.heap.size ≤ j → Sd j) := ⟨fun j hj => HSD1.out j (by have h1 := OR.out.size; have h2 := B6.out.size; omega)⟩
                  refine (fates_any _ fA fn fc fs6 (HFR.out.below B06.out) (by omega)).mono ?_
                  rintro e w7 ⟨v7, rfl, hv7, hb7⟩
                  obtain ⟨A7, q7, rfl, hri7, _⟩ := ownsRow_rdI hv7
                  have HD7 := bx (HD6.out.kept hb7); have O7 := bx (O6.out.trans (only_of_below hb7)); have B07 := bx (B06.out.trans (hb7.mono B06.out.size)); have RI7 := bx hri7
                  clear hv7 hb7 hri7
                  go_wp2_with fail
                  refine (dfall_any _ Sd D st A7 fn q7 fs6 HD7.out RI7.out (by have := HKP.out; exact Nat.le_trans this.2.2.2 (by omega)) (by omega)).mono ?_
                  rintro e w8 ⟨rfl, hd8, ho8⟩
                  have HD8 := bx hd8; have O8 := bx (O7.out.trans ho8); have B08 := bx (B07.out.trans (ho8.below B07.out.size HSD2.out))
                  clear hd8 ho8
                  go_wp2_with fail
                  exact ⟨⟨k + 1, (fallOf st fs6), by omega, by go_num, HD8.out, (HKP.out.fall fs6).more (by omega), O8.out, B08.out⟩, by simp [intOf]; omega⟩
                · go_wp2_with (first
            | ((with_reducible refine at_load 72 ?_); go_must (refine wpList_load_cells rfl 45 (.tmp 71) rfl lb (lo + k * 4) rfl _ 4 _ HCL.out Try.underlying45 rfl actInfo rfl ?_))
            | ((with_reducible refine at_store (.tmp 13) (.tmp 72) ?_); go_must (refine wpList_store_agg rfl 45 (.tmp 13) (.tmp 72) rfl wr.heap.size 0 _ rfl rfl 45 actZero (blk_new wr _) actInfo (Nat.le_refl 4) (act_one _) _ (putRow_all _ _ rfl) ?_; intro w6 hu6; have B6 := bx (((Below.refl wr.heap.size wr).alloc (Nat.le_refl _) (.cells actZero 45)).trans (hu6.below (Nat.le_refl _))); have c0 : w6.cell? ⟨wr.heap.size, 0, none⟩ = some (.int .i64 kd) := blk_cell hu6.same rfl; have c1 : w6.cell? ⟨wr.heap.size, 1, none⟩ = some (.int .i64 N) := blk_cell hu6.same rfl; have c2 : w6.cell? ⟨wr.heap.size, 2, none⟩ = some (.slice bA bn bc) := blk_cell hu6.same rfl; have c3 : w6.cell? ⟨wr.heap.size, 3, none⟩ = some (.slice fA fn fc) := blk_cell hu6.same rfl; clear hu6)))
                  have HD6 := bx (HDR.out.kept B6.out); have O6 := bx (OR.out.trans (only_of_below B6.out)); have B06 := bx (BR.out.trans (B6.out.mono BR.out.size)); have HS6 : Bx (∀ j, w6.heap.size ≤ j → Sd j) := ⟨fun j hj => HSD1.out j (by have h1 := OR.out.size; have h2 := B6.out.size; omega)⟩
                  exact ⟨⟨k + 1, st, by omega, by go_num, HD6.out, HKP.out.more (by omega), O6.out, B06.out⟩, by simp [intOf]; omega⟩
              · have e0 : (kd == 0) = false := by simp [k0]
                have e1 : (kd == 1) = false := by simp [k1]
                have e2 : (kd == 2) = false := by simp [k2]
                have e3 : (kd == 3) = false := by simp [k3]
                clear k0 k1 k2 k3
                go_wp2_with (first
            | ((with_reducible refine at_load 72 ?_); go_must (refine wpList_load_cells rfl 45 (.tmp 71) rfl lb (lo + k * 4) rfl _ 4 _ HCL.out Try.underlying45 rfl actInfo rfl ?_))
            | ((with_reducible refine at_store (.tmp 13) (.tmp 72) ?_); go_must (refine wpList_store_agg rfl 45 (.tmp 13) (.tmp 72) rfl wr.heap.size 0 _ rfl rfl 45 actZero (blk_new wr _) actInfo (Nat.le_refl 4) (act_one _) _ (putRow_all _ _ rfl) ?_; intro w6 hu6; have B6 := bx (((Below.refl wr.heap.size wr).alloc (Nat.le_refl _) (.cells actZero 45)).trans (hu6.below (Nat.le_refl _))); have c0 : w6.cell? ⟨wr.heap.size, 0, none⟩ = some (.int .i64 kd) := blk_cell hu6.same rfl; have c1 : w6.cell? ⟨wr.heap.size, 1, none⟩ = some (.int .i64 N) := blk_cell hu6.same rfl; have c2 : w6.cell? ⟨wr.heap.size, 2, none⟩ = some (.slice bA bn bc) := blk_cell hu6.same rfl; have c3 : w6.cell? ⟨wr.heap.size, 3, none⟩ = some (.slice fA fn fc) := blk_cell hu6.same rfl; clear hu6)))
                have HD6 := bx (HDR.out.kept B6.out); have O6 := bx (OR.out.trans (only_of_below B6.out)); have B06 := bx (BR.out.trans (B6.out.mono BR.out.size)); have HS6 : Bx (∀ j, w6.heap.size ≤ j → Sd j) := ⟨fun j hj => HSD1.out j (by have h1 := OR.out.size; have h2 := B6.out.size; omega)⟩
                exact ⟨⟨k + 1, st, by omega, by go_num, HD6.out, HKP.out.more (by omega), O6.out, B06.out⟩, by simp [intOf]; omega⟩
      · have hex : (¬ (k : Int) < n) ∨ ((k : Int) < n ∧ ¬ (k : Int) < 40) := by
          by_cases h : (k : Int) < n
          · exact .inr ⟨h, fun h2 => hgo ⟨h, h2⟩⟩
          · exact .inl h
        have HRN : Bx (RdI wr none 0 []) := ⟨⟨rfl, fun h => absurd h (by decide)⟩⟩
        clear hgo
        rcases hex with h1 | ⟨h1, h2⟩
        all_goals
          go_wp2_with fail
          refine (dfall_any _ Sd D st none 0 0 [] HDR.out HRN.out (by have := HKP.out.2.2.2; omega) (by decide)).mono ?_
          rintro e w7 ⟨rfl, hd7, ho7⟩
          have HD7 := bx hd7; have O7 := bx (OR.out.trans ho7); have B7 := bx (BR.out.trans (ho7.below BR.out.size HSD2.out))
          have HK7 := bx ((HKP.out.fall []).read rfl rfl ha0 (by omega))
          have HU7 : Bx ((fallOf st []).und.length ≤ 100000) := ⟨Nat.zero_le _⟩
          generalize fallOf st [] = st7 at *
          clear hd7 ho7
          go_wp2_with fail
          refine (dread_any _ Sd D st7 at_ HD7.out HU7.out).mono ?_
          rintro e w8 ⟨v, rfl, hv8, _, hb8⟩
          rw [HK7.out] at hv8 ⊢
          obtain ⟨A8, c8, rfl, hr8, hc8, hn8⟩ := hv8
          dsimp only at hr8 hc8
          rw [HPO.out.1] at hr8 hc8 ⊢
          have R8 := bx hr8; have O8 := bx (O7.out.trans (only_of_below hb8)); have B8 := bx (B7.out.trans (hb8.mono B7.out.size))
          have HC8 := bx (HDC.out.only O8.out (fun j hj => HSD3.out j (by have := Z4.out; omega) hj.2))
          have R58 := bx (R5.out.only (cap := c4) O8.out (fun j hj => HSD3.out j (F4L.out j hj (by decide)).1 (by have := (F4L.out j hj (by decide)).2; have := Z5.out; omega)))
          clear hr8 hn8 hb8
          go_wp2_with fail
          refine (dread_any _ _ C st2 at_ HC8.out (by rw [HU2.out]; decide)).mono ?_
          rintro e w9 ⟨v, rfl, hv9, _, hb9⟩
          rw [HR2.out] at hv9 ⊢
          obtain ⟨A9, c9, rfl, hr9, hc9, hn9⟩ := hv9
          dsimp only at hr9 hc9
          rw [HPO.out.1] at hr9 hc9 ⊢
          have B9 := bx (B8.out.trans (hb9.mono B8.out.size)); have HC9 := bx (HC8.out.kept hb9)
          have st1' := str_of hr9 c9
          have st2' := str_of (R58.out.below hb9) c4
          have st3' := str_of (R8.out.below hb9) c8
          generalize strOfNums p = sp at *
          clear hr9 hn9 hb9
          go_wp2_with fail
          refine (under_any _ _ C st2 HC9.out (by rw [HU2.out]; decide)).mono ?_
          rintro e w10 ⟨v, rfl, hv10, hb10⟩
          obtain ⟨A10, c10, rfl⟩ := ownsRow_len hv10
          rw [HU2.out]
          have B10 := bx (B9.out.trans (hb10.mono B9.out.size))
          clear hv10 hb10 st1' st2' st3'
          go_wp2_with fail
          refine (one14_any _).mono ?_
          rintro e w11 ⟨rfl, hb11⟩
          have B11 := bx (B10.out.trans (hb11.mono B10.out.size))
          clear hb11
          go_wp2_with fail
          go_ret
          exact ⟨rfl, B11.out⟩
end Go.Proofs.Ythnommoljikaiaa
