/- AcceptTells: accept.Read. -/
import Derived.Test.YthnommoljikaiaaTel2
set_option linter.unusedSimpArgs false
set_option linter.unusedVariables false
namespace Go.Proofs.Ythnommoljikaiaa
open Go.RowKit

theorem r_in (bs : List Int) (m : Nat) (h1 : 1 ≤ m) (h : m ≤ bs.length) : rOut bs 0 m = bs.take m ∧ rRest bs 0 m = bs.drop m ∧ rBad bs 0 m = 0 := by
  have hs : ¬ rShut 0 m := by unfold rShut; omega
  have hl : ¬ (bs.length : Int) < m := by omega
  refine ⟨?_, ?_, ?_⟩
  · rw [rOut, if_neg hs, if_neg hl]; rfl
  · rw [rRest, if_neg hs, if_neg hl]; rfl
  · rw [rBad, if_neg hs, if_neg hl]
/-- What Read tells. -/
def readPin (bs : List Int) : Pin × Int := if bs.length = 48 then (⟨num (bs.take 8), num ((bs.drop 8).take 8), (bs.drop 16).take 32⟩, 0) else (pin0, 11)
theorem pin_built2 (g e : Int) : Try.prog.built 84 [(0, .int .u64 g), (1, .int .u64 e)] = some (pinCells g e zero32) := by kernel_rfl
theorem pin_built0 : Try.prog.built 84 [] = some (pinCells 0 0 zero32) := by kernel_rfl
theorem pin_fill (g e : Int) (s : List Int) (hs : s.length = 32) : putRow (pinCells g e zero32) 2 (s.map (Value.int .u8)) = pinCells g e s := by
  have e2 := putRow_tail [Value.int .u64 g, Value.int .u64 e] (zero32.map (Value.int .u8)) (s.map (Value.int .u8)) (by simp [hs, zero32])
  exact e2
theorem pin_info : (Try.prog.info? 84).map (·.size) = some 34 := by kernel_rfl
theorem u8_info : (Try.prog.info? 5).map (·.size) = some 1 := by kernel_rfl
theorem rd_src {w : World} {ad : Addr} {n : Nat} {bs : List Int} (h : RdB w (some ad) n bs) : ∀ j v, (bs.map (Value.int .u8))[j]? = some v → w.cell? (ad.add j) = some v := by
  intro j u hj
  obtain ⟨hj1, e⟩ := List.getElem?_eq_some_iff.1 hj
  have hdl := h.1
  have hj2 : j < n := by rw [← hdl]; simpa using hj1
  obtain ⟨b, o, e1, _, hc⟩ := h.2 (by omega)
  cases e1
  rw [Addr.add_mid, hc j hj2, ← e]
  simp [List.getD_eq_getElem?_getD, List.getElem?_eq_getElem (show j < bs.length by omega)]
set_option maxRecDepth 100000 in
set_option maxHeartbeats 1000000 in
theorem aread_any (A : Option Addr) (n cap : Nat) (bs : List Int) (w : World) (hrd : RdB w A n bs) (hnil : A = none → cap = 0) (hB : IsB bs) (hbig : n ≤ 35184372088832) :
    Calls Try.prog 46 #[.slice A n cap] w fun x w' => x = .returned (.tuple #[(readPin bs).1.val, .int .i64 (readPin bs).2]) ∧ Below w.heap.size w w' := by
  have HRD := bx hrd; have HNIL := bx hnil; have HB := bx hB; have HL := bx hrd.1
  have HP : Bx (readPin bs = if bs.length = 48 then (⟨num (bs.take 8), num ((bs.drop 8).take 8), (bs.drop 16).take 32⟩, 0) else (pin0, 11)) := ⟨rfl⟩
  clear hrd hnil hB
  generalize readPin bs = R at *
  have K0 : Bx ((w.alloc (.cells (pinCells 0 0 zero32) 84)).heap[w.heap.size]? = some (.cells (pinCells 0 0 zero32) 84 (0, 0))) := ⟨blk_new w _⟩
  have B0 : Bx (Below w.heap.size w (w.alloc (.cells (pinCells 0 0 zero32) 84))) := ⟨(Below.refl _ _).alloc (Nat.le_refl _) _⟩
  by_cases h48 : n = 48
  · have h48' : (n : Int) = 48 := by omega
    have HP2 := HP.out
    rw [HL.out, if_pos h48] at HP2
    subst HP2
    clear HP
    obtain ⟨G, hG⟩ : ∃ G, G = num (bs.take 8) := ⟨_, rfl⟩
    obtain ⟨E, hE⟩ : ∃ E, E = num ((bs.drop 8).take 8) := ⟨_, rfl⟩
    obtain ⟨S, hS⟩ : ∃ S, S = (bs.drop 16).take 32 := ⟨_, rfl⟩
    have HSL : Bx (S.length = 32) := ⟨by rw [hS, List.length_take, List.length_drop, HL.out]; omega⟩
    have HN1 : Bx (∀ w R, Rdr w R bs 0 → Calls Try.prog 84 #[.pointer (some ⟨R, 0, none⟩), .int .i64 8] w fun e w' => e = .returned (.int .u64 G) ∧ Rdr w' R (bs.drop 8) 0 ∧ OnlyR R w w') := ⟨fun w R h => by
      have := rnum_any w R bs 0 8 h HB.out (by decide) (by decide) (by rw [HL.out]; omega)
      obtain ⟨e1, e2, e3⟩ := r_in bs 8 (by decide) (by rw [HL.out]; omega)
      rw [e1, e2, e3, ← hG] at this
      exact this⟩
    have HN2 : Bx (∀ w R, Rdr w R (bs.drop 8) 0 → Calls Try.prog 84 #[.pointer (some ⟨R, 0, none⟩), .int .i64 8] w fun e w' => e = .returned (.int .u64 E) ∧ Rdr w' R (bs.drop 16) 0 ∧ OnlyR R w w') := ⟨fun w R h => by
      have := rnum_any w R (bs.drop 8) 0 8 h (isB_drop HB.out 8) (by decide) (by decide) (by rw [List.length_drop, HL.out]; omega)
      obtain ⟨e1, e2, e3⟩ := r_in (bs.drop 8) 8 (by decide) (by rw [List.length_drop, HL.out]; omega)
      rw [e1, e2, e3, ← hE, List.drop_drop] at this
      exact this⟩
    have HN3 : Bx (∀ w R, Rdr w R (bs.drop 16) 0 → Calls Try.prog 85 #[.pointer (some ⟨R, 0, none⟩), .int .i64 32] w fun e w' => ∃ v, e = .returned v ∧ OwB w' w.heap.size v S ∧ OnlyR R w w') := ⟨fun w R h => by
      obtain ⟨e1, e2, e3⟩ := r_in (bs.drop 16) 32 (by decide) (by rw [List.length_drop, HL.out]; omega)
      refine (raw_any w R (bs.drop 16) 0 32 h (by rw [List.length_drop, HL.out]; omega)).mono ?_
      rintro e w' ⟨v, rfl, ho, _, hor⟩
      have e1' : rOut (bs.drop 16) 0 32 = S := by rw [hS]; exact e1
      rw [e1'] at ho
      exact ⟨v, rfl, ho, hor⟩⟩
    rw [← hG, ← hE, ← hS]
    clear hG hE hS
    subst h48
    have IS : Bx ((Try.prog.info? 84).map (·.size) = some (pinCells G E S).size) := ⟨by rw [pin_size _ _ _ HSL.out]; exact pin_info⟩
    show Calls _ _ _ _ fun x w' => x = .returned (.tuple #[.agg (pinCells G E S), .int .i64 0]) ∧ _
    go_enter Try.func46, Try.ntmps46
    go_wp2_with fail
    refine (rnewR_any A 48 cap bs _ (HRD.out.below B0.out) HNIL.out (by decide)).mono ?_
    rintro x w1 ⟨R, rfl, hR, hRl, hb⟩
    have R1 := bx hR; have RL := bx hRl; have B1 := bx (B0.out.trans (hb.mono B0.out.size)); have K1 := bx ((hb.block _ (blk_lt K0.out)).trans K0.out)
    have RW : Bx (w.heap.size < R) := ⟨by have := blk_lt K0.out; omega⟩
    clear hR hRl hb
    go_wp2_with fail
    refine (HN1.out w1 R R1.out).mono ?_
    rintro x w2 ⟨rfl, hR, ho⟩
    have R2 := bx hR; have B2 := bx (B1.out.trans (ho.below B1.out.size (Nat.le_of_lt RW.out))); have K2 := bx ((ho.block _ (blk_lt K1.out) (by have := RW.out; omega)).trans K1.out)
    clear hR ho
    go_wp2_with fail
    refine (HN2.out w2 R R2.out).mono ?_
    rintro x w3 ⟨rfl, hR, ho⟩
    have R3 := bx hR; have B3 := bx (B2.out.trans (ho.below B2.out.size (Nat.le_of_lt RW.out))); have K3 := bx ((ho.block _ (blk_lt K2.out) (by have := RW.out; omega)).trans K2.out)
    clear hR ho HN1 HN2
    go_upto_region 5 with (first
      | ((with_reducible refine at_build 16 ?_); go_must (refine wpList_build2 rfl 84 [(0, .tmp 13), (1, .tmp 15)] rfl _ rfl _ (pin_built2 _ _) ?_))
      | ((with_reducible refine at_store (.tmp 5) (.tmp 16) ?_); go_must (refine wpList_store_agg (cells := pinCells G E zero32) rfl 84 (.tmp 5) (.tmp 16) rfl w3.heap.size 0 rfl rfl 84 (pinCells 0 0 zero32) (blk_new w3 _) pin_info (Nat.le_refl 34) (pin_oneCell _ _ _) (pinCells G E zero32) (pin_put _ rfl _ _ _ rfl) ?_; intro w5 hu5)))
    have hlt3 := blk_lt K3.out
    have hr3 := R3.out.lt
    have K5 := bx (hu5.blk (blk_alloc K3.out) (by omega))
    have P5 := bx hu5.same
    have B5 := bx ((B3.out.alloc B3.out.size _).trans (hu5.below B3.out.size))
    have R5 : Bx (Rdr w5 R (bs.drop 16) 0) := ⟨R3.out.kept (((Below.refl _ _).alloc (Nat.le_refl _) _).trans (hu5.below (Nat.le_refl _)))⟩
    have HLT : Bx (w.heap.size < R ∧ R < w3.heap.size ∧ w3.heap.size < w5.heap.size) := ⟨RW.out, hr3, blk_lt hu5.same⟩
    have R5d : Bx (Rdr w5.drew R (bs.drop 16) 0) := ⟨R5.out.kept (Below.refl _ _).drew⟩
    clear hu5 hlt3 hr3 R1 R2 R3 R5 B1 B2 B3 K0 K1 K2 K3 B0
    have sl := fun w' => arr_slice_all (P := Try.prog) Try.underlying81 Try.sizeOf5 w3.heap.size 2 w'
    have hS0 : Only (fun k => k = R ∨ k = w3.heap.size) w5 w5.drew := (Only.refl _ _).drew
    refine wp_region_held_drew (S := (fun w' => Only (fun k => k = R ∨ k = w3.heap.size) w5 w')) (by kernel_rfl) hS0 (fun hS => ?_)
    refine takeH (i := 0) (d := 17) (v := ?_) rfl rfl (by kernel_rfl) (by kernel_rfl) (by kernel_rfl) (fun _ _ _ h => h) (Or.inl ⟨by kernel_rfl, ?_⟩) hS ?_; rotate_left 1; (focus ((intro w' hS'; clear hS'; go_simp; try with_reducible rfl); done))
    try simp only [List.setIfInBounds_toArray, List.set_cons_zero, List.set_cons_succ]
    refine takeH (i := 1) (d := 18) (v := ?_) rfl rfl (by kernel_rfl) (by kernel_rfl) (by kernel_rfl) (fun _ _ _ h => h) (Or.inl ⟨by kernel_rfl, ?_⟩) hS ?_; rotate_left 1; (focus ((intro w' hS'; clear hS'; go_simp; try with_reducible rfl); done))
    try simp only [List.setIfInBounds_toArray, List.set_cons_zero, List.set_cons_succ]
    refine takeH (i := 2) (d := 19) (v := ?_) rfl rfl (by kernel_rfl) (by kernel_rfl) (by kernel_rfl) (fun _ _ _ h => h) (Or.inl ⟨by kernel_rfl, ?_⟩) hS ?_; rotate_left 1; (focus ((intro w' hS'; clear hS'; go_simp; try with_reducible rfl); done))
    try simp only [List.setIfInBounds_toArray, List.set_cons_zero, List.set_cons_succ]
    refine wpAnyH_ready (rs := [3]) (by kernel_rfl) (by simp) ?_
    refine AllReadyH.cons rfl (fun K hK => ?_) AllReadyH.nil
    go_simp
    refine (HN3.out _ R R5d.out).mono ?_
    rintro x w6 ⟨v, rfl, hv, ho⟩
    obtain ⟨A6, c6, rfl, hr6, _, _⟩ := hv.rdn HSL.out
    obtain ⟨b6, o6, rfl, _, _⟩ := hr6.2 (by decide)
    have R6 := bx hr6; have O6 := bx ho; have P6 := bx ((ho.block _ (blk_lt P5.out) (by have := HLT.out; omega)).trans P5.out)
    clear hv ho hr6
    refine hK.out _ _ ?_ (fun hS2 => ?_)
    · exact hS.trans (O6.out.mono (fun k hk => .inl hk))
    clear hK K hS; have hS := hS2; clear hS2
    try simp only [Act.put, List.setIfInBounds_toArray, List.set_cons_zero, List.set_cons_succ]
    refine wpAnyH_ready (rs := [4]) (by kernel_rfl) (by simp) ?_
    refine AllReadyH.cons rfl (fun K hK => ?_) AllReadyH.nil
    refine step_copy_upd rfl (.tmp 18) (.tmp 20) 22 22 rfl 5 Try.underlying22 u8_info w3.heap.size 2 ⟨b6, o6, none⟩ 32 32 32 c6 rfl rfl (pinCells G E zero32) 84 P6.out (S.map (Value.int .u8)) (by rw [List.length_map, HSL.out]; rfl) (rd_src R6.out) (by rw [List.length_map, HSL.out]; exact Nat.le_refl 34) (oneCell_map_int _ _) ?_
    rw [pin_fill _ _ _ HSL.out]
    intro w7 hu7
    refine hK.out _ _ ?_ (fun hS2 => ?_)
    · exact hS.upd hu7 (.inr rfl)
    clear hK K hS; have hS := hS2; clear hS2
    try simp only [Act.put, List.setIfInBounds_toArray, List.set_cons_zero, List.set_cons_succ]
    refine wpAnyH_done (by kernel_rfl) ?_ _
    have K7 := bx ((hS.block _ (blk_lt K5.out) (by have := HLT.out; omega)).trans K5.out)
    have B7 := bx (B5.out.trans (hS.below B5.out.size (fun k hk => by have := HLT.out; omega)))
    have P7 := bx hu7.same
    clear hu7 hS hS0
    go_wp2_with (first
      | ((with_reducible refine at_load 22 ?_); go_must (refine wpList_load_agg rfl 84 (.tmp 5) rfl w3.heap.size 0 rfl 84 (pinCells G E S) 34 _ P7.out Try.underlying84 rfl pin_info (by rw [pin_size _ _ _ HSL.out]; decide) (pinCells G E S) (pin_all _ _ _ HSL.out) ?_))
      | ((with_reducible refine at_store (.tmp 2) (.tmp 22) ?_); go_must (refine wpList_store_agg (cells := pinCells G E S) rfl 84 (.tmp 2) (.tmp 22) rfl w.heap.size 0 rfl rfl 84 (pinCells 0 0 zero32) K7.out IS.out (by rw [pin_size _ _ _ HSL.out]; decide) (pin_oneCell _ _ _) (pinCells G E S) (pin_put _ rfl _ _ _ HSL.out) ?_; intro w9 hu9)))
    refine bodyPost_ret (results_ct (cs := pinCells G E S) rfl _ _ w.heap.size 84 _ _ rfl rfl hu9.same Try.underlying84 rfl IS.out) rfl ⟨rfl, B7.out.trans (hu9.below (Nat.le_refl _))⟩
  · have h48' : ((n : Int) == 48) = false := by simp; omega
    have HP2 := HP.out
    rw [HL.out, if_neg h48] at HP2
    subst HP2
    clear HP h48
    show Calls _ _ _ _ fun x w' => x = .returned (.tuple #[.agg (pinCells 0 0 zero32), .int .i64 11]) ∧ _
    go_enter Try.func46, Try.ntmps46
    go_wp2_with (first
      | ((with_reducible refine at_build 9 ?_); go_must (refine wpList_build2 rfl 84 [] rfl [] rfl (pinCells 0 0 zero32) pin_built0 ?_))
      | ((with_reducible refine at_store (.tmp 2) (.tmp 9) ?_); go_must (refine wpList_store_agg (cells := pinCells 0 0 zero32) rfl 84 (.tmp 2) (.tmp 9) rfl w.heap.size 0 rfl rfl 84 (pinCells 0 0 zero32) K0.out pin_info (Nat.le_refl 34) (pin_oneCell _ _ _) (pinCells 0 0 zero32) (pin_put _ rfl _ _ _ rfl) ?_; intro w9 hu9)))
    refine bodyPost_ret (results_ct (cs := pinCells 0 0 zero32) rfl _ _ w.heap.size 84 _ _ rfl rfl hu9.same Try.underlying84 rfl pin_info) rfl ⟨rfl, B0.out.trans (hu9.below (Nat.le_refl _))⟩
end Go.Proofs.Ythnommoljikaiaa
