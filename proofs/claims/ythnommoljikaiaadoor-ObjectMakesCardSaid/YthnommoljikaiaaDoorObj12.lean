/- Objects: object.Read, by what Check tells; law10.one. -/
import Derived.Test.YthnommoljikaiaaDoorObj11
set_option linter.unusedSimpArgs false
set_option linter.unusedVariables false
namespace Go.Proofs.YthnommoljikaiaaDoor
open Go.RowKit

def rdK (bs : List Int) : Int := num (rOut bs 0 1)
def rdD (bs : List Int) : List Int := sOut (rRest bs 0 1) (rBad bs 0 1)
def rdE (bs : List Int) : Int := doneO (sRest (rRest bs 0 1) (rBad bs 0 1)) (sBad (rRest bs 0 1) (rBad bs 0 1))
theorem rOut_isB1 {bs : List Int} (hB : IsB bs) : 0 ≤ rdK bs ∧ rdK bs < 256 := by
  have := num_lt (rOut bs 0 1) (rOut_isB hB 0 1) 1 (by have := rOut_m bs 0 1; simpa using this)
  simpa [rdK] using this
theorem RdB.upd_ne {w w' : World} {A : Option Addr} {n : Nat} {bs : List Int} (h : RdB w A n bs) {g : Nat} {o : Obj} (hu : Upd w w' g o) (hne : ∀ p, A = some p → p.block ≠ g) : RdB w' A n bs := by
  refine ⟨h.1, fun hn => ?_⟩
  obtain ⟨b, o1, e, hl, hc⟩ := h.2 hn
  refine ⟨b, o1, e, by rw [hu.size]; exact hl, fun j hj => ?_⟩
  rw [← hc j hj]
  unfold World.cell?
  rw [hu.other b (hne _ e)]
/-- What Read tells, by what Check tells of that object. -/
def readO (bs : List Int) (c : Int) : Int × List Int × Int := if rdE bs ≠ 0 ∨ c ≠ 0 then (0, [], 11) else (rdK bs, rdD bs, 0)
set_option maxRecDepth 100000 in
set_option maxHeartbeats 2000000 in
theorem oread_any (A : Option Addr) (n cap : Nat) (bs : List Int) (c : Int) (w : World) (hrd : RdB w A n bs) (hnil : A = none → cap = 0) (hB : IsB bs) (hbig : n ≤ 8796093022208)
    (hck : rdE bs = 0 → ∀ w' A' c', Below w.heap.size w w' → RdB w' A' (rdD bs).length (rdD bs) → (A' = none → c' = 0) → Calls Tryd.prog 40 #[.agg (objC (rdK bs) (.slice A' (rdD bs).length c'))] w' fun e w'' => e = .returned (.int .i64 c) ∧ Below w'.heap.size w' w'') :
    Calls Tryd.prog 38 #[.slice A n cap] w (ObjO w (readO bs c)) := by
  obtain ⟨w0, hw0⟩ : ∃ w0, w0 = w.alloc (.cells (objC 0 (.slice none 0 0)) 43) := ⟨_, rfl⟩
  have K0 : Bx (w0.heap[w.heap.size]? = some (.cells (objC 0 (.slice none 0 0)) 43 (0, 0))) := ⟨by rw [hw0]; exact blk_new w _⟩
  have B0 : Bx (Below w.heap.size w w0) := ⟨by rw [hw0]; exact (Below.refl _ _).alloc (Nat.le_refl _) _⟩
  have SZ : Bx (w0.heap.size = w.heap.size + 1) := ⟨by rw [hw0]; simp⟩
  have LIT : Bx (w.alloc (.cells #[.int .i64 0, .slice none 0 0] 43) = w0) := ⟨hw0.symm⟩
  have hlen := hrd.1
  have HNEW := bx (rnewL_any A n cap bs w0 (hrd.below B0.out) hnil (by omega))
  have HNUM : Bx (∀ R w', RdrL w0.heap.size w' R bs 0 → Calls Tryd.prog 59 #[.pointer (some ⟨R, 0, none⟩), .int .i64 1] w' fun e w'' => e = .returned (.int .u64 (rdK bs)) ∧ RdrL w0.heap.size w'' R (rRest bs 0 1) (rBad bs 0 1) ∧ OnlyR R w' w'') := ⟨fun R w' h => rnum_any w' R bs 0 1 h hB (by decide) (by decide) (by omega)⟩
  have HSZD : Bx (∀ R w', RdrL w0.heap.size w' R (rRest bs 0 1) (rBad bs 0 1) → Calls Tryd.prog 61 #[.pointer (some ⟨R, 0, none⟩)] w' fun e w'' => ∃ v, e = .returned v ∧ OwB w'' w'.heap.size v (rdD bs) ∧ RdrL w0.heap.size w'' R (sRest (rRest bs 0 1) (rBad bs 0 1)) (sBad (rRest bs 0 1) (rBad bs 0 1)) ∧ OnlyR R w' w'') := ⟨fun R w' h => rsz_any w' R _ _ h (rRest_isB hB 0 1) (by have := rRest_le bs 0 1; omega)⟩
  have HDONE : Bx (∀ R w', RdrL w0.heap.size w' R (sRest (rRest bs 0 1) (rBad bs 0 1)) (sBad (rRest bs 0 1) (rBad bs 0 1)) → Calls Tryd.prog 68 #[.pointer (some ⟨R, 0, none⟩)] w' fun e w'' => e = .returned (.int .i64 (rdE bs)) ∧ w' = w'') := ⟨fun R w' h => rdone_any w' R _ _ h⟩
  have hkb := rOut_isB1 hB
  have HCK := bx hck
  have RO : Bx (∀ (r : Int × List Int × Int) A c' w', readO bs c = r → RdB w' A r.2.1.length r.2.1 → (A = none → c' = 0) → r.2.1.length ≤ c' → Below w.heap.size w w' → ObjO w (readO bs c) (.returned (.tuple #[.agg (objC r.1 (.slice A r.2.1.length c')), .int .i64 r.2.2])) w') := ⟨fun r A c' w' hr h1 h2 h3 h4 => by subst hr; exact ⟨A, c', rfl, h1, h2, h3, h4⟩⟩
  have HRO : Bx (readO bs c = if rdE bs ≠ 0 ∨ c ≠ 0 then (0, [], 11) else (rdK bs, rdD bs, 0)) := ⟨rfl⟩
  generalize ObjO w (readO bs c) = OUT at *
  generalize readO bs c = ro at *
  generalize sRest (rRest bs 0 1) (rBad bs 0 1) = r2 at *
  generalize sBad (rRest bs 0 1) (rBad bs 0 1) = b2 at *
  generalize rRest bs 0 1 = r1 at *
  generalize rBad bs 0 1 = b1 at *
  generalize rdK bs = kd at *
  generalize rdD bs = ds at *
  generalize rdE bs = de at *
  have hk8 : IntKind.i64.wrap kd = kd := IntWalk.i64_in _ (by omega)
  clear hw0 hrd hnil hlen hck hB
  go_enter Tryd.func38, Tryd.ntmps38
  go_upto_region 1 with fail
  rw [LIT.out]
  clear LIT
  go_wp2_with fail
  refine HNEW.out.mono ?_
  rintro e w1 ⟨R, rfl, hr, hR, hb⟩
  have R1 := bx hr; have LR := bx hR; have D1 := bx hb
  clear hr hR hb HNEW
  go_wp2_with fail
  refine (HNUM.out R w1 R1.out).mono ?_
  rintro e w2 ⟨rfl, hr, ho⟩
  have R2 := bx hr
  have D2 := bx (D1.out.trans (ho.below D1.out.size LR.out))
  clear hr ho R1 HNUM
  go_wp2_with fail
  refine (HSZD.out R w2 R2.out).mono ?_
  rintro e w3 ⟨v3, rfl, hv, hr, ho⟩
  have O3 := bx (hv.base_le D2.out.size); have R3 := bx hr
  have D3 := bx (D2.out.trans (ho.below D2.out.size LR.out))
  clear hv hr ho R2 HSZD
  obtain ⟨m, hm⟩ : ∃ m, ds.length = m := ⟨_, rfl⟩
  obtain ⟨A3, c3, rfl, hr3, hc3, hn3⟩ := O3.out.rdn hm
  have HM := bx hm
  rw [hm] at HCK
  have RD3 := bx hr3; have C3 := bx hc3; have N3 := bx hn3
  have AN : Bx (∀ p, A3 = some p → p.block ≠ w.heap.size) := ⟨fun p hp => by
    have h9 := (World.ownsRow.lt O3.out p.block (by rw [hp]; rfl)).1
    have := SZ.out
    omega⟩
  clear hm hr3 hc3 hn3
  go_upto_region 3 with (first
    | ((with_reducible refine at_build 13 ?_); go_must (refine wpList_build2 rfl 43 [(0, .tmp 10), (1, .tmp 12)] rfl _ rfl (objC kd (.slice A3 m c3)) (obj_built kd A3 m c3) ?_))
    | ((with_reducible refine at_store (.tmp 5) (.tmp 13) ?_); go_must (refine store_all (cs := objC kd (.slice A3 m c3)) 43 (.tmp 5) (.tmp 13) rfl rfl rfl rfl (blk_new w3 _) (obj_is _ _ _ _) rfl (obj_one _ _ _ _) ?_; intro w4 hu4; have K4 := bx hu4.same; have E4 := bx (((Below.refl w3.heap.size w3).alloc (Nat.le_refl _) _).trans (hu4.below (Nat.le_refl _))); clear hu4)))
  have R4 := bx (R3.out.kept E4.out)
  have D4 := bx (D3.out.trans (E4.out.mono D3.out.size))
  have RD4 := bx (RD3.out.below E4.out)
  have W4 := bx (B0.out.trans (D4.out.mono B0.out.size))
  have F4 := bx ((D4.out.block _ (blk_lt K0.out)).trans K0.out)
  clear E4 R3 RD3 D3 D2 D1 O3
  by_cases hde : de = 0
  · subst hde
    go_wp2_with (first
      | (go_at_call 68; refine (HDONE.out R w4 R4.out).mono ?_; rintro e w5 ⟨rfl, rfl⟩)
      | ((with_reducible refine at_load 18 ?_); go_must (refine load_all 43 (.tmp 5) rfl rfl rfl K4.out Tryd.underlying43 rfl (obj_is _ _ _ _) ?_)))
    refine (HCK.out (by trivial) w4 A3 c3 W4.out RD4.out N3.out).mono ?_
    rintro e w5 ⟨rfl, hb⟩
    have W5 := bx (W4.out.trans (hb.mono W4.out.size))
    have F5 := bx ((hb.block _ (blk_lt F4.out)).trans F4.out)
    have K5 := bx ((hb.block _ (blk_lt K4.out)).trans K4.out)
    have RD5 := bx (RD4.out.below hb)
    clear hb HCK HDONE R4
    by_cases hc : c = 0
    · subst hc
      have HT : Bx (ro = (kd, ds, 0)) := ⟨by rw [HRO.out, if_neg (by simp)]⟩
      have LTF : Bx (w.heap.size < w5.heap.size) := ⟨blk_lt F5.out⟩
      go_wp2_with (first
        | ((with_reducible refine at_load 23 ?_); go_must (refine load_all 43 (.tmp 5) rfl rfl rfl K5.out Tryd.underlying43 rfl (obj_is _ _ _ _) ?_))
        | ((with_reducible refine at_store (.tmp 2) (.tmp 23) ?_); go_must (refine store_all (cs := objC kd (.slice A3 m c3)) 43 (.tmp 2) (.tmp 23) rfl rfl rfl rfl F5.out (obj_is _ _ _ _) rfl (obj_one _ _ _ _) ?_; intro w9 hu9; have B9 := bx (W5.out.trans (hu9.below (Nat.le_refl _))); have R9 := bx hu9.same; have RD9 := bx (RD5.out.upd_ne hu9 (AN.out)); clear hu9)))
      refine bodyPost_ret (results_ct (cs := objC kd (.slice A3 m c3)) rfl _ _ w.heap.size 43 _ _ rfl rfl R9.out Tryd.underlying43 rfl (obj_is _ _ _ _)) rfl ?_
      have := RO.out (kd, ds, 0) A3 c3 w9 HT.out
      dsimp only at this
      rw [HM.out] at this
      exact this RD9.out N3.out C3.out B9.out
    · have hc0 : (c == 0) = false := by simp [hc]
      have hc1 : (c != 0) = true := by simp [hc]
      have HT : Bx (ro = (0, [], 11)) := ⟨by rw [HRO.out, if_pos (.inr hc)]⟩
      clear hc
      go_wp2_with (first
        | ((with_reducible refine at_build 22 ?_); go_must (refine wpList_build2 rfl 43 [] rfl [] rfl (objC 0 (.slice none 0 0)) obj_built0 ?_))
        | ((with_reducible refine at_store (.tmp 2) (.tmp 22) ?_); go_must (refine store_all (cs := objC 0 (.slice none 0 0)) 43 (.tmp 2) (.tmp 22) rfl rfl rfl rfl F5.out (obj_is _ _ _ _) rfl (obj_one _ _ _ _) ?_; intro w9 hu9; have B9 := bx (W5.out.trans (hu9.below (Nat.le_refl _))); have R9 := bx hu9.same; clear hu9)))
      refine bodyPost_ret (results_ct (cs := objC 0 (.slice none 0 0)) rfl _ _ w.heap.size 43 _ _ rfl rfl R9.out Tryd.underlying43 rfl (obj_is _ _ _ _)) rfl ?_
      exact RO.out (0, [], 11) none 0 _ HT.out ⟨rfl, fun h => absurd h (by decide)⟩ (fun _ => rfl) (Nat.le_refl _) B9.out
  · have hd0 : (de == 0) = false := by simp [hde]
    have hd1 : (de != 0) = true := by simp [hde]
    have HT : Bx (ro = (0, [], 11)) := ⟨by rw [HRO.out, if_pos (.inl hde)]⟩
    clear hde HCK
    go_wp2_with (first
      | (go_at_call 68; refine (HDONE.out R w4 R4.out).mono ?_; rintro e w5 ⟨rfl, rfl⟩)
      | ((with_reducible refine at_build 22 ?_); go_must (refine wpList_build2 rfl 43 [] rfl [] rfl (objC 0 (.slice none 0 0)) obj_built0 ?_))
      | ((with_reducible refine at_store (.tmp 2) (.tmp 22) ?_); go_must (refine store_all (cs := objC 0 (.slice none 0 0)) 43 (.tmp 2) (.tmp 22) rfl rfl rfl rfl F4.out (obj_is _ _ _ _) rfl (obj_one _ _ _ _) ?_; intro w9 hu9; have B9 := bx (W4.out.trans (hu9.below (Nat.le_refl _))); have R9 := bx hu9.same; clear hu9)))
    refine bodyPost_ret (results_ct (cs := objC 0 (.slice none 0 0)) rfl _ _ w.heap.size 43 _ _ rfl rfl R9.out Tryd.underlying43 rfl (obj_is _ _ _ _)) rfl ?_
    exact RO.out (0, [], 11) none 0 _ HT.out ⟨rfl, fun h => absurd h (by decide)⟩ (fun _ => rfl) (Nat.le_refl _) B9.out
/-- The bytes of a blob of "ab". -/
theorem rd_ab : rdK [1, 0, 0, 0, 2, 97, 98] = 1 ∧ rdD [1, 0, 0, 0, 2, 97, 98] = [97, 98] ∧ rdE [1, 0, 0, 0, 2, 97, 98] = 0 := by decide
theorem put_ab : putO 1 [97, 98] = [1, 0, 0, 0, 2, 97, 98] := by decide
theorem str_ab7 : strOfNums [1, 0, 0, 0, 2, 97, 98] = ⟨#[1, 0, 0, 0, 2, 97, 98]⟩ := by decide
theorem str_ab2 : strOfNums [97, 98] = ⟨#[97, 98]⟩ := by decide
theorem isB_ab : IsB [1, 0, 0, 0, 2, 97, 98] := by
  refine isB_cons (by decide) (isB_cons (by decide) (isB_cons (by decide) (isB_cons (by decide) (isB_cons (by decide) (isB_cons (by decide) (isB_cons (by decide) isB_nil))))))
set_option maxRecDepth 100000 in
set_option maxHeartbeats 1000000 in
theorem one10_any (w : World) : Calls Tryd.prog 30 #[] w fun e w' => e = .returned (.bool true) ∧ Below w.heap.size w w' := by
  have HREAD : Bx (∀ w' A cap, RdB w' A 7 [1, 0, 0, 0, 2, 97, 98] → (A = none → cap = 0) → Calls Tryd.prog 38 #[.slice A 7 cap] w' (ObjO w' (1, [97, 98], 0))) := ⟨fun w' A cap hrd hnil => by
    have h9 := oread_any A 7 cap _ 0 w' hrd hnil isB_ab (by decide) (fun _ w2 A' c' _ h1 h2 => by
      rw [rd_ab.1]
      rw [rd_ab.2.1] at h1 ⊢
      exact check_blob A' 2 c' w2 (by decide))
    rw [show readO [1, 0, 0, 0, 2, 97, 98] 0 = (1, [97, 98], 0) by rw [readO, rd_ab.1, rd_ab.2.1, rd_ab.2.2, if_neg (by simp)]] at h9
    exact h9⟩
  have HPUT : Bx (∀ w' A cap, RdB w' A 2 [97, 98] → (A = none → cap = 0) → Calls Tryd.prog 37 #[.agg (objC 1 (.slice A 2 cap))] w' fun e w'' => ∃ r, e = .returned r ∧ OwB w'' w'.heap.size r [1, 0, 0, 0, 2, 97, 98] ∧ Below w'.heap.size w' w'') := ⟨fun w' A cap hrd hnil => by
    have h9 := put10_any 1 A 2 cap _ w' hrd hnil (by decide)
    rw [put_ab] at h9
    exact h9⟩
  obtain ⟨w0, hw0⟩ : ∃ w0, w0 = w.alloc (.cells (ints .u8 [97, 98]) 5 (2, 3)) := ⟨_, rfl⟩
  have B0 : Bx (Below w.heap.size w w0) := ⟨by rw [hw0]; exact (Below.refl _ _).alloc (Nat.le_refl _) _⟩
  have R0 : Bx (RdB w0 (some ⟨w.heap.size, 0, none⟩) 2 [97, 98]) := ⟨by rw [hw0]; exact rdB_mark w _ [97, 98] (2, 3)⟩
  have LIT : Bx (w.alloc (.cells #[.int .u8 97, .int .u8 98] 5 (2, 3)) = w0) := ⟨hw0.symm⟩
  have cvI := Lib.run_convert_bytes_const (P := Tryd.prog) w 41 5 #[.int .u8 97, .int .u8 98] 2 2 Tryd.underlying41 Tryd.underlying5
  simp only [List.size_toArray, List.length_cons, List.length_nil, Nat.zero_add, Nat.reduceAdd] at cvI
  clear hw0
  go_enter Tryd.func30, Tryd.ntmps30
  go_wp2_with (first
    | ((with_reducible refine at_build 6 ?_); go_must (refine wpList_build2 rfl 43 [(0, .const (.int .i64 1)), (1, .tmp 5)] rfl _ rfl (objC 1 (.slice (some ⟨w.heap.size, 0, none⟩) 2 2)) (obj_built 1 _ 2 2) ?_)))
  rw [LIT.out]
  refine (HPUT.out w0 _ 2 R0.out (fun h => by cases h)).mono ?_
  rintro e w1 ⟨v1, rfl, ho, hb⟩
  obtain ⟨A1, c1, rfl, hr1, hc1, hn1⟩ := ho.rdn (n := 7) rfl
  have R1 := bx hr1; have N1 := bx hn1
  have D1 := bx (B0.out.trans (hb.mono B0.out.size))
  clear ho hb hr1 hc1 hn1 HPUT LIT cvI
  go_wp2_with fail
  refine (HREAD.out w1 A1 c1 R1.out N1.out).mono ?_
  rintro e w2 ⟨A2, c2, rfl, hr2, hn2, hc2, hb⟩
  dsimp only [List.length_cons, List.length_nil, Nat.zero_add] at *
  have R2 := bx hr2; have HB2 := bx hb
  have D2 := bx (D1.out.trans (hb.mono D1.out.size))
  have R12 := bx (R1.out.below hb)
  clear hr2 hn2 hc2 hb HREAD
  go_upto_region 3 with (first
    | ((with_reducible refine at_store (.tmp 2) (.tmp 11) ?_); go_must (refine store_all (cs := objC 1 (.slice A2 2 c2)) 43 (.tmp 2) (.tmp 11) rfl rfl rfl rfl (blk_new w2 _) (obj_is _ _ _ _) rfl (obj_one _ _ _ _) ?_; intro w4 hu4; have K4 := bx hu4.same; have E4 := bx (((Below.refl w2.heap.size w2).alloc (Nat.le_refl _) _).trans (hu4.below (Nat.le_refl _))); clear hu4)))
  have z0 : w4.cell? ⟨w2.heap.size, 0, none⟩ = some (.int .i64 1) := blk_cell K4.out rfl
  have z1 : w4.cell? ⟨w2.heap.size, 1, none⟩ = some (.slice A2 2 c2) := blk_cell K4.out rfl
  have cv1 : (convert 41 9 (.slice A1 7 c1)).run Tryd.prog w4 = .ok (.string (strOfNums [1, 0, 0, 0, 2, 97, 98])) w4 := str_of (R12.out.below E4.out) c1
  have cv2 : (convert 41 9 (.slice A2 2 c2)).run Tryd.prog w4 = .ok (.string (strOfNums [97, 98])) w4 := str_of (R2.out.below E4.out) c2
  rw [str_ab7] at cv1
  rw [str_ab2] at cv2
  go_wp2_with fail
  go_ret
  exact ⟨rfl, D2.out.trans (E4.out.mono D2.out.size)⟩
end Go.Proofs.YthnommoljikaiaaDoor
