/- Objects: the walk over the law ObjectMakes. -/
import Derived.Test.YthnommoljikaiaaDoorObj12
set_option linter.unusedSimpArgs false
set_option linter.unusedVariables false
namespace Go.Proofs.YthnommoljikaiaaDoor
open Go.RowKit

theorem quietAt_eq {P : Program} {o : Oper} {a : Act} {C : World → Prop} {w : World} (t t2 : TypeId) (x y : Operand) (xs ys : Array Value) (ho : o.op = .binOp .eql t x y t2) (hx : a.eval x = .agg xs) (hy : a.eval y = .agg ys) (hm : P.eqGuardType P.depth t = false) {v : Value} (h : (binOp .eql t (.agg xs) (.agg ys)).run P w = .ok v w) : o.quietAt P a C w v := by
  unfold Oper.quietAt execOp
  simp only [ho, hx, hy, Sem.run_bind, Sem.run_pure, run_eqGuard_agg w .eql t x y xs ys hm, h, Result.andThen_ok]
  exact ⟨rfl, rfl⟩
theorem robj_guard : Tryd.prog.eqGuardType Tryd.prog.depth 48 = false := by kernel_rfl
def sumN (L : Nat → Ent) (j : Nat) : Nat := ((List.range j).map fun i => (L i).name.size).sum
theorem sumN_succ (L : Nat → Ent) (j : Nat) : sumN L (j + 1) = sumN L j + (L j).name.size := by simp [sumN, List.range_succ]
theorem sumN_le (L : Nat → Ent) : ∀ {n j : Nat}, j < n → (L j).name.size ≤ sumN L n
  | n + 1, j, h => by
    rw [sumN_succ]
    by_cases hj : j < n
    · have := sumN_le L hj; omega
    · obtain rfl : j = n := by omega
      omega
theorem chg_is (c : ChgA) (h : c.tree.length = 32) : (Tryd.prog.info? 36).map (·.size) = some c.cells.toArray.size := by
  have e : c.cells.toArray.size = 36 := by simp [ChgA.cells, u8s, h]
  have h9 : (Tryd.prog.info? 36).map (·.size) = some 36 := by kernel_rfl
  rw [h9, e]
theorem mark_is (id : List Int) (name text : ByteArray) (h : id.length = 32) : (Tryd.prog.info? 38).map (·.size) = some (markCells id name text).toArray.size := by
  have e : (markCells id name text).toArray.size = 34 := by simp [markCells, u8s, h]
  have h9 : (Tryd.prog.info? 38).map (·.size) = some 34 := by kernel_rfl
  rw [h9, e]
theorem robj_eq (k : Int) (s : ByteArray) (w : World) : (binOp .eql 48 (.agg (robjC k s)) (.agg (robjC k s))).run Tryd.prog w = .ok (.bool true) w := by
  have h : (Op.equalIn 10000 48 (.agg (robjC k s)) (.agg (robjC k s))).run Tryd.prog w = .ok ((k == k) && ((s.toList == s.toList) && true)) w := by
    rw [eqIn_struct Tryd.underlying48 (by kernel_rfl) 9999]
    refine eqf_step (by decide) (part_int Tryd.underlying3 rfl w) (part_int Tryd.underlying3 rfl w) (run_equalIn_int w 9998 _ _ _ k k Tryd.underlying3) ?_
    exact eqf_step (by decide) (part_str Tryd.underlying9 rfl w) (part_str Tryd.underlying9 rfl w) (run_equalIn_string w 9998 _ s s Tryd.underlying9) eqf_nil
  rw [run_eql_struct, h]
  simp
/-- An object that is told, and can be read. -/
def ObjP (w : World) (r : Int × List Int × Int) (e : Ending) (w' : World) : Prop := ∃ A c, e = .returned (.tuple #[.agg (objC r.1 (.slice A r.2.1.length c)), .int .i64 r.2.2]) ∧ RdB w' A r.2.1.length r.2.1 ∧ Below w.heap.size w w'
theorem ObjO.p {w w' : World} {r : Int × List Int × Int} {e : Ending} (h : ObjO w r e w') : ObjP w r e w' := by
  obtain ⟨A, c, h1, h2, _, _, h5⟩ := h
  exact ⟨A, c, h1, h2, h5⟩
def MakesO (w : World) (e : Ending) (w' : World) : Prop := e = .returned (.bool true) ∧ Below w.heap.size w w'
set_option maxRecDepth 100000 in
set_option maxHeartbeats 4000000 in
theorem makes_any (A : Option Addr) (n cap : Nat) (L : Nat → Ent) (c : ChgA) (id : List Int) (name text : ByteArray) (w : World) (hM : MaxAt w)
    (hr : RowAt w A n 34 (fun j => (L j).cells)) (hid : ∀ j, j < n → (L j).id.length = 32) (hnz : ∀ j, j < n → (L j).name.size ≤ 140737488355328)
    (hF : c.Full w) (hib : ∀ j, j < c.n → IsB (c.P j)) (ht0 : 0 ≤ c.time) (ht1 : c.time < 18446744073709551616) (hau : c.author.size ≤ 140737488355328) (htx : c.text.size ≤ 140737488355328)
    (hid2 : id.length = 32) (hnm : name.size ≤ 140737488355328) (htx2 : text.size ≤ 140737488355328) :
    Calls Tryd.prog 7 #[.slice A n cap, .agg c.cells.toArray, .agg (markCells id name text).toArray] w (MakesO w) := by
  obtain ⟨CC, hCC⟩ : ∃ CC, c.cells.toArray = CC := ⟨_, rfl⟩
  obtain ⟨MC, hMC⟩ : ∃ MC, (markCells id name text).toArray = MC := ⟨_, rfl⟩
  have hget := chg_get (c := c) hF.1
  have hgm := mark_get hid2 name text
  have HIC := bx (chg_is c hF.1); have HIM := bx (mark_is id name text hid2)
  have HCCE := bx hCC; have HMCE := bx hMC
  rw [hCC] at hget HIC ⊢
  rw [hMC] at hgm HIM ⊢
  obtain ⟨w0, hw0⟩ : ∃ w0, w0 = (w.alloc (.cells CC 36)).alloc (.cells MC 38) := ⟨_, rfl⟩
  have K0 : Bx (w0.heap[w.heap.size]? = some (.cells CC 36 (0, 0))) := ⟨by rw [hw0]; exact heap_alloc2_old w _ _⟩
  have K1 : Bx (w0.heap[w.heap.size + 1]? = some (.cells MC 38 (0, 0))) := ⟨by rw [hw0]; exact heap_alloc2_new w _ _⟩
  have B0 : Bx (Below w.heap.size w w0) := ⟨by rw [hw0]; exact ((Below.refl _ _).alloc (Nat.le_refl _) _).alloc (by simp) _⟩
  have z1 : w0.cell? ⟨w.heap.size, 32, none⟩ = some (.slice c.A c.n c.cap) := blk_cell K0.out hget.1
  have z3 : w0.cell? ⟨w.heap.size, 34, none⟩ = some (.string c.author) := blk_cell K0.out hget.2.2.1
  have z4 : w0.cell? ⟨w.heap.size, 35, none⟩ = some (.string c.text) := blk_cell K0.out hget.2.2.2
  have z5 : w0.cell? ⟨w.heap.size + 1, 32, none⟩ = some (.string name) := blk_cell K1.out hgm.1
  have z6 : w0.cell? ⟨w.heap.size + 1, 33, none⟩ = some (.string text) := blk_cell K1.out hgm.2
  have hs1 : IntKind.i64.wrap ((c.author.size : Int) + c.text.size) = (c.author.size : Int) + c.text.size := IntWalk.i64_in _ (by omega)
  have hs2 : IntKind.i64.wrap ((name.size : Int) + text.size) = (name.size : Int) + text.size := IntWalk.i64_in _ (by omega)
  have HW := bx hw0
  have HROW := bx hr; have HID := bx hid; have HNZ := bx hnz; have HF := bx hF; have HIB := bx hib; have HT0 := bx ht0; have HT1 := bx ht1; have HM := bx hM; have HID2 := bx hid2
  clear hw0 hget hgm hCC hMC hr hid hnz hF hib ht0 ht1 hM hid2
  obtain ⟨cn, hcn⟩ : ∃ cn, c.n = cn := ⟨_, rfl⟩
  obtain ⟨au, hauE⟩ : ∃ au, c.author = au := ⟨_, rfl⟩
  obtain ⟨tx, htxE⟩ : ∃ tx, c.text = tx := ⟨_, rfl⟩
  rw [hcn] at z1
  rw [hauE] at z3 hs1 hau
  rw [htxE] at z4 hs1 htx
  have HCN := bx hcn; have HAUE := bx hauE; have HTXE := bx htxE
  have HAU := bx hau; have HTX := bx htx; have HNM := bx hnm; have HTX2 := bx htx2
  clear hcn hauE htxE
  by_cases hall : n ≤ 40 ∧ cn ≤ 10 ∧ au.size + tx.size ≤ 40000 ∧ name.size + text.size ≤ 40000
  · obtain ⟨a1, a2, a3, a4⟩ := hall
    have A1 := bx a1; have A2 := bx a2; have A3 := bx a3; have A4 := bx a4
    have h1 : ¬ (40 : Int) < n := by omega
    have h2 : ¬ (10 : Int) < cn := by omega
    have h3 : ¬ (40000 : Int) < (au.size : Int) + tx.size := by omega
    have h4 : ¬ (40000 : Int) < (name.size : Int) + text.size := by omega
    clear a1 a2 a3 a4 hau htx hnm htx2
    go_enter Tryd.func7, Tryd.ntmps7
    go_upto_region 1 with fail
    rw [← HW.out]
    clear HW
    go_wp2_with fail
    clear z1 z3 z4 z5 z6
    go_loopw [7, 8] (fun s i wr => ∃ j : Nat, j ≤ n ∧ i = .int .i64 j ∧ s = .int .i64 (sumN L j) ∧ sumN L j ≤ 20000 ∧ Below w0.heap.size w0 wr) (fun _ i _ => (n - intOf i).toNat)
    case atStart => exact ⟨0, Nat.zero_le _, rfl, rfl, Nat.zero_le _, Below.refl _ _⟩
    case round =>
      obtain ⟨j, hj, rfl, rfl, hsum, hb⟩ := hrel
      have D1 := bx hb
      clear hb
      have DW := bx (B0.out.trans (D1.out.mono B0.out.size))
      by_cases hlt : j < n
      · have hlt' : (j : Int) < n := by omega
        obtain ⟨b1, o1, rfl, hb1, hr1⟩ := HROW.out.at hlt
        have z0 : wr.cell? ⟨b1, o1 + j * 34, none⟩ = some (.string (L j).name) := hr1 wr DW.out 0 _ rfl
        have HS := bx (sumN_succ L j)
        have hz := HNZ.out j hlt
        have hw2 : IntKind.i64.wrap ((sumN L j : Int) + (L j).name.size) = ((sumN L j + (L j).name.size : Nat) : Int) := by rw [Int.natCast_add]; exact IntWalk.i64_in _ (by omega)
        have hsumE := hsum
        clear hr1
        by_cases hbig : sumN L (j + 1) ≤ 20000
        · rw [HS.out] at hbig
          have hb' : ¬ (20000 : Int) < ((sumN L j + (L j).name.size : Nat) : Int) := by omega
          have HBG := bx hbig
          generalize sumN L j = sj at *
          generalize (L j).name = nm at *
          clear hbig hsum hz
          go_wp2_with fail
          go_roundw
          case rel => exact ⟨j + 1, by omega, by first | rfl | go_num, by rw [HS.out, Int.natCast_add], by rw [HS.out]; exact HBG.out, D1.out⟩
          case measure => simp only [intOf]; omega
        · rw [HS.out] at hbig
          have hb' : (20000 : Int) < ((sumN L j + (L j).name.size : Nat) : Int) := by omega
          generalize sumN L j = sj at *
          generalize (L j).name = nm at *
          clear hbig hsum hz
          go_wp2_with fail
          go_ret
          exact ⟨rfl, DW.out⟩
      · have hlt' : ¬ (j : Int) < n := by omega
        obtain rfl : j = n := by omega
        have hns : ∀ i, i < j → (L i).name.size ≤ 20000 := fun i hi => Nat.le_trans (sumN_le L hi) hsum
        have HTREE : Bx (∀ w', Below w.heap.size w w' → Calls Tryd.prog 20 #[.slice A j cap] w' (ObjP w' (treeO L j))) := ⟨fun w' hb => (oftree_any A j cap L w' (HM.out.below hb) (HROW.out.below hb) HID.out (fun i hi => by have := hns i hi; omega)).mono fun _ _ h => h.p⟩
        have HENT : Bx (∀ w', Below w.heap.size w w' → Calls Tryd.prog 22 #[.slice A j cap] w' (RowO1 w' j 3 (entR L))) := ⟨fun w' hb => entries_any A j cap L w' (HROW.out.below hb) HID.out (by have := A1.out; omega)⟩
        have HRT : Bx (∀ w' A' c', RowAt w' A' j 3 (entR L) → Calls Tryd.prog 21 #[.slice A' j c'] w' (RObj w' (treeO L j))) := ⟨fun w' A' c' h => rtree_any A' j c' L w' h HID.out (fun i hi => by have := hns i hi; omega)⟩
        have HCHG : Bx (∀ w', Below w.heap.size w w' → Calls Tryd.prog 23 #[.agg CC] w' (ObjP w' (changeO c))) := ⟨fun w' hb => by
          rw [← HCCE.out]
          exact (ofchange_any c w' ⟨HF.out.1, HF.out.2.1.below hb, HF.out.2.2⟩).mono fun _ _ h => h.p⟩
        have HC10 : Bx (∀ w', Below w.heap.size w w' → Calls Tryd.prog 25 #[.agg CC] w' (ChgO w' c)) := ⟨fun w' hb => by
          rw [← HCCE.out]
          exact chg10_any c w' ⟨HF.out.1, HF.out.2.1.below hb, HF.out.2.2⟩ (by have := A2.out; rw [HCN.out]; omega)⟩
        have HRC : Bx (∀ w' A' c', RowAt w' A' c.n 1 (strR c.P) → Calls Tryd.prog 24 #[.agg (rchgC c A' c')] w' (RObj w' (changeO c))) := ⟨fun w' A' c' h => rchange_any c A' c' w' HF.out.1 h HF.out.2.2 HIB.out HT0.out HT1.out (by rw [HAUE.out]; have := A3.out; omega) (by rw [HTXE.out]; have := A3.out; omega)⟩
        have HMK : Bx (∀ w', Below w.heap.size w w' → Calls Tryd.prog 26 #[.agg MC] w' (ObjP w' (markO id name text))) := ⟨fun w' hb => by
          rw [← HMCE.out]
          exact (ofmark_any id name text w' (HM.out.below hb) HID2.out (by have := A4.out; omega)).mono fun _ _ h => h.p⟩
        have HM10 : Bx (∀ w', Calls Tryd.prog 28 #[.agg MC] w' fun e w'' => e = .returned (.agg (rmarkC (strOfNums id) name text)) ∧ Below w'.heap.size w' w'') := ⟨fun w' => by
          rw [← HMCE.out]
          exact mark10_any id name text w' HID2.out⟩
        have HRM : Bx (∀ w', Calls Tryd.prog 27 #[.agg (rmarkC (strOfNums id) name text)] w' (RObj w' (markO id name text))) := ⟨fun w' => rmark_any id name text w' HID2.out (by have := A4.out; omega) (by have := A4.out; omega)⟩
        generalize treeO L j = r1 at *
        generalize changeO c = r2 at *
        generalize markO id name text = r3 at *
        obtain ⟨k1, d1, e1⟩ := r1
        obtain ⟨k2, d2, e2⟩ := r2
        obtain ⟨k3, d3, e3⟩ := r3
        have HOWN : Bx (∀ k d m w' A' c', RdB w' A' m d → Calls Tryd.prog 29 #[.agg (objC k (.slice A' m c'))] w' fun e w'' => e = .returned (.agg (robjC k (strOfNums d))) ∧ Below w'.heap.size w' w'') := ⟨fun k d m w' A' c' h => own_any k A' m c' d w' h⟩
        have HONE : Bx (∀ w', Calls Tryd.prog 30 #[] w' fun e w'' => e = .returned (.bool true) ∧ Below w'.heap.size w' w'') := ⟨one10_any⟩
        have K0j := bx ((D1.out.block _ (blk_lt K0.out)).trans K0.out)
        have K1j := bx ((D1.out.block _ (blk_lt K1.out)).trans K1.out)
        unfold ObjP at HTREE HCHG HMK
        unfold RObj at HRT HRC HRM
        unfold ChgO at HC10
        dsimp only at HTREE HCHG HMK HRT HRC HRM
        generalize rmarkC (strOfNums id) name text = RM at *
        generalize rchgC c = RC at *
        generalize entR L = ER at *
        generalize strR c.P = SR at *
        clear hns hsum HCCE HMCE HROW HID HNZ HF HIB HT0 HT1 HM HID2 HAUE HTXE HAU HTX HNM HTX2 A1 A2 A3 A4 HCN K0 K1 hs1 hs2 h1 h2 h3 h4
        go_wp2_with fail
        refine (HTREE.out wr DW.out).mono ?_
        rintro e w1 ⟨T1, c1, rfl, hr, hb⟩
        have R1 := bx hr; have E1 := bx hb
        clear hr hb HTREE
        go_upto_region 11 with (first
          | ((with_reducible refine at_store (.tmp 9) (.tmp 69) ?_); go_must (refine store_all (cs := objC k1 (.slice T1 d1.length c1)) 43 (.tmp 9) (.tmp 69) rfl rfl rfl rfl (blk_new w1 _) (obj_is _ _ _ _) rfl (obj_one _ _ _ _) ?_; intro w2 hu2; have X9 := bx hu2.same; have E2 := bx (((Below.refl w1.heap.size w1).alloc (Nat.le_refl _) _).trans (hu2.below (Nat.le_refl _))); clear hu2)))
        have F2 := bx (E1.out.trans (E2.out.mono E1.out.size))
        have W2 := bx (DW.out.trans (F2.out.mono DW.out.size))
        have RR1 := bx (R1.out.below E2.out)
        clear E1 E2 R1
        go_wp2_with fail
        refine (HENT.out w2 W2.out).mono ?_
        rintro e w3 ⟨A3, c3, rfl, hr, _, hb⟩
        have R3 := bx hr; have E3 := bx hb
        clear hr hb HENT
        go_wp2_with fail
        refine (HRT.out w3 A3 c3 R3.out).mono ?_
        rintro e w4 ⟨rfl, hb⟩
        have E4 := bx (E3.out.trans (hb.mono E3.out.size))
        clear hb HRT E3 R3
        go_upto_region 12 with (first
          | ((with_reducible refine at_store (.tmp 11) (.tmp 75) ?_); go_must (refine store_all (cs := robjC k1 (strOfNums d1)) 48 (.tmp 11) (.tmp 75) rfl rfl rfl rfl (blk_new w4 _) (robj_is _ _) rfl (robj_one _ _) ?_; intro w5 hu5; have X11 := bx hu5.same; have E5 := bx (((Below.refl w4.heap.size w4).alloc (Nat.le_refl _) _).trans (hu5.below (Nat.le_refl _))); clear hu5)))
        have F5 := bx (E4.out.trans (E5.out.mono E4.out.size))
        have W5 := bx (W2.out.trans (F5.out.mono W2.out.size))
        clear E4 E5
        have K5c := bx ((F5.out.block _ (Nat.lt_of_lt_of_le (blk_lt K0j.out) F2.out.size)).trans ((F2.out.block _ (blk_lt K0j.out)).trans K0j.out))
        have K5m := bx ((F5.out.block _ (Nat.lt_of_lt_of_le (blk_lt K1j.out) F2.out.size)).trans ((F2.out.block _ (blk_lt K1j.out)).trans K1j.out))
        have X9b := bx ((F5.out.block _ (blk_lt X9.out)).trans X9.out)
        have RR5 := bx (RR1.out.below F5.out)
        clear K0j K1j X9 RR1 F2 F5 W2 D1 DW
        go_wp2_with (first
          | ((with_reducible refine at_load 78 ?_); go_must (refine load_all 36 (.tmp 4) rfl rfl rfl K5c.out Tryd.underlying36 rfl HIC.out ?_)))
        refine (HCHG.out w5 W5.out).mono ?_
        rintro e w6 ⟨T2, c2, rfl, hr, hb⟩
        have R6 := bx hr; have E6 := bx hb
        clear hr hb HCHG
        go_upto_region 13 with (first
          | ((with_reducible refine at_store (.tmp 13) (.tmp 80) ?_); go_must (refine store_all (cs := objC k2 (.slice T2 d2.length c2)) 43 (.tmp 13) (.tmp 80) rfl rfl rfl rfl (blk_new w6 _) (obj_is _ _ _ _) rfl (obj_one _ _ _ _) ?_; intro w7 hu7; have X13 := bx hu7.same; have E7 := bx (((Below.refl w6.heap.size w6).alloc (Nat.le_refl _) _).trans (hu7.below (Nat.le_refl _))); clear hu7)))
        have F7 := bx (E6.out.trans (E7.out.mono E6.out.size))
        have W7 := bx (W5.out.trans (F7.out.mono W5.out.size))
        have RS7 := bx (R6.out.below E7.out)
        have K7c := bx ((F7.out.block _ (blk_lt K5c.out)).trans K5c.out)
        clear E6 E7 R6
        go_wp2_with (first
          | ((with_reducible refine at_load 83 ?_); go_must (refine load_all 36 (.tmp 4) rfl rfl rfl K7c.out Tryd.underlying36 rfl HIC.out ?_)))
        refine (HC10.out w7 W7.out).mono ?_
        rintro e w8 ⟨A8, c8, rfl, hr, hb⟩
        have R8 := bx hr; have E8 := bx hb
        clear hr hb HC10
        go_wp2_with fail
        refine (HRC.out w8 A8 c8 R8.out).mono ?_
        rintro e w9 ⟨rfl, hb⟩
        have E9 := bx (E8.out.trans (hb.mono E8.out.size))
        clear hb HRC E8 R8
        go_upto_region 14 with (first
          | ((with_reducible refine at_store (.tmp 15) (.tmp 86) ?_); go_must (refine store_all (cs := robjC k2 (strOfNums d2)) 48 (.tmp 15) (.tmp 86) rfl rfl rfl rfl (blk_new w9 _) (robj_is _ _) rfl (robj_one _ _) ?_; intro w10 hu10; have X15 := bx hu10.same; have E10 := bx (((Below.refl w9.heap.size w9).alloc (Nat.le_refl _) _).trans (hu10.below (Nat.le_refl _))); clear hu10)))
        have G10 := bx (E9.out.trans (E10.out.mono E9.out.size))
        have F10 := bx (F7.out.trans (G10.out.mono F7.out.size))
        have W10 := bx (W7.out.trans (G10.out.mono W7.out.size))
        have X13b := bx ((G10.out.block _ (blk_lt X13.out)).trans X13.out)
        have RS10 := bx (RS7.out.below G10.out)
        have X9c := bx ((F10.out.block _ (blk_lt X9b.out)).trans X9b.out)
        have X11b := bx ((F10.out.block _ (blk_lt X11.out)).trans X11.out)
        have RR10 := bx (RR5.out.below F10.out)
        have K10m := bx ((F10.out.block _ (blk_lt K5m.out)).trans K5m.out)
        clear E9 E10 F7 F10 G10 X13 RS7 X9b X11 RR5 K5m K5c K7c W5 W7
        go_wp2_with (first
          | ((with_reducible refine at_load 89 ?_); go_must (refine load_all 38 (.tmp 5) rfl rfl rfl K10m.out Tryd.underlying38 rfl HIM.out ?_)))
        refine (HMK.out w10 W10.out).mono ?_
        rintro e w11 ⟨T3, c3, rfl, hr, hb⟩
        have R11 := bx hr; have E11 := bx hb
        clear hr hb HMK
        go_upto_region 15 with (first
          | ((with_reducible refine at_store (.tmp 17) (.tmp 91) ?_); go_must (refine store_all (cs := objC k3 (.slice T3 d3.length c3)) 43 (.tmp 17) (.tmp 91) rfl rfl rfl rfl (blk_new w11 _) (obj_is _ _ _ _) rfl (obj_one _ _ _ _) ?_; intro w12 hu12; have X17 := bx hu12.same; have E12 := bx (((Below.refl w11.heap.size w11).alloc (Nat.le_refl _) _).trans (hu12.below (Nat.le_refl _))); clear hu12)))
        have F12 := bx (E11.out.trans (E12.out.mono E11.out.size))
        have RQ12 := bx (R11.out.below E12.out)
        have K12m := bx ((F12.out.block _ (blk_lt K10m.out)).trans K10m.out)
        clear E11 E12 R11
        go_wp2_with (first
          | ((with_reducible refine at_load 94 ?_); go_must (refine load_all 38 (.tmp 5) rfl rfl rfl K12m.out Tryd.underlying38 rfl HIM.out ?_)))
        refine (HM10.out w12).mono ?_
        rintro e w13 ⟨rfl, hb⟩
        have E13 := bx hb
        clear hb HM10
        go_wp2_with fail
        refine (HRM.out w13).mono ?_
        rintro e w14 ⟨rfl, hb⟩
        have E14 := bx (E13.out.trans (hb.mono E13.out.size))
        clear hb HRM E13
        go_upto_region 16 with (first
          | ((with_reducible refine at_store (.tmp 19) (.tmp 97) ?_); go_must (refine store_all (cs := robjC k3 (strOfNums d3)) 48 (.tmp 19) (.tmp 97) rfl rfl rfl rfl (blk_new w14 _) (robj_is _ _) rfl (robj_one _ _) ?_; intro w15 hu15; have X19 := bx hu15.same; have E15 := bx (((Below.refl w14.heap.size w14).alloc (Nat.le_refl _) _).trans (hu15.below (Nat.le_refl _))); clear hu15)))
        have G15 := bx (E14.out.trans (E15.out.mono E14.out.size))
        have F15 := bx (F12.out.trans (G15.out.mono F12.out.size))
        have W15 := bx (W10.out.trans (F15.out.mono W10.out.size))
        have HX : Bx (∀ w', Below w15.heap.size w15 w' → w'.heap[w1.heap.size]? = some (.cells (objC k1 (.slice T1 d1.length c1)) 43 (0, 0)) ∧ w'.heap[w4.heap.size]? = some (.cells (robjC k1 (strOfNums d1)) 48 (0, 0)) ∧ w'.heap[w6.heap.size]? = some (.cells (objC k2 (.slice T2 d2.length c2)) 43 (0, 0)) ∧ w'.heap[w9.heap.size]? = some (.cells (robjC k2 (strOfNums d2)) 48 (0, 0)) ∧ w'.heap[w11.heap.size]? = some (.cells (objC k3 (.slice T3 d3.length c3)) 43 (0, 0)) ∧ w'.heap[w14.heap.size]? = some (.cells (robjC k3 (strOfNums d3)) 48 (0, 0))) := ⟨fun w' hb => by
          have H := F15.out.trans (hb.mono F15.out.size)
          have G := G15.out.trans (hb.mono G15.out.size)
          exact ⟨(H.block _ (blk_lt X9c.out)).trans X9c.out, (H.block _ (blk_lt X11b.out)).trans X11b.out, (H.block _ (blk_lt X13b.out)).trans X13b.out, (H.block _ (blk_lt X15.out)).trans X15.out, (G.block _ (blk_lt X17.out)).trans X17.out, (hb.block _ (blk_lt X19.out)).trans X19.out⟩⟩
        have HO1 : Bx (∀ w', Below w15.heap.size w15 w' → Calls Tryd.prog 29 #[.agg (objC k1 (.slice T1 d1.length c1))] w' fun e w'' => e = .returned (.agg (robjC k1 (strOfNums d1))) ∧ Below w'.heap.size w' w'') := ⟨fun w' hb => HOWN.out k1 d1 _ w' T1 c1 (RR10.out.below (F15.out.trans (hb.mono F15.out.size)))⟩
        have HO2 : Bx (∀ w', Below w15.heap.size w15 w' → Calls Tryd.prog 29 #[.agg (objC k2 (.slice T2 d2.length c2))] w' fun e w'' => e = .returned (.agg (robjC k2 (strOfNums d2))) ∧ Below w'.heap.size w' w'') := ⟨fun w' hb => HOWN.out k2 d2 _ w' T2 c2 (RS10.out.below (F15.out.trans (hb.mono F15.out.size)))⟩
        have HO3 : Bx (∀ w', Below w15.heap.size w15 w' → Calls Tryd.prog 29 #[.agg (objC k3 (.slice T3 d3.length c3))] w' fun e w'' => e = .returned (.agg (robjC k3 (strOfNums d3))) ∧ Below w'.heap.size w' w'') := ⟨fun w' hb => HOWN.out k3 d3 _ w' T3 c3 (RQ12.out.below (G15.out.trans (hb.mono G15.out.size)))⟩
        have Q1 := bx (fun w' => robj_eq k1 (strOfNums d1) w'); have Q2 := bx (fun w' => robj_eq k2 (strOfNums d2) w'); have Q3 := bx (fun w' => robj_eq k3 (strOfNums d3) w')
        generalize strOfNums d1 = s1 at *
        generalize strOfNums d2 = s2 at *
        generalize strOfNums d3 = s3 at *
        generalize d1.length = m1 at *
        generalize d2.length = m2 at *
        generalize d3.length = m3 at *
        clear HOWN X9c X11b X13b X15 X17 X19 RR10 RS10 RQ12 F12 E14 E15 G15 F15 W10 K10m K12m HIC HIM
        try simp only [Act.put]
        refine region_quietC (fun w' => Below w15.heap.size w15 w') (by kernel_rfl) (by kernel_rfl) ((Below.refl _ _).drew) ?_
        repeat (first
          | go_big_quiet_skip
          | (refine quiet_take (v := .agg (objC k1 (.slice T1 m1 c1))) 99 rfl (by kernel_rfl) (fun w' hw' => quiet_load_all 43 (.tmp 9) rfl rfl (HX.out w' hw').1 Tryd.underlying43 rfl (obj_is _ _ _ _)) ?_; try simp only [List.setIfInBounds_toArray, List.set_cons_zero, List.set_cons_succ])
          | (refine quiet_take (v := .agg (robjC k1 s1)) 101 rfl (by kernel_rfl) (fun w' hw' => quiet_load_all 48 (.tmp 11) rfl rfl (HX.out w' hw').2.1 Tryd.underlying48 rfl (robj_is _ _)) ?_; try simp only [List.setIfInBounds_toArray, List.set_cons_zero, List.set_cons_succ])
          | (refine quiet_take (v := .agg (objC k2 (.slice T2 m2 c2))) 109 rfl (by kernel_rfl) (fun w' hw' => quiet_load_all 43 (.tmp 13) rfl rfl (HX.out w' hw').2.2.1 Tryd.underlying43 rfl (obj_is _ _ _ _)) ?_; try simp only [List.setIfInBounds_toArray, List.set_cons_zero, List.set_cons_succ])
          | (refine quiet_take (v := .agg (robjC k2 s2)) 111 rfl (by kernel_rfl) (fun w' hw' => quiet_load_all 48 (.tmp 15) rfl rfl (HX.out w' hw').2.2.2.1 Tryd.underlying48 rfl (robj_is _ _)) ?_; try simp only [List.setIfInBounds_toArray, List.set_cons_zero, List.set_cons_succ])
          | (refine quiet_take (v := .agg (objC k3 (.slice T3 m3 c3))) 120 rfl (by kernel_rfl) (fun w' hw' => quiet_load_all 43 (.tmp 17) rfl rfl (HX.out w' hw').2.2.2.2.1 Tryd.underlying43 rfl (obj_is _ _ _ _)) ?_; try simp only [List.setIfInBounds_toArray, List.set_cons_zero, List.set_cons_succ])
          | (refine quiet_take (v := .agg (robjC k3 s3)) 122 rfl (by kernel_rfl) (fun w' hw' => quiet_load_all 48 (.tmp 19) rfl rfl (HX.out w' hw').2.2.2.2.2 Tryd.underlying48 rfl (robj_is _ _)) ?_; try simp only [List.setIfInBounds_toArray, List.set_cons_zero, List.set_cons_succ])
          | (refine quiet_take (v := .bool true) 102 rfl (by kernel_rfl) (fun w' hw' => quietAt_eq 48 48 (.tmp 100) (.tmp 101) (robjC k1 s1) (robjC k1 s1) rfl rfl rfl robj_guard (Q1.out w')) ?_; try simp only [List.setIfInBounds_toArray, List.set_cons_zero, List.set_cons_succ])
          | (refine quiet_take (v := .bool true) 112 rfl (by kernel_rfl) (fun w' hw' => quietAt_eq 48 48 (.tmp 110) (.tmp 111) (robjC k2 s2) (robjC k2 s2) rfl rfl rfl robj_guard (Q2.out w')) ?_; try simp only [List.setIfInBounds_toArray, List.set_cons_zero, List.set_cons_succ])
          | (refine quiet_take (v := .bool true) 123 rfl (by kernel_rfl) (fun w' hw' => quietAt_eq 48 48 (.tmp 121) (.tmp 122) (robjC k3 s3) (robjC k3 s3) rfl rfl rfl robj_guard (Q3.out w')) ?_; try simp only [List.setIfInBounds_toArray, List.set_cons_zero, List.set_cons_succ])
          | (go_big_quiet_want; go_big_quiet_op; go_big_quiet_on)
          | (refine quiet_take (v := ?_) _ rfl (by kernel_rfl) ?_ ?_; rotate_left 1; (focus (first | (intro w' hw'; clear hw'; unfold Oper.quietAt; go_simp; done) | (intro w' hw'; clear hw'; unfold Oper.quietAt; go_simp; with_reducible rfl) | (intro w' hw'; skip; unfold Oper.quietAt; go_simp; first | done | with_reducible rfl | ((with_reducible refine (HONE.out w').mono ?_); rintro x w9 ⟨rfl, hb⟩; refine ⟨?_, hw'.trans (hb.mono hw'.size)⟩; with_reducible rfl) | ((with_reducible refine (HO1.out w' hw').mono ?_); rintro x w9 ⟨rfl, hb⟩; refine ⟨?_, hw'.trans (hb.mono hw'.size)⟩; with_reducible rfl) | ((with_reducible refine (HO2.out w' hw').mono ?_); rintro x w9 ⟨rfl, hb⟩; refine ⟨?_, hw'.trans (hb.mono hw'.size)⟩; with_reducible rfl) | ((with_reducible refine (HO3.out w' hw').mono ?_); rintro x w9 ⟨rfl, hb⟩; refine ⟨?_, hw'.trans (hb.mono hw'.size)⟩; with_reducible rfl)))); try simp only [List.setIfInBounds_toArray, List.set_cons_zero, List.set_cons_succ]))
        refine wpQuiet_nil ?_
        intro w16 hw16
        have W16 := bx (W15.out.trans (hw16.mono W15.out.size))
        clear hw16
        go_wp2_with fail
        go_ret
        exact ⟨rfl, W16.out⟩
  · have ways : ((40 : Int) < n) ∨ (¬ (40 : Int) < n ∧ (10 : Int) < cn) ∨ (¬ (40 : Int) < n ∧ ¬ (10 : Int) < cn ∧ (40000 : Int) < (au.size : Int) + tx.size) ∨ (¬ (40 : Int) < n ∧ ¬ (10 : Int) < cn ∧ ¬ (40000 : Int) < (au.size : Int) + tx.size ∧ (40000 : Int) < (name.size : Int) + text.size) := by omega
    clear hall hau htx hnm htx2
    rcases ways with h1 | ⟨h1, h2⟩ | ⟨h1, h2, h3⟩ | ⟨h1, h2, h3, h4⟩
    all_goals
      go_enter Tryd.func7, Tryd.ntmps7
      go_upto_region 1 with fail
      rw [← HW.out]
      clear HW
      go_wp2_with fail
      go_ret
      exact ⟨rfl, B0.out⟩
end Go.Proofs.YthnommoljikaiaaDoor
