/- Objects: ChangeOf. Objects: TreeOf. Objects: look, Check, Links. Objects: look at a commit, at a tree; Check, Links. Objects: look, Check, Links of any; Id; Read. -/
import Derived.Test.YtoompcgdhokdlaaDoorJi
import Derived.Test.YtoompcgdhokdlaaDoorJb
import Derived.Great.BuildSlice
set_option linter.unusedSimpArgs false
set_option linter.unusedVariables false
namespace Go.Proofs.YtoompcgdhokdlaaDoor
open Go.RowKit

theorem idsR_all : ∀ (n : Nat) (s : List Int × Int), IsB s.1 → ∀ e ∈ (idsR n s).1, e.length = 32 ∧ IsB e
  | 0, s, _ => fun e he => by simp [idsR] at he
  | n + 1, s, h => fun e he => by
    unfold idsR at he
    split at he
    · rcases List.mem_cons.1 he with rfl | he
      · exact ⟨idR_length _ _, idR_isB h _⟩
      · exact idsR_all n _ (rRest_isB h _ _) e he
    · simp at he
theorem idsR_le : ∀ (n : Nat) (s : List Int × Int), (idsR n s).1.length ≤ n
  | 0, s => Nat.le_refl _
  | n + 1, s => by
    unfold idsR
    split
    · have := idsR_le n (stR s 32)
      simp only [List.length_cons]
      omega
    · simp
theorem idF_all {l : List (List Int)} (h : ∀ e ∈ l, e.length = 32 ∧ IsB e) (j : Nat) : (idF l j).length = 32 ∧ IsB (idF l j) := by
  unfold idF
  rw [List.getD_eq_getElem?_getD]
  rcases hq : l[j]? with _ | e
  · exact ⟨rfl, zero32_isB⟩
  · exact h e (List.mem_of_getElem? hq)
theorem isB_flat {l : List (List Int)} (h : ∀ e ∈ l, IsB e) : IsB l.flatten := by
  induction l with
  | nil => exact isB_nil
  | cons a l ih => rw [List.flatten_cons]; exact isB_append (h a (by simp)) (ih fun e he => h e (by simp [he]))
theorem changeO_isB {c : ChgA} (ht : IsB c.tree) (hP : ∀ j, IsB (c.P j)) : IsB (changeO c).2.1 := by
  unfold changeO
  split
  · exact isB_nil
  · split
    · exact isB_nil
    · refine fitO_isB (isB_append (isB_append (isB_append (isB_append (isB_append ht (isB_one ⟨by omega, by omega⟩)) (isB_flat fun e he => ?_)) (be_isB _ _)) (textB_isB _)) (textB_isB _))
      obtain ⟨i, _, rfl⟩ := List.mem_map.1 he
      exact hP i
/-- What ChangeOf tells. -/
def ChgP (w : World) (k : Int) (ds : List Int) (e : Ending) (w' : World) : Prop :=
  ∃ A c, e = .returned (.tuple #[.agg (if chgErr k ds = 0 then (chgR ds A c).cells.toArray else chgV zero32 (.slice none 0 0) 0 ⟨#[]⟩ ⟨#[]⟩), .int .i64 (chgErr k ds)]) ∧ RowAt w' A (cgP ds).length 32 (fun j => u8s (idF (cgP ds) j)) ∧ ((∀ p, A = some p → w.heap.size ≤ p.block) ∧ (A = none → c = 0)) ∧ Below w.heap.size w w'
set_option maxRecDepth 100000 in
set_option maxHeartbeats 4000000 in
theorem chgof_any (A : Option Addr) (n cap : Nat) (ds : List Int) (w : World) (hrd : RdB w A n ds) (hnil : A = none → cap = 0) (hB : IsB ds) (hbig : n ≤ 35184372088832) :
    Calls Tryd.prog 18 #[.agg (objC 3 (.slice A n cap))] w (ChgP w 3 ds) := by
  have HE0 : chgErr 3 ds = freshO (doneO (cg6 ds).1 (cg6 ds).2) (changeO (chgR ds none 0)) 3 ds := rfl
  have HC0 : ∀ A c, (chgR ds A c).cells.toArray = chgV (idR ds 0) (.slice A (cgP ds).length c) (num (stO (cg3 ds) 8)) (strOfNums (stT (cg4 ds))) (strOfNums (stT (cg5 ds))) := fun _ _ => rfl
  have HP0 : ∀ e w', (∃ A c X, e = .returned (.tuple #[.agg X, .int .i64 (chgErr 3 ds)]) ∧ X = (if chgErr 3 ds = 0 then (chgR ds A c).cells.toArray else chgV zero32 (.slice none 0 0) 0 ⟨#[]⟩ ⟨#[]⟩) ∧ RowAt w' A (cgP ds).length 32 (fun j => u8s (idF (cgP ds) j)) ∧ ((∀ p, A = some p → w.heap.size ≤ p.block) ∧ (A = none → c = 0))) → Below w.heap.size w w' → ChgP w 3 ds e w' := by
    rintro e w' ⟨A, c, X, rfl, rfl, h1, h2⟩ hb
    exact ⟨A, c, rfl, h1, h2, hb⟩
  have hid := idR_length ds 0
  have hidB := idR_isB hB 0
  have b1 : IsB (cg1 ds).1 := rRest_isB hB 0 32
  have b2 : IsB (cg2 ds).1 := rRest_isB b1 _ 1
  have hall : ∀ e ∈ cgP ds, e.length = 32 ∧ IsB e := idsR_all _ _ b2
  have hF : ∀ j, (idF (cgP ds) j).length = 32 ∧ IsB (idF (cgP ds) j) := idF_all hall
  have hnum : 0 ≤ num (stO (cg1 ds) 1) ∧ num (stO (cg1 ds) 1) < 256 := num_lt _ (rOut_isB b1 _ 1) 1 (rOut_m _ _ 1)
  have hle : (cgP ds).length ≤ cgN ds := idsR_le _ _
  have hnn : num (stO (cg1 ds) 1) = (cgN ds : Int) := by rw [cgN]; omega
  have HFULL : ∀ A c w', RowAt w' A (cgP ds).length 32 (fun j => u8s (idF (cgP ds) j)) → ChgA.Full (chgR ds A c) w' := fun A c w' h => ⟨hid, h, fun j _ => (hF j).1⟩
  have hBr : IsB (changeO (chgR ds none 0)).2.1 := changeO_isB hidB fun j => (hF j).2
  have HCLO : ∀ b A c w', w'.heap[b]? = some (.cells (chgR ds A c).cells.toArray 28 (0, 0)) → RowAt w' A (cgP ds).length 32 (fun j => u8s (idF (cgP ds) j)) → ∀ w2, Below w'.heap.size w' w2 → Calls Tryd.prog 49 #[.pointer (some ⟨b, 0, none⟩)] w2 (ObjO w2 (changeO (chgR ds none 0))) := fun b A c w' hk hr w2 hb =>
    chgclo_any b (chgR ds A c) w2 ((hb.block _ (blk_lt hk)).trans hk) (HFULL A c w2 (hr.below hb))
  have HG1 : cg1 ds = stR (ds, 0) 32 := rfl
  have HG2 : cg2 ds = stR (cg1 ds) 1 := rfl
  have HG3 : (idsR (cgN ds) (cg2 ds)).2 = cg3 ds := rfl
  have HGP : (cgP ds).drop 0 = (idsR (cgN ds) (cg2 ds)).1 := rfl
  have HG4 : cg4 ds = stR (cg3 ds) 8 := rfl
  have HG5 : cg5 ds = stS (cg4 ds) := rfl
  have HG6 : cg6 ds = stS (cg5 ds) := rfl
  have hnl : (cgP ds).length ≤ 255 := by have := hnum.2; omega
  have hn255 : cgN ds ≤ 255 := by have := hnum.2; omega
  generalize chgErr 3 ds = me at *
  generalize ChgP w 3 ds = OUT at *
  generalize changeO (chgR ds none 0) = r at *
  generalize cgN ds = nn at *
  obtain ⟨CC, hCC⟩ : ∃ CC : Option Addr → Nat → Array Value, (fun A c => (chgR ds A c).cells.toArray) = CC := ⟨_, rfl⟩
  have hCC' : ∀ A c, (chgR ds A c).cells.toArray = CC A c := fun A c => by rw [← hCC]
  simp only [hCC'] at HC0 HP0 HCLO
  obtain ⟨s1, hs1⟩ : ∃ s, cg1 ds = s := ⟨_, rfl⟩
  obtain ⟨s2, hs2⟩ : ∃ s, cg2 ds = s := ⟨_, rfl⟩
  obtain ⟨s3, hs3⟩ : ∃ s, cg3 ds = s := ⟨_, rfl⟩
  obtain ⟨s4, hs4⟩ : ∃ s, cg4 ds = s := ⟨_, rfl⟩
  obtain ⟨s5, hs5⟩ : ∃ s, cg5 ds = s := ⟨_, rfl⟩
  obtain ⟨s6, hs6⟩ : ∃ s, cg6 ds = s := ⟨_, rfl⟩
  obtain ⟨L, hL⟩ : ∃ s, cgP ds = s := ⟨_, rfl⟩
  obtain ⟨id, hidE⟩ : ∃ id, idR ds 0 = id := ⟨_, rfl⟩
  simp only [hs1, hs2, hs3, hs4, hs5, hs6, hL, hidE] at HE0 HC0 HP0 hid hF hBr HCLO HG1 HG2 HG3 HGP HG4 HG5 HG6 hnl hnn hle
  obtain ⟨tm, htm⟩ : ∃ x, num (stO s3 8) = x := ⟨_, rfl⟩
  obtain ⟨au, hau⟩ : ∃ x, strOfNums (stT s4) = x := ⟨_, rfl⟩
  obtain ⟨tx, htx⟩ : ∃ x, strOfNums (stT s5) = x := ⟨_, rfl⟩
  rw [htm, hau, htx] at HC0
  have HID := bx hidE; have HTM := bx htm; have HAU := bx hau; have HTX := bx htx; have HL3 := bx HG3; have HLP := bx HGP
  have HS1 := bx HG1.symm; have HS2 := bx HG2.symm; have HS4 := bx HG4.symm; have HS5 := bx HG5.symm; have HS6 := bx HG6.symm; have HNN := bx hnn
  have HP := bx HP0; have HE := bx HE0; have HCC := bx HC0; have HRD := bx hrd; have HN := bx hnil; have HB := bx hB; have HCL := bx HCLO; have HBR := bx hBr; have HFA := bx hF
  clear HP0 HE0 HC0 hrd hnil hB HCLO hBr hF hall HFULL b1 b2 hidB HG1 HG2 HG3 HGP HG4 HG5 HG6 hidE htm hau htx hs1 hs2 hs3 hs4 hs5 hs6 hL hCC hCC' hnn hnum hle
  have GZ := bx chg_built0; have G1 := bx (chg_built1 id hid)
  have IV := fun v t a x => bx (chgV_is hid v t a x); have SV := fun v t a x => bx (chgV_size hid v t a x)
  have IZ := bx (chgV_is rfl (.slice none 0 0) 0 ⟨#[]⟩ ⟨#[]⟩ : (Tryd.prog.info? 28).map (·.size) = some (chgV zero32 (.slice none 0 0) 0 ⟨#[]⟩ ⟨#[]⟩).size)
  have HIDL := bx hid
  obtain ⟨w0, hw0⟩ : ∃ w0, w0 = (w.alloc (.cells (objC 3 (.slice A n cap)) 35)).alloc (.cells (chgV zero32 (.slice none 0 0) 0 ⟨#[]⟩ ⟨#[]⟩) 28) := ⟨_, rfl⟩
  have K0 : Bx (w0.heap[w.heap.size]? = some (.cells (objC 3 (.slice A n cap)) 35 (0, 0))) := ⟨by rw [hw0]; exact heap_alloc2_old w _ _⟩
  have K1 : Bx (w0.heap[w.heap.size + 1]? = some (.cells (chgV zero32 (.slice none 0 0) 0 ⟨#[]⟩ ⟨#[]⟩) 28 (0, 0))) := ⟨by rw [hw0]; exact heap_alloc2_new w _ _⟩
  have D0 : Bx (Below w.heap.size w w0) := ⟨by rw [hw0]; exact (((Below.refl _ _).alloc (Nat.le_refl _) _).alloc (by simp; try omega) _)⟩
  have hsz0 : w0.heap.size = w.heap.size + 2 := by rw [hw0]; simp
  have SZ0 := bx hsz0; clear hsz0
  have HW := bx hw0; clear hw0
  have z0 : w0.cell? ⟨w.heap.size, 0, none⟩ = some (.int .i64 3) := blk_cell K0.out rfl
  have z1 : w0.cell? ⟨w.heap.size, 1, none⟩ = some (.slice A n cap) := blk_cell K0.out rfl
  clear hid
  go_enter Tryd.func18, Tryd.ntmps18
  go_upto_region 1 with fail
  have E := HW.out.symm
  simp only [chgV, u8s, zero32, List.replicate, List.map, List.cons_append, List.nil_append] at E
  rw [E]
  clear E HW
  go_wp2_with fail
  refine (new_s A n cap ds w0 (HRD.out.below D0.out) HN.out HB.out hbig).mono ?_
  rintro e w1 ⟨R, rfl, hS, hRl, hb⟩
  have S0 := bx hS
  replace K0 := bx (((hb).block _ (blk_lt K0.out)).trans K0.out)
  replace K1 := bx (((hb).block _ (blk_lt K1.out)).trans K1.out)
  replace D0 := bx (D0.out.trans ((hb).mono D0.out.size))
  have hR2 : w.heap.size + 2 ≤ R := by have := SZ0.out; omega
  have LO : Bx (w0.heap.size = w.heap.size + 2) := SZ0
  clear hS hb hRl z0 z1 SZ0
  go_wp2_with fail
  have hI := id_s S0.out
  dsimp only at hI
  rw [HID.out, HS1.out] at hI
  refine hI.mono ?_
  rintro e w2 ⟨rfl, hS, ho⟩
  have S1 := bx hS
  replace K0 := bx (((ho).block _ (blk_lt K0.out) (by omega)).trans K0.out)
  replace K1 := bx (((ho).block _ (blk_lt K1.out) (by omega)).trans K1.out)
  replace D0 := bx (D0.out.trans ((ho).below D0.out.size (by omega)))
  clear hS ho S0 hI
  have hRM := S1.out.lt
  go_upto_region 5 with (first
    | ((with_reducible refine at_build 17 ?_); go_must (refine wpList_build2 rfl 28 [(0, .tmp 16)] rfl _ rfl _ G1.out ?_))
    | ((with_reducible refine at_store (.tmp 5) (.tmp 17) ?_); go_must (refine store_all (cs := chgV id (.slice none 0 0) 0 ⟨#[]⟩ ⟨#[]⟩) 28 (.tmp 5) (.tmp 17) rfl rfl rfl rfl (blk_new w2 _) (IV _ _ _ _).out (by rw [(SV _ _ _ _).out]; rfl) (chgV_one _ rfl _ _ _) ?_; intro w3 hu3; have K5 := bx hu3.same; have F3 := bx (((Below.refl w2.heap.size w2).alloc (Nat.le_refl _) _).trans (hu3.below (Nat.le_refl _))); clear hu3)))
  replace K0 := bx (((F3.out).block _ (blk_lt K0.out)).trans K0.out)
  replace K1 := bx (((F3.out).block _ (blk_lt K1.out)).trans K1.out)
  replace S1 := bx (S1.out.kept F3.out)
  replace D0 := bx (D0.out.trans ((F3.out).mono D0.out.size))
  have hlw : w.heap.size + 2 ≤ w2.heap.size := by omega
  have hM5 := blk_lt K5.out
  clear F3
  go_wp2_with fail
  refine (num_s1 S1.out).mono ?_
  rintro e w4 ⟨rfl, hS, ho⟩
  rw [HS2.out] at hS
  rw [HNN.out]
  have S2 := bx hS
  replace K0 := bx (((ho).block _ (blk_lt K0.out) (by omega)).trans K0.out)
  replace K1 := bx (((ho).block _ (blk_lt K1.out) (by omega)).trans K1.out)
  replace K5 := bx (((ho).block _ (blk_lt K5.out) (by omega)).trans K5.out)
  replace D0 := bx (D0.out.trans ((ho).below D0.out.size (by omega)))
  have hM6 : w2.heap.size < w4.heap.size := blk_lt K5.out
  clear hS ho S1 hM5
  obtain ⟨M, hM⟩ : ∃ M, w2.heap.size = M := ⟨_, rfl⟩
  rw [hM] at K5 hRM hlw hM6 ⊢
  clear hM
  go_wp2_with fail
  go_loopw [6] (fun x wr => ∃ (m j : Nat) (s : List Int × Int) (v : Value), x = .int .u64 m ∧ m ≤ 255 ∧ j ≤ L.length ∧ OwR wr (M + 1) 24 32 v j (fun i => u8s (idF L i)) ∧ RdS w0.heap.size wr R s ∧ L.drop j = (idsR m s).1 ∧ (idsR m s).2 = s3 ∧ wr.heap[M]? = some (.cells (chgV id v 0 ⟨#[]⟩ ⟨#[]⟩) 28 (0, 0)) ∧ wr.heap[w.heap.size]? = some (.cells (objC 3 (.slice A n cap)) 35 (0, 0)) ∧ wr.heap[w.heap.size + 1]? = some (.cells (chgV zero32 (.slice none 0 0) 0 ⟨#[]⟩ ⟨#[]⟩) 28 (0, 0)) ∧ Below w.heap.size w wr) (fun x _ => (intOf x).toNat)
  case atStart => exact ⟨nn, 0, s2, _, rfl, hn255, Nat.zero_le _, OwR.nil _ _ _ _ _, S2.out, HLP.out, HL3.out, K5.out, K0.out, K1.out, D0.out⟩
  case round =>
    rename_i wr
    obtain ⟨m, j, s, v, rfl, hm, hj, hown, hrd, hlp, hl3, hk5, hk0, hk1, hb⟩ := hrel
    have O := bx hown; have S := bx hrd; have K5 := bx hk5; have K0 := bx hk0; have K1 := bx hk1; have D := bx hb
    have HWr := bx (wrong_s hrd)
    have more : (m = 0 ∧ j = L.length ∧ s = s3) ∨ (∃ m', m = m' + 1 ∧ ¬ rWrong s.2 = 0 ∧ j = L.length ∧ s = s3) ∨ (∃ m', m = m' + 1 ∧ rWrong s.2 = 0 ∧ j < L.length ∧ idF L j = idR s.1 s.2 ∧ L.drop (j + 1) = (idsR m' (stR s 32)).1 ∧ (idsR m' (stR s 32)).2 = s3) := by
      have hdl := congrArg List.length hlp
      rw [List.length_drop] at hdl
      cases m with
      | zero => exact .inl ⟨rfl, by have : (idsR 0 s).1.length = 0 := rfl; omega, hl3⟩
      | succ m' =>
        by_cases hw : rWrong s.2 = 0
        · rw [idsR, if_pos hw] at hlp hl3 hdl
          dsimp only at hlp hl3 hdl
          rw [List.length_cons] at hdl
          refine .inr (.inr ⟨m', rfl, hw, by omega, ?_, ?_, hl3⟩)
          · have h0 : (L.drop j)[0]? = some (idR s.1 s.2) := by rw [hlp]; rfl
            rw [List.getElem?_drop, Nat.add_zero] at h0
            rw [idF, List.getD_eq_getElem?_getD, h0]; rfl
          · rw [← List.tail_drop, hlp]; rfl
        · rw [idsR, if_neg hw] at hlp hl3 hdl
          have : ([] : List (List Int)).length = 0 := rfl
          exact .inr (.inl ⟨m', rfl, hw, by dsimp only at hdl; omega, hl3⟩)
    clear hown hrd hlp hl3 hk5 hk0 hk1 hb S2 D0 HL3 HLP
    rcases more with ⟨rfl, rfl, rfl⟩ | ⟨m', rfl, hw, rfl, rfl⟩ | ⟨m', rfl, hw, hjl, hidj, hlp, hl3⟩
    · skip
      go_wp2_with fail
      skip
      obtain ⟨A9, c9, rfl, hp9, hr9⟩ := O.out.rd fun i _ => by rw [u8s_length]; exact (HFA.out i).1
      have P9 := bx hp9; have NC := bx O.out.nilcap
      clear hr9 hp9
      refine (num_s8 S.out).mono ?_
      rintro e w5 ⟨rfl, hS, ho⟩
      rw [HS4.out] at hS
      rw [HTM.out]
      replace K0 := bx (((ho).block _ (blk_lt K0.out) (by omega)).trans K0.out)
      replace K1 := bx (((ho).block _ (blk_lt K1.out) (by omega)).trans K1.out)
      replace K5 := bx (((ho).block _ (blk_lt K5.out) (by omega)).trans K5.out)
      replace D := bx (D.out.trans ((ho).below D.out.size (by omega)))
      replace O := bx (O.out.only ho (by omega))
      obtain ⟨q33, _, _⟩ := (chgV_get HIDL.out (.slice A9 L.length c9) 0 ⟨#[]⟩ ⟨#[]⟩).2
      have z5 : w5.cell? ⟨M, 33, none⟩ = some (.int .u64 0) := blk_cell K5.out q33
      have f5 : w5.frozen? ⟨M, 33, none⟩ = false := blk_frozen 33 K5.out
      obtain ⟨w6, hw6⟩ : ∃ w6, w6 = w5.setCell ⟨M, 33, none⟩ (.int .u64 tm) := ⟨_, rfl⟩
      have hu6 := upd_cell (j := 33) K5.out (.int .u64 tm)
      rw [← hw6, (chgV_set HIDL.out _ undef 0 tm ⟨#[]⟩ ⟨#[]⟩ ⟨#[]⟩ ⟨#[]⟩).2.1] at hu6
      have S6 := bx (hS.upd hu6 (.inl hRM))
      replace K0 := bx ((hu6).blk K0.out (by omega))
      replace K1 := bx ((hu6).blk K1.out (by omega))
      replace D := bx (D.out.trans ((hu6).below (by omega)))
      replace O := bx (O.out.upd hu6 (by omega))
      replace K5 := bx hu6.same
      have HW6 := bx hw6
      clear hS ho hu6 hw6 q33 S HWr
      go_wp2_with fail
      rw [← HW6.out]
      clear HW6 z5 f5
      refine (sz_s S6.out).mono ?_
      rintro e w7 ⟨A4, n4, c4, rfl, hr, hn4, hS, ho⟩
      rw [HS5.out] at hS
      replace K0 := bx (((ho).block _ (blk_lt K0.out) (by omega)).trans K0.out)
      replace K1 := bx (((ho).block _ (blk_lt K1.out) (by omega)).trans K1.out)
      replace K5 := bx (((ho).block _ (blk_lt K5.out) (by omega)).trans K5.out)
      replace D := bx (D.out.trans ((ho).below D.out.size (by omega)))
      replace O := bx (O.out.only ho (by omega))
      have hcv := str_of hr c4
      rw [HAU.out] at hcv
      obtain ⟨q34, q35⟩ := (chgV_get HIDL.out (.slice A9 L.length c9) tm ⟨#[]⟩ ⟨#[]⟩).2.2
      have z5 : w7.cell? ⟨M, 34, none⟩ = some (.string ⟨#[]⟩) := blk_cell K5.out q34
      have f5 : w7.frozen? ⟨M, 34, none⟩ = false := blk_frozen 34 K5.out
      have z6 : w7.cell? ⟨M, 35, none⟩ = some (.string ⟨#[]⟩) := blk_cell K5.out q35
      have f6 : w7.frozen? ⟨M, 35, none⟩ = false := blk_frozen 35 K5.out
      obtain ⟨w8, hw8⟩ : ∃ w8, w8 = (w7.setCell ⟨M, 34, none⟩ (.string au)).setCell ⟨M, 35, none⟩ (.string ⟨#[]⟩) := ⟨_, rfl⟩
      have hu7 := upd_cell (j := 34) K5.out (.string au)
      rw [(chgV_set HIDL.out _ undef tm 0 ⟨#[]⟩ au ⟨#[]⟩ ⟨#[]⟩).2.2.1] at hu7
      have hu8 := upd_cell (j := 35) hu7.same (.string ⟨#[]⟩)
      rw [(chgV_set HIDL.out _ undef tm 0 au au ⟨#[]⟩ ⟨#[]⟩).2.2.2, ← hw8] at hu8
      have hu9 := hu7.trans hu8
      have S8 := bx (hS.upd hu9 (.inl hRM))
      replace K0 := bx ((hu9).blk K0.out (by omega))
      replace K1 := bx ((hu9).blk K1.out (by omega))
      replace D := bx (D.out.trans ((hu9).below (by omega)))
      replace O := bx (O.out.upd hu9 (by omega))
      replace K5 := bx hu9.same
      have HW8 := bx hw8
      clear hS ho hu7 hu8 hu9 hw8 q34 q35 S6 hr
      go_wp2_with fail
      rw [← HW8.out]
      clear HW8 z5 f5 z6 f6 hcv
      refine (sz_s S8.out).mono ?_
      rintro e w9 ⟨A6, n6, c6, rfl, hr, hn6, hS, ho⟩
      rw [HS6.out] at hS
      replace K0 := bx (((ho).block _ (blk_lt K0.out) (by omega)).trans K0.out)
      replace K1 := bx (((ho).block _ (blk_lt K1.out) (by omega)).trans K1.out)
      replace K5 := bx (((ho).block _ (blk_lt K5.out) (by omega)).trans K5.out)
      replace D := bx (D.out.trans ((ho).below D.out.size (by omega)))
      replace O := bx (O.out.only ho (by omega))
      have hcv := str_of hr c6
      rw [HTX.out] at hcv
      obtain ⟨_, q35⟩ := (chgV_get HIDL.out (.slice A9 L.length c9) tm au ⟨#[]⟩).2.2
      have z5 : w9.cell? ⟨M, 35, none⟩ = some (.string ⟨#[]⟩) := blk_cell K5.out q35
      have f5 : w9.frozen? ⟨M, 35, none⟩ = false := blk_frozen 35 K5.out
      obtain ⟨w10, hw10⟩ : ∃ w10, w10 = w9.setCell ⟨M, 35, none⟩ (.string tx) := ⟨_, rfl⟩
      have hu10 := upd_cell (j := 35) K5.out (.string tx)
      rw [← hw10, (chgV_set HIDL.out _ undef tm 0 au au ⟨#[]⟩ tx).2.2.2, ← HCC.out] at hu10
      have S10 := bx (hS.upd hu10 (.inl hRM))
      replace K0 := bx ((hu10).blk K0.out (by omega))
      replace K1 := bx ((hu10).blk K1.out (by omega))
      replace D := bx (D.out.trans ((hu10).below (by omega)))
      replace O := bx (O.out.upd hu10 (by omega))
      replace K5 := bx hu10.same
      have HW10 := bx hw10
      obtain ⟨A8, c8, ev, _, hr9⟩ := O.out.rd fun i _ => by rw [u8s_length]; exact (HFA.out i).1
      cases ev
      have A9r := bx hr9
      clear hS ho hu10 hw10 q35 S8 hr hr9 O
      go_wp2_with (first
        | ((with_reducible refine at_load 48 ?_); rw [← HW10.out]; go_must (refine load_all 35 (.tmp 1) rfl rfl rfl K0.out Tryd.underlying35 rfl (obj_is _ _ _ _) ?_)))
      clear HW10 z5 f5 hcv
      refine (fresh_chg 3 A n cap ds R s6.1 s6.2 _ r w10 (HRD.out.below D.out) HB.out HBR.out S10.out.1 (fun w' hb => HCL.out M A9 c9 w10 K5.out A9r.out w' hb)).mono ?_
      rintro e w11 ⟨rfl, hb⟩
      replace K1 := bx (((hb).block _ (blk_lt K1.out)).trans K1.out)
      replace K5 := bx (((hb).block _ (blk_lt K5.out)).trans K5.out)
      replace D := bx (D.out.trans ((hb).mono D.out.size))
      replace A9r := bx (A9r.out.below hb)
      rw [← HE.out]
      clear hb S10 HE HCL HBR HRD HB K0
      by_cases hme : me = 0
      · subst hme
        simp only [if_true] at HP
        have MI3 := IV (.slice A9 L.length c9) tm au tx
        rw [← HCC.out] at MI3
        have MO3 := bx (chgV_one id (v := .slice A9 L.length c9) rfl tm au tx)
        rw [← HCC.out] at MO3
        have hsz : (CC A9 c9).size = (chgV zero32 (.slice none 0 0) 0 ⟨#[]⟩ ⟨#[]⟩).size := by rw [HCC.out, (SV _ _ _ _).out]; rfl
        have HSZ := bx hsz
        clear hsz
        go_wp2_with (first
          | ((with_reducible refine at_load 56 ?_); go_must (refine load_all 28 (.tmp 5) rfl rfl rfl K5.out Tryd.underlying28 rfl MI3.out ?_))
          | ((with_reducible refine at_store (.tmp 2) (.tmp 56) ?_); go_must (refine store_all (cs := CC A9 c9) 28 (.tmp 2) (.tmp 56) rfl rfl rfl rfl K1.out MI3.out HSZ.out MO3.out ?_; intro w12 hu12; have R9 := bx hu12.same; have D9 := bx (D.out.trans (hu12.below (Nat.le_succ _))); have A12 := bx (A9r.out.upd_ne hu12 (fun p hp => by have := P9.out p hp; omega)); clear hu12)))
        refine bodyPost_ret (results_ct (cs := CC A9 c9) rfl _ _ (w.heap.size + 1) 28 _ _ rfl rfl R9.out Tryd.underlying28 rfl MI3.out) rfl ?_
        exact HP.out _ _ ⟨A9, c9, _, rfl, rfl, A12.out, fun p hp => by have := P9.out p hp; omega, NC.out⟩ D9.out
      · have h0 : (me == 0) = false := by simp [hme]
        have h1 : (me != 0) = true := by simp [hme]
        simp only [if_neg hme] at HP
        clear hme
        go_wp2_with (first
          | ((with_reducible refine at_build 54 ?_); go_must (refine wpList_build2 rfl 28 [] rfl [] rfl _ GZ.out ?_))
          | ((with_reducible refine at_store (.tmp 2) (.tmp 54) ?_); go_must (refine store_all (cs := chgV zero32 (.slice none 0 0) 0 ⟨#[]⟩ ⟨#[]⟩) 28 (.tmp 2) (.tmp 54) rfl rfl rfl rfl K1.out IZ.out rfl (chgV_one _ rfl _ _ _) ?_; intro w12 hu12; have R9 := bx hu12.same; have D9 := bx (D.out.trans (hu12.below (Nat.le_succ _))); have A12 := bx (A9r.out.upd_ne hu12 (fun p hp => by have := P9.out p hp; omega)); clear hu12)))
        refine bodyPost_ret (results_ct (cs := chgV zero32 (.slice none 0 0) 0 ⟨#[]⟩ ⟨#[]⟩) rfl _ _ (w.heap.size + 1) 28 _ _ rfl rfl R9.out Tryd.underlying28 rfl IZ.out) rfl ?_
        exact HP.out _ _ ⟨A9, c9, _, rfl, rfl, A12.out, fun p hp => by have := P9.out p hp; omega, NC.out⟩ D9.out
    · (have hwq : (rWrong s.2 == 0) = false := by simp [hw]); have e1 : (0 : Int) < (m' : Int) + 1 := by omega
      go_wp2_with fail
      (refine HWr.out.mono ?_; rintro x w9 ⟨rfl, rfl⟩; go_wp2_with fail)
      obtain ⟨A9, c9, rfl, hp9, hr9⟩ := O.out.rd fun i _ => by rw [u8s_length]; exact (HFA.out i).1
      have P9 := bx hp9; have NC := bx O.out.nilcap
      clear hr9 hp9
      refine (num_s8 S.out).mono ?_
      rintro e w5 ⟨rfl, hS, ho⟩
      rw [HS4.out] at hS
      rw [HTM.out]
      replace K0 := bx (((ho).block _ (blk_lt K0.out) (by omega)).trans K0.out)
      replace K1 := bx (((ho).block _ (blk_lt K1.out) (by omega)).trans K1.out)
      replace K5 := bx (((ho).block _ (blk_lt K5.out) (by omega)).trans K5.out)
      replace D := bx (D.out.trans ((ho).below D.out.size (by omega)))
      replace O := bx (O.out.only ho (by omega))
      obtain ⟨q33, _, _⟩ := (chgV_get HIDL.out (.slice A9 L.length c9) 0 ⟨#[]⟩ ⟨#[]⟩).2
      have z5 : w5.cell? ⟨M, 33, none⟩ = some (.int .u64 0) := blk_cell K5.out q33
      have f5 : w5.frozen? ⟨M, 33, none⟩ = false := blk_frozen 33 K5.out
      obtain ⟨w6, hw6⟩ : ∃ w6, w6 = w5.setCell ⟨M, 33, none⟩ (.int .u64 tm) := ⟨_, rfl⟩
      have hu6 := upd_cell (j := 33) K5.out (.int .u64 tm)
      rw [← hw6, (chgV_set HIDL.out _ undef 0 tm ⟨#[]⟩ ⟨#[]⟩ ⟨#[]⟩ ⟨#[]⟩).2.1] at hu6
      have S6 := bx (hS.upd hu6 (.inl hRM))
      replace K0 := bx ((hu6).blk K0.out (by omega))
      replace K1 := bx ((hu6).blk K1.out (by omega))
      replace D := bx (D.out.trans ((hu6).below (by omega)))
      replace O := bx (O.out.upd hu6 (by omega))
      replace K5 := bx hu6.same
      have HW6 := bx hw6
      clear hS ho hu6 hw6 q33 S HWr
      go_wp2_with fail
      rw [← HW6.out]
      clear HW6 z5 f5
      refine (sz_s S6.out).mono ?_
      rintro e w7 ⟨A4, n4, c4, rfl, hr, hn4, hS, ho⟩
      rw [HS5.out] at hS
      replace K0 := bx (((ho).block _ (blk_lt K0.out) (by omega)).trans K0.out)
      replace K1 := bx (((ho).block _ (blk_lt K1.out) (by omega)).trans K1.out)
      replace K5 := bx (((ho).block _ (blk_lt K5.out) (by omega)).trans K5.out)
      replace D := bx (D.out.trans ((ho).below D.out.size (by omega)))
      replace O := bx (O.out.only ho (by omega))
      have hcv := str_of hr c4
      rw [HAU.out] at hcv
      obtain ⟨q34, q35⟩ := (chgV_get HIDL.out (.slice A9 L.length c9) tm ⟨#[]⟩ ⟨#[]⟩).2.2
      have z5 : w7.cell? ⟨M, 34, none⟩ = some (.string ⟨#[]⟩) := blk_cell K5.out q34
      have f5 : w7.frozen? ⟨M, 34, none⟩ = false := blk_frozen 34 K5.out
      have z6 : w7.cell? ⟨M, 35, none⟩ = some (.string ⟨#[]⟩) := blk_cell K5.out q35
      have f6 : w7.frozen? ⟨M, 35, none⟩ = false := blk_frozen 35 K5.out
      obtain ⟨w8, hw8⟩ : ∃ w8, w8 = (w7.setCell ⟨M, 34, none⟩ (.string au)).setCell ⟨M, 35, none⟩ (.string ⟨#[]⟩) := ⟨_, rfl⟩
      have hu7 := upd_cell (j := 34) K5.out (.string au)
      rw [(chgV_set HIDL.out _ undef tm 0 ⟨#[]⟩ au ⟨#[]⟩ ⟨#[]⟩).2.2.1] at hu7
      have hu8 := upd_cell (j := 35) hu7.same (.string ⟨#[]⟩)
      rw [(chgV_set HIDL.out _ undef tm 0 au au ⟨#[]⟩ ⟨#[]⟩).2.2.2, ← hw8] at hu8
      have hu9 := hu7.trans hu8
      have S8 := bx (hS.upd hu9 (.inl hRM))
      replace K0 := bx ((hu9).blk K0.out (by omega))
      replace K1 := bx ((hu9).blk K1.out (by omega))
      replace D := bx (D.out.trans ((hu9).below (by omega)))
      replace O := bx (O.out.upd hu9 (by omega))
      replace K5 := bx hu9.same
      have HW8 := bx hw8
      clear hS ho hu7 hu8 hu9 hw8 q34 q35 S6 hr
      go_wp2_with fail
      rw [← HW8.out]
      clear HW8 z5 f5 z6 f6 hcv
      refine (sz_s S8.out).mono ?_
      rintro e w9 ⟨A6, n6, c6, rfl, hr, hn6, hS, ho⟩
      rw [HS6.out] at hS
      replace K0 := bx (((ho).block _ (blk_lt K0.out) (by omega)).trans K0.out)
      replace K1 := bx (((ho).block _ (blk_lt K1.out) (by omega)).trans K1.out)
      replace K5 := bx (((ho).block _ (blk_lt K5.out) (by omega)).trans K5.out)
      replace D := bx (D.out.trans ((ho).below D.out.size (by omega)))
      replace O := bx (O.out.only ho (by omega))
      have hcv := str_of hr c6
      rw [HTX.out] at hcv
      obtain ⟨_, q35⟩ := (chgV_get HIDL.out (.slice A9 L.length c9) tm au ⟨#[]⟩).2.2
      have z5 : w9.cell? ⟨M, 35, none⟩ = some (.string ⟨#[]⟩) := blk_cell K5.out q35
      have f5 : w9.frozen? ⟨M, 35, none⟩ = false := blk_frozen 35 K5.out
      obtain ⟨w10, hw10⟩ : ∃ w10, w10 = w9.setCell ⟨M, 35, none⟩ (.string tx) := ⟨_, rfl⟩
      have hu10 := upd_cell (j := 35) K5.out (.string tx)
      rw [← hw10, (chgV_set HIDL.out _ undef tm 0 au au ⟨#[]⟩ tx).2.2.2, ← HCC.out] at hu10
      have S10 := bx (hS.upd hu10 (.inl hRM))
      replace K0 := bx ((hu10).blk K0.out (by omega))
      replace K1 := bx ((hu10).blk K1.out (by omega))
      replace D := bx (D.out.trans ((hu10).below (by omega)))
      replace O := bx (O.out.upd hu10 (by omega))
      replace K5 := bx hu10.same
      have HW10 := bx hw10
      obtain ⟨A8, c8, ev, _, hr9⟩ := O.out.rd fun i _ => by rw [u8s_length]; exact (HFA.out i).1
      cases ev
      have A9r := bx hr9
      clear hS ho hu10 hw10 q35 S8 hr hr9 O
      go_wp2_with (first
        | ((with_reducible refine at_load 48 ?_); rw [← HW10.out]; go_must (refine load_all 35 (.tmp 1) rfl rfl rfl K0.out Tryd.underlying35 rfl (obj_is _ _ _ _) ?_)))
      clear HW10 z5 f5 hcv
      refine (fresh_chg 3 A n cap ds R s6.1 s6.2 _ r w10 (HRD.out.below D.out) HB.out HBR.out S10.out.1 (fun w' hb => HCL.out M A9 c9 w10 K5.out A9r.out w' hb)).mono ?_
      rintro e w11 ⟨rfl, hb⟩
      replace K1 := bx (((hb).block _ (blk_lt K1.out)).trans K1.out)
      replace K5 := bx (((hb).block _ (blk_lt K5.out)).trans K5.out)
      replace D := bx (D.out.trans ((hb).mono D.out.size))
      replace A9r := bx (A9r.out.below hb)
      rw [← HE.out]
      clear hb S10 HE HCL HBR HRD HB K0
      by_cases hme : me = 0
      · subst hme
        simp only [if_true] at HP
        have MI3 := IV (.slice A9 L.length c9) tm au tx
        rw [← HCC.out] at MI3
        have MO3 := bx (chgV_one id (v := .slice A9 L.length c9) rfl tm au tx)
        rw [← HCC.out] at MO3
        have hsz : (CC A9 c9).size = (chgV zero32 (.slice none 0 0) 0 ⟨#[]⟩ ⟨#[]⟩).size := by rw [HCC.out, (SV _ _ _ _).out]; rfl
        have HSZ := bx hsz
        clear hsz
        go_wp2_with (first
          | ((with_reducible refine at_load 56 ?_); go_must (refine load_all 28 (.tmp 5) rfl rfl rfl K5.out Tryd.underlying28 rfl MI3.out ?_))
          | ((with_reducible refine at_store (.tmp 2) (.tmp 56) ?_); go_must (refine store_all (cs := CC A9 c9) 28 (.tmp 2) (.tmp 56) rfl rfl rfl rfl K1.out MI3.out HSZ.out MO3.out ?_; intro w12 hu12; have R9 := bx hu12.same; have D9 := bx (D.out.trans (hu12.below (Nat.le_succ _))); have A12 := bx (A9r.out.upd_ne hu12 (fun p hp => by have := P9.out p hp; omega)); clear hu12)))
        refine bodyPost_ret (results_ct (cs := CC A9 c9) rfl _ _ (w.heap.size + 1) 28 _ _ rfl rfl R9.out Tryd.underlying28 rfl MI3.out) rfl ?_
        exact HP.out _ _ ⟨A9, c9, _, rfl, rfl, A12.out, fun p hp => by have := P9.out p hp; omega, NC.out⟩ D9.out
      · have h0 : (me == 0) = false := by simp [hme]
        have h1 : (me != 0) = true := by simp [hme]
        simp only [if_neg hme] at HP
        clear hme
        go_wp2_with (first
          | ((with_reducible refine at_build 54 ?_); go_must (refine wpList_build2 rfl 28 [] rfl [] rfl _ GZ.out ?_))
          | ((with_reducible refine at_store (.tmp 2) (.tmp 54) ?_); go_must (refine store_all (cs := chgV zero32 (.slice none 0 0) 0 ⟨#[]⟩ ⟨#[]⟩) 28 (.tmp 2) (.tmp 54) rfl rfl rfl rfl K1.out IZ.out rfl (chgV_one _ rfl _ _ _) ?_; intro w12 hu12; have R9 := bx hu12.same; have D9 := bx (D.out.trans (hu12.below (Nat.le_succ _))); have A12 := bx (A9r.out.upd_ne hu12 (fun p hp => by have := P9.out p hp; omega)); clear hu12)))
        refine bodyPost_ret (results_ct (cs := chgV zero32 (.slice none 0 0) 0 ⟨#[]⟩ ⟨#[]⟩) rfl _ _ (w.heap.size + 1) 28 _ _ rfl rfl R9.out Tryd.underlying28 rfl IZ.out) rfl ?_
        exact HP.out _ _ ⟨A9, c9, _, rfl, rfl, A12.out, fun p hp => by have := P9.out p hp; omega, NC.out⟩ D9.out
    · have hwq : (rWrong s.2 == 0) = true := by simp [hw]
      have e1 : (0 : Int) < (m' : Int) + 1 := by omega
      have e2 : IntKind.u64.wrap ((m' : Int) + 1 - 1) = m' := by rw [IntWalk.u64_in _ (by omega)]; omega
      have LP := bx hlp; have L3 := bx hl3; have IJ := bx hidj
      clear hlp hl3 hidj
      go_wp2_with fail
      refine HWr.out.mono ?_
      rintro x w9 ⟨rfl, rfl⟩
      go_upto_region 8 with fail
      have hS0 : wr.drew.heap[M]? = some (.cells (chgV id v 0 ⟨#[]⟩ ⟨#[]⟩) 28 (0, 0)) := K5.out
      have q32 := (chgV_get HIDL.out v 0 ⟨#[]⟩ ⟨#[]⟩).1
      have S1 := bx (S.out.kept (Below.refl _ _).drew)
      have N32 := bx (show (u8s (idF L j)).length = 32 by rw [u8s_length]; exact (HFA.out j).1)
      have one32 : Bx (∀ u ∈ u8s (idF L j), u.oneCell' = true) := ⟨oneCell_map_int _ _⟩
      have vone : Bx (v.oneCell' = true) := ⟨by obtain ⟨A9, c9, rfl, _⟩ := O.out.rd (fun i _ => by rw [u8s_length]; exact (HFA.out i).1); rfl⟩
      refine wp_region_x (S := (fun w' => w'.heap[M]? = some (.cells (chgV id v 0 ⟨#[]⟩ ⟨#[]⟩) 28 (0, 0)))) 7 (by kernel_rfl) hS0 (fun hS => ?_)
      refine takeX (i := 0) (d := 29) (v := ?_) rfl rfl (by kernel_rfl) (by kernel_rfl) (by kernel_rfl) (by kernel_rfl) (fun _ _ _ h => h) (Or.inl ⟨by kernel_rfl, ?_⟩) hS ?_; rotate_left 1; (focus ((intro w' hS'; clear hS'; go_simp; try with_reducible rfl); done))
      try simp only [List.setIfInBounds_toArray, List.set_cons_zero, List.set_cons_succ]
      refine takeX (i := 1) (d := 30) (v := ?_) rfl rfl (by kernel_rfl) (by kernel_rfl) (by kernel_rfl) (by kernel_rfl) (fun _ _ _ h => h) (Or.inl ⟨by kernel_rfl, ?_⟩) hS ?_; rotate_left 1; (focus ((intro w' hS'; have z9 := blk_cell hS' q32; clear hS'; go_simp; try with_reducible rfl); done))
      try simp only [List.setIfInBounds_toArray, List.set_cons_zero, List.set_cons_succ]
      refine takeX (i := 2) (d := 31) (v := ?_) rfl rfl (by kernel_rfl) (by kernel_rfl) (by kernel_rfl) (by kernel_rfl) (fun _ _ _ h => h) (Or.inl ⟨by kernel_rfl, ?_⟩) hS ?_; rotate_left 1; (focus ((intro w' hS'; clear hS'; go_simp; try with_reducible rfl); done))
      try simp only [List.setIfInBounds_toArray, List.set_cons_zero, List.set_cons_succ]
      refine wpAnyX_ready (rs := [3]) (by kernel_rfl) (by simp) ?_
      refine AllReadyX.cons rfl (fun K hK => ?_) AllReadyX.nil
      go_simp
      refine (id_s S1.out).mono ?_
      rintro x w9 ⟨rfl, hr, ho⟩
      rw [← IJ.out]
      have S9 := bx hr
      have O9 := bx ((O.out.kept (Below.refl _ _).drew).only ho (by omega))
      have K9 := bx ((ho.block _ (blk_lt hS) (by omega)).trans hS)
      have KA := bx ((ho.block _ (blk_lt K0.out) (by omega)).trans K0.out)
      have KB := bx ((ho.block _ (blk_lt K1.out) (by omega)).trans K1.out)
      have D9 := bx (D.out.drew.trans (ho.below D.out.size (by omega)))
      clear hr ho
      refine hK.out _ _ ?_ (fun hS2 => ?_)
      · exact K9.out
      clear hK K hS; have hS := hS2; clear hS2
      try simp only [Act.put, List.setIfInBounds_toArray, List.set_cons_zero, List.set_cons_succ]
      refine wpAnyX_ready (rs := [4]) (by kernel_rfl) (by simp) ?_
      refine readyX_list rfl (fun K hK => ?_) AllReadyX.nil
      refine wpList_bs1 rfl 25 24 (.tmp 32) rfl (ints .u8 (idF L j)) rfl _ 32 32 Tryd.underlying25 infoId (by rw [ints_size]; exact (HFA.out j).1) (by decide) (by decide) ?_
      intro w10 b10 h10 h11
      have N10 := bx (show w10.heap[b10]? = some (.cells (u8s (idF L j)).toArray 24 (0, 0)) by rw [← h10, ← h11]; exact blk_new _ _)
      have B10 := bx (show Below w9.heap.size w9 w10 by rw [← h10]; exact (Below.refl _ _).alloc (Nat.le_refl _) _)
      have S10 := bx (S9.out.kept B10.out)
      have O10 := bx (O9.out.kept B10.out)
      have K10 := bx ((B10.out.block _ (blk_lt K9.out)).trans K9.out)
      have KA2 := bx ((B10.out.block _ (blk_lt KA.out)).trans KA.out)
      have KB2 := bx ((B10.out.block _ (blk_lt KB.out)).trans KB.out)
      have D10 := bx (D9.out.trans (B10.out.mono D9.out.size))
      clear h10 h11
      show wpList _ _ K [] (Act.put _ (some 33) _) w10
      refine hK.out _ _ ?_ (fun hS2 => ?_)
      · exact K10.out
      clear hK K hS; have hS := hS2; clear hS2
      try simp only [Act.put, List.setIfInBounds_toArray, List.set_cons_zero, List.set_cons_succ]
      refine wpAnyX_ready (rs := [5]) (by kernel_rfl) (by simp) ?_
      refine readyX_list rfl (fun K hK => ?_) AllReadyX.nil
      refine wpList_apR rfl (.tmp 30) (.tmp 33) 25 rfl (M + 1) 24 _ 32 32 Tryd.underlying25 infoId rfl (by decide) (by decide) _ j (fun i => u8s (idF L i)) rfl O10.out _ 1 rfl N10.out N32.out one32.out (by omega) (blk_lt K10.out) ?_
      intro v11 w11 h1 h2
      have O11 := bx h1
      have B11 := bx (h2 (M + 1) _ (Below.refl _ _) (Nat.le_refl _) (blk_lt K10.out))
      have S11 := bx (S10.out.below B11.out (by omega))
      have K11 := bx ((B11.out.block _ (by omega)).trans K10.out)
      have KA3 := bx ((B11.out.block _ (by omega)).trans KA2.out)
      have KB3 := bx ((B11.out.block _ (by omega)).trans KB2.out)
      have D11 := bx (D10.out.trans (B11.out.mono (by omega)))
      clear h1 h2
      show wpList _ _ K [] (Act.put _ (some 34) v11) w11
      refine hK.out _ _ ?_ (fun hS2 => ?_)
      · exact K11.out
      clear hK K hS; have hS := hS2; clear hS2
      try simp only [Act.put, List.setIfInBounds_toArray, List.set_cons_zero, List.set_cons_succ]
      refine takeX (i := 6) (d := 35) (v := ?_) rfl rfl (by kernel_rfl) (by kernel_rfl) (by kernel_rfl) (by kernel_rfl) (fun _ _ _ h => h) (Or.inl ⟨by kernel_rfl, ?_⟩) hS ?_; rotate_left 1; (focus ((intro w' hS'; clear hS'; go_simp; try with_reducible rfl); done))
      try simp only [List.setIfInBounds_toArray, List.set_cons_zero, List.set_cons_succ]
      refine wpAnyX_ready (rs := [7]) (by kernel_rfl) (by simp) ?_
      refine AllReadyX.last rfl (fun K hK => ?_) AllReadyX.nil
      (have z12 := blk_cell K11.out q32)
      (have f12 : w11.frozen? ⟨M, 32, none⟩ = false := blk_frozen 32 K11.out)
      obtain ⟨A9, c9, rfl, hp9, hr9⟩ := O11.out.rd fun i _ => by rw [u8s_length]; exact (HFA.out i).1
      clear hp9 hr9
      go_simp
      refine hK.out _ _ ?_
      clear hK K
      try simp only [Act.put, List.setIfInBounds_toArray, List.set_cons_zero, List.set_cons_succ]
      refine wpAnyX_done (by kernel_rfl) ?_ _
      have hu12 := upd_cell (j := 32) K11.out (.slice A9 (j + 1) c9)
      rw [(chgV_set HIDL.out v (.slice A9 (j + 1) c9) 0 0 ⟨#[]⟩ ⟨#[]⟩ ⟨#[]⟩ ⟨#[]⟩).1] at hu12
      have HU := bx hu12
      clear hu12 z12 f12 hS
      go_wp2_with fail
      go_roundw
      case rel => exact ⟨m', j + 1, stR s 32, .slice A9 (j + 1) c9, by first | rfl | go_num, by omega, by omega, O11.out.upd HU.out (by omega), S11.out.upd HU.out (.inl hRM), LP.out, L3.out, HU.out.same, HU.out.blk KA3.out (by omega), HU.out.blk KB3.out (by omega), D11.out.trans (HU.out.below (by omega))⟩
      case measure => simp only [intOf]; omega
end Go.Proofs.YtoompcgdhokdlaaDoor

set_option linter.unusedSimpArgs false
set_option linter.unusedVariables false
namespace Go.Proofs.YtoompcgdhokdlaaDoor
open Go.RowKit

theorem entsR_all : ∀ (n : Nat) (s : List Int × Int), IsB s.1 → ∀ e ∈ (entsR n s).1, e.id.length = 32 ∧ IsB e.id ∧ e.name.size ≤ 65536
  | 0, s, _ => fun e he => by simp [entsR] at he
  | n + 1, s, h => fun e he => by
    have h1 : IsB (stR s 1).1 := rRest_isB h _ _
    have h2 : IsB (stS (stR s 1)).1 := sRest_isB h1 _
    have h3 : (stT (stR s 1)).length ≤ 65536 := sOut_len h1 _
    unfold entsR at he
    split at he
    · rcases List.mem_cons.1 he with rfl | he
      · exact ⟨idR_length _ _, idR_isB h2 _, by rw [strLen]; exact h3⟩
      · exact entsR_all n _ (rRest_isB h2 _ _) e he
    · simp at he
theorem entsR_le : ∀ (n : Nat) (s : List Int × Int), (entsR n s).1.length ≤ n
  | 0, s => Nat.le_refl _
  | n + 1, s => by
    unfold entsR
    split
    · have := entsR_le n (stR (stS (stR s 1)) 32)
      simp only [List.length_cons]
      omega
    · simp
theorem entF_all {l : List Ent} (h : ∀ e ∈ l, e.id.length = 32 ∧ IsB e.id ∧ e.name.size ≤ 65536) (j : Nat) : (entF l j).id.length = 32 ∧ IsB (entF l j).id ∧ (entF l j).name.size ≤ 65536 := by
  unfold entF
  rw [List.getD_eq_getElem?_getD]
  rcases hq : l[j]? with _ | e
  · exact ⟨rfl, zero32_isB, by decide⟩
  · exact h e (List.mem_of_getElem? hq)
theorem treeUp_isB {L : Nat → Ent} (n : Nat) (hP : ∀ j, IsB (L j).id) : ∀ j, IsB (treeUp L n j)
  | 0 => by simpa [treeUp] using be_isB _ _
  | j + 1 => by
    rw [treeUp_succ]
    exact isB_append (treeUp_isB n hP j) (isB_append (isB_append (isB_one (by cases (L j).dir <;> decide)) (textB_isB _)) (hP j))
theorem treeO_isB {L : Nat → Ent} {n : Nat} (hP : ∀ j, IsB (L j).id) : IsB (treeO L n).2.1 := by
  unfold treeO
  split
  · exact isB_nil
  · split
    · exact isB_nil
    · exact fitO_isB (treeUp_isB n hP n)
theorem ent_built (a : ByteArray) (d : Bool) (id : List Int) (h : id.length = 32) : Tryd.prog.built 32 [(0, .string a), (1, .bool d), (2, .agg (ints .u8 id))] = some (Ent.cells ⟨a, d, id⟩).toArray := by
  obtain ⟨a0, a1, a2, a3, a4, a5, a6, a7, a8, a9, a10, a11, a12, a13, a14, a15, b0, b1, b2, b3, b4, b5, b6, b7, b8, b9, b10, b11, b12, b13, b14, b15, rfl⟩ := thirtytwo id h
  kernel_rfl
theorem ent_len {e : Ent} (h : e.id.length = 32) : e.cells.length = 34 := by simp [Ent.cells, u8s, h]
/-- What TreeOf tells. -/
def TreeP (w : World) (k : Int) (ds : List Int) (e : Ending) (w' : World) : Prop :=
  ∃ A c, e = .returned (.tuple #[if treeErr k ds = 0 then .slice A (tnL ds).length c else .slice none 0 0, .int .i64 (treeErr k ds)]) ∧ RowAt w' A (tnL ds).length 34 (fun j => (entF (tnL ds) j).cells) ∧ (∀ p, A = some p → w.heap.size ≤ p.block) ∧ Below w.heap.size w w'
set_option maxRecDepth 100000 in
set_option maxHeartbeats 4000000 in
theorem treeof_any (A : Option Addr) (n cap : Nat) (ds : List Int) (w : World) (hM : MaxAt w) (hrd : RdB w A n ds) (hnil : A = none → cap = 0) (hB : IsB ds) (hbig : n ≤ 35184372088832) :
    Calls Tryd.prog 19 #[.agg (objC 2 (.slice A n cap))] w (TreeP w 2 ds) := by
  have HE0 : treeErr 2 ds = freshO (doneO (tnS ds).1 (tnS ds).2) (treeO (entF (tnL ds)) (tnL ds).length) 2 ds := rfl
  have HP0 : ∀ e w', (∃ A c X, e = .returned (.tuple #[X, .int .i64 (treeErr 2 ds)]) ∧ X = (if treeErr 2 ds = 0 then .slice A (tnL ds).length c else .slice none 0 0) ∧ RowAt w' A (tnL ds).length 34 (fun j => (entF (tnL ds) j).cells) ∧ (∀ p, A = some p → w.heap.size ≤ p.block)) → Below w.heap.size w w' → TreeP w 2 ds e w' := by
    rintro e w' ⟨A, c, X, rfl, rfl, h1, h2⟩ hb
    exact ⟨A, c, rfl, h1, h2, hb⟩
  have b1 : IsB (stR (ds, 0) 2).1 := rRest_isB hB 0 2
  have hall : ∀ e ∈ tnL ds, e.id.length = 32 ∧ IsB e.id ∧ e.name.size ≤ 65536 := entsR_all _ _ b1
  have hF : ∀ j, (entF (tnL ds) j).id.length = 32 ∧ IsB (entF (tnL ds) j).id ∧ (entF (tnL ds) j).name.size ≤ 65536 := entF_all hall
  have hnum : 0 ≤ num (stO (ds, 0) 2) ∧ num (stO (ds, 0) 2) < 65536 := num_lt _ (rOut_isB hB 0 2) 2 (rOut_m _ _ 2)
  have hle : (tnL ds).length ≤ tnN ds := entsR_le _ _
  have hnn : num (stO (ds, 0) 2) = (tnN ds : Int) := by rw [tnN]; omega
  have hBr : IsB (treeO (entF (tnL ds)) (tnL ds).length).2.1 := treeO_isB fun j => (hF j).2.1
  have HCLO : ∀ b A c w', MaxAt w' → w'.heap[b]? = some (.cells #[.slice A (tnL ds).length c] 22 (0, 0)) → RowAt w' A (tnL ds).length 34 (fun j => (entF (tnL ds) j).cells) → ∀ w2, Below w'.heap.size w' w2 → Calls Tryd.prog 50 #[.pointer (some ⟨b, 0, none⟩)] w2 (ObjO w2 (treeO (entF (tnL ds)) (tnL ds).length)) := fun b A c w' hM hk hr w2 hb =>
    treeclo_any b A _ c _ w2 (hM.below hb) ((hb.block _ (blk_lt hk)).trans hk) (hr.below hb) (fun j _ => (hF j).1) (fun j _ => by have := (hF j).2.2; omega)
  have HG3 : (entsR (tnN ds) (stR (ds, 0) 2)).2 = tnS ds := rfl
  have HGP : (tnL ds).drop 0 = (entsR (tnN ds) (stR (ds, 0) 2)).1 := rfl
  have hn16 : tnN ds ≤ 65535 := by have := hnum.2; omega
  have hnl : (tnL ds).length ≤ 65535 := by omega
  generalize treeErr 2 ds = me at *
  generalize TreeP w 2 ds = OUT at *
  generalize tnN ds = nn at *
  generalize tnS ds = s3 at *
  generalize tnL ds = L at *
  generalize treeO (entF L) L.length = r at *
  have HL3 := bx HG3; have HLP := bx HGP; have HNN := bx hnn
  have HP := bx HP0; have HE := bx HE0; have HRD := bx hrd; have HN := bx hnil; have HB := bx hB; have HCL := bx HCLO; have HBR := bx hBr; have HFA := bx hF; have HM := bx hM
  clear HP0 HE0 hrd hnil hB HCLO hBr hF hall b1 HG3 HGP hnn hnum hle hM
  obtain ⟨w0, hw0⟩ : ∃ w0, w0 = w.alloc (.cells (objC 2 (.slice A n cap)) 35) := ⟨_, rfl⟩
  have K0 : Bx (w0.heap[w.heap.size]? = some (.cells (objC 2 (.slice A n cap)) 35 (0, 0))) := ⟨by rw [hw0]; exact blk_new w _⟩
  have D0 : Bx (Below w.heap.size w w0) := ⟨by rw [hw0]; exact ((Below.refl _ _).alloc (Nat.le_refl _) _)⟩
  have hsz0 : w0.heap.size = w.heap.size + 1 := by rw [hw0]; simp
  have SZ0 := bx hsz0; clear hsz0
  have HW := bx hw0; clear hw0
  have z0 : w0.cell? ⟨w.heap.size, 0, none⟩ = some (.int .i64 2) := blk_cell K0.out rfl
  have z1 : w0.cell? ⟨w.heap.size, 1, none⟩ = some (.slice A n cap) := blk_cell K0.out rfl
  go_enter Tryd.func19, Tryd.ntmps19
  go_upto_region 1 with fail
  rw [← HW.out]
  clear HW
  go_wp2_with fail
  refine (new_s A n cap ds w0 (HRD.out.below D0.out) HN.out HB.out hbig).mono ?_
  rintro e w1 ⟨R, rfl, hS, hRl, hb⟩
  have S0 := bx hS
  replace K0 := bx (((hb).block _ (blk_lt K0.out)).trans K0.out)
  replace D0 := bx (D0.out.trans ((hb).mono D0.out.size))
  have hR2 : w.heap.size + 1 ≤ R := by have := SZ0.out; omega
  have LO : Bx (w0.heap.size = w.heap.size + 1) := SZ0
  clear hS hb hRl z0 z1 SZ0
  have hRM := S0.out.lt
  obtain ⟨M, hM⟩ : ∃ M, w1.heap.size = M := ⟨_, rfl⟩
  obtain ⟨w2, hw2⟩ : ∃ w2, w2 = w1.alloc (.cells #[.slice none 0 0] 22) := ⟨_, rfl⟩
  have F2 : Bx (Below w1.heap.size w1 w2) := ⟨by rw [hw2]; exact (Below.refl _ _).alloc (Nat.le_refl _) _⟩
  have K5 : Bx (w2.heap[M]? = some (.cells #[.slice none 0 0] 22 (0, 0))) := ⟨by rw [hw2, ← hM]; exact blk_new _ _⟩
  replace K0 := bx (((F2.out).block _ (blk_lt K0.out)).trans K0.out)
  replace S0 := bx (S0.out.kept F2.out)
  replace D0 := bx (D0.out.trans ((F2.out).mono D0.out.size))
  rw [hM] at hRM
  have hlw : w.heap.size + 1 ≤ M := by omega
  have HMM := bx hM; have HW2 := bx hw2
  clear hM hw2 F2
  go_wp2_with fail
  rw [← HW2.out, HMM.out]
  clear HW2 HMM
  refine (num_s2 S0.out).mono ?_
  rintro e w4 ⟨rfl, hS, ho⟩
  rw [HNN.out]
  have S2 := bx hS
  replace K0 := bx (((ho).block _ (blk_lt K0.out) (by omega)).trans K0.out)
  replace K5 := bx (((ho).block _ (blk_lt K5.out) (by omega)).trans K5.out)
  replace D0 := bx (D0.out.trans ((ho).below D0.out.size (by omega)))
  clear hS ho S0
  go_wp2_with fail
  go_loopw [6] (fun x wr => ∃ (m j : Nat) (s : List Int × Int) (v : Value), x = .int .u64 m ∧ m ≤ 65535 ∧ j ≤ L.length ∧ OwR wr (M + 1) 32 34 v j (fun i => (entF L i).cells) ∧ RdS w0.heap.size wr R s ∧ L.drop j = (entsR m s).1 ∧ (entsR m s).2 = s3 ∧ wr.heap[M]? = some (.cells #[v] 22 (0, 0)) ∧ wr.heap[w.heap.size]? = some (.cells (objC 2 (.slice A n cap)) 35 (0, 0)) ∧ Below w.heap.size w wr) (fun x _ => (intOf x).toNat)
  case atStart => exact ⟨nn, 0, _, _, rfl, hn16, Nat.zero_le _, OwR.nil _ _ _ _ _, S2.out, HLP.out, HL3.out, K5.out, K0.out, D0.out⟩
  case round =>
    rename_i wr
    obtain ⟨m, j, s, v, rfl, hm, hj, hown, hrd, hlp, hl3, hk5, hk0, hb⟩ := hrel
    have O := bx hown; have S := bx hrd; have K5 := bx hk5; have K0 := bx hk0; have D := bx hb
    have HWr := bx (wrong_s hrd)
    have more : (m = 0 ∧ j = L.length ∧ s = s3) ∨ (∃ m', m = m' + 1 ∧ ¬ rWrong s.2 = 0 ∧ j = L.length ∧ s = s3) ∨ (∃ m', m = m' + 1 ∧ rWrong s.2 = 0 ∧ j < L.length ∧ entF L j = ⟨strOfNums (stT (stR s 1)), decide (num (stO s 1) = 1), idR (stS (stR s 1)).1 (stS (stR s 1)).2⟩ ∧ L.drop (j + 1) = (entsR m' (stR (stS (stR s 1)) 32)).1 ∧ (entsR m' (stR (stS (stR s 1)) 32)).2 = s3) := by
      have hdl := congrArg List.length hlp
      rw [List.length_drop] at hdl
      cases m with
      | zero => exact .inl ⟨rfl, by have : (entsR 0 s).1.length = 0 := rfl; omega, hl3⟩
      | succ m' =>
        by_cases hw : rWrong s.2 = 0
        · rw [entsR, if_pos hw] at hlp hl3 hdl
          dsimp only at hlp hl3 hdl
          rw [List.length_cons] at hdl
          refine .inr (.inr ⟨m', rfl, hw, by omega, ?_, ?_, hl3⟩)
          · have h0 : (L.drop j)[0]? = some ⟨strOfNums (stT (stR s 1)), decide (num (stO s 1) = 1), idR (stS (stR s 1)).1 (stS (stR s 1)).2⟩ := by rw [hlp]; rfl
            rw [List.getElem?_drop, Nat.add_zero] at h0
            rw [entF, List.getD_eq_getElem?_getD, h0]; rfl
          · rw [← List.tail_drop, hlp]; rfl
        · rw [entsR, if_neg hw] at hlp hl3 hdl
          have : ([] : List Ent).length = 0 := rfl
          exact .inr (.inl ⟨m', rfl, hw, by dsimp only at hdl; omega, hl3⟩)
    clear hown hrd hlp hl3 hk5 hk0 hb S2 D0 HL3 HLP
    rcases more with ⟨rfl, rfl, rfl⟩ | ⟨m', rfl, hw, rfl, rfl⟩ | ⟨m', rfl, hw, hjl, hej, hlp, hl3⟩
    · skip
      obtain ⟨A9, c9, rfl, hp9, hr9⟩ := O.out.rd fun i _ => ent_len (HFA.out i).1
      have P9 := bx hp9; have A9r := bx hr9
      have z5 : wr.cell? ⟨M, 0, none⟩ = some (.slice A9 L.length c9) := blk_cell K5.out rfl
      clear hr9 hp9
      go_wp2_with (first
        | ((with_reducible refine at_load 41 ?_); go_must (refine load_all 35 (.tmp 1) rfl rfl rfl K0.out Tryd.underlying35 rfl (obj_is _ _ _ _) ?_)))
      skip
      try (go_wp2_with (first
        | ((with_reducible refine at_load 41 ?_); go_must (refine load_all 35 (.tmp 1) rfl rfl rfl K0.out Tryd.underlying35 rfl (obj_is _ _ _ _) ?_))))
      refine (fresh_tree 2 A n cap ds R s.1 s.2 _ r wr (HRD.out.below D.out) HB.out HBR.out S.out.1 (fun w' hb => HCL.out M A9 c9 wr (HM.out.below D.out) K5.out A9r.out w' hb)).mono ?_
      rintro e w11 ⟨rfl, hb⟩
      replace K5 := bx (((hb).block _ (blk_lt K5.out)).trans K5.out)
      replace D := bx (D.out.trans ((hb).mono D.out.size))
      replace A9r := bx (A9r.out.below hb)
      rw [← HE.out]
      clear hb S HE HCL HBR HRD HB K0 z5 HM HWr
      by_cases hme : me = 0
      · subst hme
        simp only [if_true] at HP
        have z5 : w11.cell? ⟨M, 0, none⟩ = some (.slice A9 L.length c9) := blk_cell K5.out rfl
        go_wp2_with fail
        exact HP.out _ _ ⟨A9, c9, _, rfl, rfl, A9r.out, fun p hp => by have := P9.out p hp; omega⟩ D.out
      · have h0 : (me == 0) = false := by simp [hme]
        have h1 : (me != 0) = true := by simp [hme]
        simp only [if_neg hme] at HP
        clear hme
        go_wp2_with fail
        exact HP.out _ _ ⟨A9, c9, _, rfl, rfl, A9r.out, fun p hp => by have := P9.out p hp; omega⟩ D.out
    · (have hwq : (rWrong s.2 == 0) = false := by simp [hw]); have e1 : (0 : Int) < (m' : Int) + 1 := by omega
      obtain ⟨A9, c9, rfl, hp9, hr9⟩ := O.out.rd fun i _ => ent_len (HFA.out i).1
      have P9 := bx hp9; have A9r := bx hr9
      have z5 : wr.cell? ⟨M, 0, none⟩ = some (.slice A9 L.length c9) := blk_cell K5.out rfl
      clear hr9 hp9
      go_wp2_with (first
        | ((with_reducible refine at_load 41 ?_); go_must (refine load_all 35 (.tmp 1) rfl rfl rfl K0.out Tryd.underlying35 rfl (obj_is _ _ _ _) ?_)))
      (refine HWr.out.mono ?_; rintro x w9 ⟨rfl, rfl⟩)
      try (go_wp2_with (first
        | ((with_reducible refine at_load 41 ?_); go_must (refine load_all 35 (.tmp 1) rfl rfl rfl K0.out Tryd.underlying35 rfl (obj_is _ _ _ _) ?_))))
      refine (fresh_tree 2 A n cap ds R s.1 s.2 _ r wr (HRD.out.below D.out) HB.out HBR.out S.out.1 (fun w' hb => HCL.out M A9 c9 wr (HM.out.below D.out) K5.out A9r.out w' hb)).mono ?_
      rintro e w11 ⟨rfl, hb⟩
      replace K5 := bx (((hb).block _ (blk_lt K5.out)).trans K5.out)
      replace D := bx (D.out.trans ((hb).mono D.out.size))
      replace A9r := bx (A9r.out.below hb)
      rw [← HE.out]
      clear hb S HE HCL HBR HRD HB K0 z5 HM HWr
      by_cases hme : me = 0
      · subst hme
        simp only [if_true] at HP
        have z5 : w11.cell? ⟨M, 0, none⟩ = some (.slice A9 L.length c9) := blk_cell K5.out rfl
        go_wp2_with fail
        exact HP.out _ _ ⟨A9, c9, _, rfl, rfl, A9r.out, fun p hp => by have := P9.out p hp; omega⟩ D.out
      · have h0 : (me == 0) = false := by simp [hme]
        have h1 : (me != 0) = true := by simp [hme]
        simp only [if_neg hme] at HP
        clear hme
        go_wp2_with fail
        exact HP.out _ _ ⟨A9, c9, _, rfl, rfl, A9r.out, fun p hp => by have := P9.out p hp; omega⟩ D.out
    · have hwq : (rWrong s.2 == 0) = true := by simp [hw]
      have e1 : (0 : Int) < (m' : Int) + 1 := by omega
      have e2 : IntKind.u64.wrap ((m' : Int) + 1 - 1) = m' := by rw [IntWalk.u64_in _ (by omega)]; omega
      have LP := bx hlp; have L3 := bx hl3; have IJ := bx hej
      clear hlp hl3 hej
      go_wp2_with fail
      refine HWr.out.mono ?_
      rintro x w9 ⟨rfl, rfl⟩
      go_wp2_with fail
      refine (num_s1 S.out).mono ?_
      rintro x w5 ⟨rfl, hS, ho⟩
      have S5 := bx hS
      replace K0 := bx (((ho).block _ (blk_lt K0.out) (by omega)).trans K0.out)
      replace K5 := bx (((ho).block _ (blk_lt K5.out) (by omega)).trans K5.out)
      replace D := bx (D.out.trans ((ho).below D.out.size (by omega)))
      replace O := bx (O.out.only ho (by omega))
      clear hS ho S HWr
      obtain ⟨dn, hdn⟩ : ∃ dn, num (stO s 1) = dn := ⟨_, rfl⟩
      rw [hdn]
      obtain ⟨dv, hdv⟩ : ∃ dv, (dn == 1) = dv := ⟨_, rfl⟩
      have hdd : decide (num (stO s 1) = 1) = dv := by rw [hdn, ← hdv]; rfl
      rw [hdd] at IJ
      clear hdd hdn
      go_wp2_with fail
      refine (sz_s S5.out).mono ?_
      rintro x w6 ⟨A4, n4, c4, rfl, hr, hn4, hS, ho⟩
      have S6 := bx hS
      replace K0 := bx (((ho).block _ (blk_lt K0.out) (by omega)).trans K0.out)
      replace K5 := bx (((ho).block _ (blk_lt K5.out) (by omega)).trans K5.out)
      replace D := bx (D.out.trans ((ho).below D.out.size (by omega)))
      replace O := bx (O.out.only ho (by omega))
      have hcv := str_of hr c4
      obtain ⟨nm, hnm⟩ : ∃ nm, strOfNums (stT (stR s 1)) = nm := ⟨_, rfl⟩
      rw [hnm] at hcv IJ
      clear hS ho S5 hr hnm
      go_upto_region 10 with fail
      clear hcv hdv
      have hS0 : w6.drew.heap[M]? = some (.cells #[v] 22 (0, 0)) := K5.out
      have S1 := bx (S6.out.kept (Below.refl _ _).drew)
      obtain ⟨idj, hidj⟩ : ∃ idj, idR (stS (stR s 1)).1 (stS (stR s 1)).2 = idj := ⟨_, rfl⟩
      rw [hidj] at IJ
      have IDJ := bx hidj
      have IDL : Bx (idj.length = 32) := ⟨by rw [← hidj]; exact idR_length _ _⟩
      clear hidj
      have CE : Bx ((entF L j).cells = Ent.cells ⟨nm, dv, idj⟩) := ⟨by rw [IJ.out]⟩
      have N32 := bx (show (entF L j).cells.length = 34 from ent_len (HFA.out j).1)
      have one32 : Bx (∀ (u : Value), u ∈ (entF L j).cells → u.oneCell' = true) := ⟨fun u hu => ent_one u (by simpa using hu)⟩
      have vone : Bx (v.oneCell' = true) := ⟨by obtain ⟨A9, c9, rfl, _⟩ := O.out.rd (fun i _ => ent_len (HFA.out i).1); rfl⟩
      refine wp_region_x (S := (fun w' => w'.heap[M]? = some (.cells #[v] 22 (0, 0)))) 8 (by kernel_rfl) hS0 (fun hS => ?_)
      refine takeX (i := 0) (d := 33) (v := ?_) rfl rfl (by kernel_rfl) (by kernel_rfl) (by kernel_rfl) (by kernel_rfl) (fun _ _ _ h => h) (Or.inl ⟨by kernel_rfl, ?_⟩) hS ?_; rotate_left 1; (focus ((intro w' hS'; have z9 := blk_cell (j := 0) hS' rfl; clear hS'; go_simp; try with_reducible rfl); done))
      try simp only [List.setIfInBounds_toArray, List.set_cons_zero, List.set_cons_succ]
      refine takeX (i := 1) (d := 34) (v := ?_) rfl rfl (by kernel_rfl) (by kernel_rfl) (by kernel_rfl) (by kernel_rfl) (fun _ _ _ h => h) (Or.inl ⟨by kernel_rfl, ?_⟩) hS ?_; rotate_left 1; (focus ((intro w' hS'; clear hS'; go_simp; try with_reducible rfl); done))
      try simp only [List.setIfInBounds_toArray, List.set_cons_zero, List.set_cons_succ]
      refine takeX (i := 2) (d := 35) (v := ?_) rfl rfl (by kernel_rfl) (by kernel_rfl) (by kernel_rfl) (by kernel_rfl) (fun _ _ _ h => h) (Or.inl ⟨by kernel_rfl, ?_⟩) hS ?_; rotate_left 1; (focus ((intro w' hS'; clear hS'; go_simp; try with_reducible rfl); done))
      try simp only [List.setIfInBounds_toArray, List.set_cons_zero, List.set_cons_succ]
      refine takeX (i := 3) (d := 36) (v := ?_) rfl rfl (by kernel_rfl) (by kernel_rfl) (by kernel_rfl) (by kernel_rfl) (fun _ _ _ h => h) (Or.inl ⟨by kernel_rfl, ?_⟩) hS ?_; rotate_left 1; (focus ((intro w' hS'; clear hS'; go_simp; try with_reducible rfl); done))
      try simp only [List.setIfInBounds_toArray, List.set_cons_zero, List.set_cons_succ]
      refine wpAnyX_ready (rs := [4]) (by kernel_rfl) (by simp) ?_
      refine AllReadyX.cons rfl (fun K hK => ?_) AllReadyX.nil
      go_simp
      refine (id_s S1.out).mono ?_
      rintro x w9 ⟨rfl, hr, ho⟩
      rw [IDJ.out]
      have S9 := bx hr
      have O9 := bx ((O.out.kept (Below.refl _ _).drew).only ho (by omega))
      have K9 := bx ((ho.block _ (blk_lt hS) (by omega)).trans hS)
      have KA := bx ((ho.block _ (blk_lt K0.out) (by omega)).trans K0.out)
      have D9 := bx (D.out.drew.trans (ho.below D.out.size (by omega)))
      clear hr ho
      refine hK.out _ _ ?_ (fun hS2 => ?_)
      · exact K9.out
      clear hK K hS; have hS := hS2; clear hS2
      try simp only [Act.put, List.setIfInBounds_toArray, List.set_cons_zero, List.set_cons_succ]
      refine wpAnyX_ready (rs := [5]) (by kernel_rfl) (by simp) ?_
      refine readyX_list rfl (fun K hK => ?_) AllReadyX.nil
      refine wpList_build3 rfl 32 [(0, .tmp 34), (1, .tmp 35), (2, .tmp 37)] rfl _ rfl _ (ent_built nm dv idj IDL.out) ?_
      show wpList _ _ K [] (Act.put _ (some 38) _) w9
      refine hK.out _ _ ?_ (fun hS2 => ?_)
      · exact K9.out
      clear hK K hS; have hS := hS2; clear hS2
      try simp only [Act.put, List.setIfInBounds_toArray, List.set_cons_zero, List.set_cons_succ]
      refine wpAnyX_ready (rs := [6]) (by kernel_rfl) (by simp) ?_
      refine readyX_list rfl (fun K hK => ?_) AllReadyX.nil
      refine wpList_bs1 rfl 22 32 (.tmp 38) rfl (Ent.cells ⟨nm, dv, idj⟩).toArray rfl _ 34 56 Tryd.underlying22 infoEn (by rw [List.size_toArray]; exact ent_len IDL.out) (by decide) (by decide) ?_
      intro w10 b10 h10 h11
      have N10 := bx (show w10.heap[b10]? = some (.cells (entF L j).cells.toArray 32 (0, 0)) by rw [CE.out, ← h10, ← h11]; exact blk_new _ _)
      have B10 := bx (show Below w9.heap.size w9 w10 by rw [← h10]; exact (Below.refl _ _).alloc (Nat.le_refl _) _)
      have S10 := bx (S9.out.kept B10.out)
      have O10 := bx (O9.out.kept B10.out)
      have K10 := bx ((B10.out.block _ (blk_lt K9.out)).trans K9.out)
      have KA2 := bx ((B10.out.block _ (blk_lt KA.out)).trans KA.out)
      have D10 := bx (D9.out.trans (B10.out.mono D9.out.size))
      clear h10 h11
      show wpList _ _ K [] (Act.put _ (some 39) _) w10
      refine hK.out _ _ ?_ (fun hS2 => ?_)
      · exact K10.out
      clear hK K hS; have hS := hS2; clear hS2
      try simp only [Act.put, List.setIfInBounds_toArray, List.set_cons_zero, List.set_cons_succ]
      refine wpAnyX_ready (rs := [7]) (by kernel_rfl) (by simp) ?_
      refine readyX_list rfl (fun K hK => ?_) AllReadyX.nil
      refine wpList_apR rfl (.tmp 33) (.tmp 39) 22 rfl (M + 1) 32 _ 34 56 Tryd.underlying22 infoEn rfl (by decide) (by decide) _ j (fun i => (entF L i).cells) rfl O10.out _ 1 rfl N10.out N32.out one32.out (by omega) (blk_lt K10.out) ?_
      intro v11 w11 h1 h2
      have O11 := bx h1
      have B11 := bx (h2 (M + 1) _ (Below.refl _ _) (Nat.le_refl _) (blk_lt K10.out))
      have S11 := bx (S10.out.below B11.out (by omega))
      have K11 := bx ((B11.out.block _ (by omega)).trans K10.out)
      have KA3 := bx ((B11.out.block _ (by omega)).trans KA2.out)
      have D11 := bx (D10.out.trans (B11.out.mono (by omega)))
      clear h1 h2
      show wpList _ _ K [] (Act.put _ (some 40) v11) w11
      refine hK.out _ _ ?_ (fun hS2 => ?_)
      · exact K11.out
      clear hK K hS; have hS := hS2; clear hS2
      try simp only [Act.put, List.setIfInBounds_toArray, List.set_cons_zero, List.set_cons_succ]
      refine wpAnyX_ready (rs := [8]) (by kernel_rfl) (by simp) ?_
      refine AllReadyX.last rfl (fun K hK => ?_) AllReadyX.nil
      (have z12 := blk_cell (j := 0) K11.out rfl)
      (have f12 : w11.frozen? ⟨M, 0, none⟩ = false := blk_frozen 0 K11.out)
      obtain ⟨A9, c9, rfl, hp9, hr9⟩ := O11.out.rd fun i _ => ent_len (HFA.out i).1
      clear hp9 hr9
      go_simp
      refine hK.out _ _ ?_
      clear hK K
      try simp only [Act.put, List.setIfInBounds_toArray, List.set_cons_zero, List.set_cons_succ]
      refine wpAnyX_done (by kernel_rfl) ?_ _
      have HU := bx (upd_cell (j := 0) K11.out (.slice A9 (j + 1) c9))
      clear z12 f12 hS
      go_wp2_with fail
      go_roundw
      case rel => exact ⟨m', j + 1, _, .slice A9 (j + 1) c9, by first | rfl | go_num, by omega, by omega, O11.out.upd HU.out (by omega), S11.out.upd HU.out (.inl hRM), LP.out, L3.out, HU.out.same, HU.out.blk KA3.out (by omega), D11.out.trans (HU.out.below (by omega))⟩
      case measure => simp only [intOf]; omega
end Go.Proofs.YtoompcgdhokdlaaDoor

set_option linter.unusedSimpArgs false
set_option linter.unusedVariables false
namespace Go.Proofs.YtoompcgdhokdlaaDoor
open Go.RowKit

theorem flatF_add {f g : Nat → List Value} {n : Nat} : ∀ m, (∀ j, j < m → f (n + j) = g j) → flatF f (n + m) = flatF f n ++ flatF g m
  | 0, _ => by simp [flatF]
  | m + 1, h => by rw [← Nat.add_assoc, flatF_succ, flatF_add m (fun j hj => h j (by omega)), h m (by omega), flatF_succ, List.append_assoc]
theorem row_flat {w : World} {b o m size : Nat} {g : Nat → List Value} (h : RowAt w (some ⟨b, o, none⟩) m size g) (hl : ∀ j, j < m → (g j).length = size) (hs : 0 < size) : ∀ k u, (flatF g m)[k]? = some u → w.cell? ((⟨b, o, none⟩ : Addr).add k) = some u := by
  intro k u hk
  have hk2 : k < m * size := by
    have := (List.getElem?_eq_some_iff.1 hk).1
    rwa [flatF_length hl] at this
  have hm : 0 < m := by
    rcases Nat.eq_zero_or_pos m with h0 | h0
    · subst h0; simp at hk2
    · exact h0
  obtain ⟨b', o', e, hb, hc⟩ := h hm
  cases e
  have hj : k / size < m := Nat.div_lt_of_lt_mul (by rw [Nat.mul_comm]; exact hk2)
  have hi : k % size < size := Nat.mod_lt _ hs
  have e2 : k = k / size * size + k % size := by rw [Nat.mul_comm]; exact (Nat.div_add_mod k size).symm
  rw [e2, flatF_get hl hj hi] at hk
  rw [addr_add, e2, ← Nat.add_assoc]
  exact hc _ hj _ _ hk
/-- 'append(s, x..)' of a row of structs that reads. -/
theorem wpList_apM {P : Program} {w : World} {ops : Array Oper} {rest : List Oper} {o : Oper} {a : Act} {Q : Exit → Act → World → Prop} (hgd : o.guard = none) (s x : Operand) (t : TypeId) (ho : o.op = .call { callee := .builtin .append, args := #[s, x], argTypes := #[t, t] })
    (base : Nat) (e : TypeId) (z : Value) (size bytes : Nat) (ht : P.underlying t = some (.slice e)) (hi : (P.info? e).map (fun i => (i.zero, i.size, i.bytes)) = some (some z, size, bytes)) (hzs : z.cells.size = size) (hsz : 0 < size) (hby : bytes ≤ 1024)
    (v : Value) (n : Nat) (f : Nat → List Value) (hs : a.eval s = v) (hown : OwR w base e size v n f) (A : Option Addr) (m c : Nat) (g : Nat → List Value) (hx : a.eval x = .slice A m c) (hrow : RowAt w A m size g) (hnil : A = none → c = 0)
    (hfg : ∀ j, j < m → f (n + j) = g j) (hl : ∀ j, j < m → (g j).length = size) (h1 : ∀ j, j < m → ∀ u ∈ g j, u.oneCell' = true)
    (hn : n + m ≤ 4294967296) (hbase : base ≤ w.heap.size)
    (h : ∀ v' w', OwR w' base e size v' (n + m) f → (∀ B a0, Below B a0 w → B ≤ base → B ≤ w.heap.size → Below B a0 w') → wpList P ops Q rest (a.put o.dst v') w') : wpList P ops Q (o :: rest) a w := by
  obtain ⟨i0, hi0, hz0, hz1, hz2⟩ := info_parts hi
  cases A with
  | none =>
    have hm : m = 0 := by
      rcases Nat.eq_zero_or_pos m with h0 | h0
      · exact h0
      · obtain ⟨b, o, e, _⟩ := hrow h0
        cases e
    subst hm
    rw [hnil rfl] at hx
    exact wpList_append_own_none hgd s x t ho base e i0 size ht hi0 v n _ hs hown hx (h v w hown fun B a0 hB _ _ => hB)
  | some ad =>
    have hform : m = 0 ∨ ∃ b o, ad = ⟨b, o, none⟩ := by
      rcases Nat.eq_zero_or_pos m with h0 | h0
      · exact .inl h0
      · obtain ⟨b, o, e, _⟩ := hrow h0
        cases e
        exact .inr ⟨b, o, rfl⟩
    refine wpList_append_own w hgd s x t ho base e i0 z size bytes ht hi0 hz0 hz1 hz2 hzs hsz v n _ hs hown ad m c (flatF g m) hx (flatF_length hl) ?_ ?_ (by simp only [maxLen]; omega) ?_ hbase ?_
    · rcases hform with rfl | ⟨b, o, rfl⟩
      · intro k u hk; simp [flatF] at hk
      · exact row_flat hrow hl hsz
    · intro u hu
      simp only [flatF, List.mem_flatten, List.mem_map, List.mem_range] at hu
      obtain ⟨l, ⟨j, hj, rfl⟩, hu⟩ := hu
      exact h1 j hj u hu
    · exact Nat.le_trans (Nat.mul_le_mul_left _ hby) (by omega)
    · intro v' w' h2 h3 _
      refine h v' w' ?_ (fun B a0 hB hb1 hb2 => hB.grown h3 hb2 fun k hk => ?_)
      · show World.ownsRow _ _ _ _ _ _ _
        rw [flatF_add m hfg]
        exact h2
      · have := (World.ownsRow.lt hown k hk).1
        omega
theorem OwR.one {w : World} {base b s : Nat} {T : TypeId} {f : Nat → List Value} (hk : w.heap[b]? = some (.cells (f 0).toArray T (0, 0))) (hb : base ≤ b) (hl : (f 0).length = s) : OwR w base T s (.slice (some ⟨b, 0, none⟩) 1 1) 1 f := by
  refine ⟨by simp [flatF, hl], .inr ⟨b, 1, (f 0).toArray, rfl, hb, hk, Nat.le_refl _, by decide, by simp [hl], ?_⟩⟩
  simp only [flatF, List.range_one, List.map_cons, List.map_nil, List.flatten_cons, List.flatten_nil, List.append_nil]
  rw [List.take_of_length_le (by omega)]
/-- What an object names, and what is wrong with it. -/
def treeIds (ds : List Int) : List (List Int) := if treeErr 2 ds = 0 then (tnL ds).map (·.id) else []
def linksO (k : Int) (ds : List Int) : List (List Int) :=
  if k < 1 ∨ 4 < k then [] else if 16384 < ds.length then [] else if k = 2 then treeIds ds
  else if k = 4 then (if markErr 4 ds = 0 then [idR ds 0] else []) else if k = 3 then (if chgErr 3 ds = 0 then idR ds 0 :: cgP ds else []) else []
def checkO (k : Int) (ds : List Int) : Int :=
  if k < 1 ∨ 4 < k then 2 else if 16384 < ds.length then 3 else if k = 2 then treeErr 2 ds else if k = 4 then markErr 4 ds else if k = 3 then chgErr 3 ds else 0
def idsV (l : List (List Int)) (j : Nat) : List Value := u8s (idF l j)
def LookP (w : World) (l : List (List Int)) (er : Int) (e : Ending) (w' : World) : Prop :=
  ∃ A c, e = .returned (.tuple #[.slice A l.length c, .int .i64 er]) ∧ RowAt w' A l.length 32 (idsV l) ∧ (∀ p, A = some p → w.heap.size ≤ p.block) ∧ Below w.heap.size w w'
theorem rowAt_nil {w : World} {A : Option Addr} {s : Nat} {f : Nat → List Value} : RowAt w A 0 s f := fun h => absurd h (Nat.lt_irrefl 0)
theorem lookP_nil {w w' : World} {er : Int} (hb : Below w.heap.size w w') : LookP w [] er (.returned (.tuple #[.slice none 0 0, .int .i64 er])) w' := ⟨none, 0, rfl, rowAt_nil, (fun p hp => by cases hp), hb⟩
theorem ent_ext {id : List Int} (nm : ByteArray) (d : Bool) (h : id.length = 32) : (Ent.cells ⟨nm, d, id⟩).toArray.extract 2 (2 + 32) = ints .u8 id := by
  obtain ⟨a0, a1, a2, a3, a4, a5, a6, a7, a8, a9, a10, a11, a12, a13, a14, a15, b0, b1, b2, b3, b4, b5, b6, b7, b8, b9, b10, b11, b12, b13, b14, b15, rfl⟩ := thirtytwo id h
  kernel_rfl
theorem mark_ext {id : List Int} (nm tx : ByteArray) (h : id.length = 32) : (markCells id nm tx).toArray.extract 0 (0 + 32) = ints .u8 id := by
  obtain ⟨a0, a1, a2, a3, a4, a5, a6, a7, a8, a9, a10, a11, a12, a13, a14, a15, b0, b1, b2, b3, b4, b5, b6, b7, b8, b9, b10, b11, b12, b13, b14, b15, rfl⟩ := thirtytwo id h
  kernel_rfl
theorem chg_ext {id : List Int} (v : Value) (t : Int) (a x : ByteArray) (h : id.length = 32) : (chgV id v t a x).extract 0 (0 + 32) = ints .u8 id := by
  obtain ⟨a0, a1, a2, a3, a4, a5, a6, a7, a8, a9, a10, a11, a12, a13, a14, a15, b0, b1, b2, b3, b4, b5, b6, b7, b8, b9, b10, b11, b12, b13, b14, b15, rfl⟩ := thirtytwo id h
  kernel_rfl
theorem idInfo : (Tryd.prog.info? 24).map (·.size) = some 32 := by kernel_rfl
theorem u8s_arr (l : List Int) : (u8s l).toArray = ints .u8 l := rfl
set_option maxRecDepth 100000 in
set_option maxHeartbeats 1000000 in
theorem look_bad (k : Int) (A : Option Addr) (n cap : Nat) (w : World) (hk : k < 1 ∨ 4 < k) :
    Calls Tryd.prog 51 #[.agg (objC k (.slice A n cap))] w (LookP w [] 2) := by
  obtain ⟨w0, hw0⟩ : ∃ w0, w0 = w.alloc (.cells (objC k (.slice A n cap)) 35) := ⟨_, rfl⟩
  have K0 : Bx (w0.heap[w.heap.size]? = some (.cells (objC k (.slice A n cap)) 35 (0, 0))) := ⟨by rw [hw0]; exact blk_new w _⟩
  have D0 : Bx (Below w.heap.size w w0) := ⟨by rw [hw0]; exact ((Below.refl _ _).alloc (Nat.le_refl _) _)⟩
  have hsz0 : w0.heap.size = w.heap.size + 1 := by rw [hw0]; simp
  have SZ0 := bx hsz0; clear hsz0
  have HW := bx hw0; clear hw0
  have z0 : w0.cell? ⟨w.heap.size, 0, none⟩ = some (.int .i64 k) := blk_cell K0.out rfl
  by_cases h1 : k < 1
  all_goals
    have h2 : ¬ k < 1 → 4 < k := by omega
    try (have h3 := h2 h1)
    clear h2 hk
    go_enter Tryd.func51, Tryd.ntmps51
    go_upto_region 1 with fail
    rw [← HW.out]
    clear HW
    go_wp2_with fail
    refine bodyPost_ret (results_tmp2 rfl _ _ _) rfl ?_
    exact lookP_nil D0.out
set_option maxRecDepth 100000 in
set_option maxHeartbeats 1000000 in
theorem look_big (k : Int) (A : Option Addr) (n cap : Nat) (w : World) (h1 : 1 ≤ k) (h4 : k ≤ 4) (hn : 16384 < n) :
    Calls Tryd.prog 51 #[.agg (objC k (.slice A n cap))] w (LookP w [] 3) := by
  obtain ⟨w0, hw0⟩ : ∃ w0, w0 = w.alloc (.cells (objC k (.slice A n cap)) 35) := ⟨_, rfl⟩
  have K0 : Bx (w0.heap[w.heap.size]? = some (.cells (objC k (.slice A n cap)) 35 (0, 0))) := ⟨by rw [hw0]; exact blk_new w _⟩
  have D0 : Bx (Below w.heap.size w w0) := ⟨by rw [hw0]; exact ((Below.refl _ _).alloc (Nat.le_refl _) _)⟩
  have hsz0 : w0.heap.size = w.heap.size + 1 := by rw [hw0]; simp
  have SZ0 := bx hsz0; clear hsz0
  have HW := bx hw0; clear hw0
  have z0 : w0.cell? ⟨w.heap.size, 0, none⟩ = some (.int .i64 k) := blk_cell K0.out rfl
  have z1 : w0.cell? ⟨w.heap.size, 1, none⟩ = some (.slice A n cap) := blk_cell K0.out rfl
  have h1' : ¬ k < 1 := by omega
  have h4' : ¬ 4 < k := by omega
  have hn' : (16384 : Int) < n := by omega
  clear h1 h4
  go_enter Tryd.func51, Tryd.ntmps51
  go_upto_region 1 with fail
  rw [← HW.out]
  clear HW
  go_wp2_with fail
  refine bodyPost_ret (results_tmp2 rfl _ _ _) rfl ?_
  exact lookP_nil D0.out
set_option maxRecDepth 100000 in
set_option maxHeartbeats 2000000 in
theorem look_mark (A : Option Addr) (n cap : Nat) (ds : List Int) (w : World) (hM : MaxAt w) (hrd : RdB w A n ds) (hnil : A = none → cap = 0) (hB : IsB ds) (hn : n ≤ 16384) :
    Calls Tryd.prog 51 #[.agg (objC 4 (.slice A n cap))] w (LookP w (if markErr 4 ds = 0 then [idR ds 0] else []) (markErr 4 ds)) := by
  obtain ⟨w0, hw0⟩ : ∃ w0, w0 = w.alloc (.cells (objC 4 (.slice A n cap)) 35) := ⟨_, rfl⟩
  have K0 : Bx (w0.heap[w.heap.size]? = some (.cells (objC 4 (.slice A n cap)) 35 (0, 0))) := ⟨by rw [hw0]; exact blk_new w _⟩
  have D0 : Bx (Below w.heap.size w w0) := ⟨by rw [hw0]; exact ((Below.refl _ _).alloc (Nat.le_refl _) _)⟩
  have hsz0 : w0.heap.size = w.heap.size + 1 := by rw [hw0]; simp
  have SZ0 := bx hsz0; clear hsz0
  have HW := bx hw0; clear hw0
  have z0 : w0.cell? ⟨w.heap.size, 0, none⟩ = some (.int .i64 4) := blk_cell K0.out rfl
  have z1 : w0.cell? ⟨w.heap.size, 1, none⟩ = some (.slice A n cap) := blk_cell K0.out rfl
  have hn' : ¬ (16384 : Int) < n := by omega
  obtain ⟨w1, hw1⟩ : ∃ w1, w1 = w0.alloc (.cells (markCells zero32 ⟨#[]⟩ ⟨#[]⟩).toArray 30) := ⟨_, rfl⟩
  have F1 : Bx (Below w0.heap.size w0 w1) := ⟨by rw [hw1]; exact (Below.refl _ _).alloc (Nat.le_refl _) _⟩
  have K9 : Bx (w1.heap[w0.heap.size]? = some (.cells (markCells zero32 ⟨#[]⟩ ⟨#[]⟩).toArray 30 (0, 0))) := ⟨by rw [hw1]; exact blk_new _ _⟩
  replace K0 := bx (((F1.out).block _ (blk_lt K0.out)).trans K0.out)
  replace D0 := bx (D0.out.trans ((F1.out).mono D0.out.size))
  have HMK := bx (markof_any A n cap ds w1 (hM.below D0.out) (hrd.below D0.out) hnil hB (by omega))
  obtain ⟨x, hx⟩ : ∃ x, idR ds 0 = x := ⟨_, rfl⟩
  have hxl : x.length = 32 := by rw [← hx]; exact idR_length _ _
  have HX := bx hxl
  have MX := bx (fun nm tx => mark_ext (id := x) nm tx hxl)
  have MI := bx (mark_is zero32 ⟨#[]⟩ ⟨#[]⟩ rfl)
  have MIx := bx (fun nm tx => mark_is x nm tx hxl); have MSx := bx (fun nm tx => mark_size (id := x) hxl nm tx)
  have E2 := bx hw1
  have HM0 : Bx (mkId ds = x) := ⟨hx⟩
  rw [hx]
  unfold MarkP at HMK
  rw [HM0.out] at HMK
  generalize strOfNums (mkN ds) = nm at *
  generalize strOfNums (mkT ds) = tx at *
  generalize markErr 4 ds = me at *
  have HP : Bx (∀ e w', LookP w (if me = 0 then [x] else []) me e w' → LookP w (if me = 0 then [x] else []) me e w') := ⟨fun _ _ h => h⟩
  obtain ⟨OUT, hOUT⟩ : ∃ OUT, LookP w (if me = 0 then [x] else []) me = OUT := ⟨_, rfl⟩
  have HO := bx hOUT
  rw [hOUT]
  clear hOUT HP
  clear hw1 hM hrd hnil hB hx hxl HM0 F1
  have SZ1 := bx (show w.heap.size ≤ w0.heap.size by have := SZ0.out; omega)
  go_enter Tryd.func51, Tryd.ntmps51
  go_upto_region 1 with fail
  rw [← HW.out]
  clear HW
  go_upto_region 19 with fail
  have E3 := E2.out.symm
  simp only [markCells, u8s, zero32, List.replicate, List.map, List.cons_append, List.nil_append] at E3
  rw [E3]
  clear E3 E2 z0 z1
  go_wp2_with (first
    | ((with_reducible refine at_load 51 ?_); go_must (refine load_all 35 (.tmp 1) rfl rfl rfl K0.out Tryd.underlying35 rfl (obj_is _ _ _ _) ?_)))
  by_cases hme : me = 0
  · subst hme
    simp only [if_true] at HO HMK
    refine HMK.out.mono ?_
    rintro e w2 ⟨rfl, hb⟩
    replace K9 := bx (((hb).block _ (blk_lt K9.out)).trans K9.out)
    replace D0 := bx (D0.out.trans ((hb).mono D0.out.size))
    clear hb HMK K0
    have KI : Bx (∀ w3, Below w2.heap.size w2 w3 → Below w.heap.size w w3) := ⟨fun w3 h => D0.out.trans (h.mono D0.out.size)⟩
    go_upto_region 21 with (first
      | ((with_reducible refine at_store (.tmp 9) (.tmp 53) ?_); go_must (refine store_all (cs := (markCells x nm tx).toArray) 30 (.tmp 9) (.tmp 53) rfl rfl rfl rfl K9.out (MIx.out nm tx) (by rw [MSx.out]; rfl) (mark_one _ _ _) ?_; intro w3 hu3; have R3 := bx hu3.same; have D3 := bx (D0.out.trans (hu3.below SZ1.out)); clear hu3)))
    go_wp2_with (first
      | ((with_reducible refine at_load 59 ?_); go_must (refine wpList_load_agg rfl 24 (.tmp 58) rfl w0.heap.size 0 rfl 30 (markCells x nm tx).toArray 32 _ R3.out Tryd.underlying24 rfl idInfo (by rw [MSx.out]; decide) _ (MX.out nm tx) ?_))
      | ((with_reducible refine at_bs 60 ?_); go_must (refine wpList_bs1 rfl 25 24 (.tmp 59) rfl (ints .u8 x) rfl _ 32 32 Tryd.underlying25 infoId (by rw [ints_size]; exact HX.out) (by decide) (by decide) ?_; intro w4 b4 h4 h5; have N4 := bx (show w4.heap[b4]? = some (.cells (idsV [x] 0).toArray 24 (0, 0)) by rw [← h4, ← h5]; exact blk_new _ _); have D4 := bx (show Below w.heap.size w w4 by rw [← h4]; exact D3.out.alloc D3.out.size _); clear h4 h5))
      | ((with_reducible refine at_call 61 ?_); go_must (refine wpList_apR rfl (.tmp 57) (.tmp 60) 25 rfl w.heap.size 24 _ 32 32 Tryd.underlying25 infoId rfl (by decide) (by decide) _ 0 (idsV [x]) rfl (OwR.nil _ _ _ _ _) _ 1 rfl N4.out (by show (u8s x).length = 32; rw [u8s_length]; exact HX.out) (oneCell_map_int _ _) (by decide) D4.out.size ?_; intro v5 w5 h1 h2; have O5 := bx h1; have D5 := bx (h2 _ _ D4.out (Nat.le_refl _) D4.out.size); clear h1 h2)))
    obtain ⟨A9, c9, rfl, hp9, hr9⟩ := O5.out.rd fun i hi => by
      obtain rfl : i = 0 := by omega
      show (u8s x).length = 32; rw [u8s_length]; exact HX.out
    rw [← HO.out]
    exact ⟨A9, c9, rfl, hr9, hp9, D5.out⟩
  · have h0 : (me == 0) = false := by simp [hme]
    have h1 : (me != 0) = true := by simp [hme]
    simp only [if_neg hme] at HO HMK
    clear hme
    refine HMK.out.mono ?_
    rintro e w2 ⟨rfl, hb⟩
    replace K9 := bx (((hb).block _ (blk_lt K9.out)).trans K9.out)
    replace D0 := bx (D0.out.trans ((hb).mono D0.out.size))
    clear hb HMK K0
    go_wp2_with (first
      | ((with_reducible refine at_store (.tmp 9) (.tmp 53) ?_); go_must (refine store_all (cs := (markCells zero32 ⟨#[]⟩ ⟨#[]⟩).toArray) 30 (.tmp 9) (.tmp 53) rfl rfl rfl rfl K9.out MI.out rfl (mark_one _ _ _) ?_; intro w3 hu3; have D3 := bx (D0.out.trans (hu3.below SZ1.out)); clear hu3)))
    rw [← HO.out]
    exact lookP_nil D3.out
end Go.Proofs.YtoompcgdhokdlaaDoor

set_option linter.unusedSimpArgs false
set_option linter.unusedVariables false
namespace Go.Proofs.YtoompcgdhokdlaaDoor
open Go.RowKit

theorem results_tmp1g {P : Program} {fn : Func} {p : Tmp} (h : fn.results = #[.tmp p]) (tmps : Array Value) (w : World) : (results fn tmps).run P w = .ok (tmps.getD p undef) w := by
  simp [results, h]
set_option maxRecDepth 100000 in
set_option maxHeartbeats 2000000 in
theorem look_chg (A : Option Addr) (n cap : Nat) (ds : List Int) (w : World) (hrd : RdB w A n ds) (hnil : A = none → cap = 0) (hB : IsB ds) (hn : n ≤ 16384) :
    Calls Tryd.prog 51 #[.agg (objC 3 (.slice A n cap))] w (LookP w (if chgErr 3 ds = 0 then idR ds 0 :: cgP ds else []) (chgErr 3 ds)) := by
  obtain ⟨w0, hw0⟩ : ∃ w0, w0 = w.alloc (.cells (objC 3 (.slice A n cap)) 35) := ⟨_, rfl⟩
  have K0 : Bx (w0.heap[w.heap.size]? = some (.cells (objC 3 (.slice A n cap)) 35 (0, 0))) := ⟨by rw [hw0]; exact blk_new w _⟩
  have D0 : Bx (Below w.heap.size w w0) := ⟨by rw [hw0]; exact ((Below.refl _ _).alloc (Nat.le_refl _) _)⟩
  have hsz0 : w0.heap.size = w.heap.size + 1 := by rw [hw0]; simp
  have SZ0 := bx hsz0; clear hsz0
  have HW := bx hw0; clear hw0
  have z0 : w0.cell? ⟨w.heap.size, 0, none⟩ = some (.int .i64 3) := blk_cell K0.out rfl
  have z1 : w0.cell? ⟨w.heap.size, 1, none⟩ = some (.slice A n cap) := blk_cell K0.out rfl
  have hn' : ¬ (16384 : Int) < n := by omega
  obtain ⟨w1, hw1⟩ : ∃ w1, w1 = w0.alloc (.cells (chgV zero32 (.slice none 0 0) 0 ⟨#[]⟩ ⟨#[]⟩) 28) := ⟨_, rfl⟩
  have F1 : Bx (Below w0.heap.size w0 w1) := ⟨by rw [hw1]; exact (Below.refl _ _).alloc (Nat.le_refl _) _⟩
  have K9 : Bx (w1.heap[w0.heap.size]? = some (.cells (chgV zero32 (.slice none 0 0) 0 ⟨#[]⟩ ⟨#[]⟩) 28 (0, 0))) := ⟨by rw [hw1]; exact blk_new _ _⟩
  replace K0 := bx (((F1.out).block _ (blk_lt K0.out)).trans K0.out)
  replace D0 := bx (D0.out.trans ((F1.out).mono D0.out.size))
  have hcg := chgof_any A n cap ds w1 (hrd.below D0.out) hnil hB (by omega)
  have hL : ∀ e ∈ cgP ds, e.length = 32 ∧ IsB e := idsR_all _ _ (rRest_isB (rRest_isB hB 0 32) _ 1)
  have hnl : (cgP ds).length ≤ 255 := by
    have b1 : IsB (cg1 ds).1 := rRest_isB hB 0 32
    have hnum : 0 ≤ num (stO (cg1 ds) 1) ∧ num (stO (cg1 ds) 1) < 256 := num_lt _ (rOut_isB b1 _ 1) 1 (rOut_m _ _ 1)
    have hle : (cgP ds).length ≤ cgN ds := idsR_le _ _
    have : cgN ds ≤ 255 := by rw [cgN]; omega
    omega
  obtain ⟨x, hx⟩ : ∃ x, idR ds 0 = x := ⟨_, rfl⟩
  have hxl : x.length = 32 := by rw [← hx]; exact idR_length _ _
  obtain ⟨L, hLE⟩ : ∃ L, cgP ds = L := ⟨_, rfl⟩
  obtain ⟨CC, hCC⟩ : ∃ CC : Option Addr → Nat → Array Value, (fun A c => (chgR ds A c).cells.toArray) = CC := ⟨_, rfl⟩
  have hCC' : ∀ A c, (chgR ds A c).cells.toArray = CC A c := fun A c => by rw [← hCC]
  obtain ⟨tm, au, tx, hCV⟩ : ∃ tm au tx, ∀ A c, CC A c = chgV x (.slice A L.length c) tm au tx := ⟨_, _, _, fun A c => by rw [← hCC' A c, ← hx, ← hLE]; rfl⟩
  unfold ChgP at hcg
  simp only [hCC', hLE] at hcg
  have HCV := bx hCV
  rw [hLE] at hL hnl ⊢
  rw [hx]
  have HCG := bx hcg
  have HFA := bx (idF_all hL)
  have HX := bx hxl
  have MX := bx (fun v t a b => chg_ext v t a b hxl)
  have MI := bx (chgV_is rfl (.slice none 0 0) 0 ⟨#[]⟩ ⟨#[]⟩ : (Tryd.prog.info? 28).map (·.size) = some (chgV zero32 (.slice none 0 0) 0 ⟨#[]⟩ ⟨#[]⟩).size)
  have MIx := bx (fun v t a b => chgV_is hxl v t a b); have MSx := bx (fun v t a b => chgV_size hxl v t a b); have MGx := bx (fun v t a b => (chgV_get hxl v t a b).1)
  have E2 := bx hw1
  generalize chgErr 3 ds = me at *
  obtain ⟨OUT, hOUT⟩ : ∃ OUT, LookP w (if me = 0 then x :: L else []) me = OUT := ⟨_, rfl⟩
  have HO := bx hOUT
  rw [hOUT]
  clear hOUT hw1 hrd hnil hB hx hxl F1 hL hcg hCC hCC' hCV hLE
  have hlt9 : w0.heap.size < w1.heap.size := blk_lt K9.out
  have SZ1 := bx (show w.heap.size ≤ w0.heap.size by have := SZ0.out; omega)
  go_enter Tryd.func51, Tryd.ntmps51
  go_upto_region 1 with fail
  rw [← HW.out]
  clear HW
  go_upto_region 23 with fail
  have E3 := E2.out.symm
  simp only [chgV, u8s, zero32, List.replicate, List.map, List.cons_append, List.nil_append] at E3
  rw [E3]
  clear E3 E2 z0 z1
  go_wp2_with (first
    | ((with_reducible refine at_load 63 ?_); go_must (refine load_all 35 (.tmp 1) rfl rfl rfl K0.out Tryd.underlying35 rfl (obj_is _ _ _ _) ?_)))
  by_cases hme : me = 0
  · subst hme
    simp only [if_true] at HO HCG
    refine HCG.out.mono ?_
    rintro e w2 ⟨A9, c9, rfl, hr, ⟨hp, hq⟩, hb⟩
    have A0 := bx hr; have NC := bx hq; have P9 := bx hp
    rw [HCV.out]
    replace K9 := bx (((hb).block _ (blk_lt K9.out)).trans K9.out)
    replace D0 := bx (D0.out.trans ((hb).mono D0.out.size))
    clear hb HCG K0 hr hp hq
    go_upto_region 25 with (first
      | ((with_reducible refine at_store (.tmp 10) (.tmp 65) ?_); go_must (refine store_all (cs := chgV x (.slice A9 L.length c9) tm au tx) 28 (.tmp 10) (.tmp 65) rfl rfl rfl rfl K9.out (MIx.out _ _ _ _) (by rw [MSx.out]; rfl) (chgV_one _ rfl _ _ _) ?_; intro w3 hu3; have R3 := bx hu3.same; have D3 := bx (D0.out.trans (hu3.below SZ1.out)); have A3 := bx (A0.out.upd_ne hu3 (fun p hp => by have := P9.out p hp; omega)); clear hu3)))
    have KI : Bx (∀ w4, Below w3.heap.size w3 w4 → w4.cell? ⟨w0.heap.size, 32, none⟩ = some (.slice A9 L.length c9)) := ⟨fun w4 h => blk_cell ((h.block _ (blk_lt R3.out)).trans R3.out) (MGx.out _ _ _ _)⟩
    go_wp2_with (first
      | ((with_reducible refine at_load 70 ?_); go_must (refine wpList_load_agg rfl 24 (.tmp 69) rfl w0.heap.size 0 rfl 28 (chgV x (.slice A9 L.length c9) tm au tx) 32 _ R3.out Tryd.underlying24 rfl idInfo (by rw [MSx.out]; decide) _ (MX.out _ _ _ _) ?_))
      | ((with_reducible refine at_bs 71 ?_); go_must (refine wpList_bs1 rfl 25 24 (.tmp 70) rfl (ints .u8 x) rfl _ 32 32 Tryd.underlying25 infoId (by rw [ints_size]; exact HX.out) (by decide) (by decide) ?_; intro w4 b4 h4 h5; have N4 := bx (show w4.heap[b4]? = some (.cells (idsV (x :: L) 0).toArray 24 (0, 0)) by rw [← h4, ← h5]; exact blk_new _ _); have F4 := bx (show Below w3.heap.size w3 w4 by rw [← h4]; exact (Below.refl _ _).alloc (Nat.le_refl _) _); have B4 := bx (show w.heap.size ≤ b4 by rw [← h5]; exact D3.out.size); have D4 := bx (D3.out.trans (F4.out.mono D3.out.size)); have A4 := bx (A3.out.below F4.out); have z9 := KI.out w4 F4.out; clear h4 h5))
      | ((with_reducible refine at_call 74 ?_); go_must (refine wpList_apM rfl (.tmp 71) (.tmp 73) 25 rfl w.heap.size 24 _ 32 32 Tryd.underlying25 infoId rfl (by decide) (by decide) _ 1 (idsV (x :: L)) rfl (OwR.one N4.out B4.out (by show (u8s x).length = 32; rw [u8s_length]; exact HX.out)) A9 L.length c9 (fun j => u8s (idF L j)) rfl A4.out NC.out (fun j _ => by rw [Nat.add_comm]; rfl) (fun j _ => by rw [u8s_length]; exact (HFA.out j).1) (fun j _ => oneCell_map_int _ _) (by omega) D4.out.size ?_; intro v5 w5 h1 h2; have O5 := bx h1; have D5 := bx (h2 _ _ D4.out (Nat.le_refl _) D4.out.size); clear h1 h2)))
    obtain ⟨A8, c8, rfl, hp9, hr9⟩ := O5.out.rd fun i hi => by
      cases i with
      | zero => show (u8s x).length = 32; rw [u8s_length]; exact HX.out
      | succ i => show (u8s (idF L i)).length = 32; rw [u8s_length]; exact (HFA.out i).1
    rw [← HO.out]
    rw [Nat.add_comm 1] at hr9
    exact ⟨A8, c8, by rw [Nat.add_comm 1]; rfl, hr9, hp9, D5.out⟩
  · have h0 : (me == 0) = false := by simp [hme]
    have h1 : (me != 0) = true := by simp [hme]
    simp only [if_neg hme] at HO HCG
    clear hme
    refine HCG.out.mono ?_
    rintro e w2 ⟨A9, c9, rfl, hr, hp, hb⟩
    replace K9 := bx (((hb).block _ (blk_lt K9.out)).trans K9.out)
    replace D0 := bx (D0.out.trans ((hb).mono D0.out.size))
    clear hb HCG K0 hr hp
    go_wp2_with (first
      | ((with_reducible refine at_store (.tmp 10) (.tmp 65) ?_); go_must (refine store_all (cs := chgV zero32 (.slice none 0 0) 0 ⟨#[]⟩ ⟨#[]⟩) 28 (.tmp 10) (.tmp 65) rfl rfl rfl rfl K9.out MI.out rfl (chgV_one _ rfl _ _ _) ?_; intro w3 hu3; have D3 := bx (D0.out.trans (hu3.below SZ1.out)); clear hu3)))
    rw [← HO.out]
    exact lookP_nil D3.out
set_option maxRecDepth 100000 in
set_option maxHeartbeats 2000000 in
theorem look_tree (A : Option Addr) (n cap : Nat) (ds : List Int) (w : World) (hM : MaxAt w) (hrd : RdB w A n ds) (hnil : A = none → cap = 0) (hB : IsB ds) (hn : n ≤ 16384) :
    Calls Tryd.prog 51 #[.agg (objC 2 (.slice A n cap))] w (LookP w (treeIds ds) (treeErr 2 ds)) := by
  obtain ⟨w0, hw0⟩ : ∃ w0, w0 = w.alloc (.cells (objC 2 (.slice A n cap)) 35) := ⟨_, rfl⟩
  have K0 : Bx (w0.heap[w.heap.size]? = some (.cells (objC 2 (.slice A n cap)) 35 (0, 0))) := ⟨by rw [hw0]; exact blk_new w _⟩
  have D0 : Bx (Below w.heap.size w w0) := ⟨by rw [hw0]; exact ((Below.refl _ _).alloc (Nat.le_refl _) _)⟩
  have hsz0 : w0.heap.size = w.heap.size + 1 := by rw [hw0]; simp
  have SZ0 := bx hsz0; clear hsz0
  have HW := bx hw0; clear hw0
  have z0 : w0.cell? ⟨w.heap.size, 0, none⟩ = some (.int .i64 2) := blk_cell K0.out rfl
  have z1 : w0.cell? ⟨w.heap.size, 1, none⟩ = some (.slice A n cap) := blk_cell K0.out rfl
  have hn' : ¬ (16384 : Int) < n := by omega
  have htr := treeof_any A n cap ds w0 (hM.below D0.out) (hrd.below D0.out) hnil hB (by omega)
  have hall : ∀ e ∈ tnL ds, e.id.length = 32 ∧ IsB e.id ∧ e.name.size ≤ 65536 := entsR_all _ _ (rRest_isB hB 0 2)
  have hlen : (tnL ds).length ≤ 65535 := by
    have hnum : 0 ≤ num (stO (ds, 0) 2) ∧ num (stO (ds, 0) 2) < 65536 := num_lt _ (rOut_isB hB 0 2) 2 (rOut_m _ _ 2)
    have hle : (tnL ds).length ≤ tnN ds := entsR_le _ _
    have : tnN ds ≤ 65535 := by rw [tnN]; omega
    omega
  -- the list that is told
  have hT : ∃ LT : List Ent, treeIds ds = LT.map (·.id) ∧ (∀ e ∈ LT, e.id.length = 32 ∧ IsB e.id ∧ e.name.size ≤ 65536) ∧ LT.length ≤ 65535 ∧ (∀ e w', TreeP w0 2 ds e w' → ∃ A c, e = .returned (.tuple #[.slice A LT.length c, .int .i64 (treeErr 2 ds)]) ∧ RowAt w' A LT.length 34 (fun j => (entF LT j).cells) ∧ Below w0.heap.size w0 w') := by
    by_cases hme : treeErr 2 ds = 0
    · refine ⟨tnL ds, by rw [treeIds, if_pos hme], hall, hlen, ?_⟩
      rintro e w' ⟨A, c, rfl, h1, _, h3⟩
      rw [if_pos hme]
      exact ⟨A, c, rfl, h1, h3⟩
    · refine ⟨[], by rw [treeIds, if_neg hme]; rfl, by simp, by simp, ?_⟩
      rintro e w' ⟨A, c, rfl, h1, _, h3⟩
      rw [if_neg hme]
      exact ⟨none, 0, rfl, rowAt_nil, h3⟩
  obtain ⟨LT, hti, hal, hll, htp⟩ := hT
  have HTR := bx (htr.mono htp)
  have HFA := bx (entF_all hal)
  rw [hti]
  have HLI : Bx (∀ j, j < LT.length → idF (LT.map (·.id)) j = (entF LT j).id) := ⟨fun j hj => by simp [idF, entF, List.getD_eq_getElem?_getD, hj]⟩
  have HLN : Bx ((LT.map (·.id)).length = LT.length) := ⟨List.length_map _⟩
  generalize LT.map (·.id) = IDS at *
  generalize treeErr 2 ds = me at *
  obtain ⟨OUT, hOUT⟩ : ∃ OUT, LookP w IDS me = OUT := ⟨_, rfl⟩
  have HO := bx hOUT
  rw [hOUT]
  clear hOUT hM hrd hnil hB htr hall hlen htp hal hti
  go_enter Tryd.func51, Tryd.ntmps51
  go_upto_region 1 with fail
  rw [← HW.out]
  clear HW
  go_wp2_with (first
    | ((with_reducible refine at_load 34 ?_); go_must (refine load_all 35 (.tmp 1) rfl rfl rfl K0.out Tryd.underlying35 rfl (obj_is _ _ _ _) ?_)))
  refine HTR.out.mono ?_
  rintro e w1 ⟨A9, c9, rfl, hr, hb⟩
  have A1 := bx hr
  replace D0 := bx (D0.out.trans ((hb).mono D0.out.size))
  clear hb HTR hr K0 z0 z1
  go_wp2_with fail
  go_loopw [4, 40] (fun v i wr => ∃ j : Nat, j ≤ LT.length ∧ i = .int .i64 j ∧ OwR wr w1.heap.size 24 32 v j (idsV IDS) ∧ Below w1.heap.size w1 wr) (fun _ i _ => (LT.length - intOf i).toNat)
  case atStart => exact ⟨0, Nat.zero_le _, rfl, OwR.nil _ _ _ _ _, Below.refl _ _⟩
  case round =>
    rename_i wr
    obtain ⟨j, hj, rfl, ho, hb⟩ := hrel
    have O := bx ho; have F1 := bx hb
    have D := bx (D0.out.trans (F1.out.mono D0.out.size))
    clear ho hb
    by_cases hlt : j < LT.length
    · have hlt' : (j : Int) < LT.length := by omega
      obtain ⟨b1, o1, rfl, hb1, hr1⟩ := A1.out.at hlt
      have HR2 := bx (hr1 wr F1.out)
      have hlj := HLI.out j hlt
      have hidl := (HFA.out j).1
      obtain ⟨ej, hej⟩ : ∃ ej, entF LT j = ej := ⟨_, rfl⟩
      rw [hej] at hlj hidl
      rw [hej] at HR2
      obtain ⟨nm, dr, id⟩ := ej
      dsimp only at hlj hidl
      have HI : Bx ((Tryd.prog.info? 32).map (·.size) = some (Ent.cells ⟨nm, dr, id⟩).length) := ⟨ent_is hidl⟩
      have HI2 : Bx ((Tryd.prog.info? 32).map (·.size) = some (Ent.cells ⟨nm, dr, id⟩).toArray.size) := ⟨by rw [List.size_toArray]; exact HI.out⟩
      have HS : Bx ((Ent.cells ⟨nm, dr, id⟩).toArray.size = 34) := ⟨by simp [Ent.cells, u8s_length, hidl]⟩
      have HON : Bx (∀ v ∈ (Ent.cells ⟨nm, dr, id⟩).toArray.toList, v.oneCell' = true) := ⟨ent_one⟩
      have HEX := bx (ent_ext nm dr hidl)
      have HIL := bx hidl
      have HIV : Bx (idsV IDS j = u8s id) := ⟨by rw [idsV, hlj]⟩
      clear hr1 hej hlj hidl
      generalize Ent.cells ⟨nm, dr, id⟩ = cl at *
      go_wp2_with (first
        | ((with_reducible refine at_load 43 ?_); go_must (refine wpList_load_mid rfl 32 (.tmp 42) rfl b1 (o1 + j * 34) rfl cl _ HR2.out Tryd.underlying32 rfl HI.out ?_))
        | ((with_reducible refine at_store (.tmp 8) (.tmp 43) ?_); go_must (refine store_all (cs := cl.toArray) 32 (.tmp 8) (.tmp 43) rfl rfl rfl rfl (blk_new wr _) HI2.out (by rw [HS.out]; rfl) HON.out ?_; intro w2 hu2; have X2 := bx hu2.same; have F2 := bx (((Below.refl wr.heap.size wr).alloc (Nat.le_refl _) _).trans (hu2.below (Nat.le_refl _))); clear hu2))
        | ((with_reducible refine at_load 46 ?_); go_must (refine wpList_load_agg rfl 24 (.tmp 45) rfl wr.heap.size 2 rfl 32 cl.toArray 32 _ X2.out Tryd.underlying24 rfl idInfo (by rw [HS.out]; decide) _ HEX.out ?_))
        | ((with_reducible refine at_bs 47 ?_); go_must (refine wpList_bs1 rfl 25 24 (.tmp 46) rfl (ints .u8 id) rfl _ 32 32 Tryd.underlying25 infoId (by rw [ints_size]; exact HIL.out) (by decide) (by decide) ?_; intro w4 b4 h4 h5; have N4 := bx (show w4.heap[b4]? = some (.cells (idsV IDS j).toArray 24 (0, 0)) by rw [HIV.out, ← h4, ← h5]; exact blk_new _ _); have F4 := bx (show Below w2.heap.size w2 w4 by rw [← h4]; exact (Below.refl _ _).alloc (Nat.le_refl _) _); have O4 := bx ((O.out.kept F2.out).kept F4.out); have F3 := bx (F1.out.trans (F2.out.mono F1.out.size)); have F5 := bx (F3.out.trans (F4.out.mono F3.out.size)); clear h4 h5))
        | ((with_reducible refine at_call 48 ?_); go_must (refine wpList_apR rfl (.tmp 44) (.tmp 47) 25 rfl w1.heap.size 24 _ 32 32 Tryd.underlying25 infoId rfl (by decide) (by decide) _ j (idsV IDS) rfl O4.out _ 1 rfl N4.out (by rw [HIV.out, u8s_length]; exact HIL.out) (oneCell_map_int _ _) (by omega) F5.out.size ?_; intro v5 w5 h1 h2; have O5 := bx h1; have D5 := bx (h2 _ _ F5.out (Nat.le_refl _) F5.out.size); clear h1 h2)))
      go_roundw
      case rel => exact ⟨j + 1, by omega, by first | rfl | go_num, O5.out, D5.out⟩
      case measure => simp only [intOf]; omega
    · have hlt' : ¬ (j : Int) < LT.length := by omega
      obtain rfl : j = LT.length := by omega
      obtain ⟨A8, c8, rfl, hp8, hr8⟩ := O.out.rd fun i hi => by show (u8s (idF IDS i)).length = 32; rw [u8s_length, HLI.out i hi]; exact (HFA.out i).1
      go_wp2_with fail
      rw [← HO.out]
      exact ⟨A8, c8, by rw [HLN.out], by rw [HLN.out]; exact hr8, fun p hp => Nat.le_trans D0.out.size (hp8 p hp), D.out⟩
end Go.Proofs.YtoompcgdhokdlaaDoor

set_option linter.unusedSimpArgs false
set_option linter.unusedVariables false
namespace Go.Proofs.YtoompcgdhokdlaaDoor
open Go.RowKit

theorem look_any (k : Int) (A : Option Addr) (n cap : Nat) (ds : List Int) (w : World) (hM : MaxAt w) (hrd : RdB w A n ds) (hnil : A = none → cap = 0) (hB : IsB ds) :
    Calls Tryd.prog 51 #[.agg (objC k (.slice A n cap))] w (LookP w (linksO k ds) (checkO k ds)) := by
  have hl := hrd.1
  unfold linksO checkO
  by_cases h1 : k < 1 ∨ 4 < k
  · rw [if_pos h1, if_pos h1]; exact look_bad k A n cap w h1
  · rw [if_neg h1, if_neg h1]
    by_cases h2 : 16384 < ds.length
    · rw [if_pos h2, if_pos h2]; exact look_big k A n cap w (by omega) (by omega) (by omega)
    · rw [if_neg h2, if_neg h2]
      by_cases h3 : k = 2
      · subst h3
        rw [if_pos rfl, if_pos rfl]
        exact look_tree A n cap ds w hM hrd hnil hB (by omega)
      · rw [if_neg h3, if_neg h3]
        by_cases h4 : k = 4
        · subst h4
          rw [if_pos rfl, if_pos rfl]
          exact look_mark A n cap ds w hM hrd hnil hB (by omega)
        · rw [if_neg h4, if_neg h4]
          by_cases h5 : k = 3
          · subst h5
            rw [if_pos rfl, if_pos rfl]
            exact look_chg A n cap ds w hrd hnil hB (by omega)
          · rw [if_neg h5, if_neg h5]
            obtain rfl : k = 1 := by omega
            exact (look_blob A n cap w (by omega)).mono fun e w' ⟨h, hb⟩ => by subst h; exact lookP_nil hb
theorem links_all {k : Int} {ds : List Int} (hB : IsB ds) : ∀ e ∈ linksO k ds, e.length = 32 ∧ IsB e := by
  unfold linksO
  split
  · simp
  · split
    · simp
    · split
      · unfold treeIds
        split
        · intro e he
          obtain ⟨x, hx, rfl⟩ := List.mem_map.1 he
          have := entsR_all _ _ (rRest_isB hB 0 2) x hx
          exact ⟨this.1, this.2.1⟩
        · simp
      · split
        · split
          · intro e he
            obtain rfl : e = idR ds 0 := by simpa using he
            exact ⟨idR_length _ _, idR_isB hB _⟩
          · simp
        · split
          · split
            · intro e he
              rcases List.mem_cons.1 he with rfl | he
              · exact ⟨idR_length _ _, idR_isB hB _⟩
              · exact idsR_all _ _ (rRest_isB (rRest_isB hB 0 32) _ 1) e he
            · simp
          · simp
set_option maxRecDepth 100000 in
theorem check_any (k : Int) (A : Option Addr) (n cap : Nat) (ds : List Int) (w : World) (hM : MaxAt w) (hrd : RdB w A n ds) (hnil : A = none → cap = 0) (hB : IsB ds) :
    Calls Tryd.prog 27 #[.agg (objC k (.slice A n cap))] w fun e w' => e = .returned (.int .i64 (checkO k ds)) ∧ Below w.heap.size w w' := by
  obtain ⟨w0, hw0⟩ : ∃ w0, w0 = w.alloc (.cells (objC k (.slice A n cap)) 35) := ⟨_, rfl⟩
  have K0 : Bx (w0.heap[w.heap.size]? = some (.cells (objC k (.slice A n cap)) 35 (0, 0))) := ⟨by rw [hw0]; exact blk_new w _⟩
  have D0 : Bx (Below w.heap.size w w0) := ⟨by rw [hw0]; exact ((Below.refl _ _).alloc (Nat.le_refl _) _)⟩
  have hsz0 : w0.heap.size = w.heap.size + 1 := by rw [hw0]; simp
  have SZ0 := bx hsz0; clear hsz0
  have HW := bx hw0; clear hw0
  have HL := bx (look_any k A n cap ds w0 (hM.below D0.out) (hrd.below D0.out) hnil hB)
  unfold LookP at HL
  generalize checkO k ds = ck at *
  generalize linksO k ds = lk at *
  clear hM hrd hnil hB
  go_enter Tryd.func27, Tryd.ntmps27
  go_upto_region 1 with fail
  rw [← HW.out]
  clear HW
  go_wp2_with (first
    | ((with_reducible refine at_load 6 ?_); go_must (refine load_all 35 (.tmp 1) rfl rfl rfl K0.out Tryd.underlying35 rfl (obj_is _ _ _ _) ?_))
    | (refine HL.out.mono ?_; rintro e w1 ⟨A1, c1, rfl, _, _, hb⟩; have D1 := bx (D0.out.trans (hb.mono D0.out.size)); clear hb HL))
  go_ret
  exact ⟨rfl, D1.out⟩
/-- The names that an object names. -/
def LinksP (w : World) (l : List (List Int)) (e : Ending) (w' : World) : Prop := ∃ A c, e = .returned (.slice A l.length c) ∧ RowAt w' A l.length 32 (idsV l) ∧ (∀ p, A = some p → w.heap.size ≤ p.block) ∧ Below w.heap.size w w'
set_option maxRecDepth 100000 in
theorem links_any (k : Int) (A : Option Addr) (n cap : Nat) (ds : List Int) (w : World) (hM : MaxAt w) (hrd : RdB w A n ds) (hnil : A = none → cap = 0) (hB : IsB ds) :
    Calls Tryd.prog 22 #[.agg (objC k (.slice A n cap))] w (LinksP w (linksO k ds)) := by
  obtain ⟨w0, hw0⟩ : ∃ w0, w0 = w.alloc (.cells (objC k (.slice A n cap)) 35) := ⟨_, rfl⟩
  have K0 : Bx (w0.heap[w.heap.size]? = some (.cells (objC k (.slice A n cap)) 35 (0, 0))) := ⟨by rw [hw0]; exact blk_new w _⟩
  have D0 : Bx (Below w.heap.size w w0) := ⟨by rw [hw0]; exact ((Below.refl _ _).alloc (Nat.le_refl _) _)⟩
  have hsz0 : w0.heap.size = w.heap.size + 1 := by rw [hw0]; simp
  have SZ0 := bx hsz0; clear hsz0
  have HW := bx hw0; clear hw0
  have HL := bx (look_any k A n cap ds w0 (hM.below D0.out) (hrd.below D0.out) hnil hB)
  unfold LookP at HL
  generalize checkO k ds = ck at *
  generalize linksO k ds = lk at *
  obtain ⟨OUT, hOUT⟩ : ∃ OUT, LinksP w lk = OUT := ⟨_, rfl⟩
  have HO := bx hOUT
  rw [hOUT]
  clear hM hrd hnil hB hOUT
  go_enter Tryd.func22, Tryd.ntmps22
  go_upto_region 1 with fail
  rw [← HW.out]
  clear HW
  go_wp2_with (first
    | ((with_reducible refine at_load 6 ?_); go_must (refine load_all 35 (.tmp 1) rfl rfl rfl K0.out Tryd.underlying35 rfl (obj_is _ _ _ _) ?_))
    | (refine HL.out.mono ?_; rintro e w1 ⟨A1, c1, rfl, hr, hp, hb⟩; have D1 := bx (D0.out.trans (hb.mono D0.out.size)); have R1 := bx hr; have P1 := bx hp; clear hb HL hr hp))
  rw [← HO.out]
  exact ⟨A1, c1, rfl, R1.out, fun p hp => Nat.le_trans D0.out.size (P1.out p hp), D1.out⟩
theorem wpList_bsN {P : Program} {ops : Array Oper} {rest : List Oper} {o : Oper} {a : Act} {w : World} {Q : Exit → Act → World → Prop} (hg : o.guard = none) (t e : TypeId) (len : Nat) (parts : List (Nat × Operand)) (ho : o.op = .buildSlice t len parts.toArray)
    (d : Tmp) (hdst : o.dst = some d) (hu : P.underlying t = some (.slice e)) (vals : List (Nat × Value)) (hvals : (parts.map fun p => (p.1, a.eval p.2)) = vals) (cells : Array Value) (hf : P.builtSlice e len vals = some cells)
    (h : ∀ w5 b5, w.alloc (.cells cells e) = w5 → w.heap.size = b5 → wpList P ops Q rest (a.put (some d) (.slice (some ⟨b5, 0, none⟩) len len)) w5) : wpList P ops Q (o :: rest) a w := by
  subst hvals
  refine Great.wpList_buildSliceTo hg t e len _ ho w.heap.size rfl (some d) hdst hu cells ?_ (h _ _ rfl rfl)
  rw [Array.toList_map]
  exact hf
theorem putO_isB (k : Int) {ds : List Int} (hB : IsB ds) : IsB (putO k ds) := isB_append (isB_append (isB_one ⟨by omega, by omega⟩) (be_isB _ _)) hB
/-- An object's name. -/
def idO (k : Int) (ds : List Int) : List Int := shaOf (putO k ds)
theorem shaOf_len (bs : List Int) : (shaOf bs).length = 32 := by
  have h : ∀ st i, (outBytes st i).length = 32 := by
    intro st i
    induction i with
    | zero => rfl
    | succ i ih => show ((outBytes st i).set i _).length = 32; rw [List.length_set, ih]
  exact h _ _
set_option maxRecDepth 100000 in
set_option maxHeartbeats 2000000 in
theorem oid_any (k : Int) (A : Option Addr) (n cap : Nat) (ds : List Int) (w : World) (hrd : RdB w A n ds) (hnil : A = none → cap = 0) (hB : IsB ds) (hnc : n ≤ cap) (hbig : n ≤ 8796093022208) :
    Calls Tryd.prog 28 #[.agg (objC k (.slice A n cap))] w fun e w' => e = .returned (.agg (ints .u8 (idO k ds))) ∧ Below w.heap.size w w' := by
  obtain ⟨w0, hw0⟩ : ∃ w0, w0 = (w.alloc (.cells (objC k (.slice A n cap)) 35)).alloc (.cells (ints .u8 zero32) 24) := ⟨_, rfl⟩
  have K0 : Bx (w0.heap[w.heap.size]? = some (.cells (objC k (.slice A n cap)) 35 (0, 0))) := ⟨by rw [hw0]; exact heap_alloc2_old w _ _⟩
  have K1 : Bx (w0.heap[w.heap.size + 1]? = some (.cells (ints .u8 zero32) 24 (0, 0))) := ⟨by rw [hw0]; exact heap_alloc2_new w _ _⟩
  have D0 : Bx (Below w.heap.size w w0) := ⟨by rw [hw0]; exact (((Below.refl _ _).alloc (Nat.le_refl _) _).alloc (by simp; try omega) _)⟩
  have hsz0 : w0.heap.size = w.heap.size + 2 := by rw [hw0]; simp
  have SZ0 := bx hsz0; clear hsz0
  have HW := bx hw0; clear hw0
  have hl := hrd.1
  have hwk : IntKind.u8.wrap k = k % 256 := rfl
  have hwn : IntKind.u64.wrap (n : Int) = n := IntWalk.u64_in _ (by omega)
  have hk0 : 0 ≤ k % 256 ∧ k % 256 < 256 := by omega
  have HID : Bx (∀ (b5 : Nat) A6 c6, shaOf (cat [⟨A6, 5, c6, [k % 256] ++ be n 4⟩, ⟨A, n, cap, ds⟩]) = idO k ds) := ⟨fun b5 A6 c6 => by rw [idO, putO, hl]; simp [cat]⟩
  have IS : Bx ((Tryd.prog.info? 24).map (·.size) = some (ints .u8 (idO k ds)).size) := ⟨by rw [ints_size, idO, shaOf_len]; kernel_rfl⟩
  have ISS : Bx ((ints .u8 (idO k ds)).size = 32) := ⟨by rw [ints_size, idO, shaOf_len]⟩
  have KB := bx hk0
  have HRD := bx hrd; have HN := bx hnil; have HB := bx hB
  generalize idO k ds = ID at *
  generalize k % 256 = kb at *
  clear hrd hnil hB hk0 hl
  go_enter Tryd.func28, Tryd.ntmps28
  go_upto_region 1 with fail
  have E3 := HW.out.symm
  simp only [ints, zero32, List.replicate, List.map] at E3
  rw [E3]
  clear E3 HW
  have hS0 : w0.drew.heap[w.heap.size]? = some (.cells (objC k (.slice A n cap)) 35 (0, 0)) ∧ w0.drew.heap[w.heap.size + 1]? = some (.cells (ints .u8 zero32) 24 (0, 0)) ∧ Below w.heap.size w w0.drew := ⟨K0.out, K1.out, D0.out.drew⟩
  refine wp_region_x (S := (fun w' => w'.heap[w.heap.size]? = some (.cells (objC k (.slice A n cap)) 35 (0, 0)) ∧ w'.heap[w.heap.size + 1]? = some (.cells (ints .u8 zero32) 24 (0, 0)) ∧ Below w.heap.size w w')) 13 (by kernel_rfl) hS0 (fun hS => ?_)
  refine takeX (i := 0) (d := 3) (v := ?_) rfl rfl (by kernel_rfl) (by kernel_rfl) (by kernel_rfl) (by kernel_rfl) (fun _ _ _ h => h) (Or.inl ⟨by kernel_rfl, ?_⟩) hS ?_; rotate_left 1; (focus ((intro w' hS'; clear hS'; go_simp; try with_reducible rfl); done))
  try simp only [List.setIfInBounds_toArray, List.set_cons_zero, List.set_cons_succ]
  refine takeX (i := 1) (d := 4) (v := ?_) rfl rfl (by kernel_rfl) (by kernel_rfl) (by kernel_rfl) (by kernel_rfl) (fun _ _ _ h => h) (Or.inl ⟨by kernel_rfl, ?_⟩) hS ?_; rotate_left 1; (focus ((intro w' hS'; have z0 : w'.cell? ⟨w.heap.size, 0, none⟩ = some (.int .i64 k) := blk_cell hS'.1 rfl; have z1 : w'.cell? ⟨w.heap.size, 1, none⟩ = some (.slice A n cap) := blk_cell hS'.1 rfl; clear hS'; go_simp; try with_reducible rfl); done))
  try simp only [List.setIfInBounds_toArray, List.set_cons_zero, List.set_cons_succ]
  refine takeX (i := 2) (d := 5) (v := ?_) rfl rfl (by kernel_rfl) (by kernel_rfl) (by kernel_rfl) (by kernel_rfl) (fun _ _ _ h => h) (Or.inl ⟨by kernel_rfl, ?_⟩) hS ?_; rotate_left 1; (focus ((intro w' hS'; clear hS'; go_simp; try with_reducible rfl); done))
  try simp only [List.setIfInBounds_toArray, List.set_cons_zero, List.set_cons_succ]
  refine takeX (i := 4) (d := 7) (v := ?_) rfl rfl (by kernel_rfl) (by kernel_rfl) (by kernel_rfl) (by kernel_rfl) (fun _ _ _ h => h) (Or.inl ⟨by kernel_rfl, ?_⟩) hS ?_; rotate_left 1; (focus ((intro w' hS'; clear hS'; go_simp; try with_reducible rfl); done))
  try simp only [List.setIfInBounds_toArray, List.set_cons_zero, List.set_cons_succ]
  refine takeX (i := 5) (d := 8) (v := ?_) rfl rfl (by kernel_rfl) (by kernel_rfl) (by kernel_rfl) (by kernel_rfl) (fun _ _ _ h => h) (Or.inl ⟨by kernel_rfl, ?_⟩) hS ?_; rotate_left 1; (focus ((intro w' hS'; have z0 : w'.cell? ⟨w.heap.size, 0, none⟩ = some (.int .i64 k) := blk_cell hS'.1 rfl; have z1 : w'.cell? ⟨w.heap.size, 1, none⟩ = some (.slice A n cap) := blk_cell hS'.1 rfl; clear hS'; go_simp; try with_reducible rfl); done))
  try simp only [List.setIfInBounds_toArray, List.set_cons_zero, List.set_cons_succ]
  refine takeX (i := 6) (d := 9) (v := ?_) rfl rfl (by kernel_rfl) (by kernel_rfl) (by kernel_rfl) (by kernel_rfl) (fun _ _ _ h => h) (Or.inl ⟨by kernel_rfl, ?_⟩) hS ?_; rotate_left 1; (focus ((intro w' hS'; clear hS'; go_simp; try with_reducible rfl); done))
  try simp only [List.setIfInBounds_toArray, List.set_cons_zero, List.set_cons_succ]
  refine takeX (i := 7) (d := 10) (v := ?_) rfl rfl (by kernel_rfl) (by kernel_rfl) (by kernel_rfl) (by kernel_rfl) (fun _ _ _ h => h) (Or.inl ⟨by kernel_rfl, ?_⟩) hS ?_; rotate_left 1; (focus ((intro w' hS'; clear hS'; go_simp; try with_reducible rfl); done))
  try simp only [List.setIfInBounds_toArray, List.set_cons_zero, List.set_cons_succ]
  refine takeX (i := 9) (d := 12) (v := ?_) rfl rfl (by kernel_rfl) (by kernel_rfl) (by kernel_rfl) (by kernel_rfl) (fun _ _ _ h => h) (Or.inl ⟨by kernel_rfl, ?_⟩) hS ?_; rotate_left 1; (focus ((intro w' hS'; clear hS'; go_simp; try with_reducible rfl); done))
  try simp only [List.setIfInBounds_toArray, List.set_cons_zero, List.set_cons_succ]
  refine takeX (i := 10) (d := 13) (v := ?_) rfl rfl (by kernel_rfl) (by kernel_rfl) (by kernel_rfl) (by kernel_rfl) (fun _ _ _ h => h) (Or.inl ⟨by kernel_rfl, ?_⟩) hS ?_; rotate_left 1; (focus ((intro w' hS'; have z0 : w'.cell? ⟨w.heap.size, 0, none⟩ = some (.int .i64 k) := blk_cell hS'.1 rfl; have z1 : w'.cell? ⟨w.heap.size, 1, none⟩ = some (.slice A n cap) := blk_cell hS'.1 rfl; clear hS'; go_simp; try with_reducible rfl); done))
  try simp only [List.setIfInBounds_toArray, List.set_cons_zero, List.set_cons_succ]
  refine wpAnyX_ready (rs := [3]) (by kernel_rfl) (by simp) ?_
  refine readyX_list rfl (fun K hK => ?_) AllReadyX.nil
  refine wpList_bsN rfl 33 5 1 [(0, .tmp 5)] rfl 6 rfl Tryd.underlying33 _ rfl #[.int .u8 kb] (by kernel_rfl) ?_
  intro w5 b5 h5 h6
  have R5 := bx (show RdB w5 (some ⟨b5, 0, none⟩) 1 [kb] by rw [← h5]; exact rdB_one _ _ _ h6.symm)
  have F5 := bx (show Below w0.drew.heap.size w0.drew w5 by rw [← h5]; exact (Below.refl _ _).alloc (Nat.le_refl _) _)
  have Z5 := bx (show w5.heap[w.heap.size]? = some (.cells (objC k (.slice A n cap)) 35 (0, 0)) ∧ w5.heap[w.heap.size + 1]? = some (.cells (ints .u8 zero32) 24 (0, 0)) ∧ Below w.heap.size w w5 from ⟨(F5.out.block _ (blk_lt hS.1)).trans hS.1, (F5.out.block _ (blk_lt hS.2.1)).trans hS.2.1, hS.2.2.trans (F5.out.mono hS.2.2.size)⟩)
  clear h5 h6
  show wpList _ _ K [] (Act.put _ (some 6) _) w5
  refine hK.out _ _ ?_ (fun hS2 => ?_)
  · exact Z5.out
  clear hK K hS; have hS := hS2; clear hS2
  try simp only [Act.put, List.setIfInBounds_toArray, List.set_cons_zero, List.set_cons_succ]
  refine wpAnyX_ready (rs := [8]) (by kernel_rfl) (by simp) ?_
  refine AllReadyX.cons rfl (fun K hK => ?_) AllReadyX.nil
  go_simp
  refine (wput_any (some ⟨b5, 0, none⟩) 1 1 [kb] n 4 w5 R5.out (fun h => by cases h) (by decide) (by decide)).mono ?_
  rintro x w6 ⟨r, rfl, ho, hb⟩
  obtain ⟨A6, c6, rfl, hr6, hc6, _⟩ := ho.rdn (n := 5) (by rw [List.length_append, be_length]; rfl)
  have R6 := bx hr6
  have C6 := bx hc6
  have Z6 := bx (show w6.heap[w.heap.size]? = some (.cells (objC k (.slice A n cap)) 35 (0, 0)) ∧ w6.heap[w.heap.size + 1]? = some (.cells (ints .u8 zero32) 24 (0, 0)) ∧ Below w.heap.size w w6 from ⟨(hb.block _ (blk_lt hS.1)).trans hS.1, (hb.block _ (blk_lt hS.2.1)).trans hS.2.1, hS.2.2.trans (hb.mono hS.2.2.size)⟩)
  clear ho hb hr6 hc6
  refine hK.out _ _ ?_ (fun hS2 => ?_)
  · exact Z6.out
  clear hK K hS; have hS := hS2; clear hS2
  try simp only [Act.put, List.setIfInBounds_toArray, List.set_cons_zero, List.set_cons_succ]
  refine wpAnyX_ready (rs := [11]) (by kernel_rfl) (by simp) ?_
  refine readyX_list rfl (fun K hK => ?_) AllReadyX.nil
  refine wpList_bsN rfl 116 33 2 [(0, .tmp 11), (1, .tmp 13)] rfl 14 rfl Tryd.underlying116 _ rfl #[.slice A6 5 c6, .slice A n cap] (by kernel_rfl) ?_
  intro w7 b7 h5 h6
  have F7 := bx (show Below w6.heap.size w6 w7 by rw [← h5]; exact (Below.refl _ _).alloc (Nat.le_refl _) _)
  have N7 := bx (show w7.heap[b7]? = some (.cells #[.slice A6 5 c6, .slice A n cap] 33 (0, 0)) by rw [← h5, ← h6]; exact blk_new _ _)
  have R7 := bx (R6.out.below F7.out)
  have Z7 := bx (show w7.heap[w.heap.size]? = some (.cells (objC k (.slice A n cap)) 35 (0, 0)) ∧ w7.heap[w.heap.size + 1]? = some (.cells (ints .u8 zero32) 24 (0, 0)) ∧ Below w.heap.size w w7 from ⟨(F7.out.block _ (blk_lt hS.1)).trans hS.1, (F7.out.block _ (blk_lt hS.2.1)).trans hS.2.1, hS.2.2.trans (F7.out.mono hS.2.2.size)⟩)
  clear h5 h6
  show wpList _ _ K [] (Act.put _ (some 14) _) w7
  refine hK.out _ _ ?_ (fun hS2 => ?_)
  · exact Z7.out
  clear hK K hS; have hS := hS2; clear hS2
  try simp only [Act.put, List.setIfInBounds_toArray, List.set_cons_zero, List.set_cons_succ]
  refine wpAnyX_ready (rs := [12]) (by kernel_rfl) (by simp) ?_
  refine AllReadyX.cons rfl (fun K hK => ?_) AllReadyX.nil
  go_simp
  have hof := of_any b7 0 2 [⟨A6, 5, c6, [kb] ++ be n 4⟩, ⟨A, n, cap, ds⟩] w7 (fun i hi => by match i, hi with | 0, _ => exact blk_cell N7.out rfl | 1, _ => exact blk_cell N7.out rfl) (blk_lt N7.out) (fun s hs => by simp only [List.mem_cons, List.not_mem_nil, or_false] at hs; rcases hs with rfl | rfl; exact ⟨R7.out, isB_append (isB_one KB.out) (be_isB _ _), C6.out⟩; exact ⟨HRD.out.below Z7.out.2.2, HB.out, hnc⟩) (by simp only [cat, List.flatMap_cons, List.flatMap_nil, List.append_nil, List.length_append, be_length, List.length_cons, List.length_nil]; have := HRD.out.1; omega) (by simp)
  rw [HID.out b7 A6 c6] at hof
  refine hof.mono ?_
  rintro x w8 ⟨rfl, hb⟩
  have Z8 := bx (show w8.heap[w.heap.size]? = some (.cells (objC k (.slice A n cap)) 35 (0, 0)) ∧ w8.heap[w.heap.size + 1]? = some (.cells (ints .u8 zero32) 24 (0, 0)) ∧ Below w.heap.size w w8 from ⟨(hb.block _ (blk_lt hS.1)).trans hS.1, (hb.block _ (blk_lt hS.2.1)).trans hS.2.1, hS.2.2.trans (hb.mono hS.2.2.size)⟩)
  clear hb hof
  refine hK.out _ _ ?_ (fun hS2 => ?_)
  · exact Z8.out
  clear hK K hS; have hS := hS2; clear hS2
  try simp only [Act.put, List.setIfInBounds_toArray, List.set_cons_zero, List.set_cons_succ]
  refine wpAnyX_ready (rs := [13]) (by kernel_rfl) (by simp) ?_
  refine lastX_list rfl (fun K hK => ?_) AllReadyX.nil
  refine store_all (cs := ints .u8 ID) 24 (.tmp 2) (.tmp 15) rfl rfl rfl rfl Z8.out.2.1 IS.out (by rw [ISS.out]; rfl) (ints_oneCell _ _) ?_
  intro w9 hu9
  have R9 := bx hu9.same
  have D9 := bx (Z8.out.2.2.trans (hu9.below (Nat.le_succ _)))
  clear hu9
  show wpList _ _ K [] (Act.put _ none undef) w9
  refine hK.out _ _ ?_
  clear hK K
  try simp only [Act.put, List.setIfInBounds_toArray, List.set_cons_zero, List.set_cons_succ]
  refine wpAnyX_done (by kernel_rfl) ?_ _
  go_wp2_with fail
  refine bodyPost_ret (v := .agg (ints .u8 ID)) (results_agg (cs := ints .u8 ID) rfl _ _ (w.heap.size + 1) 24 _ rfl R9.out Tryd.underlying24 rfl IS.out) rfl ⟨rfl, D9.out⟩
/-- The object of bytes. -/
def rdC (bs : List Int) : Int := checkO (rdK bs) (rdD bs)
theorem read10_any (A : Option Addr) (n cap : Nat) (bs : List Int) (w : World) (hM : MaxAt w) (hrd : RdB w A n bs) (hnil : A = none → cap = 0) (hB : IsB bs) (hbig : n ≤ 8796093022208) :
    Calls Tryd.prog 25 #[.slice A n cap] w (ObjO w (readO bs (rdC bs))) :=
  oread_any A n cap bs (rdC bs) w hrd hnil hB hbig fun _ w' A' c' hb hr hn => check_any (rdK bs) A' _ c' (rdD bs) w' (hM.below hb) hr hn (sOut_isB (rRest_isB hB 0 1) _)
end Go.Proofs.YtoompcgdhokdlaaDoor
