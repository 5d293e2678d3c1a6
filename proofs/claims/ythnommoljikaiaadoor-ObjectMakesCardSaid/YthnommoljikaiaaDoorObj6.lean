/- Objects: the document's fit and OfMark. -/
import Derived.Test.YthnommoljikaiaaDoorObj5
import Derived.Test.YthnommoljikaiaaDoorNam10
set_option linter.unusedSimpArgs false
set_option linter.unusedVariables false
namespace Go.Proofs.YthnommoljikaiaaDoor
open Go.RowKit

theorem str_bytes (s : ByteArray) : strOfNums (bytesOf s) = s := by
  apply ByteArray.ext
  apply Array.toList_inj.1
  rw [strOfNums_data, bytesOf, List.map_map]
  exact (List.map_congr_left (fun b _ => by simp)).trans (List.map_id _)
theorem textB_short {s : ByteArray} (h : s.size ≤ 16385) : textB s = be s.size 4 ++ bytesOf s := by
  rw [textB, Nat.min_eq_left h, List.take_of_length_le (by rw [bytesOf_length]; exact Nat.le_refl _)]
theorem textB_long {s : ByteArray} (h : 16384 < s.size) : (textB s).length = 16389 := by
  rw [textB, List.length_append, be_length, List.length_take, bytesOf_length]
  omega
theorem kind_short {s : ByteArray} (h : kindB s.data.toList = 2) : s.size ≤ 64 := by
  have hs : s.data.toList.length = s.size := by simp
  unfold kindB at h
  split at h
  · exact absurd h (by decide)
  · omega
theorem part_short {s : ByteArray} (h : partB s.data.toList = true) : s.size ≤ 64 := by
  have hs : s.data.toList.length = s.size := by simp
  simp only [partB, Bool.and_eq_true, decide_eq_true_eq] at h
  omega
def robjC (k : Int) (d : ByteArray) : Array Value := #[.int .i64 k, .string d]
theorem robj_built (k : Int) (d : ByteArray) : Tryd.prog.built 48 [(0, .int .i64 k), (1, .string d)] = some (robjC k d) := by kernel_rfl
theorem robj_built0 : Tryd.prog.built 48 [] = some (robjC 0 ⟨#[]⟩) := by kernel_rfl
theorem robj_is (k : Int) (d : ByteArray) : (Tryd.prog.info? 48).map (·.size) = some (robjC k d).size := by kernel_rfl
theorem robj_one (k : Int) (d : ByteArray) : ∀ v ∈ (robjC k d).toList, v.oneCell' = true := by
  intro v hv
  simp only [robjC, List.mem_cons, List.not_mem_nil, or_false] at hv
  rcases hv with rfl | rfl <;> rfl
/-- What the document's side tells. -/
def RObj (w : World) (r : Int × List Int × Int) (e : Ending) (w' : World) : Prop := e = .returned (.tuple #[.agg (robjC r.1 (strOfNums r.2.1)), .int .i64 r.2.2]) ∧ Below w.heap.size w w'
set_option maxRecDepth 100000 in
set_option maxHeartbeats 400000 in
theorem rfit_any (k : Int) (d : List Int) (w : World) (hbig : d.length ≤ 1152921504606846976) :
    Calls Tryd.prog 55 #[.int .i64 k, .string (strOfNums d)] w (RObj w (fitO k d)) := by
  obtain ⟨w0, hw0⟩ : ∃ w0, w0 = w.alloc (.cells (robjC 0 ⟨#[]⟩) 48) := ⟨_, rfl⟩
  have K0 : Bx (w0.heap[w.heap.size]? = some (.cells (robjC 0 ⟨#[]⟩) 48 (0, 0))) := ⟨by rw [hw0]; exact blk_new w _⟩
  have LIT : Bx (w.alloc (.cells #[.int .i64 0, .string ⟨#[]⟩] 48) = w0) := ⟨hw0.symm⟩
  have B0 : Bx (Below w.heap.size w w0) := ⟨by rw [hw0]; exact (Below.refl _ _).alloc (Nat.le_refl _) _⟩
  have hsz : (strOfNums d).size = d.length := strLen d
  clear hw0
  by_cases hb : 16384 < d.length
  · have hb' : (16384 : Int) < d.length := by omega
    have HF : Bx (fitO k d = (0, [], 3)) := ⟨by rw [fitO, if_pos hb]⟩
    rw [HF.out]
    generalize strOfNums d = s at *
    go_enter Tryd.func55, Tryd.ntmps55
    go_upto_region 1 with fail
    rw [LIT.out]
    clear LIT
    go_wp2_with (first
      | ((with_reducible refine at_build 9 ?_); go_must (refine wpList_build2 rfl 48 [] rfl [] rfl (robjC 0 ⟨#[]⟩) robj_built0 ?_))
      | ((with_reducible refine at_store (.tmp 4) (.tmp 9) ?_); go_must (refine store_all (cs := robjC 0 ⟨#[]⟩) 48 (.tmp 4) (.tmp 9) rfl rfl rfl rfl K0.out (robj_is _ _) rfl (robj_one _ _) ?_; intro w9 hu9; have B9 := bx (B0.out.trans (hu9.below (Nat.le_refl _))); have R9 := bx hu9.same; clear hu9)))
    refine bodyPost_ret (results_ct (cs := robjC 0 ⟨#[]⟩) rfl _ _ w.heap.size 48 _ _ rfl rfl R9.out Tryd.underlying48 rfl (robj_is _ _)) rfl ?_
    exact ⟨rfl, B9.out⟩
  · have hb' : ¬ (16384 : Int) < d.length := by omega
    have HF : Bx (fitO k d = (k, d, 0)) := ⟨by rw [fitO, if_neg hb]⟩
    rw [HF.out]
    generalize hs : strOfNums d = s at *
    have HSS := bx hs
    clear hs
    go_enter Tryd.func55, Tryd.ntmps55
    go_upto_region 1 with fail
    rw [LIT.out]
    clear LIT
    go_wp2_with (first
      | ((with_reducible refine at_build 12 ?_); go_must (refine wpList_build2 rfl 48 [(0, .tmp 10), (1, .tmp 11)] rfl _ rfl (robjC k s) (robj_built k s) ?_))
      | ((with_reducible refine at_store (.tmp 4) (.tmp 12) ?_); go_must (refine store_all (cs := robjC k s) 48 (.tmp 4) (.tmp 12) rfl rfl rfl rfl K0.out (robj_is _ _) rfl (robj_one _ _) ?_; intro w9 hu9; have B9 := bx (B0.out.trans (hu9.below (Nat.le_refl _))); have R9 := bx hu9.same; clear hu9)))
    refine bodyPost_ret (results_ct (cs := robjC k s) rfl _ _ w.heap.size 48 _ _ rfl rfl R9.out Tryd.underlying48 rfl (robj_is _ _)) rfl ?_
    exact ⟨by rw [HSS.out]; rfl, B9.out⟩
def rmarkC (t n x : ByteArray) : Array Value := #[.string t, .string n, .string x]
set_option maxRecDepth 100000 in
set_option maxHeartbeats 1000000 in
theorem rmark_any (id : List Int) (name text : ByteArray) (w : World) (hid : id.length = 32) (hnm : name.size < 4294967281) (htx : text.size ≤ 1099511627776) :
    Calls Tryd.prog 27 #[.agg (rmarkC (strOfNums id) name text)] w (RObj w (markO id name text)) := by
  obtain ⟨w0, hw0⟩ : ∃ w0, w0 = (w.alloc (.cells (rmarkC (strOfNums id) name text) 61)).alloc (.cells (robjC 0 ⟨#[]⟩) 48) := ⟨_, rfl⟩
  have K0 : Bx (w0.heap[w.heap.size]? = some (.cells (rmarkC (strOfNums id) name text) 61 (0, 0))) := ⟨by rw [hw0]; exact heap_alloc2_old w _ _⟩
  have K1 : Bx (w0.heap[w.heap.size + 1]? = some (.cells (robjC 0 ⟨#[]⟩) 48 (0, 0))) := ⟨by rw [hw0]; exact heap_alloc2_new w _ _⟩
  have B0 : Bx (Below w.heap.size w w0) := ⟨by rw [hw0]; exact ((Below.refl _ _).alloc (Nat.le_refl _) _).alloc (by simp) _⟩
  have LIT : Bx ((w.alloc (.cells (rmarkC (strOfNums id) name text) 61)).alloc (.cells #[.int .i64 0, .string ⟨#[]⟩] 48) = w0) := ⟨hw0.symm⟩
  have HC : Bx (∀ w', Below w0.heap.size w0 w' → w'.cell? ⟨w.heap.size, 0, none⟩ = some (.string (strOfNums id)) ∧ w'.cell? ⟨w.heap.size, 1, none⟩ = some (.string name) ∧ w'.cell? ⟨w.heap.size, 2, none⟩ = some (.string text)) := ⟨fun w' hb => by
    have hk := (hb.block _ (blk_lt K0.out)).trans K0.out
    exact ⟨blk_cell hk rfl, blk_cell hk rfl, blk_cell hk rfl⟩⟩
  have HKD := bx (rkind_any name w0 hnm)
  have z0 := (HC.out w0 (Below.refl _ _)).2.1
  have RO : Bx (∀ r w', markO id name text = r → Below w.heap.size w w' → RObj w (markO id name text) (.returned (.tuple #[.agg (robjC r.1 (strOfNums r.2.1)), .int .i64 r.2.2])) w') := ⟨fun r w' h1 h2 => by subst h1; exact ⟨rfl, h2⟩⟩
  generalize RObj w (markO id name text) = OUT at *
  obtain ⟨kd, hkd⟩ : ∃ kd, kindB name.data.toList = kd := ⟨_, rfl⟩
  rw [hkd] at HKD
  clear hw0
  by_cases h2 : kd = 2
  · subst h2
    have hns := kind_short hkd
    have hm0 : markO id name text = fitO 4 (markD id name text) := by rw [markO, if_neg (by rw [hkd]; decide)]
    by_cases hx : 16384 < text.size
    · have HT : Bx (markO id name text = (0, [], 3)) := ⟨by
        rw [hm0, fitO, if_pos]
        rw [markD, List.length_append, textB_long hx]
        omega⟩
      have hx' : (16384 : Int) < text.size := by omega
      clear hkd hm0
      go_enter Tryd.func27, Tryd.ntmps27
      go_upto_region 1 with fail
      rw [LIT.out]
      clear LIT
      go_wp2_with fail
      refine HKD.out.mono ?_
      rintro e w1 ⟨rfl, hb⟩
      have D1 := bx hb
      have z1 := (HC.out w1 hb).2.2
      have KR1 := bx ((hb.block _ (blk_lt K1.out)).trans K1.out)
      clear hb HKD z0
      go_wp2_with (first
        | ((with_reducible refine at_build 13 ?_); go_must (refine wpList_build2 rfl 48 [] rfl [] rfl (robjC 0 ⟨#[]⟩) robj_built0 ?_))
        | ((with_reducible refine at_store (.tmp 2) (.tmp 13) ?_); go_must (refine store_all (cs := robjC 0 ⟨#[]⟩) 48 (.tmp 2) (.tmp 13) rfl rfl rfl rfl KR1.out (robj_is _ _) rfl (robj_one _ _) ?_; intro w9 hu9; have B9 := bx (B0.out.trans ((D1.out.mono B0.out.size).trans (hu9.below (Nat.le_succ _)))); have R9 := bx hu9.same; clear hu9)))
      refine bodyPost_ret (results_ct (cs := robjC 0 ⟨#[]⟩) rfl _ _ (w.heap.size + 1) 48 _ _ rfl rfl R9.out Tryd.underlying48 rfl (robj_is _ _)) rfl ?_
      exact RO.out (0, [], 3) _ HT.out B9.out
    · have hx' : ¬ (16384 : Int) < text.size := by omega
      have HD : Bx (markD id name text = id ++ be name.size 4 ++ bytesOf name ++ be text.size 4 ++ bytesOf text) := ⟨by rw [markD, textB_short (by omega), textB_short (by omega)]; simp [List.append_assoc]⟩
      have HZ1 : Bx (∀ w', Calls Tryd.prog 54 #[.string (strOfNums id), .string name] w' fun e w'' => e = .returned (.string (strOfNums (id ++ be name.size 4 ++ bytesOf name))) ∧ Below w'.heap.size w' w'') := ⟨fun w' => by
        have := rsized_any id (bytesOf name) (by omega) (by rw [bytesOf_length]; omega) w'
        rw [str_bytes, bytesOf_length] at this
        exact this⟩
      have HZ2 : Bx (∀ w', Calls Tryd.prog 54 #[.string (strOfNums (id ++ be name.size 4 ++ bytesOf name)), .string text] w' fun e w'' => e = .returned (.string (strOfNums (markD id name text))) ∧ Below w'.heap.size w' w'') := ⟨fun w' => by
        have := rsized_any (id ++ be name.size 4 ++ bytesOf name) (bytesOf text) (by rw [List.length_append, List.length_append, be_length, bytesOf_length, hid]; omega) (by rw [bytesOf_length]; omega) w'
        rw [str_bytes, bytesOf_length, ← HD.out] at this
        exact this⟩
      have hmd : (markD id name text).length ≤ 32810 := by
        rw [markD, List.length_append, List.length_append, hid]
        have := textB_length name; have := textB_length text; omega
      have HFT : Bx (∀ w', Calls Tryd.prog 55 #[.int .i64 4, .string (strOfNums (markD id name text))] w' fun e w'' => e = .returned (.tuple #[.agg (robjC (fitO 4 (markD id name text)).1 (strOfNums (fitO 4 (markD id name text)).2.1)), .int .i64 (fitO 4 (markD id name text)).2.2]) ∧ Below w'.heap.size w' w'') := ⟨fun w' => rfit_any 4 _ w' (by omega)⟩
      have HM0 := bx hm0
      clear hkd hm0 hmd HD
      generalize fitO 4 (markD id name text) = fr at *
      obtain ⟨fk, fd, fe⟩ := fr
      dsimp only at HFT
      generalize strOfNums (markD id name text) = s3 at *
      generalize strOfNums (id ++ be name.size 4 ++ bytesOf name) = s2 at *
      generalize strOfNums id = s1 at *
      generalize hfd : strOfNums fd = sfd at *
      have HFD := bx hfd
      clear hfd
      go_enter Tryd.func27, Tryd.ntmps27
      go_upto_region 1 with fail
      rw [LIT.out]
      clear LIT
      go_wp2_with fail
      refine HKD.out.mono ?_
      rintro e w1 ⟨rfl, hb⟩
      have D1 := bx hb
      have z1 := (HC.out w1 hb).2.2
      clear hb HKD z0
      go_wp2_with fail
      clear z1
      try simp only [Act.put]
      refine region_tailC (fun w' => Below w1.heap.size w1 w') 11 (by kernel_rfl) (by kernel_rfl) ((Below.refl _ _).drew) ?_
      simp only [List.take_succ_cons, List.take_zero, List.drop_succ_cons, List.drop_zero]
      repeat (first
        | go_big_quiet_skip
        | (go_big_quiet_want; go_big_quiet_op; go_big_quiet_on)
        | (refine quiet_take (v := ?_) _ rfl (by kernel_rfl) ?_ ?_; rotate_left 1; (focus (first | (intro w' hw'; clear hw'; unfold Oper.quietAt; go_simp; done) | (intro w' hw'; clear hw'; unfold Oper.quietAt; go_simp; with_reducible rfl) | (intro w' hw'; obtain ⟨z0, z1, z2⟩ := HC.out w' (D1.out.trans (hw'.mono D1.out.size)); unfold Oper.quietAt; go_simp; first | done | with_reducible rfl | ((with_reducible refine (HZ1.out w').mono ?_); rintro x w9 ⟨rfl, hb⟩; refine ⟨?_, hw'.trans (hb.mono hw'.size)⟩; with_reducible rfl) | ((with_reducible refine (HZ2.out w').mono ?_); rintro x w9 ⟨rfl, hb⟩; refine ⟨?_, hw'.trans (hb.mono hw'.size)⟩; with_reducible rfl) | ((with_reducible refine (HFT.out w').mono ?_); rintro x w9 ⟨rfl, hb⟩; refine ⟨?_, hw'.trans (hb.mono hw'.size)⟩; with_reducible rfl)))); try simp only [List.setIfInBounds_toArray, List.set_cons_zero, List.set_cons_succ]))
      refine wpQuiet_nil ?_
      intro w2 hw2
      have D2 := bx (D1.out.trans (hw2.mono D1.out.size))
      have KR2 := bx ((D2.out.block _ (blk_lt K1.out)).trans K1.out)
      clear hw2
      go_wp2_with (first
        | ((with_reducible refine at_store (.tmp 2) (.tmp 23) ?_); go_must (refine store_all (cs := robjC fk sfd) 48 (.tmp 2) (.tmp 23) rfl rfl rfl rfl KR2.out (robj_is _ _) rfl (robj_one _ _) ?_; intro w9 hu9; have B9 := bx (B0.out.trans ((D2.out.mono B0.out.size).trans (hu9.below (Nat.le_succ _)))); have R9 := bx hu9.same; clear hu9)))
      refine bodyPost_ret (results_ct (cs := robjC fk sfd) rfl _ _ (w.heap.size + 1) 48 _ _ rfl rfl R9.out Tryd.underlying48 rfl (robj_is _ _)) rfl ?_
      have := RO.out (fk, fd, fe) _ HM0.out B9.out
      dsimp only at this
      rw [HFD.out] at this
      exact this
  · have HT : Bx (markO id name text = (0, [], 2)) := ⟨by rw [markO, hkd, if_pos h2]⟩
    have hkb : (kd == 2) = false := by simp [h2]
    have hkn : (kd != 2) = true := by simp [h2]
    clear hkd
    go_enter Tryd.func27, Tryd.ntmps27
    go_upto_region 1 with fail
    rw [LIT.out]
    clear LIT
    go_wp2_with fail
    refine HKD.out.mono ?_
    rintro e w1 ⟨rfl, hb1⟩
    have KR1 := bx ((hb1.block _ (blk_lt K1.out)).trans K1.out)
    have B1 := bx (B0.out.trans (hb1.mono B0.out.size))
    clear hb1 HKD z0
    go_wp2_with (first
      | ((with_reducible refine at_build 8 ?_); go_must (refine wpList_build2 rfl 48 [] rfl [] rfl (robjC 0 ⟨#[]⟩) robj_built0 ?_))
      | ((with_reducible refine at_store (.tmp 2) (.tmp 8) ?_); go_must (refine store_all (cs := robjC 0 ⟨#[]⟩) 48 (.tmp 2) (.tmp 8) rfl rfl rfl rfl KR1.out (robj_is _ _) rfl (robj_one _ _) ?_; intro w9 hu9; have B9 := bx (B1.out.trans (hu9.below (Nat.le_succ _))); have R9 := bx hu9.same; clear hu9)))
    refine bodyPost_ret (results_ct (cs := robjC 0 ⟨#[]⟩) rfl _ _ (w.heap.size + 1) 48 _ _ rfl rfl R9.out Tryd.underlying48 rfl (robj_is _ _)) rfl ?_
    exact RO.out (0, [], 2) _ HT.out B9.out
end Go.Proofs.YthnommoljikaiaaDoor
