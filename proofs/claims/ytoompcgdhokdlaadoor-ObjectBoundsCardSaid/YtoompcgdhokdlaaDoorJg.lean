/- Objects: the document's fit and OfMark. Objects: the document's OfTree. Objects: the document's OfChange. Objects: law10.Ids, entries, mark, Own: the arguments for the document's side. Objects: law10.mark, Own, change. -/
import Derived.Test.YtoompcgdhokdlaaDoorJf
import Derived.Test.YtoompcgdhokdlaaDoorJd
set_option linter.unusedSimpArgs false
set_option linter.unusedVariables false
namespace Go.Proofs.YtoompcgdhokdlaaDoor
open Go.RowKit

theorem str_bytes (s : ByteArray) : strOfNums (bytesOf s) = s := by
  apply ByteArray.ext
  apply Array.toList_inj.1
  rw [strOfNums_data, bytesOf, List.map_map]
  exact (List.map_congr_left (fun b _ => by simp)).trans (List.map_id _)
theorem textB_short {s : ByteArray} (h : s.size ≤ 16385) : textB s = be s.size 4 ++ bytesOf s := by
  rw [textB, Nat.min_eq_left h, List.take_of_length_le (by rw [bytesOf_length]; exact Nat.le_refl _)]
theorem textB_long {s : ByteArray} (h : 16384 < s.size) : (textB s).length = 16389 := by
  rw [textB, List.length_append, be_length, List.length_take, bytesOf_length]
  omega
theorem kind_short {s : ByteArray} (h : kindB s.data.toList = 2) : s.size ≤ 64 := by
  have hs : s.data.toList.length = s.size := by simp
  unfold kindB at h
  split at h
  · exact absurd h (by decide)
  · omega
theorem part_short {s : ByteArray} (h : partB s.data.toList = true) : s.size ≤ 64 := by
  have hs : s.data.toList.length = s.size := by simp
  simp only [partB, Bool.and_eq_true, decide_eq_true_eq] at h
  omega
def robjC (k : Int) (d : ByteArray) : Array Value := #[.int .i64 k, .string d]
theorem robj_built (k : Int) (d : ByteArray) : Tryd.prog.built 40 [(0, .int .i64 k), (1, .string d)] = some (robjC k d) := by kernel_rfl
theorem robj_built0 : Tryd.prog.built 40 [] = some (robjC 0 ⟨#[]⟩) := by kernel_rfl
theorem robj_is (k : Int) (d : ByteArray) : (Tryd.prog.info? 40).map (·.size) = some (robjC k d).size := by kernel_rfl
theorem robj_one (k : Int) (d : ByteArray) : ∀ v ∈ (robjC k d).toList, v.oneCell' = true := by
  intro v hv
  simp only [robjC, List.mem_cons, List.not_mem_nil, or_false] at hv
  rcases hv with rfl | rfl <;> rfl
/-- What the document's side tells. -/
def RObj (w : World) (r : Int × List Int × Int) (e : Ending) (w' : World) : Prop := e = .returned (.tuple #[.agg (robjC r.1 (strOfNums r.2.1)), .int .i64 r.2.2]) ∧ Below w.heap.size w w'
set_option maxRecDepth 100000 in
set_option maxHeartbeats 400000 in
theorem rfit_any (k : Int) (d : List Int) (w : World) (hbig : d.length ≤ 1152921504606846976) :
    Calls Tryd.prog 39 #[.int .i64 k, .string (strOfNums d)] w (RObj w (fitO k d)) := by
  obtain ⟨w0, hw0⟩ : ∃ w0, w0 = w.alloc (.cells (robjC 0 ⟨#[]⟩) 40) := ⟨_, rfl⟩
  have K0 : Bx (w0.heap[w.heap.size]? = some (.cells (robjC 0 ⟨#[]⟩) 40 (0, 0))) := ⟨by rw [hw0]; exact blk_new w _⟩
  have LIT : Bx (w.alloc (.cells #[.int .i64 0, .string ⟨#[]⟩] 40) = w0) := ⟨hw0.symm⟩
  have B0 : Bx (Below w.heap.size w w0) := ⟨by rw [hw0]; exact (Below.refl _ _).alloc (Nat.le_refl _) _⟩
  have hsz : (strOfNums d).size = d.length := strLen d
  clear hw0
  by_cases hb : 16384 < d.length
  · have hb' : (16384 : Int) < d.length := by omega
    have HF : Bx (fitO k d = (0, [], 3)) := ⟨by rw [fitO, if_pos hb]⟩
    rw [HF.out]
    generalize strOfNums d = s at *
    go_enter Tryd.func39, Tryd.ntmps39
    go_upto_region 1 with fail
    rw [LIT.out]
    clear LIT
    go_wp2_with (first
      | ((with_reducible refine at_build 9 ?_); go_must (refine wpList_build2 rfl 40 [] rfl [] rfl (robjC 0 ⟨#[]⟩) robj_built0 ?_))
      | ((with_reducible refine at_store (.tmp 4) (.tmp 9) ?_); go_must (refine store_all (cs := robjC 0 ⟨#[]⟩) 40 (.tmp 4) (.tmp 9) rfl rfl rfl rfl K0.out (robj_is _ _) rfl (robj_one _ _) ?_; intro w9 hu9; have B9 := bx (B0.out.trans (hu9.below (Nat.le_refl _))); have R9 := bx hu9.same; clear hu9)))
    refine bodyPost_ret (results_ct (cs := robjC 0 ⟨#[]⟩) rfl _ _ w.heap.size 40 _ _ rfl rfl R9.out Tryd.underlying40 rfl (robj_is _ _)) rfl ?_
    exact ⟨rfl, B9.out⟩
  · have hb' : ¬ (16384 : Int) < d.length := by omega
    have HF : Bx (fitO k d = (k, d, 0)) := ⟨by rw [fitO, if_neg hb]⟩
    rw [HF.out]
    generalize hs : strOfNums d = s at *
    have HSS := bx hs
    clear hs
    go_enter Tryd.func39, Tryd.ntmps39
    go_upto_region 1 with fail
    rw [LIT.out]
    clear LIT
    go_wp2_with (first
      | ((with_reducible refine at_build 12 ?_); go_must (refine wpList_build2 rfl 40 [(0, .tmp 10), (1, .tmp 11)] rfl _ rfl (robjC k s) (robj_built k s) ?_))
      | ((with_reducible refine at_store (.tmp 4) (.tmp 12) ?_); go_must (refine store_all (cs := robjC k s) 40 (.tmp 4) (.tmp 12) rfl rfl rfl rfl K0.out (robj_is _ _) rfl (robj_one _ _) ?_; intro w9 hu9; have B9 := bx (B0.out.trans (hu9.below (Nat.le_refl _))); have R9 := bx hu9.same; clear hu9)))
    refine bodyPost_ret (results_ct (cs := robjC k s) rfl _ _ w.heap.size 40 _ _ rfl rfl R9.out Tryd.underlying40 rfl (robj_is _ _)) rfl ?_
    exact ⟨by rw [HSS.out]; rfl, B9.out⟩
def rmarkC (t n x : ByteArray) : Array Value := #[.string t, .string n, .string x]
set_option maxRecDepth 100000 in
set_option maxHeartbeats 1000000 in
theorem rmark_any (id : List Int) (name text : ByteArray) (w : World) (hid : id.length = 32) (hnm : name.size < 4294967281) (htx : text.size ≤ 1099511627776) :
    Calls Tryd.prog 14 #[.agg (rmarkC (strOfNums id) name text)] w (RObj w (markO id name text)) := by
  obtain ⟨w0, hw0⟩ : ∃ w0, w0 = (w.alloc (.cells (rmarkC (strOfNums id) name text) 54)).alloc (.cells (robjC 0 ⟨#[]⟩) 40) := ⟨_, rfl⟩
  have K0 : Bx (w0.heap[w.heap.size]? = some (.cells (rmarkC (strOfNums id) name text) 54 (0, 0))) := ⟨by rw [hw0]; exact heap_alloc2_old w _ _⟩
  have K1 : Bx (w0.heap[w.heap.size + 1]? = some (.cells (robjC 0 ⟨#[]⟩) 40 (0, 0))) := ⟨by rw [hw0]; exact heap_alloc2_new w _ _⟩
  have B0 : Bx (Below w.heap.size w w0) := ⟨by rw [hw0]; exact ((Below.refl _ _).alloc (Nat.le_refl _) _).alloc (by simp) _⟩
  have LIT : Bx ((w.alloc (.cells (rmarkC (strOfNums id) name text) 54)).alloc (.cells #[.int .i64 0, .string ⟨#[]⟩] 40) = w0) := ⟨hw0.symm⟩
  have HC : Bx (∀ w', Below w0.heap.size w0 w' → w'.cell? ⟨w.heap.size, 0, none⟩ = some (.string (strOfNums id)) ∧ w'.cell? ⟨w.heap.size, 1, none⟩ = some (.string name) ∧ w'.cell? ⟨w.heap.size, 2, none⟩ = some (.string text)) := ⟨fun w' hb => by
    have hk := (hb.block _ (blk_lt K0.out)).trans K0.out
    exact ⟨blk_cell hk rfl, blk_cell hk rfl, blk_cell hk rfl⟩⟩
  have HKD := bx (rkind_any name w0 hnm)
  have z0 := (HC.out w0 (Below.refl _ _)).2.1
  have RO : Bx (∀ r w', markO id name text = r → Below w.heap.size w w' → RObj w (markO id name text) (.returned (.tuple #[.agg (robjC r.1 (strOfNums r.2.1)), .int .i64 r.2.2])) w') := ⟨fun r w' h1 h2 => by subst h1; exact ⟨rfl, h2⟩⟩
  generalize RObj w (markO id name text) = OUT at *
  obtain ⟨kd, hkd⟩ : ∃ kd, kindB name.data.toList = kd := ⟨_, rfl⟩
  rw [hkd] at HKD
  clear hw0
  by_cases h2 : kd = 2
  · subst h2
    have hns := kind_short hkd
    have hm0 : markO id name text = fitO 4 (markD id name text) := by rw [markO, if_neg (by rw [hkd]; decide)]
    by_cases hx : 16384 < text.size
    · have HT : Bx (markO id name text = (0, [], 3)) := ⟨by
        rw [hm0, fitO, if_pos]
        rw [markD, List.length_append, textB_long hx]
        omega⟩
      have hx' : (16384 : Int) < text.size := by omega
      clear hkd hm0
      go_enter Tryd.func14, Tryd.ntmps14
      go_upto_region 1 with fail
      rw [LIT.out]
      clear LIT
      go_wp2_with fail
      refine HKD.out.mono ?_
      rintro e w1 ⟨rfl, hb⟩
      have D1 := bx hb
      have z1 := (HC.out w1 hb).2.2
      have KR1 := bx ((hb.block _ (blk_lt K1.out)).trans K1.out)
      clear hb HKD z0
      go_wp2_with (first
        | ((with_reducible refine at_build 13 ?_); go_must (refine wpList_build2 rfl 40 [] rfl [] rfl (robjC 0 ⟨#[]⟩) robj_built0 ?_))
        | ((with_reducible refine at_store (.tmp 2) (.tmp 13) ?_); go_must (refine store_all (cs := robjC 0 ⟨#[]⟩) 40 (.tmp 2) (.tmp 13) rfl rfl rfl rfl KR1.out (robj_is _ _) rfl (robj_one _ _) ?_; intro w9 hu9; have B9 := bx (B0.out.trans ((D1.out.mono B0.out.size).trans (hu9.below (Nat.le_succ _)))); have R9 := bx hu9.same; clear hu9)))
      refine bodyPost_ret (results_ct (cs := robjC 0 ⟨#[]⟩) rfl _ _ (w.heap.size + 1) 40 _ _ rfl rfl R9.out Tryd.underlying40 rfl (robj_is _ _)) rfl ?_
      exact RO.out (0, [], 3) _ HT.out B9.out
    · have hx' : ¬ (16384 : Int) < text.size := by omega
      have HD : Bx (markD id name text = id ++ be name.size 4 ++ bytesOf name ++ be text.size 4 ++ bytesOf text) := ⟨by rw [markD, textB_short (by omega), textB_short (by omega)]; simp [List.append_assoc]⟩
      have HZ1 : Bx (∀ w', Calls Tryd.prog 38 #[.string (strOfNums id), .string name] w' fun e w'' => e = .returned (.string (strOfNums (id ++ be name.size 4 ++ bytesOf name))) ∧ Below w'.heap.size w' w'') := ⟨fun w' => by
        have := rsized_any id (bytesOf name) (by omega) (by rw [bytesOf_length]; omega) w'
        rw [str_bytes, bytesOf_length] at this
        exact this⟩
      have HZ2 : Bx (∀ w', Calls Tryd.prog 38 #[.string (strOfNums (id ++ be name.size 4 ++ bytesOf name)), .string text] w' fun e w'' => e = .returned (.string (strOfNums (markD id name text))) ∧ Below w'.heap.size w' w'') := ⟨fun w' => by
        have := rsized_any (id ++ be name.size 4 ++ bytesOf name) (bytesOf text) (by rw [List.length_append, List.length_append, be_length, bytesOf_length, hid]; omega) (by rw [bytesOf_length]; omega) w'
        rw [str_bytes, bytesOf_length, ← HD.out] at this
        exact this⟩
      have hmd : (markD id name text).length ≤ 32810 := by
        rw [markD, List.length_append, List.length_append, hid]
        have := textB_length name; have := textB_length text; omega
      have HFT : Bx (∀ w', Calls Tryd.prog 39 #[.int .i64 4, .string (strOfNums (markD id name text))] w' fun e w'' => e = .returned (.tuple #[.agg (robjC (fitO 4 (markD id name text)).1 (strOfNums (fitO 4 (markD id name text)).2.1)), .int .i64 (fitO 4 (markD id name text)).2.2]) ∧ Below w'.heap.size w' w'') := ⟨fun w' => rfit_any 4 _ w' (by omega)⟩
      have HM0 := bx hm0
      clear hkd hm0 hmd HD
      generalize fitO 4 (markD id name text) = fr at *
      obtain ⟨fk, fd, fe⟩ := fr
      dsimp only at HFT
      generalize strOfNums (markD id name text) = s3 at *
      generalize strOfNums (id ++ be name.size 4 ++ bytesOf name) = s2 at *
      generalize strOfNums id = s1 at *
      generalize hfd : strOfNums fd = sfd at *
      have HFD := bx hfd
      clear hfd
      go_enter Tryd.func14, Tryd.ntmps14
      go_upto_region 1 with fail
      rw [LIT.out]
      clear LIT
      go_wp2_with fail
      refine HKD.out.mono ?_
      rintro e w1 ⟨rfl, hb⟩
      have D1 := bx hb
      have z1 := (HC.out w1 hb).2.2
      clear hb HKD z0
      go_wp2_with fail
      clear z1
      try simp only [Act.put]
      refine region_tailC (fun w' => Below w1.heap.size w1 w') 11 (by kernel_rfl) (by kernel_rfl) ((Below.refl _ _).drew) ?_
      simp only [List.take_succ_cons, List.take_zero, List.drop_succ_cons, List.drop_zero]
      repeat (first
        | go_big_quiet_skip
        | (go_big_quiet_want; go_big_quiet_op; go_big_quiet_on)
        | (refine quiet_take (v := ?_) _ rfl (by kernel_rfl) ?_ ?_; rotate_left 1; (focus (first | (intro w' hw'; clear hw'; unfold Oper.quietAt; go_simp; done) | (intro w' hw'; clear hw'; unfold Oper.quietAt; go_simp; with_reducible rfl) | (intro w' hw'; obtain ⟨z0, z1, z2⟩ := HC.out w' (D1.out.trans (hw'.mono D1.out.size)); unfold Oper.quietAt; go_simp; first | done | with_reducible rfl | ((with_reducible refine (HZ1.out w').mono ?_); rintro x w9 ⟨rfl, hb⟩; refine ⟨?_, hw'.trans (hb.mono hw'.size)⟩; with_reducible rfl) | ((with_reducible refine (HZ2.out w').mono ?_); rintro x w9 ⟨rfl, hb⟩; refine ⟨?_, hw'.trans (hb.mono hw'.size)⟩; with_reducible rfl) | ((with_reducible refine (HFT.out w').mono ?_); rintro x w9 ⟨rfl, hb⟩; refine ⟨?_, hw'.trans (hb.mono hw'.size)⟩; with_reducible rfl)))); try simp only [List.setIfInBounds_toArray, List.set_cons_zero, List.set_cons_succ]))
      refine wpQuiet_nil ?_
      intro w2 hw2
      have D2 := bx (D1.out.trans (hw2.mono D1.out.size))
      have KR2 := bx ((D2.out.block _ (blk_lt K1.out)).trans K1.out)
      clear hw2
      go_wp2_with (first
        | ((with_reducible refine at_store (.tmp 2) (.tmp 23) ?_); go_must (refine store_all (cs := robjC fk sfd) 40 (.tmp 2) (.tmp 23) rfl rfl rfl rfl KR2.out (robj_is _ _) rfl (robj_one _ _) ?_; intro w9 hu9; have B9 := bx (B0.out.trans ((D2.out.mono B0.out.size).trans (hu9.below (Nat.le_succ _)))); have R9 := bx hu9.same; clear hu9)))
      refine bodyPost_ret (results_ct (cs := robjC fk sfd) rfl _ _ (w.heap.size + 1) 40 _ _ rfl rfl R9.out Tryd.underlying40 rfl (robj_is _ _)) rfl ?_
      have := RO.out (fk, fd, fe) _ HM0.out B9.out
      dsimp only at this
      rw [HFD.out] at this
      exact this
  · have HT : Bx (markO id name text = (0, [], 2)) := ⟨by rw [markO, hkd, if_pos h2]⟩
    have hkb : (kd == 2) = false := by simp [h2]
    have hkn : (kd != 2) = true := by simp [h2]
    clear hkd
    go_enter Tryd.func14, Tryd.ntmps14
    go_upto_region 1 with fail
    rw [LIT.out]
    clear LIT
    go_wp2_with fail
    refine HKD.out.mono ?_
    rintro e w1 ⟨rfl, hb1⟩
    have KR1 := bx ((hb1.block _ (blk_lt K1.out)).trans K1.out)
    have B1 := bx (B0.out.trans (hb1.mono B0.out.size))
    clear hb1 HKD z0
    go_wp2_with (first
      | ((with_reducible refine at_build 8 ?_); go_must (refine wpList_build2 rfl 40 [] rfl [] rfl (robjC 0 ⟨#[]⟩) robj_built0 ?_))
      | ((with_reducible refine at_store (.tmp 2) (.tmp 8) ?_); go_must (refine store_all (cs := robjC 0 ⟨#[]⟩) 40 (.tmp 2) (.tmp 8) rfl rfl rfl rfl KR1.out (robj_is _ _) rfl (robj_one _ _) ?_; intro w9 hu9; have B9 := bx (B1.out.trans (hu9.below (Nat.le_succ _))); have R9 := bx hu9.same; clear hu9)))
    refine bodyPost_ret (results_ct (cs := robjC 0 ⟨#[]⟩) rfl _ _ (w.heap.size + 1) 40 _ _ rfl rfl R9.out Tryd.underlying40 rfl (robj_is _ _)) rfl ?_
    exact RO.out (0, [], 2) _ HT.out B9.out
end Go.Proofs.YtoompcgdhokdlaaDoor

set_option linter.unusedSimpArgs false
set_option linter.unusedVariables false
namespace Go.Proofs.YtoompcgdhokdlaaDoor
open Go.RowKit

def Ent.rcells (e : Ent) : List Value := [.string e.name, .bool e.dir, .string (strOfNums e.id)]
theorem be_one {c : Int} (h0 : 0 ≤ c) (h1 : c ≤ 255) : be c 1 = [c] := by
  have : c % 256 = c := by omega
  simp [be, this]
theorem rless_below (a b : ByteArray) (w : World) (ha : a.size ≤ 4294967281) (hb : b.size ≤ 4294967281) : Calls Tryd.prog 37 #[.string a, .string b] w fun e w' => e = .returned (.bool (Op.bytesLess a.data.toList b.data.toList)) ∧ Below w.heap.size w w' := rless_any a b w ha hb
theorem rpart_below (s : ByteArray) (w : World) : Calls Tryd.prog 36 #[.string s] w fun e w' => e = .returned (.bool (partB s.data.toList)) ∧ Below w.heap.size w w' :=
  (rpart_any s w).mono fun e w' ⟨h1, h2⟩ => ⟨h1, h2 ▸ Below.refl _ _⟩
set_option maxRecDepth 100000 in
set_option maxHeartbeats 4000000 in
theorem rtree_any (A : Option Addr) (n cap : Nat) (L : Nat → Ent) (w : World) (hr : RowAt w A n 3 (fun j => (L j).rcells)) (hid : ∀ j, j < n → (L j).id.length = 32) (hnm : ∀ j, j < n → (L j).name.size ≤ 4294967280) :
    Calls Tryd.prog 8 #[.slice A n cap] w (RObj w (treeO L n)) := by
  obtain ⟨w0, hw0⟩ : ∃ w0, w0 = w.alloc (.cells (robjC 0 ⟨#[]⟩) 40) := ⟨_, rfl⟩
  have K0 : Bx (w0.heap[w.heap.size]? = some (.cells (robjC 0 ⟨#[]⟩) 40 (0, 0))) := ⟨by rw [hw0]; exact blk_new w _⟩
  have LIT : Bx (w.alloc (.cells #[.int .i64 0, .string ⟨#[]⟩] 40) = w0) := ⟨hw0.symm⟩
  have B0 : Bx (Below w.heap.size w w0) := ⟨by rw [hw0]; exact (Below.refl _ _).alloc (Nat.le_refl _) _⟩
  have HR := bx hr; have HID := bx hid; have HNM := bx hnm
  have RO : Bx (∀ r w', treeO L n = r → Below w.heap.size w w' → RObj w (treeO L n) (.returned (.tuple #[.agg (robjC r.1 (strOfNums r.2.1)), .int .i64 r.2.2])) w') := ⟨fun r w' h1 h2 => by subst h1; exact ⟨rfl, h2⟩⟩
  generalize RObj w (treeO L n) = OUT at *
  clear hw0 hr hid hnm
  by_cases hbig : 32 < n
  · have hbig' : (32 : Int) < n := by omega
    have HT : Bx (treeO L n = (0, [], 3)) := ⟨by rw [treeO, if_pos hbig]⟩
    go_enter Tryd.func8, Tryd.ntmps8
    go_upto_region 1 with fail
    rw [LIT.out]
    clear LIT
    go_wp2_with (first
      | ((with_reducible refine at_build 10 ?_); go_must (refine wpList_build2 rfl 40 [] rfl [] rfl (robjC 0 ⟨#[]⟩) robj_built0 ?_))
      | ((with_reducible refine at_store (.tmp 2) (.tmp 10) ?_); go_must (refine store_all (cs := robjC 0 ⟨#[]⟩) 40 (.tmp 2) (.tmp 10) rfl rfl rfl rfl K0.out (robj_is _ _) rfl (robj_one _ _) ?_; intro w9 hu9; have B9 := bx (B0.out.trans (hu9.below (Nat.le_refl _))); have R9 := bx hu9.same; clear hu9)))
    refine bodyPost_ret (results_ct (cs := robjC 0 ⟨#[]⟩) rfl _ _ w.heap.size 40 _ _ rfl rfl R9.out Tryd.underlying40 rfl (robj_is _ _)) rfl ?_
    exact RO.out (0, [], 3) _ HT.out B9.out
  · have hbig' : ¬ (32 : Int) < n := by omega
    have hw1 : (n : Int) % 18446744073709551616 = n := by omega
    have HP0 : Bx (∀ w', Calls Tryd.prog 35 #[.string ⟨#[]⟩, .int .u64 n, .int .i64 2] w' fun e w'' => e = .returned (.string (strOfNums (be n 2))) ∧ Below w'.heap.size w' w'') := ⟨fun w' => rput_any [] n 2 (by decide) (by decide) (by omega) (by omega) (by decide) w'⟩
    generalize hs0 : strOfNums (be n 2) = s0 at *
    have HS0 := bx hs0
    clear hs0
    go_enter Tryd.func8, Tryd.ntmps8
    go_upto_region 1 with fail
    rw [LIT.out]
    clear LIT
    go_wp2_with fail
    refine (HP0.out _).mono ?_
    rintro e w1 ⟨rfl, hb⟩
    have D1 := bx hb
    clear hb hbig' hw1 HP0
    go_wp2_with fail
    go_loopw [4, 5] (fun v i wr => ∃ j : Nat, j ≤ n ∧ i = .int .i64 j ∧ v = .string (strOfNums (treeUp L n j)) ∧ badUp L j = false ∧ Below w0.heap.size w0 wr) (fun _ i _ => (n - intOf i).toNat)
    case atStart => exact ⟨0, Nat.zero_le _, rfl, by rw [← HS0.out]; simp [treeUp], rfl, D1.out⟩
    case round =>
      obtain ⟨j, hj, rfl, rfl, hbad, hb⟩ := hrel
      clear D1
      have D1 := bx hb; have HBAD := bx hbad
      have LN := bx (treeUp_length L n j fun i hi => HID.out i (by omega))
      have DW := bx (B0.out.trans (D1.out.mono B0.out.size))
      have K1 := bx ((D1.out.block _ (blk_lt K0.out)).trans K0.out)
      clear hb hbad
      obtain ⟨sT, hsT⟩ : ∃ sT, strOfNums (treeUp L n j) = sT := ⟨_, rfl⟩
      have HST := bx hsT
      rw [hsT]
      clear hsT
      by_cases hlt : j < n
      · have hlt' : (j : Int) < n := by omega
        obtain ⟨b1, o1, rfl, hb1, hr1⟩ := HR.out.at hlt
        have hidj := HID.out j hlt
        have hnmj := HNM.out j hlt
        have HC : Bx (∀ w', Below wr.heap.size wr w' → w'.cell? ⟨b1, o1 + j * 3, none⟩ = some (.string (L j).name) ∧ w'.cell? ⟨b1, o1 + j * 3 + 1, none⟩ = some (.bool (L j).dir) ∧ w'.cell? ⟨b1, o1 + j * 3 + 2, none⟩ = some (.string (strOfNums (L j).id))) := ⟨fun w' h => by
          have hg := hr1 w' (DW.out.trans (h.mono DW.out.size))
          exact ⟨hg 0 _ rfl, hg 1 _ rfl, hg 2 _ rfl⟩⟩
        have HPREV : Bx (∀ i, i + 1 = j → (L i).name.size ≤ 4294967280 ∧ ∀ w', Below wr.heap.size wr w' → w'.cell? ⟨b1, o1 + i * 3, none⟩ = some (.string (L i).name)) := ⟨fun i hi => by
          refine ⟨HNM.out i (by omega), fun w' h => ?_⟩
          obtain ⟨b9, o9, e9, _, hr9⟩ := HR.out.at (show i < n by omega)
          cases e9
          exact hr9 w' (DW.out.trans (h.mono DW.out.size)) 0 _ rfl⟩
        have HSUC := bx (treeUp_succ L n j)
        have HBS := bx (badUp_succ L j)
        have HBA := bx (fun h => badUp_at L hlt h)
        have hbat : badAt L j = (!partB (L j).name.data.toList || (decide (0 < j) && !Op.bytesLess (L (j - 1)).name.data.toList (L j).name.data.toList)) := rfl
        have HEB : Bx (entB (L j) = [dirB (L j).dir] ++ textB (L j).name ++ (L j).id) := ⟨rfl⟩
        clear hr1
        generalize (L j).name = s at *
        generalize (L j).dir = d at *
        generalize (L j).id = id at *
        obtain ⟨bad, hb0⟩ : ∃ bad, badAt L j = bad := ⟨_, rfl⟩
        rw [hb0] at hbat HBS HBA
        have HBAT := bx hbat
        have HPART : Bx (bad = false → s.size ≤ 64) := ⟨fun h => by
          refine part_short ?_
          have e := HBAT.out
          rw [h] at e
          cases hp : partB s.data.toList with
          | true => rfl
          | false => rw [hp] at e; simp at e⟩
        have hsid : (strOfNums id).size = 32 := by rw [strLen, hidj]
        have HIDL := bx hidj
        obtain ⟨sI, hsI⟩ : ∃ sI, strOfNums id = sI := ⟨_, rfl⟩
        have HSI := bx hsI
        rw [hsI] at HC hsid
        have HSID := bx hsid
        clear hb0 hbat hidj hsI hsid
        go_upto_region 7 with fail
        go_cut [46] from 15 to 67 (fun c wc => c = .bool bad ∧ Below wr.heap.size wr wc)
        case first =>
          obtain ⟨p, hp⟩ : ∃ p, partB s.data.toList = p := ⟨_, rfl⟩
          have HPT : Bx (∀ w', Calls Tryd.prog 36 #[.string s] w' fun e w'' => e = .returned (.bool p) ∧ Below w'.heap.size w' w'') := ⟨fun w' => by
            have := rpart_below s w'
            rw [hp] at this
            exact this⟩
          rw [hp] at HBAT
          cases p with
          | false =>
            have e1 := HBAT.out
            simp only [Bool.not_false, Bool.true_or] at e1
            subst e1
            clear hp HBAT
            try simp only [Act.put]
            refine region_quietC (fun w' => Below wr.heap.size wr w') (by kernel_rfl) (by kernel_rfl) ((Below.refl _ _).drew) ?_
            repeat (first
              | go_big_quiet_skip
              | (go_big_quiet_want; go_big_quiet_op; go_big_quiet_on)
              | (refine quiet_take (v := ?_) _ rfl (by kernel_rfl) ?_ ?_; rotate_left 1; (focus (first | (intro w' hw'; clear hw'; unfold Oper.quietAt; go_simp; done) | (intro w' hw'; clear hw'; unfold Oper.quietAt; go_simp; with_reducible rfl) | (intro w' hw'; obtain ⟨z0, _, _⟩ := HC.out w' hw'; unfold Oper.quietAt; go_simp; first | done | with_reducible rfl | ((with_reducible refine (HPT.out w').mono ?_); rintro x w9 ⟨rfl, hb⟩; refine ⟨?_, hw'.trans (hb.mono hw'.size)⟩; with_reducible rfl)))); try simp only [List.setIfInBounds_toArray, List.set_cons_zero, List.set_cons_succ]))
            refine wpQuiet_nil ?_
            intro w3 hw3
            have D3 := bx hw3
            clear hw3
            go_wp2_with fail
            go_meet
            case rel => exact ⟨rfl, D3.out⟩
          | true =>
            clear hp
            by_cases h0 : j = 0
            · have e1 := HBAT.out
              have h0' : ¬ (0 : Int) < j := by omega
              simp only [Bool.not_true, Bool.false_or, show ¬ 0 < j by omega, decide_false, Bool.false_and] at e1
              subst e1
              have hd0 : ¬ 0 < j := by omega
              have hd1 : decide (0 < j) = false := by simp; omega
              have hd2 : decide ((0 : Int) < (j : Int)) = false := by simp; omega
              clear h0 HBAT
              try simp only [Act.put]
              refine region_quietC (fun w' => Below wr.heap.size wr w') (by kernel_rfl) (by kernel_rfl) ((Below.refl _ _).drew) ?_
              repeat (first
                | go_big_quiet_skip
                | (go_big_quiet_want; go_big_quiet_op; go_big_quiet_on)
                | (refine quiet_take (v := ?_) _ rfl (by kernel_rfl) ?_ ?_; rotate_left 1; (focus (first | (intro w' hw'; clear hw'; unfold Oper.quietAt; go_simp; done) | (intro w' hw'; clear hw'; unfold Oper.quietAt; go_simp; with_reducible rfl) | (intro w' hw'; obtain ⟨z0, _, _⟩ := HC.out w' hw'; unfold Oper.quietAt; go_simp; first | done | with_reducible rfl | ((with_reducible refine (HPT.out w').mono ?_); rintro x w9 ⟨rfl, hb⟩; refine ⟨?_, hw'.trans (hb.mono hw'.size)⟩; with_reducible rfl)))); try simp only [List.setIfInBounds_toArray, List.set_cons_zero, List.set_cons_succ]))
              refine wpQuiet_nil ?_
              intro w3 hw3
              have D3 := bx hw3
              clear hw3
              go_wp2_with fail
              go_meet
              case rel => exact ⟨rfl, D3.out⟩
            · obtain ⟨i, hi⟩ : ∃ i, i + 1 = j := ⟨j - 1, by omega⟩
              obtain ⟨hpn, hpc⟩ := HPREV.out i hi
              have hji : j - 1 = i := by omega
              have h0' : (0 : Int) < j := by omega
              have hj1 : (j : Int) - 1 = i := by omega
              have hj2 : IntKind.i64.wrap (i : Int) = i := IntWalk.i64_in _ (by omega)
              have hin : (i : Int) < n := by omega
              have e1 := HBAT.out
              rw [hji] at e1
              simp only [Bool.not_true, Bool.false_or, show 0 < j by omega, decide_true, Bool.true_and] at e1
              generalize (L i).name = ps at hpc hpn e1
              obtain ⟨q, hq⟩ : ∃ q, Op.bytesLess ps.data.toList s.data.toList = q := ⟨_, rfl⟩
              have HLT : Bx (∀ w', Calls Tryd.prog 37 #[.string ps, .string s] w' fun e w'' => e = .returned (.bool q) ∧ Below w'.heap.size w' w'') := ⟨fun w' => by
                have := rless_below ps s w' (by omega) (by omega)
                rw [hq] at this
                exact this⟩
              rw [hq] at e1
              subst e1
              have HPC := bx (fun w' h => hpc w' h)
              have hd0 : 0 < j := by omega
              have hd1 : decide (0 < j) = true := by simp; omega
              have hd2 : decide ((0 : Int) < (j : Int)) = true := by simp; omega
              clear hq h0 hpc hji hi HBAT
              try simp only [Act.put]
              refine region_quietC (fun w' => Below wr.heap.size wr w') (by kernel_rfl) (by kernel_rfl) ((Below.refl _ _).drew) ?_
              repeat (first
                | go_big_quiet_skip
                | (go_big_quiet_want; go_big_quiet_op; go_big_quiet_on)
                | (refine quiet_take (v := ?_) _ rfl (by kernel_rfl) ?_ ?_; rotate_left 1; (focus (first | (intro w' hw'; clear hw'; unfold Oper.quietAt; go_simp; done) | (intro w' hw'; clear hw'; unfold Oper.quietAt; go_simp; with_reducible rfl) | (intro w' hw'; obtain ⟨z0, _, _⟩ := HC.out w' hw'; have z1 := HPC.out w' hw'; unfold Oper.quietAt; go_simp; first | done | with_reducible rfl | ((with_reducible refine (HPT.out w').mono ?_); rintro x w9 ⟨rfl, hb⟩; refine ⟨?_, hw'.trans (hb.mono hw'.size)⟩; with_reducible rfl) | ((with_reducible refine (HLT.out w').mono ?_); rintro x w9 ⟨rfl, hb⟩; refine ⟨?_, hw'.trans (hb.mono hw'.size)⟩; with_reducible rfl)))); try simp only [List.setIfInBounds_toArray, List.set_cons_zero, List.set_cons_succ]))
              refine wpQuiet_nil ?_
              intro w3 hw3
              have D3 := bx hw3
              clear hw3
              go_wp2_with fail
              go_meet
              case rel => exact ⟨rfl, D3.out⟩
        case rest =>
          rename World => w3
          obtain ⟨rfl, hwc⟩ := hcut
          have E3 := bx hwc
          have D3 := bx (D1.out.trans (hwc.mono D1.out.size))
          have K3 := bx ((hwc.block _ (blk_lt K1.out)).trans K1.out)
          clear hwc HPREV
          cases bad with
          | true =>
            have HT : Bx (treeO L n = (0, [], 2)) := ⟨by rw [treeO, if_neg hbig, if_pos (HBA.out rfl)]⟩
            go_wp2_with (first
              | ((with_reducible refine at_build 47 ?_); go_must (refine wpList_build2 rfl 40 [] rfl [] rfl (robjC 0 ⟨#[]⟩) robj_built0 ?_))
              | ((with_reducible refine at_store (.tmp 2) (.tmp 47) ?_); go_must (refine store_all (cs := robjC 0 ⟨#[]⟩) 40 (.tmp 2) (.tmp 47) rfl rfl rfl rfl K3.out (robj_is _ _) rfl (robj_one _ _) ?_; intro w9 hu9; have B9 := bx (B0.out.trans ((D3.out.mono B0.out.size).trans (hu9.below (Nat.le_refl _)))); have R9 := bx hu9.same; clear hu9)))
            refine bodyPost_ret (results_ct (cs := robjC 0 ⟨#[]⟩) rfl _ _ w.heap.size 40 _ _ rfl rfl R9.out Tryd.underlying40 rfl (robj_is _ _)) rfl ?_
            exact RO.out (0, [], 2) _ HT.out B9.out
          | false =>
            have hs64 := HPART.out rfl
            obtain ⟨_, y1, _⟩ := HC.out w3 E3.out
            go_upto_if 52 with fail
            clear y1
            go_cut [6] from 15 to 67 (fun c wx => c = .int .u64 (dirB d) ∧ Below w3.heap.size w3 wx)
            case first =>
              cases d
              all_goals
                go_wp2_with fail
                go_meet
                case rel => exact ⟨rfl, Below.refl _ _⟩
            case rest =>
              rename World => w4
              obtain ⟨rfl, hw4⟩ := hcut
              have E4 := bx (E3.out.trans (hw4.mono E3.out.size))
              have D4 := bx (D3.out.trans (hw4.mono D3.out.size))
              clear hw4 E3 D3 K3
              have hdv : 0 ≤ dirB d ∧ dirB d ≤ 255 := by cases d <;> decide
              have HFIN : Bx (treeUp L n j ++ [dirB d] ++ be s.size 4 ++ bytesOf s ++ id = treeUp L n (j + 1)) := ⟨by rw [HSUC.out, HEB.out, textB_short (by omega)]; simp [List.append_assoc]⟩
              have HQ1 : Bx (∀ w', Calls Tryd.prog 35 #[.string sT, .int .u64 (dirB d), .int .i64 1] w' fun e w'' => e = .returned (.string (strOfNums (treeUp L n j ++ [dirB d]))) ∧ Below w'.heap.size w' w'') := ⟨fun w' => by
                have := rput_any (treeUp L n j) (dirB d) 1 (by decide) (by decide) hdv.1 (by omega) (by have := LN.out; omega) w'
                rw [be_one hdv.1 hdv.2, HST.out] at this
                exact this⟩
              have HQ2 : Bx (∀ w', Calls Tryd.prog 38 #[.string (strOfNums (treeUp L n j ++ [dirB d])), .string s] w' fun e w'' => e = .returned (.string (strOfNums (treeUp L n j ++ [dirB d] ++ be s.size 4 ++ bytesOf s))) ∧ Below w'.heap.size w' w'') := ⟨fun w' => by
                have := rsized_any (treeUp L n j ++ [dirB d]) (bytesOf s) (by have := LN.out; simp; omega) (by rw [bytesOf_length]; omega) w'
                rw [str_bytes, bytesOf_length] at this
                exact this⟩
              have hz1 : (strOfNums (treeUp L n j ++ [dirB d] ++ be s.size 4 ++ bytesOf s)).size ≤ 1048576 := by
                rw [strLen]
                simp only [List.length_append, be_length, bytesOf_length, List.length_cons, List.length_nil]
                have := LN.out
                omega
              have hz2 := HSID.out
              have HADD : Bx (strOfNums (treeUp L n j ++ [dirB d] ++ be s.size 4 ++ bytesOf s) ++ sI = strOfNums (treeUp L n (j + 1))) := ⟨by rw [← HSI.out, ← strApp, HFIN.out]⟩
              have hadd := HADD.out
              generalize strOfNums (treeUp L n j ++ [dirB d] ++ be s.size 4 ++ bytesOf s) = q2 at *
              generalize strOfNums (treeUp L n j ++ [dirB d]) = q1 at *
              generalize dirB d = dv at *
              have hz3 : ¬ 9223372036854775807 < q2.size + 32 := by omega
              have hz4 : ¬ 9223372036854775807 < q2.size + sI.size := by omega
              go_upto_region 12 with fail
              try simp only [Act.put]
              refine region_quietC (fun w' => Below w4.heap.size w4 w') (by kernel_rfl) (by kernel_rfl) ((Below.refl _ _).drew) ?_
              repeat (first
                | go_big_quiet_skip
                | (go_big_quiet_want; go_big_quiet_op; go_big_quiet_on)
                | (refine quiet_take (v := ?_) _ rfl (by kernel_rfl) ?_ ?_; rotate_left 1; (focus (first | (intro w' hw'; clear hw'; unfold Oper.quietAt; go_simp; done) | (intro w' hw'; clear hw'; unfold Oper.quietAt; go_simp; with_reducible rfl) | (intro w' hw'; obtain ⟨z0, _, z2⟩ := HC.out w' (E4.out.trans (hw'.mono E4.out.size)); unfold Oper.quietAt; go_simp; first | done | with_reducible rfl | ((with_reducible refine (HQ1.out w').mono ?_); rintro x w9 ⟨rfl, hb⟩; refine ⟨?_, hw'.trans (hb.mono hw'.size)⟩; with_reducible rfl) | ((with_reducible refine (HQ2.out w').mono ?_); rintro x w9 ⟨rfl, hb⟩; refine ⟨?_, hw'.trans (hb.mono hw'.size)⟩; with_reducible rfl)))); try simp only [List.setIfInBounds_toArray, List.set_cons_zero, List.set_cons_succ]))
              refine wpQuiet_nil ?_
              intro w5 hw5
              have D5 := bx (D4.out.trans (hw5.mono D4.out.size))
              clear hw5
              go_wp2_with fail
              go_roundw
              case rel => exact ⟨j + 1, by omega, by first | rfl | go_num, by first | rfl | rw [HADD.out], by rw [HBS.out, HBAD.out]; rfl, D5.out⟩
              case measure => simp only [intOf]; omega
      · have hlt' : ¬ (j : Int) < n := by omega
        obtain rfl : j = n := by omega
        have HF : Bx (∀ w', Calls Tryd.prog 39 #[.int .i64 2, .string sT] w' fun e w'' => e = .returned (.tuple #[.agg (robjC (fitO 2 (treeUp L j j)).1 (strOfNums (fitO 2 (treeUp L j j)).2.1)), .int .i64 (fitO 2 (treeUp L j j)).2.2]) ∧ Below w'.heap.size w' w'') := ⟨fun w' => by
          rw [← HST.out]
          exact rfit_any 2 _ w' (by have := LN.out; omega)⟩
        have HT : Bx (treeO L j = fitO 2 (treeUp L j j)) := ⟨by rw [treeO, if_neg hbig, if_neg (by rw [HBAD.out]; decide)]⟩
        generalize fitO 2 (treeUp L j j) = fr at *
        obtain ⟨fk, fd, fe⟩ := fr
        dsimp only at HF
        generalize hfd : strOfNums fd = sfd at *
        have HFD := bx hfd
        clear hfd
        go_wp2_with fail
        refine (HF.out _).mono ?_
        rintro e w2 ⟨rfl, hb⟩
        have D2 := bx (D1.out.trans (hb.mono D1.out.size))
        have K2 := bx ((hb.block _ (blk_lt K1.out)).trans K1.out)
        clear hb
        go_wp2_with (first
          | ((with_reducible refine at_store (.tmp 2) (.tmp 70) ?_); go_must (refine store_all (cs := robjC fk sfd) 40 (.tmp 2) (.tmp 70) rfl rfl rfl rfl K2.out (robj_is _ _) rfl (robj_one _ _) ?_; intro w9 hu9; have B9 := bx (B0.out.trans ((D2.out.mono B0.out.size).trans (hu9.below (Nat.le_refl _)))); have R9 := bx hu9.same; clear hu9)))
        refine bodyPost_ret (results_ct (cs := robjC fk sfd) rfl _ _ w.heap.size 40 _ _ rfl rfl R9.out Tryd.underlying40 rfl (robj_is _ _)) rfl ?_
        have := RO.out (fk, fd, fe) _ HT.out B9.out
        dsimp only at this
        rw [HFD.out] at this
        exact this
end Go.Proofs.YtoompcgdhokdlaaDoor

set_option linter.unusedSimpArgs false
set_option linter.unusedVariables false
namespace Go.Proofs.YtoompcgdhokdlaaDoor
open Go.RowKit

def rchgC (c : ChgA) (PA : Option Addr) (cap : Nat) : Array Value := #[.string (strOfNums c.tree), .slice PA c.n cap, .int .u64 c.time, .string c.author, .string c.text]
theorem mem_chIds {P : Nat → List Int} {j : Nat} {x : List Int} : x ∈ chIds P j ↔ ∃ i, i < j ∧ P i = x := by simp [chIds]
set_option maxRecDepth 100000 in
set_option maxHeartbeats 4000000 in
theorem rchange_any (c : ChgA) (PA : Option Addr) (cap : Nat) (w : World) (htree : c.tree.length = 32) (hrow : RowAt w PA c.n 1 (fun j => [.string (strOfNums (c.P j))])) (hids : ∀ j, j < c.n → (c.P j).length = 32) (hib : ∀ j, j < c.n → IsB (c.P j))
    (ht0 : 0 ≤ c.time) (ht1 : c.time < 18446744073709551616) (hau : c.author.size ≤ 1099511627776) (htx : c.text.size ≤ 1099511627776) :
    Calls Tryd.prog 11 #[.agg (rchgC c PA cap)] w (RObj w (changeO c)) := by
  obtain ⟨tree, _, n, _, P, time, author, text⟩ := c
  dsimp only at htree hrow hids hib ht0 ht1 hau htx
  dsimp only [rchgC]
  obtain ⟨st, hst⟩ : ∃ st, strOfNums tree = st := ⟨_, rfl⟩
  rw [hst]
  obtain ⟨w0, hw0⟩ : ∃ w0, w0 = (w.alloc (.cells #[.string st, .slice PA n cap, .int .u64 time, .string author, .string text] 49)).alloc (.cells (robjC 0 ⟨#[]⟩) 40) := ⟨_, rfl⟩
  have K0 : Bx (w0.heap[w.heap.size]? = some (.cells #[.string st, .slice PA n cap, .int .u64 time, .string author, .string text] 49 (0, 0))) := ⟨by rw [hw0]; exact heap_alloc2_old w _ _⟩
  have K1 : Bx (w0.heap[w.heap.size + 1]? = some (.cells (robjC 0 ⟨#[]⟩) 40 (0, 0))) := ⟨by rw [hw0]; exact heap_alloc2_new w _ _⟩
  have B0 : Bx (Below w.heap.size w w0) := ⟨by rw [hw0]; exact ((Below.refl _ _).alloc (Nat.le_refl _) _).alloc (by simp) _⟩
  have SZ : Bx (w0.heap.size = w.heap.size + 2) := ⟨by rw [hw0]; simp⟩
  have LIT : Bx ((w.alloc (.cells #[.string st, .slice PA n cap, .int .u64 time, .string author, .string text] 49)).alloc (.cells #[.int .i64 0, .string ⟨#[]⟩] 40) = w0) := ⟨hw0.symm⟩
  have HC : Bx (∀ w', Below w0.heap.size w0 w' → w'.cell? ⟨w.heap.size, 0, none⟩ = some (.string st) ∧ w'.cell? ⟨w.heap.size, 1, none⟩ = some (.slice PA n cap) ∧ w'.cell? ⟨w.heap.size, 2, none⟩ = some (.int .u64 time) ∧ w'.cell? ⟨w.heap.size, 3, none⟩ = some (.string author) ∧ w'.cell? ⟨w.heap.size, 4, none⟩ = some (.string text)) := ⟨fun w' hb => by
    have hk := (hb.block _ (blk_lt K0.out)).trans K0.out
    exact ⟨blk_cell hk rfl, blk_cell hk rfl, blk_cell hk rfl, blk_cell hk rfl, blk_cell hk rfl⟩⟩
  have HROW := bx hrow; have HIDS := bx hids; have HIB := bx hib; have HTR := bx htree; have HST := bx hst
  have HT0 := bx ht0; have HT1 := bx ht1; have HAU := bx hau; have HTX := bx htx
  have RO : Bx (∀ r w', changeO ⟨tree, none, n, 0, P, time, author, text⟩ = r → Below w.heap.size w w' → RObj w (changeO ⟨tree, none, n, 0, P, time, author, text⟩) (.returned (.tuple #[.agg (robjC r.1 (strOfNums r.2.1)), .int .i64 r.2.2])) w') := ⟨fun r w' h1 h2 => by subst h1; exact ⟨rfl, h2⟩⟩
  have HCO : Bx (changeO ⟨tree, none, n, 0, P, time, author, text⟩ = if 4 < n then (0, [], 3) else if dupUp P n = true then (0, [], 2) else fitO 3 (chUp tree P n n ++ be time 8 ++ textB author ++ textB text)) := ⟨rfl⟩
  have HX : changeO ⟨tree, ‹Option Addr›, n, ‹Nat›, P, time, author, text⟩ = changeO ⟨tree, none, n, 0, P, time, author, text⟩ := rfl
  show Calls _ _ _ w (RObj w (changeO ⟨tree, none, n, 0, P, time, author, text⟩))
  clear HX
  generalize RObj w (changeO ⟨tree, none, n, 0, P, time, author, text⟩) = OUT at *
  generalize changeO ⟨tree, none, n, 0, P, time, author, text⟩ = CO at *
  have z1 := (HC.out w0 (Below.refl _ _)).2.1
  clear hw0 hrow hids hib htree hst ht0 ht1 hau htx
  by_cases hbig : 4 < n
  · have hbig' : (4 : Int) < n := by omega
    have HT : Bx (CO = (0, [], 3)) := ⟨by rw [HCO.out, if_pos hbig]⟩
    go_enter Tryd.func11, Tryd.ntmps11
    go_upto_region 1 with fail
    rw [LIT.out]
    clear LIT
    go_wp2_with (first
      | ((with_reducible refine at_build 11 ?_); go_must (refine wpList_build2 rfl 40 [] rfl [] rfl (robjC 0 ⟨#[]⟩) robj_built0 ?_))
      | ((with_reducible refine at_store (.tmp 2) (.tmp 11) ?_); go_must (refine store_all (cs := robjC 0 ⟨#[]⟩) 40 (.tmp 2) (.tmp 11) rfl rfl rfl rfl K1.out (robj_is _ _) rfl (robj_one _ _) ?_; intro w9 hu9; have B9 := bx (B0.out.trans (hu9.below (Nat.le_succ _))); have R9 := bx hu9.same; clear hu9)))
    refine bodyPost_ret (results_ct (cs := robjC 0 ⟨#[]⟩) rfl _ _ (w.heap.size + 1) 40 _ _ rfl rfl R9.out Tryd.underlying40 rfl (robj_is _ _)) rfl ?_
    exact RO.out (0, [], 3) _ HT.out B9.out
  · have hbig' : ¬ (4 : Int) < n := by omega
    have hn8 : (n : Int) % 18446744073709551616 = n := by omega
    have HP0 : Bx (∀ w', Calls Tryd.prog 35 #[.string st, .int .u64 n, .int .i64 1] w' fun e w'' => e = .returned (.string (strOfNums (tree ++ [(n : Int)]))) ∧ Below w'.heap.size w' w'') := ⟨fun w' => by
      have := rput_any tree n 1 (by decide) (by decide) (by omega) (by omega) (by rw [HTR.out]; decide) w'
      rw [be_one (by omega) (by omega), HST.out] at this
      exact this⟩
    generalize hs0 : strOfNums (tree ++ [(n : Int)]) = s0 at *
    have HS0 := bx hs0
    clear hs0
    go_enter Tryd.func11, Tryd.ntmps11
    go_upto_region 1 with fail
    rw [LIT.out]
    clear LIT
    have z0 := (HC.out w0 (Below.refl _ _)).1
    go_wp2_with fail
    refine (HP0.out _).mono ?_
    rintro e w1 ⟨rfl, hb⟩
    have D1 := bx hb
    clear hb hbig' hn8 HP0 z0 z1
    go_wp2_with fail
    go_loopw [4, 5] (fun v i wr => ∃ j : Nat, j ≤ n ∧ i = .int .i64 j ∧ v = .string (strOfNums (chUp tree P n j)) ∧ dupUp P j = false ∧ Below w0.heap.size w0 wr) (fun _ i _ => (n - intOf i).toNat)
    case atStart => exact ⟨0, Nat.zero_le _, rfl, by rw [← HS0.out]; simp [chUp, chIds], rfl, D1.out⟩
    case round =>
      obtain ⟨j, hj, rfl, rfl, hdup, hb⟩ := hrel
      clear D1
      have D1 := bx hb; have HDUP := bx hdup
      have LEN := bx (chUp_length tree P n j fun i hi => HIDS.out i (by omega))
      rw [HTR.out] at LEN
      have DW := bx (B0.out.trans (D1.out.mono B0.out.size))
      have K2 := bx ((D1.out.block _ (blk_lt K1.out)).trans K1.out)
      have z1 := (HC.out wr D1.out).2.1
      clear hb hdup
      obtain ⟨sT, hsT⟩ : ∃ sT, strOfNums (chUp tree P n j) = sT := ⟨_, rfl⟩
      have HSZ : Bx (sT.size = 33 + 32 * j) := ⟨by rw [← hsT, strLen, LEN.out]⟩
      have HSTT := bx hsT
      rw [hsT]
      clear hsT
      by_cases hlt : j < n
      · have hlt' : (j : Int) < n := by omega
        obtain ⟨b1, o1, rfl, hb1, _⟩ := HROW.out.at hlt
        have HR : Bx (∀ i, i < n → ∀ w', Below wr.heap.size wr w' → w'.cell? ⟨b1, o1 + i, none⟩ = some (.string (strOfNums (P i)))) := ⟨fun i hi w' h => by
          obtain ⟨b9, o9, e9, _, hr9⟩ := HROW.out.at hi
          cases e9
          have := hr9 w' (DW.out.trans (h.mono DW.out.size)) 0 _ rfl
          simpa using this⟩
        have HS1 := bx (chUp_succ tree P n j); have HS3 := bx (dupUp_succ P j); have HS4 := bx (fun h => dupUp_at P hlt h)
        go_upto_region 7 with fail
        clear z1
        go_wp2_with fail
        go_loopw [6] (fun i wx => ∃ k : Nat, k ≤ j ∧ i = .int .i64 k ∧ (∀ m, m < k → P m ≠ P j) ∧ Below wr.heap.size wr wx) (fun i _ => (j - intOf i).toNat)
        case atStart => exact ⟨0, Nat.zero_le _, rfl, fun m hm => absurd hm (Nat.not_lt_zero _), Below.refl _ _⟩
        case round =>
          rename World => w2
          obtain ⟨k, hk, rfl, hne, hb⟩ := hrel
          have D2 := bx hb; have HNE := bx hne
          have D3 := bx (D1.out.trans (hb.mono D1.out.size))
          have K3 := bx ((hb.block _ (blk_lt K2.out)).trans K2.out)
          clear hne hb
          by_cases hkj : k < j
          · have hkj' : (k : Int) < j := by omega
            have hkn : (k : Int) < n := by omega
            have HRK := bx (HR.out k (by omega)); have HRJ := bx (HR.out j hlt)
            have HD := bx (str_dec (HIB.out k (by omega)) (HIB.out j hlt))
            generalize hpk : P k = pk at *
            generalize hpj : P j = pj at *
            generalize strOfNums pk = sk at *
            generalize strOfNums pj = sj at *
            have HPK := bx hpk; have HPJ := bx hpj
            clear hpk hpj
            by_cases heq : pk = pj
            · have HT : Bx (CO = (0, [], 2)) := ⟨by rw [HCO.out, if_neg hbig, if_pos (HS4.out (mem_chIds.2 ⟨k, hkj, by rw [HPK.out, heq]⟩))]⟩
              rw [decide_eq_true heq] at HD
              have hd := HD.out
              clear heq
              go_upto_region 10 with fail
              try simp only [Act.put]
              refine region_quietC (fun w' => Below w2.heap.size w2 w') (by kernel_rfl) (by kernel_rfl) ((Below.refl _ _).drew) ?_
              repeat (first
                | go_big_quiet_skip
                | (go_big_quiet_want; go_big_quiet_op; go_big_quiet_on)
                | (refine quiet_take (v := ?_) _ rfl (by kernel_rfl) ?_ ?_; rotate_left 1; (focus (first | (intro w' hw'; clear hw'; unfold Oper.quietAt; go_simp; done) | (intro w' hw'; clear hw'; unfold Oper.quietAt; go_simp; with_reducible rfl) | (intro w' hw'; obtain ⟨_, z1, _⟩ := HC.out w' (D3.out.trans (hw'.mono D3.out.size)); have z2 := HRK.out w' (D2.out.trans (hw'.mono D2.out.size)); have z3 := HRJ.out w' (D2.out.trans (hw'.mono D2.out.size)); unfold Oper.quietAt; go_simp; first | done | with_reducible rfl))); try simp only [List.setIfInBounds_toArray, List.set_cons_zero, List.set_cons_succ]))
              refine wpQuiet_nil ?_
              intro w4 hw4
              have K4 := bx ((hw4.block _ (blk_lt K3.out)).trans K3.out)
              have D4 := bx (D3.out.trans (hw4.mono D3.out.size))
              clear hw4
              go_wp2_with (first
                | ((with_reducible refine at_build 42 ?_); go_must (refine wpList_build2 rfl 40 [] rfl [] rfl (robjC 0 ⟨#[]⟩) robj_built0 ?_))
                | ((with_reducible refine at_store (.tmp 2) (.tmp 42) ?_); go_must (refine store_all (cs := robjC 0 ⟨#[]⟩) 40 (.tmp 2) (.tmp 42) rfl rfl rfl rfl K4.out (robj_is _ _) rfl (robj_one _ _) ?_; intro w9 hu9; have B9 := bx (B0.out.trans ((D4.out.mono B0.out.size).trans (hu9.below (Nat.le_succ _)))); have R9 := bx hu9.same; clear hu9)))
              refine bodyPost_ret (results_ct (cs := robjC 0 ⟨#[]⟩) rfl _ _ (w.heap.size + 1) 40 _ _ rfl rfl R9.out Tryd.underlying40 rfl (robj_is _ _)) rfl ?_
              exact RO.out (0, [], 2) _ HT.out B9.out
            · rw [decide_eq_false heq] at HD
              have hd := HD.out
              have HNEQ := bx heq
              clear heq
              go_upto_region 10 with fail
              try simp only [Act.put]
              refine region_quietC (fun w' => Below w2.heap.size w2 w') (by kernel_rfl) (by kernel_rfl) ((Below.refl _ _).drew) ?_
              repeat (first
                | go_big_quiet_skip
                | (go_big_quiet_want; go_big_quiet_op; go_big_quiet_on)
                | (refine quiet_take (v := ?_) _ rfl (by kernel_rfl) ?_ ?_; rotate_left 1; (focus (first | (intro w' hw'; clear hw'; unfold Oper.quietAt; go_simp; done) | (intro w' hw'; clear hw'; unfold Oper.quietAt; go_simp; with_reducible rfl) | (intro w' hw'; obtain ⟨_, z1, _⟩ := HC.out w' (D3.out.trans (hw'.mono D3.out.size)); have z2 := HRK.out w' (D2.out.trans (hw'.mono D2.out.size)); have z3 := HRJ.out w' (D2.out.trans (hw'.mono D2.out.size)); unfold Oper.quietAt; go_simp; first | done | with_reducible rfl))); try simp only [List.setIfInBounds_toArray, List.set_cons_zero, List.set_cons_succ]))
              refine wpQuiet_nil ?_
              intro w4 hw4
              have D4 := bx (D2.out.trans (hw4.mono D2.out.size))
              clear hw4
              go_wp2_with fail
              go_roundw
              case rel => exact ⟨k + 1, by omega, by first | rfl | go_num, fun m hm => by
                by_cases h : m = k
                · rw [h, HPK.out]; exact HNEQ.out
                · exact HNE.out m (by omega), D4.out⟩
              case measure => simp only [intOf]; omega
          · have hkj' : ¬ (k : Int) < j := by omega
            obtain rfl : k = j := by omega
            have hnd : ¬ (P k ∈ chIds P k) := fun h => by
              obtain ⟨m, hm, e⟩ := mem_chIds.1 h
              exact HNE.out m hm e
            have HSD : Bx (dupUp P (k + 1) = false) := ⟨by rw [HS3.out, HDUP.out, decide_eq_false hnd]; rfl⟩
            have z1 := (HC.out w2 D3.out).2.1
            have z2 := HR.out k hlt w2 D2.out
            have hsj : (strOfNums (P k)).size = 32 := by rw [strLen, HIDS.out k hlt]
            have HADD : Bx (sT ++ strOfNums (P k) = strOfNums (chUp tree P n (k + 1))) := ⟨by rw [HS1.out, ← HSTT.out, ← strApp]⟩
            have hsz := HSZ.out
            clear hnd
            generalize strOfNums (P k) = sj at *
            have hz3 : ¬ 9223372036854775807 < sT.size + sj.size := by omega
            have hz4 : ¬ 9223372036854775807 < sT.size + 32 := by omega
            have hz5 : ¬ 9223372036854775807 < 33 + 32 * k + 32 := by omega
            have hadd := HADD.out
            go_wp2_with fail
            go_roundw
            case rel => exact ⟨k + 1, by omega, by first | rfl | go_num, by first | rfl | rw [HADD.out], HSD.out, D3.out⟩
            case measure => simp only [intOf]; omega
      · have hlt' : ¬ (j : Int) < n := by omega
        obtain rfl : j = n := by omega
        rw [if_neg hbig, if_neg (by rw [HDUP.out]; decide)] at HCO
        go_upto_region 13 with fail
        clear z1
        have z3 := (HC.out wr D1.out).2.2.2.1
        have z4 := (HC.out wr D1.out).2.2.2.2
        by_cases hok : author.size ≤ 16384 ∧ text.size ≤ 16384
        · obtain ⟨ha, ht⟩ := hok
          have ha' : ¬ (16384 : Int) < author.size := by omega
          have ht' : ¬ (16384 : Int) < text.size := by omega
          obtain ⟨T1, hT1⟩ : ∃ T1, chUp tree P j j = T1 := ⟨_, rfl⟩
          rw [hT1] at HCO LEN HSTT
          rw [textB_short (by omega), textB_short (by omega)] at HCO
          have HQ1 : Bx (∀ w', Calls Tryd.prog 35 #[.string sT, .int .u64 time, .int .i64 8] w' fun e w'' => e = .returned (.string (strOfNums (T1 ++ be time 8))) ∧ Below w'.heap.size w' w'') := ⟨fun w' => by
            have := rput_any T1 time 8 (by decide) (by decide) HT0.out (by have := HT1.out; omega) (by have := LEN.out; omega) w'
            rw [HSTT.out] at this
            exact this⟩
          have HQ2 : Bx (∀ w', Calls Tryd.prog 38 #[.string (strOfNums (T1 ++ be time 8)), .string author] w' fun e w'' => e = .returned (.string (strOfNums (T1 ++ be time 8 ++ be author.size 4 ++ bytesOf author))) ∧ Below w'.heap.size w' w'') := ⟨fun w' => by
            have := rsized_any (T1 ++ be time 8) (bytesOf author) (by have := LEN.out; rw [List.length_append, be_length]; omega) (by rw [bytesOf_length]; omega) w'
            rw [str_bytes, bytesOf_length] at this
            exact this⟩
          have HQ3 : Bx (∀ w', Calls Tryd.prog 38 #[.string (strOfNums (T1 ++ be time 8 ++ be author.size 4 ++ bytesOf author)), .string text] w' fun e w'' => e = .returned (.string (strOfNums (T1 ++ be time 8 ++ be author.size 4 ++ bytesOf author ++ be text.size 4 ++ bytesOf text))) ∧ Below w'.heap.size w' w'') := ⟨fun w' => by
            have := rsized_any (T1 ++ be time 8 ++ be author.size 4 ++ bytesOf author) (bytesOf text) (by have := LEN.out; simp only [List.length_append, be_length, bytesOf_length]; omega) (by rw [bytesOf_length]; omega) w'
            rw [str_bytes, bytesOf_length] at this
            exact this⟩
          have hDD : T1 ++ be time 8 ++ (be author.size 4 ++ bytesOf author) ++ (be text.size 4 ++ bytesOf text) = T1 ++ be time 8 ++ be author.size 4 ++ bytesOf author ++ be text.size 4 ++ bytesOf text := by simp [List.append_assoc]
          rw [hDD] at HCO
          have hlen : (T1 ++ be time 8 ++ be author.size 4 ++ bytesOf author ++ be text.size 4 ++ bytesOf text).length ≤ 65536 := by
            simp only [List.length_append, be_length, bytesOf_length]
            have := LEN.out
            omega
          generalize T1 ++ be time 8 ++ be author.size 4 ++ bytesOf author ++ be text.size 4 ++ bytesOf text = DD at *
          have HFT : Bx (∀ w', Calls Tryd.prog 39 #[.int .i64 3, .string (strOfNums DD)] w' fun e w'' => e = .returned (.tuple #[.agg (robjC (fitO 3 DD).1 (strOfNums (fitO 3 DD).2.1)), .int .i64 (fitO 3 DD).2.2]) ∧ Below w'.heap.size w' w'') := ⟨fun w' => rfit_any 3 _ w' (by omega)⟩
          generalize fitO 3 DD = fr at *
          obtain ⟨fk, fd, fe⟩ := fr
          dsimp only at HFT
          generalize strOfNums DD = s3 at *
          generalize strOfNums (T1 ++ be time 8 ++ be author.size 4 ++ bytesOf author) = s2 at *
          generalize strOfNums (T1 ++ be time 8) = s1 at *
          generalize hfd : strOfNums fd = sfd at *
          have HFD := bx hfd
          clear hfd hDD hT1 hlen
          go_wp2_with fail
          clear z3 z4
          try simp only [Act.put]
          refine region_tailC (fun w' => Below wr.heap.size wr w') 13 (by kernel_rfl) (by kernel_rfl) ((Below.refl _ _).drew) ?_
          simp only [List.take_succ_cons, List.take_zero, List.drop_succ_cons, List.drop_zero]
          repeat (first
            | go_big_quiet_skip
            | (go_big_quiet_want; go_big_quiet_op; go_big_quiet_on)
            | (refine quiet_take (v := ?_) _ rfl (by kernel_rfl) ?_ ?_; rotate_left 1; (focus (first | (intro w' hw'; clear hw'; unfold Oper.quietAt; go_simp; done) | (intro w' hw'; clear hw'; unfold Oper.quietAt; go_simp; with_reducible rfl) | (intro w' hw'; obtain ⟨z0, z1, z2, z3, z4⟩ := HC.out w' (D1.out.trans (hw'.mono D1.out.size)); unfold Oper.quietAt; go_simp; first | done | with_reducible rfl | ((with_reducible refine (HQ1.out w').mono ?_); rintro x w9 ⟨rfl, hb⟩; refine ⟨?_, hw'.trans (hb.mono hw'.size)⟩; with_reducible rfl) | ((with_reducible refine (HQ2.out w').mono ?_); rintro x w9 ⟨rfl, hb⟩; refine ⟨?_, hw'.trans (hb.mono hw'.size)⟩; with_reducible rfl) | ((with_reducible refine (HQ3.out w').mono ?_); rintro x w9 ⟨rfl, hb⟩; refine ⟨?_, hw'.trans (hb.mono hw'.size)⟩; with_reducible rfl) | ((with_reducible refine (HFT.out w').mono ?_); rintro x w9 ⟨rfl, hb⟩; refine ⟨?_, hw'.trans (hb.mono hw'.size)⟩; with_reducible rfl)))); try simp only [List.setIfInBounds_toArray, List.set_cons_zero, List.set_cons_succ]))
          refine wpQuiet_nil ?_
          intro w2 hw2
          have D2 := bx (D1.out.trans (hw2.mono D1.out.size))
          have KR2 := bx ((D2.out.block _ (blk_lt K1.out)).trans K1.out)
          clear hw2
          go_wp2_with (first
            | ((with_reducible refine at_store (.tmp 2) (.tmp 72) ?_); go_must (refine store_all (cs := robjC fk sfd) 40 (.tmp 2) (.tmp 72) rfl rfl rfl rfl KR2.out (robj_is _ _) rfl (robj_one _ _) ?_; intro w9 hu9; have B9 := bx (B0.out.trans ((D2.out.mono B0.out.size).trans (hu9.below (Nat.le_succ _)))); have R9 := bx hu9.same; clear hu9)))
          refine bodyPost_ret (results_ct (cs := robjC fk sfd) rfl _ _ (w.heap.size + 1) 40 _ _ rfl rfl R9.out Tryd.underlying40 rfl (robj_is _ _)) rfl ?_
          have := RO.out (fk, fd, fe) _ HCO.out B9.out
          dsimp only at this
          rw [HFD.out] at this
          exact this
        · have HT : Bx (CO = (0, [], 3)) := ⟨by
            rw [HCO.out, fitO, if_pos]
            simp only [List.length_append, be_length]
            by_cases ha : 16384 < author.size
            · rw [textB_long ha]; omega
            · rw [textB_long (s := text) (by omega)]; omega⟩
          by_cases ha : 16384 < author.size
          all_goals
            first
              | have ha' : (16384 : Int) < author.size := by omega
              | (have ha' : ¬ (16384 : Int) < author.size := by omega
                 have ht' : (16384 : Int) < text.size := by omega)
            clear HCO hok
            go_wp2_with (first
              | ((with_reducible refine at_build 60 ?_); go_must (refine wpList_build2 rfl 40 [] rfl [] rfl (robjC 0 ⟨#[]⟩) robj_built0 ?_))
              | ((with_reducible refine at_store (.tmp 2) (.tmp 60) ?_); go_must (refine store_all (cs := robjC 0 ⟨#[]⟩) 40 (.tmp 2) (.tmp 60) rfl rfl rfl rfl K2.out (robj_is _ _) rfl (robj_one _ _) ?_; intro w9 hu9; have B9 := bx (B0.out.trans ((D1.out.mono B0.out.size).trans (hu9.below (Nat.le_succ _)))); have R9 := bx hu9.same; clear hu9)))
            refine bodyPost_ret (results_ct (cs := robjC 0 ⟨#[]⟩) rfl _ _ (w.heap.size + 1) 40 _ _ rfl rfl R9.out Tryd.underlying40 rfl (robj_is _ _)) rfl ?_
            exact RO.out (0, [], 3) _ HT.out B9.out
end Go.Proofs.YtoompcgdhokdlaaDoor

set_option linter.unusedSimpArgs false
set_option linter.unusedVariables false
namespace Go.Proofs.YtoompcgdhokdlaaDoor
open Go.RowKit

def flatF (f : Nat → List Value) (n : Nat) : List Value := ((List.range n).map f).flatten
theorem flatF_succ (f : Nat → List Value) (n : Nat) : flatF f (n + 1) = flatF f n ++ f n := by simp [flatF, List.range_succ]
theorem flatF_length {f : Nat → List Value} {s : Nat} : ∀ {n : Nat}, (∀ j, j < n → (f j).length = s) → (flatF f n).length = n * s
  | 0, _ => by simp [flatF]
  | n + 1, h => by rw [flatF_succ, List.length_append, flatF_length fun j hj => h j (by omega), h n (by omega), Nat.succ_mul]
theorem flatF_get {f : Nat → List Value} {s : Nat} : ∀ {n : Nat}, (∀ j, j < n → (f j).length = s) → ∀ {j i : Nat}, j < n → i < s → (flatF f n)[j * s + i]? = (f j)[i]?
  | 0, _, j, i, hj, _ => absurd hj (Nat.not_lt_zero _)
  | n + 1, h, j, i, hj, hi => by
    rw [flatF_succ]
    have hl := flatF_length (f := f) (s := s) (n := n) fun j hj => h j (by omega)
    by_cases hjn : j < n
    · have hb : j * s + i < n * s := by
        have := Nat.mul_le_mul_right s (show j + 1 ≤ n by omega)
        rw [Nat.succ_mul] at this
        omega
      rw [List.getElem?_append_left (by omega), flatF_get (fun j hj => h j (by omega)) hjn hi]
    · obtain rfl : j = n := by omega
      rw [List.getElem?_append_right (by omega), hl, Nat.add_sub_cancel_left]
/-- A slice of structs that lies in a block of one's own (from 'base' on); its cells. -/
def OwR (w : World) (base : Nat) (T : TypeId) (s : Nat) (v : Value) (n : Nat) (f : Nat → List Value) : Prop := w.ownsRow base T s v n (flatF f n)
section
variable {w w' : World} {base s n : Nat} {T : TypeId} {v : Value} {f : Nat → List Value}
theorem OwR.kept (h : OwR w base T s v n f) (hb : Below w.heap.size w w') : OwR w' base T s v n f := by
  obtain ⟨h1, h2 | ⟨g, cap, cur, e, hg, hh, h2⟩⟩ := h
  · exact ⟨h1, .inl h2⟩
  · exact ⟨h1, .inr ⟨g, cap, cur, e, hg, (hb.block g (blk_lt hh)).trans hh, h2⟩⟩
theorem OwR.nil (w : World) (base : Nat) (T : TypeId) (s : Nat) (f : Nat → List Value) : OwR w base T s (.slice none 0 0) 0 f := World.ownsRow_nil _ _ _ _
theorem OwR.rd (h : OwR w base T s v n f) (hl : ∀ j, j < n → (f j).length = s) : ∃ A cap, v = .slice A n cap ∧ (∀ p, A = some p → base ≤ p.block) ∧ RowAt w A n s f := by
  obtain ⟨h1, ⟨rfl, h0⟩ | ⟨g, cap, cur, rfl, hb, hg, hn, hm, hs, htk⟩⟩ := h
  · exact ⟨none, 0, by rw [h0], fun p hp => (by cases hp), fun h => by omega⟩
  · refine ⟨some ⟨g, 0, none⟩, cap, rfl, fun p hp => (by cases hp; exact hb), fun hn0 => ⟨g, 0, rfl, blk_lt hg, fun j hj i u hi => ?_⟩⟩
    have his : i < s := by
      have := (List.getElem?_eq_some_iff.1 hi).1
      rw [hl j hj] at this
      exact this
    have hb2 : j * s + i < n * s := by
      have := Nat.mul_le_mul_right s (show j + 1 ≤ n by omega)
      rw [Nat.succ_mul] at this
      omega
    refine blk_cell hg ?_
    have e : (cur.toList.take (n * s))[j * s + i]? = (flatF f n)[j * s + i]? := by rw [htk]
    rw [List.getElem?_take_of_lt hb2, Array.getElem?_toList, flatF_get hl hj his] at e
    rw [Nat.zero_add, e]
    exact hi
end
theorem RowAt.upd_ne {w w' : World} {A : Option Addr} {n s : Nat} {f : Nat → List Value} (h : RowAt w A n s f) {g : Nat} {o : Obj} (hu : Upd w w' g o) (hne : ∀ p, A = some p → p.block ≠ g) : RowAt w' A n s f := fun hn => by
  obtain ⟨b, o1, e, hl, hc⟩ := h hn
  refine ⟨b, o1, e, by rw [hu.size]; exact hl, fun j hj i v hv => ?_⟩
  have := hc j hj i v hv
  rw [← this]
  unfold World.cell?
  rw [hu.other b (hne _ e)]
/-- 'append(s, x)' of one struct whose cells are known. -/
theorem wpList_apR {P : Program} {w : World} {ops : Array Oper} {rest : List Oper} {o : Oper} {a : Act} {Q : Exit → Act → World → Prop} (hgd : o.guard = none) (s x : Operand) (t : TypeId) (ho : o.op = .call { callee := .builtin .append, args := #[s, x], argTypes := #[t, t] })
    (base : Nat) (e : TypeId) (z : Value) (size bytes : Nat) (ht : P.underlying t = some (.slice e)) (hi : (P.info? e).map (fun i => (i.zero, i.size, i.bytes)) = some (some z, size, bytes)) (hzs : z.cells.size = size) (hsz : 0 < size) (hby : bytes ≤ 1024)
    (v : Value) (n : Nat) (f : Nat → List Value) (hs : a.eval s = v) (hown : OwR w base e size v n f) (b5 : Nat) (c5 : Nat) (hx : a.eval x = .slice (some ⟨b5, 0, none⟩) 1 c5) (hc : w.heap[b5]? = some (.cells (f n).toArray e (0, 0))) (hl : (f n).length = size) (h1 : ∀ u ∈ f n, u.oneCell' = true)
    (hn : n ≤ 4294967296) (hbase : base ≤ w.heap.size)
    (h : ∀ v' w', OwR w' base e size v' (n + 1) f → (∀ B a0, Below B a0 w → B ≤ base → B ≤ w.heap.size → Below B a0 w') → wpList P ops Q rest (a.put o.dst v') w') : wpList P ops Q (o :: rest) a w := by
  obtain ⟨i0, hi0, hz0, hz1, hz2⟩ := info_parts hi
  refine wpList_append_own w hgd s x t ho base e i0 z size bytes ht hi0 hz0 hz1 hz2 hzs hsz v n _ hs hown ⟨b5, 0, none⟩ 1 c5 (f n) hx (by rw [Nat.one_mul]; exact hl) (fun j u hj => ?_) h1 (by simp only [maxLen]; omega) ?_ hbase ?_
  · rw [addr_add, Nat.zero_add]
    exact blk_cell hc (by simpa using hj)
  · exact Nat.le_trans (Nat.mul_le_mul_left _ hby) (by omega)
  · intro v' w' h2 h3 _
    refine h v' w' ?_ (fun B a0 hB hb1 hb2 => hB.grown h3 hb2 fun k hk => ?_)
    · show World.ownsRow _ _ _ _ _ _ _
      rw [flatF_succ]
      exact h2
    · have := (World.ownsRow.lt hown k hk).1
      omega
theorem infoSt : (Tryd.prog.info? 9).map (fun i => (i.zero, i.size, i.bytes)) = some (some (.string ⟨#[]⟩), 1, 16) := by kernel_rfl
theorem infoEnt : (Tryd.prog.info? 84).map (fun i => (i.zero, i.size, i.bytes)) = some (some (.agg #[.string ⟨#[]⟩, .bool false, .string ⟨#[]⟩]), 3, 40) := by kernel_rfl
theorem rent_built (a b : ByteArray) (d : Bool) : Tryd.prog.built 84 [(0, .string a), (1, .bool d), (2, .string b)] = some #[.string a, .bool d, .string b] := by kernel_rfl
def strR (P : Nat → List Int) (j : Nat) : List Value := [.string (strOfNums (P j))]
def entR (L : Nat → Ent) (j : Nat) : List Value := (L j).rcells
/-- A row of structs is told. -/
def RowO1 (w : World) (n s : Nat) (f : Nat → List Value) (e : Ending) (w' : World) : Prop := ∃ A c, e = .returned (.slice A n c) ∧ RowAt w' A n s f ∧ (∀ p, A = some p → w.heap.size ≤ p.block) ∧ Below w.heap.size w w'
set_option maxRecDepth 100000 in
set_option maxHeartbeats 1000000 in
theorem ids_any (A : Option Addr) (n cap : Nat) (P : Nat → List Int) (w : World) (hr : RowAt w A n 32 (fun j => u8s (P j))) (hid : ∀ j, j < n → (P j).length = 32) (hn : n ≤ 4294967296) :
    Calls Tryd.prog 21 #[.slice A n cap] w (RowO1 w n 1 (strR P)) := by
  have HR := bx hr; have HID := bx hid
  clear hr hid
  go_enter Tryd.func21, Tryd.ntmps21
  go_wp2_with fail
  go_loopw [3, 4] (fun s i wr => ∃ j : Nat, j ≤ n ∧ i = .int .i64 j ∧ OwR wr w.heap.size 9 1 s j (strR P) ∧ Below w.heap.size w wr) (fun _ i _ => (n - intOf i).toNat)
  case atStart => exact ⟨0, Nat.zero_le _, rfl, OwR.nil _ _ _ _ _, Below.refl _ _⟩
  case round =>
    rename World => wr
    obtain ⟨j, hj, rfl, ho, hb⟩ := hrel
    have O := bx ho; have B := bx hb
    clear ho hb
    by_cases hlt : j < n
    · have hlt' : (j : Int) < n := by omega
      obtain ⟨b0, o0, rfl, hl0, hc0⟩ := HR.out.at hlt
      have hidj := HID.out j hlt
      have hsub := row_rdB (pre := []) (id := P j) (post := []) (hc0 wr B.out) (by simp) (Nat.lt_of_lt_of_le hl0 B.out.size)
      rw [hidj] at hsub
      have cv0 : (convert 33 9 (.slice (some ⟨b0, o0 + j * 32, none⟩) 32 32)).run Tryd.prog wr = .ok (.string (strOfNums (P j))) wr := str_of hsub 32
      have slz := arr_slice_all (P := Tryd.prog) (t := 24) Tryd.underlying24 Tryd.sizeOf5 b0 (o0 + j * 32)
      have HN := bx (show (wr.alloc (.cells #[.string (strOfNums (P j))] 9)).heap[wr.heap.size]? = some (.cells (strR P j).toArray 9 (0, 0)) from blk_new wr _)
      have BA := bx (B.out.alloc B.out.size (.cells #[.string (strOfNums (P j))] 9))
      have OA := bx (O.out.kept ((Below.refl _ _).alloc (Nat.le_refl _) (.cells #[.string (strOfNums (P j))] 9)))
      have H1 : Bx (∀ u ∈ strR P j, u.oneCell' = true) := ⟨by intro u hu; simp only [strR, List.mem_cons, List.not_mem_nil, or_false] at hu; subst hu; rfl⟩
      clear hsub hl0 hc0
      generalize strOfNums (P j) = t at *
      go_wp2_with (first
        | ((with_reducible refine at_call 18 ?_); go_must (refine wpList_apR rfl (.tmp 11) (.tmp 17) 47 rfl w.heap.size 9 _ 1 16 Tryd.underlying47 infoSt rfl (by decide) (by decide) _ j (strR P) rfl OA.out wr.heap.size 1 rfl HN.out rfl H1.out (by omega) BA.out.size ?_; intro v' w' h1 h2; have K1 := bx h1; have K2 := bx (h2 _ _ BA.out (Nat.le_refl _) BA.out.size); clear h1 h2)))
      go_roundw
      case rel => exact ⟨j + 1, by omega, by first | rfl | go_num, K1.out, K2.out⟩
      case measure => simp only [intOf]; omega
    · have hlt' : ¬ (j : Int) < n := by omega
      obtain rfl : j = n := by omega
      obtain ⟨A9, c9, rfl, hp9, hr9⟩ := O.out.rd fun _ _ => rfl
      have R9 := bx hr9; have P9 := bx hp9
      clear hr9 hp9
      go_wp2_with fail
      go_ret
      exact ⟨_, _, rfl, R9.out, P9.out, B.out⟩
set_option maxRecDepth 100000 in
set_option maxHeartbeats 1000000 in
theorem entries_any (A : Option Addr) (n cap : Nat) (L : Nat → Ent) (w : World) (hr : RowAt w A n 34 (fun j => (L j).cells)) (hid : ∀ j, j < n → (L j).id.length = 32) (hn : n ≤ 4294967296) :
    Calls Tryd.prog 9 #[.slice A n cap] w (RowO1 w n 3 (entR L)) := by
  have HR := bx hr; have HID := bx hid
  clear hr hid
  go_enter Tryd.func9, Tryd.ntmps9
  go_wp2_with fail
  go_loopw [3, 4] (fun s i wr => ∃ j : Nat, j ≤ n ∧ i = .int .i64 j ∧ OwR wr w.heap.size 84 3 s j (entR L) ∧ Below w.heap.size w wr) (fun _ i _ => (n - intOf i).toNat)
  case atStart => exact ⟨0, Nat.zero_le _, rfl, OwR.nil _ _ _ _ _, Below.refl _ _⟩
  case round =>
    rename World => wr
    obtain ⟨j, hj, rfl, ho, hb⟩ := hrel
    have O := bx ho; have B := bx hb
    clear ho hb
    by_cases hlt : j < n
    · have hlt' : (j : Int) < n := by omega
      obtain ⟨b0, o0, rfl, hl0, hc0⟩ := HR.out.at hlt
      have hidj := HID.out j hlt
      have HC : Bx (∀ w', Below w.heap.size w w' → w'.cell? ⟨b0, o0 + j * 34, none⟩ = some (.string (L j).name) ∧ w'.cell? ⟨b0, o0 + j * 34 + 1, none⟩ = some (.bool (L j).dir) ∧ (convert 33 9 (.slice (some ⟨b0, o0 + j * 34 + 2, none⟩) 32 32)).run Tryd.prog w' = .ok (.string (strOfNums (L j).id)) w') := ⟨fun w' hb => by
        have hg := hc0 w' hb
        refine ⟨hg 0 _ rfl, hg 1 _ rfl, ?_⟩
        have hsub := row_rdB (pre := [.string (L j).name, .bool (L j).dir]) (id := (L j).id) (post := []) hg (by simp [Ent.cells]) (Nat.lt_of_lt_of_le hl0 hb.size)
        rw [hidj] at hsub
        exact str_of hsub 32⟩
      have slz := arr_slice_all (P := Tryd.prog) (t := 24) Tryd.underlying24 Tryd.sizeOf5 b0 (o0 + j * 34 + 2)
      have HCS : Bx ((entR L j).toArray = #[.string (L j).name, .bool (L j).dir, .string (strOfNums (L j).id)]) := ⟨rfl⟩
      have HCL : Bx ((entR L j).length = 3) := ⟨rfl⟩
      have H1 : Bx (∀ u ∈ entR L j, u.oneCell' = true) := ⟨by intro u hu; simp only [entR, Ent.rcells, List.mem_cons, List.not_mem_nil, or_false] at hu; rcases hu with rfl | rfl | rfl <;> rfl⟩
      clear hl0 hc0
      generalize strOfNums (L j).id = t at *
      generalize (L j).name = s at *
      generalize (L j).dir = d at *
      have hbu := rent_built s t d
      go_upto_region 5 with fail
      have hS0 : Below w.heap.size w wr.drew := B.out.drew
      refine wp_region_held_drew (S := (fun w' => Below w.heap.size w w')) (by kernel_rfl) hS0 (fun hS => ?_)
      refine takeH (i := 0) (d := 11) (v := ?_) rfl rfl (by kernel_rfl) (by kernel_rfl) (by kernel_rfl) (fun _ _ _ h => h) (Or.inl ⟨by kernel_rfl, ?_⟩) hS ?_; rotate_left 1; (focus ((intro w' hS'; clear hS'; go_simp; try with_reducible rfl); done))
      try simp only [List.setIfInBounds_toArray, List.set_cons_zero, List.set_cons_succ]
      refine takeH (i := 1) (d := 12) (v := ?_) rfl rfl (by kernel_rfl) (by kernel_rfl) (by kernel_rfl) (fun _ _ _ h => h) (Or.inl ⟨by kernel_rfl, ?_⟩) hS ?_; rotate_left 1; (focus ((intro w' hS'; clear hS'; go_simp; try with_reducible rfl); done))
      try simp only [List.setIfInBounds_toArray, List.set_cons_zero, List.set_cons_succ]
      refine takeH (i := 2) (d := 13) (v := ?_) rfl rfl (by kernel_rfl) (by kernel_rfl) (by kernel_rfl) (fun _ _ _ h => h) (Or.inl ⟨by kernel_rfl, ?_⟩) hS ?_; rotate_left 1; (focus ((intro w' hS'; clear hS'; go_simp; try with_reducible rfl); done))
      try simp only [List.setIfInBounds_toArray, List.set_cons_zero, List.set_cons_succ]
      refine takeH (i := 3) (d := 14) (v := ?_) rfl rfl (by kernel_rfl) (by kernel_rfl) (by kernel_rfl) (fun _ _ _ h => h) (Or.inl ⟨by kernel_rfl, ?_⟩) hS ?_; rotate_left 1; (focus ((intro w' hS'; clear hS'; go_simp; try with_reducible rfl); done))
      try simp only [List.setIfInBounds_toArray, List.set_cons_zero, List.set_cons_succ]
      refine takeH (i := 4) (d := 15) (v := ?_) rfl rfl (by kernel_rfl) (by kernel_rfl) (by kernel_rfl) (fun _ _ _ h => h) (Or.inl ⟨by kernel_rfl, ?_⟩) hS ?_; rotate_left 1; (focus ((intro w' hS'; clear hS'; go_simp; try with_reducible rfl); done))
      try simp only [List.setIfInBounds_toArray, List.set_cons_zero, List.set_cons_succ]
      refine takeH (i := 5) (d := 16) (v := ?_) rfl rfl (by kernel_rfl) (by kernel_rfl) (by kernel_rfl) (fun _ _ _ h => h) (Or.inl ⟨by kernel_rfl, ?_⟩) hS ?_; rotate_left 1; (focus ((intro w' hS'; obtain ⟨z0, z1, z2⟩ := HC.out w' hS'; clear hS'; go_simp; try with_reducible rfl); done))
      try simp only [List.setIfInBounds_toArray, List.set_cons_zero, List.set_cons_succ]
      refine takeH (i := 6) (d := 17) (v := ?_) rfl rfl (by kernel_rfl) (by kernel_rfl) (by kernel_rfl) (fun _ _ _ h => h) (Or.inl ⟨by kernel_rfl, ?_⟩) hS ?_; rotate_left 1; (focus ((intro w' hS'; clear hS'; go_simp; try with_reducible rfl); done))
      try simp only [List.setIfInBounds_toArray, List.set_cons_zero, List.set_cons_succ]
      refine takeH (i := 7) (d := 18) (v := ?_) rfl rfl (by kernel_rfl) (by kernel_rfl) (by kernel_rfl) (fun _ _ _ h => h) (Or.inl ⟨by kernel_rfl, ?_⟩) hS ?_; rotate_left 1; (focus ((intro w' hS'; clear hS'; go_simp; try with_reducible rfl); done))
      try simp only [List.setIfInBounds_toArray, List.set_cons_zero, List.set_cons_succ]
      refine takeH (i := 8) (d := 19) (v := ?_) rfl rfl (by kernel_rfl) (by kernel_rfl) (by kernel_rfl) (fun _ _ _ h => h) (Or.inl ⟨by kernel_rfl, ?_⟩) hS ?_; rotate_left 1; (focus ((intro w' hS'; clear hS'; go_simp; try with_reducible rfl); done))
      try simp only [List.setIfInBounds_toArray, List.set_cons_zero, List.set_cons_succ]
      refine takeH (i := 9) (d := 20) (v := ?_) rfl rfl (by kernel_rfl) (by kernel_rfl) (by kernel_rfl) (fun _ _ _ h => h) (Or.inl ⟨by kernel_rfl, ?_⟩) hS ?_; rotate_left 1; (focus ((intro w' hS'; clear hS'; go_simp; try with_reducible rfl); done))
      try simp only [List.setIfInBounds_toArray, List.set_cons_zero, List.set_cons_succ]
      refine takeH (i := 10) (d := 21) (v := ?_) rfl rfl (by kernel_rfl) (by kernel_rfl) (by kernel_rfl) (fun _ _ _ h => h) (Or.inl ⟨by kernel_rfl, ?_⟩) hS ?_; rotate_left 1; (focus ((intro w' hS'; obtain ⟨z0, z1, z2⟩ := HC.out w' hS'; clear hS'; go_simp; try with_reducible rfl); done))
      try simp only [List.setIfInBounds_toArray, List.set_cons_zero, List.set_cons_succ]
      refine takeH (i := 11) (d := 22) (v := ?_) rfl rfl (by kernel_rfl) (by kernel_rfl) (by kernel_rfl) (fun _ _ _ h => h) (Or.inl ⟨by kernel_rfl, ?_⟩) hS ?_; rotate_left 1; (focus ((intro w' hS'; clear hS'; go_simp; try with_reducible rfl); done))
      try simp only [List.setIfInBounds_toArray, List.set_cons_zero, List.set_cons_succ]
      refine takeH (i := 12) (d := 23) (v := ?_) rfl rfl (by kernel_rfl) (by kernel_rfl) (by kernel_rfl) (fun _ _ _ h => h) (Or.inl ⟨by kernel_rfl, ?_⟩) hS ?_; rotate_left 1; (focus ((intro w' hS'; clear hS'; go_simp; try with_reducible rfl); done))
      try simp only [List.setIfInBounds_toArray, List.set_cons_zero, List.set_cons_succ]
      refine takeH (i := 13) (d := 24) (v := ?_) rfl rfl (by kernel_rfl) (by kernel_rfl) (by kernel_rfl) (fun _ _ _ h => h) (Or.inl ⟨by kernel_rfl, ?_⟩) hS ?_; rotate_left 1; (focus ((intro w' hS'; clear hS'; go_simp; try with_reducible rfl); done))
      try simp only [List.setIfInBounds_toArray, List.set_cons_zero, List.set_cons_succ]
      refine takeH (i := 14) (d := 25) (v := ?_) rfl rfl (by kernel_rfl) (by kernel_rfl) (by kernel_rfl) (fun _ _ _ h => h) (Or.inl ⟨by kernel_rfl, ?_⟩) hS ?_; rotate_left 1; (focus ((intro w' hS'; clear hS'; go_simp; try with_reducible rfl); done))
      try simp only [List.setIfInBounds_toArray, List.set_cons_zero, List.set_cons_succ]
      refine takeH (i := 15) (d := 26) (v := ?_) rfl rfl (by kernel_rfl) (by kernel_rfl) (by kernel_rfl) (fun _ _ _ h => h) (Or.inl ⟨by kernel_rfl, ?_⟩) hS ?_; rotate_left 1; (focus ((intro w' hS'; clear hS'; go_simp; try with_reducible rfl); done))
      try simp only [List.setIfInBounds_toArray, List.set_cons_zero, List.set_cons_succ]
      refine takeH (i := 16) (d := 27) (v := ?_) rfl rfl (by kernel_rfl) (by kernel_rfl) (by kernel_rfl) (fun _ _ _ h => h) (Or.inl ⟨by kernel_rfl, ?_⟩) hS ?_; rotate_left 1; (focus ((intro w' hS'; obtain ⟨z0, z1, z2⟩ := HC.out w' hS'; clear hS'; go_simp; try with_reducible rfl); done))
      try simp only [List.setIfInBounds_toArray, List.set_cons_zero, List.set_cons_succ]
      refine takeH (i := 17) (d := 28) (v := ?_) rfl rfl (by kernel_rfl) (by kernel_rfl) (by kernel_rfl) (fun _ _ _ h => h) (Or.inl ⟨by kernel_rfl, ?_⟩) hS ?_; rotate_left 1; (focus ((intro w' hS'; clear hS'; go_simp; try with_reducible rfl); done))
      try simp only [List.setIfInBounds_toArray, List.set_cons_zero, List.set_cons_succ]
      refine wpAnyH_ready (rs := [18]) (by kernel_rfl) (by simp) ?_
      refine readyH_list rfl (fun K hK => ?_) AllReadyH.nil
      refine wpList_bs1 rfl 43 84 (.tmp 28) rfl #[.string s, .bool d, .string t] rfl _ 3 40 Tryd.underlying43 infoEnt rfl (by decide) (by decide) ?_
      intro w5 b5 h5 h6
      have N5 := bx (show w5.heap[b5]? = some (.cells (entR L j).toArray 84 (0, 0)) by rw [HCS.out, ← h5, ← h6]; exact blk_new _ _)
      have S5 := bx (show Below wr.heap.size wr w5 by rw [← h5]; exact ((Below.refl _ _).drew).alloc (by first | exact Nat.le_refl _ | simp) _)
      have B5 := bx (B.out.trans (S5.out.mono B.out.size))
      have O5 := bx (O.out.kept S5.out)
      clear h5 h6
      show wpList _ _ K [] (Act.put _ (some 29) _) w5
      refine hK.out _ _ ?_ (fun hS2 => ?_)
      · exact B5.out
      clear hK K hS; have hS := hS2; clear hS2
      try simp only [Act.put, List.setIfInBounds_toArray, List.set_cons_zero, List.set_cons_succ]
      refine wpAnyH_ready (rs := [19]) (by kernel_rfl) (by simp) ?_
      refine readyH_list rfl (fun K hK => ?_) AllReadyH.nil
      refine wpList_apR rfl (.tmp 11) (.tmp 29) 43 rfl w.heap.size 84 _ 3 40 Tryd.underlying43 infoEnt rfl (by decide) (by decide) _ j (entR L) rfl O5.out _ 1 rfl N5.out HCL.out H1.out (by omega) B5.out.size ?_
      intro v6 w6 h1 h2
      have K1 := bx h1
      have K2 := bx (h2 _ _ B5.out (Nat.le_refl _) B5.out.size)
      clear h1 h2
      show wpList _ _ K [] (Act.put _ (some 30) v6) w6
      refine hK.out _ _ ?_ (fun hS2 => ?_)
      · exact K2.out
      clear hK K hS; have hS := hS2; clear hS2
      try simp only [Act.put, List.setIfInBounds_toArray, List.set_cons_zero, List.set_cons_succ]
      refine takeH (i := 20) (d := 3) (v := ?_) rfl rfl (by kernel_rfl) (by kernel_rfl) (by kernel_rfl) (fun _ _ _ h => h) (Or.inl ⟨by kernel_rfl, ?_⟩) hS ?_; rotate_left 1; (focus ((intro w' hS'; clear hS'; go_simp; try with_reducible rfl); done))
      try simp only [List.setIfInBounds_toArray, List.set_cons_zero, List.set_cons_succ]
      refine wpAnyH_done (by kernel_rfl) ?_ _
      clear hS0 hS
      go_wp2_with fail
      go_roundw
      case rel => exact ⟨j + 1, by omega, by first | rfl | go_num, K1.out, K2.out⟩
      case measure => simp only [intOf]; omega
    · have hlt' : ¬ (j : Int) < n := by omega
      obtain rfl : j = n := by omega
      obtain ⟨A9, c9, rfl, hp9, hr9⟩ := O.out.rd fun _ _ => rfl
      have R9 := bx hr9; have P9 := bx hp9
      clear hr9 hp9
      go_wp2_with fail
      go_ret
      exact ⟨_, _, rfl, R9.out, P9.out, B.out⟩
end Go.Proofs.YtoompcgdhokdlaaDoor

set_option linter.unusedSimpArgs false
set_option linter.unusedVariables false
namespace Go.Proofs.YtoompcgdhokdlaaDoor
open Go.RowKit

theorem rmark_built (a b c : ByteArray) : Tryd.prog.built 54 [(0, .string a), (1, .string b), (2, .string c)] = some (rmarkC a b c) := by kernel_rfl
theorem rmark_is (a b c : ByteArray) : (Tryd.prog.info? 54).map (·.size) = some (rmarkC a b c).size := by kernel_rfl
theorem rmark_one (a b c : ByteArray) : ∀ v ∈ (rmarkC a b c).toList, v.oneCell' = true := by
  intro v hv
  simp only [rmarkC, List.mem_cons, List.not_mem_nil, or_false] at hv
  rcases hv with rfl | rfl | rfl <;> rfl
theorem rchg_built (c : ChgA) (A : Option Addr) (cap : Nat) : Tryd.prog.built 49 [(0, .string (strOfNums c.tree)), (1, .slice A c.n cap), (2, .int .u64 c.time), (3, .string c.author), (4, .string c.text)] = some (rchgC c A cap) := by kernel_rfl
theorem rchg_is (c : ChgA) (A : Option Addr) (cap : Nat) : (Tryd.prog.info? 49).map (·.size) = some (rchgC c A cap).size := by kernel_rfl
theorem rchg_one (c : ChgA) (A : Option Addr) (cap : Nat) : ∀ v ∈ (rchgC c A cap).toList, v.oneCell' = true := by
  intro v hv
  simp only [rchgC, List.mem_cons, List.not_mem_nil, or_false] at hv
  rcases hv with rfl | rfl | rfl | rfl | rfl <;> rfl
set_option maxRecDepth 100000 in
set_option maxHeartbeats 1000000 in
theorem own_any (k : Int) (A : Option Addr) (n cap : Nat) (bs : List Int) (w : World) (hrd : RdB w A n bs) :
    Calls Tryd.prog 16 #[.agg (objC k (.slice A n cap))] w fun e w' => e = .returned (.agg (robjC k (strOfNums bs))) ∧ Below w.heap.size w w' := by
  obtain ⟨w0, hw0⟩ : ∃ w0, w0 = (w.alloc (.cells (objC k (.slice A n cap)) 35)).alloc (.cells (robjC 0 ⟨#[]⟩) 40) := ⟨_, rfl⟩
  have K0 : Bx (w0.heap[w.heap.size]? = some (.cells (objC k (.slice A n cap)) 35 (0, 0))) := ⟨by rw [hw0]; exact heap_alloc2_old w _ _⟩
  have K1 : Bx (w0.heap[w.heap.size + 1]? = some (.cells (robjC 0 ⟨#[]⟩) 40 (0, 0))) := ⟨by rw [hw0]; exact heap_alloc2_new w _ _⟩
  have B0 : Bx (Below w.heap.size w w0) := ⟨by rw [hw0]; exact ((Below.refl _ _).alloc (Nat.le_refl _) _).alloc (by simp) _⟩
  have LIT : Bx ((w.alloc (.cells (objC k (.slice A n cap)) 35)).alloc (.cells #[.int .i64 0, .string ⟨#[]⟩] 40) = w0) := ⟨hw0.symm⟩
  have z0 : w0.cell? ⟨w.heap.size, 0, none⟩ = some (.int .i64 k) := blk_cell K0.out rfl
  have z1 : w0.cell? ⟨w.heap.size, 1, none⟩ = some (.slice A n cap) := blk_cell K0.out rfl
  have cv0 : (convert 33 9 (.slice A n cap)).run Tryd.prog w0 = .ok (.string (strOfNums bs)) w0 := str_of (hrd.below B0.out) cap
  clear hw0 hrd
  generalize strOfNums bs = s at *
  go_enter Tryd.func16, Tryd.ntmps16
  go_upto_region 1 with fail
  rw [LIT.out]
  clear LIT
  go_wp2_with (first
    | ((with_reducible refine at_build 8 ?_); go_must (refine wpList_build2 rfl 40 [(0, .tmp 4), (1, .tmp 7)] rfl _ rfl (robjC k s) (robj_built k s) ?_))
    | ((with_reducible refine at_store (.tmp 2) (.tmp 8) ?_); go_must (refine store_all (cs := robjC k s) 40 (.tmp 2) (.tmp 8) rfl rfl rfl rfl K1.out (robj_is _ _) rfl (robj_one _ _) ?_; intro w9 hu9; have B9 := bx (B0.out.trans (hu9.below (Nat.le_succ _))); have R9 := bx hu9.same; clear hu9)))
  refine bodyPost_ret (results_agg (cs := robjC k s) rfl _ _ (w.heap.size + 1) 40 _ rfl R9.out Tryd.underlying40 rfl (robj_is _ _)) rfl ?_
  exact ⟨rfl, B9.out⟩

set_option maxRecDepth 100000 in
set_option maxHeartbeats 1000000 in
theorem mark10_any (id : List Int) (name text : ByteArray) (w : World) (hid : id.length = 32) :
    Calls Tryd.prog 15 #[.agg (markCells id name text).toArray] w fun e w' => e = .returned (.agg (rmarkC (strOfNums id) name text)) ∧ Below w.heap.size w w' := by
  obtain ⟨w0, hw0⟩ : ∃ w0, w0 = (w.alloc (.cells (markCells id name text).toArray 30)).alloc (.cells (rmarkC ⟨#[]⟩ ⟨#[]⟩ ⟨#[]⟩) 54) := ⟨_, rfl⟩
  have K0 : Bx (w0.heap[w.heap.size]? = some (.cells (markCells id name text).toArray 30 (0, 0))) := ⟨by rw [hw0]; exact heap_alloc2_old w _ _⟩
  have K1 : Bx (w0.heap[w.heap.size + 1]? = some (.cells (rmarkC ⟨#[]⟩ ⟨#[]⟩ ⟨#[]⟩) 54 (0, 0))) := ⟨by rw [hw0]; exact heap_alloc2_new w _ _⟩
  have B0 : Bx (Below w.heap.size w w0) := ⟨by rw [hw0]; exact ((Below.refl _ _).alloc (Nat.le_refl _) _).alloc (by simp) _⟩
  have LIT : Bx ((w.alloc (.cells (markCells id name text).toArray 30)).alloc (.cells #[.string ⟨#[]⟩, .string ⟨#[]⟩, .string ⟨#[]⟩] 54) = w0) := ⟨hw0.symm⟩
  have HC : Bx (∀ w', Below w0.heap.size w0 w' → (convert 33 9 (.slice (some ⟨w.heap.size, 0, none⟩) 32 32)).run Tryd.prog w' = .ok (.string (strOfNums id)) w' ∧ w'.cell? ⟨w.heap.size, 32, none⟩ = some (.string name) ∧ w'.cell? ⟨w.heap.size, 33, none⟩ = some (.string text)) := ⟨fun w' hb => by
    have hk := (hb.block _ (blk_lt K0.out)).trans K0.out
    have h9 := cells_rd hk (pre := []) (id := id) (post := [.string name, .string text]) rfl
    rw [hid] at h9
    exact ⟨str_of h9 32, blk_cell hk (mark_get hid name text).1, blk_cell hk (mark_get hid name text).2⟩⟩
  have sl := arr_slice_all (P := Tryd.prog) (t := 24) Tryd.underlying24 Tryd.sizeOf5 w.heap.size 0
  clear hw0 hid
  generalize strOfNums id = t at *
  go_enter Tryd.func15, Tryd.ntmps15
  go_upto_region 1 with fail
  rw [LIT.out]
  clear LIT
  try simp only [Act.put]
  refine region_tailC (fun w' => Below w0.heap.size w0 w') 7 (by kernel_rfl) (by kernel_rfl) ((Below.refl _ _).drew) ?_
  simp only [List.take_succ_cons, List.take_zero, List.drop_succ_cons, List.drop_zero]
  repeat (first
    | go_big_quiet_skip
    | (go_big_quiet_want; go_big_quiet_op; go_big_quiet_on)
    | (refine quiet_take (v := ?_) _ rfl (by kernel_rfl) ?_ ?_; rotate_left 1; (focus (first | (intro w' hw'; clear hw'; unfold Oper.quietAt; go_simp; done) | (intro w' hw'; clear hw'; unfold Oper.quietAt; go_simp; with_reducible rfl) | (intro w' hw'; obtain ⟨z0, z1, z2⟩ := HC.out w' hw'; unfold Oper.quietAt; go_simp; first | done | with_reducible rfl))); try simp only [List.setIfInBounds_toArray, List.set_cons_zero, List.set_cons_succ]))
  refine wpQuiet_nil ?_
  intro w2 hw2
  have D2 := bx (B0.out.trans (hw2.mono B0.out.size))
  have K2 := bx ((hw2.block _ (blk_lt K1.out)).trans K1.out)
  clear hw2
  go_wp2_with (first
    | ((with_reducible refine at_build 10 ?_); go_must (refine wpList_build2 rfl 54 [(0, .tmp 5), (1, .tmp 7), (2, .tmp 9)] rfl _ rfl (rmarkC t name text) (rmark_built t name text) ?_))
    | ((with_reducible refine at_store (.tmp 2) (.tmp 10) ?_); go_must (refine store_all (cs := rmarkC t name text) 54 (.tmp 2) (.tmp 10) rfl rfl rfl rfl K2.out (rmark_is _ _ _) rfl (rmark_one _ _ _) ?_; intro w9 hu9; have B9 := bx (D2.out.trans (hu9.below (Nat.le_succ _))); have R9 := bx hu9.same; clear hu9)))
  refine bodyPost_ret (results_agg (cs := rmarkC t name text) rfl _ _ (w.heap.size + 1) 54 _ rfl R9.out Tryd.underlying54 rfl (rmark_is _ _ _)) rfl ?_
  exact ⟨rfl, B9.out⟩
/-- What law10.change tells. -/
def ChgO (w : World) (c : ChgA) (e : Ending) (w' : World) : Prop := ∃ A cap, e = .returned (.agg (rchgC c A cap)) ∧ RowAt w' A c.n 1 (strR c.P) ∧ Below w.heap.size w w'
set_option maxRecDepth 100000 in
set_option maxHeartbeats 1000000 in
theorem chg10_any (c : ChgA) (w : World) (hF : c.Full w) (hn : c.n ≤ 4294967296) : Calls Tryd.prog 12 #[.agg c.cells.toArray] w (ChgO w c) := by
  obtain ⟨htree, hrow, hids⟩ := hF
  have hget := chg_get (c := c) htree
  obtain ⟨CC, hCC⟩ : ∃ CC, c.cells.toArray = CC := ⟨_, rfl⟩
  have hcd : c.cells = [] ++ u8s c.tree ++ [.slice c.A c.n c.cap, .int .u64 c.time, .string c.author, .string c.text] := rfl
  have hrdt : ∀ w' : World, w'.heap[w.heap.size]? = some (.cells CC 28 (0, 0)) → RdB w' (some ⟨w.heap.size, 0, none⟩) 32 c.tree := fun w' hk => by
    rw [← hCC] at hk
    have h9 := cells_rd hk hcd
    rw [htree] at h9
    exact h9
  rw [hCC] at hget ⊢
  have hbuilt := rchg_built c
  have his := rchg_is c
  have hone := rchg_one c
  have HBU := bx hbuilt; have HIS := bx his; have HONE := bx hone; have HRS := bx (show ∀ A cap, (rchgC c A cap).size = 5 from fun _ _ => rfl)
  obtain ⟨w0, hw0⟩ : ∃ w0, w0 = (w.alloc (.cells CC 28)).alloc (.cells #[.string ⟨#[]⟩, .slice none 0 0, .int .u64 0, .string ⟨#[]⟩, .string ⟨#[]⟩] 49) := ⟨_, rfl⟩
  have K0 : Bx (w0.heap[w.heap.size]? = some (.cells CC 28 (0, 0))) := ⟨by rw [hw0]; exact heap_alloc2_old w _ _⟩
  have K1 : Bx (w0.heap[w.heap.size + 1]? = some (.cells #[.string ⟨#[]⟩, .slice none 0 0, .int .u64 0, .string ⟨#[]⟩, .string ⟨#[]⟩] 49 (0, 0))) := ⟨by rw [hw0]; exact heap_alloc2_new w _ _⟩
  have B0 : Bx (Below w.heap.size w w0) := ⟨by rw [hw0]; exact ((Below.refl _ _).alloc (Nat.le_refl _) _).alloc (by simp) _⟩
  have SZ : Bx (w0.heap.size = w.heap.size + 2) := ⟨by rw [hw0]; simp⟩
  have HC : Bx (∀ w', Below (w.heap.size + 1) w0 w' → (convert 33 9 (.slice (some ⟨w.heap.size, 0, none⟩) 32 32)).run Tryd.prog w' = .ok (.string (strOfNums c.tree)) w' ∧ w'.cell? ⟨w.heap.size, 32, none⟩ = some (.slice c.A c.n c.cap) ∧ w'.cell? ⟨w.heap.size, 33, none⟩ = some (.int .u64 c.time) ∧ w'.cell? ⟨w.heap.size, 34, none⟩ = some (.string c.author) ∧ w'.cell? ⟨w.heap.size, 35, none⟩ = some (.string c.text)) := ⟨fun w' hb => by
    have hk := (hb.block _ (Nat.lt_succ_self _)).trans K0.out
    exact ⟨str_of (hrdt w' hk) 32, blk_cell hk hget.1, blk_cell hk hget.2.1, blk_cell hk hget.2.2.1, blk_cell hk hget.2.2.2⟩⟩
  have HIDS : Bx (∀ w', Below w.heap.size w w' → Calls Tryd.prog 21 #[.slice c.A c.n c.cap] w' (RowO1 w' c.n 1 (strR c.P))) := ⟨fun w' hb => ids_any c.A c.n c.cap c.P w' (hrow.below hb) hids hn⟩
  have HW := bx hw0
  have sl := arr_slice_all (P := Tryd.prog) (t := 24) Tryd.underlying24 Tryd.sizeOf5 w.heap.size 0
  clear hw0 hrow hids htree hrdt hget hCC hcd hbuilt his hone
  have CO : Bx (∀ A cap w', RowAt w' A c.n 1 (strR c.P) → Below w.heap.size w w' → ChgO w c (.returned (.agg (rchgC c A cap))) w') := ⟨fun A cap w' h1 h2 => ⟨A, cap, rfl, h1, h2⟩⟩
  generalize ChgO w c = OUT at *
  generalize rchgC c = RC at *
  generalize strR c.P = SR at *
  generalize strOfNums c.tree = t at *
  generalize c.time = tm at *
  generalize c.author = au at *
  generalize c.text = tx at *
  generalize c.A = PA at *
  generalize c.n = n at *
  generalize c.cap = cap at *
  go_enter Tryd.func12, Tryd.ntmps12
  go_upto_region 1 with fail
  rw [← HW.out]
  clear HW
  have hS0 : Below (w.heap.size + 1) w0 w0.drew ∧ ∃ old : Array Value, old.size = 5 ∧ w0.drew.heap[w.heap.size + 1]? = some (.cells old 49 (0, 0)) := ⟨(Below.refl _ _).drew, _, rfl, K1.out⟩
  refine wp_region_held_drew (S := (fun w' => Below (w.heap.size + 1) w0 w' ∧ ∃ old : Array Value, old.size = 5 ∧ w'.heap[w.heap.size + 1]? = some (.cells old 49 (0, 0)))) (by kernel_rfl) hS0 (fun hS => ?_)
  refine takeH (i := 0) (d := 3) (v := ?_) rfl rfl (by kernel_rfl) (by kernel_rfl) (by kernel_rfl) (fun _ _ _ h => h) (Or.inl ⟨by kernel_rfl, ?_⟩) hS ?_; rotate_left 1; (focus ((intro w' hS'; clear hS'; go_simp; try with_reducible rfl); done))
  try simp only [List.setIfInBounds_toArray, List.set_cons_zero, List.set_cons_succ]
  refine takeH (i := 1) (d := 4) (v := ?_) rfl rfl (by kernel_rfl) (by kernel_rfl) (by kernel_rfl) (fun _ _ _ h => h) (Or.inl ⟨by kernel_rfl, ?_⟩) hS ?_; rotate_left 1; (focus ((intro w' hS'; clear hS'; go_simp; try with_reducible rfl); done))
  try simp only [List.setIfInBounds_toArray, List.set_cons_zero, List.set_cons_succ]
  refine takeH (i := 2) (d := 5) (v := ?_) rfl rfl (by kernel_rfl) (by kernel_rfl) (by kernel_rfl) (fun _ _ _ h => h) (Or.inl ⟨by kernel_rfl, ?_⟩) hS ?_; rotate_left 1; (focus ((intro w' hS'; obtain ⟨z0, z1, z2, z3, z4⟩ := HC.out w' hS'.1; clear hS'; go_simp; try with_reducible rfl); done))
  try simp only [List.setIfInBounds_toArray, List.set_cons_zero, List.set_cons_succ]
  refine takeH (i := 3) (d := 6) (v := ?_) rfl rfl (by kernel_rfl) (by kernel_rfl) (by kernel_rfl) (fun _ _ _ h => h) (Or.inl ⟨by kernel_rfl, ?_⟩) hS ?_; rotate_left 1; (focus ((intro w' hS'; clear hS'; go_simp; try with_reducible rfl); done))
  try simp only [List.setIfInBounds_toArray, List.set_cons_zero, List.set_cons_succ]
  refine takeH (i := 4) (d := 7) (v := ?_) rfl rfl (by kernel_rfl) (by kernel_rfl) (by kernel_rfl) (fun _ _ _ h => h) (Or.inl ⟨by kernel_rfl, ?_⟩) hS ?_; rotate_left 1; (focus ((intro w' hS'; obtain ⟨z0, z1, z2, z3, z4⟩ := HC.out w' hS'.1; clear hS'; go_simp; try with_reducible rfl); done))
  try simp only [List.setIfInBounds_toArray, List.set_cons_zero, List.set_cons_succ]
  refine takeH (i := 6) (d := 9) (v := ?_) rfl rfl (by kernel_rfl) (by kernel_rfl) (by kernel_rfl) (fun _ _ _ h => h) (Or.inl ⟨by kernel_rfl, ?_⟩) hS ?_; rotate_left 1; (focus ((intro w' hS'; clear hS'; go_simp; try with_reducible rfl); done))
  try simp only [List.setIfInBounds_toArray, List.set_cons_zero, List.set_cons_succ]
  refine takeH (i := 7) (d := 10) (v := ?_) rfl rfl (by kernel_rfl) (by kernel_rfl) (by kernel_rfl) (fun _ _ _ h => h) (Or.inl ⟨by kernel_rfl, ?_⟩) hS ?_; rotate_left 1; (focus ((intro w' hS'; obtain ⟨z0, z1, z2, z3, z4⟩ := HC.out w' hS'.1; clear hS'; go_simp; try with_reducible rfl); done))
  try simp only [List.setIfInBounds_toArray, List.set_cons_zero, List.set_cons_succ]
  refine takeH (i := 8) (d := 11) (v := ?_) rfl rfl (by kernel_rfl) (by kernel_rfl) (by kernel_rfl) (fun _ _ _ h => h) (Or.inl ⟨by kernel_rfl, ?_⟩) hS ?_; rotate_left 1; (focus ((intro w' hS'; clear hS'; go_simp; try with_reducible rfl); done))
  try simp only [List.setIfInBounds_toArray, List.set_cons_zero, List.set_cons_succ]
  refine takeH (i := 9) (d := 12) (v := ?_) rfl rfl (by kernel_rfl) (by kernel_rfl) (by kernel_rfl) (fun _ _ _ h => h) (Or.inl ⟨by kernel_rfl, ?_⟩) hS ?_; rotate_left 1; (focus ((intro w' hS'; obtain ⟨z0, z1, z2, z3, z4⟩ := HC.out w' hS'.1; clear hS'; go_simp; try with_reducible rfl); done))
  try simp only [List.setIfInBounds_toArray, List.set_cons_zero, List.set_cons_succ]
  refine takeH (i := 10) (d := 13) (v := ?_) rfl rfl (by kernel_rfl) (by kernel_rfl) (by kernel_rfl) (fun _ _ _ h => h) (Or.inl ⟨by kernel_rfl, ?_⟩) hS ?_; rotate_left 1; (focus ((intro w' hS'; clear hS'; go_simp; try with_reducible rfl); done))
  try simp only [List.setIfInBounds_toArray, List.set_cons_zero, List.set_cons_succ]
  refine takeH (i := 11) (d := 14) (v := ?_) rfl rfl (by kernel_rfl) (by kernel_rfl) (by kernel_rfl) (fun _ _ _ h => h) (Or.inl ⟨by kernel_rfl, ?_⟩) hS ?_; rotate_left 1; (focus ((intro w' hS'; obtain ⟨z0, z1, z2, z3, z4⟩ := HC.out w' hS'.1; clear hS'; go_simp; try with_reducible rfl); done))
  try simp only [List.setIfInBounds_toArray, List.set_cons_zero, List.set_cons_succ]
  refine wpAnyH_ready (rs := [5]) (by kernel_rfl) (by simp) ?_
  refine AllReadyH.cons rfl (fun K hK => ?_) AllReadyH.nil
  go_simp
  refine (HIDS.out _ (B0.out.trans (hS.1.mono (by omega)))).mono ?_
  rintro x w2 ⟨A5, c5, rfl, hr5, hp5, hb⟩
  have lo := hS.1.size
  rw [SZ.out] at lo
  have LO := bx lo
  clear lo
  have R5 := bx hr5; have P5 := bx hp5; have HB5 := bx hb
  clear hr5 hp5 hb
  refine hK.out _ _ ?_ (fun hS2 => ?_)
  · exact ⟨hS.1.trans (HB5.out.mono (Nat.le_trans (by omega) LO.out)), by obtain ⟨old, ho7, hko⟩ := hS.2; exact ⟨old, ho7, (HB5.out.block _ (blk_lt hko)).trans hko⟩⟩
  clear hK K hS; have hS := hS2; clear hS2
  try simp only [Act.put, List.setIfInBounds_toArray, List.set_cons_zero, List.set_cons_succ]
  refine wpAnyH_ready (rs := [12]) (by kernel_rfl) (by simp) ?_
  refine readyH_list rfl (fun K hK => ?_) AllReadyH.nil
  refine wpList_build2 rfl 49 [(0, .tmp 5), (1, .tmp 8), (2, .tmp 10), (3, .tmp 12), (4, .tmp 14)] rfl _ rfl _ (HBU.out A5 c5) ?_
  show wpList _ _ K [] (Act.put _ (some 15) (.agg (RC A5 c5))) _
  refine hK.out _ _ ?_ (fun hS2 => ?_)
  · exact hS
  clear hK K hS; have hS := hS2; clear hS2
  try simp only [Act.put, List.setIfInBounds_toArray, List.set_cons_zero, List.set_cons_succ]
  refine wpAnyH_ready (rs := [13]) (by kernel_rfl) (by simp) ?_
  refine readyH_list rfl (fun K hK => ?_) AllReadyH.nil
  have hS8 := hS
  obtain ⟨hS1, old, ho7, hko⟩ := hS8
  refine store_all (cs := RC A5 c5) 49 (.tmp 2) (.tmp 15) rfl rfl rfl rfl hko (HIS.out A5 c5) (by rw [ho7]; exact HRS.out A5 c5) (HONE.out A5 c5) ?_
  intro w9 hu9
  have R9 := bx hu9.same
  have RT := bx (R5.out.upd_ne hu9 (fun p hp => by have := P5.out p hp; have := LO.out; omega))
  have BF := bx (hS1.trans (hu9.below (Nat.le_refl _)))
  clear hu9 hko ho7
  show wpList _ _ K [] (Act.put _ none undef) w9
  refine hK.out _ _ ?_ (fun hS2 => ?_)
  · exact ⟨BF.out, _, HRS.out A5 c5, R9.out⟩
  clear hK K hS; have hS := hS2; clear hS2
  try simp only [Act.put, List.setIfInBounds_toArray, List.set_cons_zero, List.set_cons_succ]
  refine wpAnyH_done (by kernel_rfl) ?_ _
  go_wp2_with fail
  refine bodyPost_ret (v := .agg (RC A5 c5)) (results_agg (cs := RC A5 c5) rfl _ _ (w.heap.size + 1) 49 _ rfl R9.out Tryd.underlying49 rfl (HIS.out A5 c5)) rfl ?_
  exact CO.out A5 c5 _ RT.out (B0.out.trans (BF.out.mono (by omega)))
end Go.Proofs.YtoompcgdhokdlaaDoor
