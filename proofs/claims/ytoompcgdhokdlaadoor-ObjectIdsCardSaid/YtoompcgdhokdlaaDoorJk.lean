/- Objects: what an object names is there in its data (plain); the walk over ObjectIds. Objects: the walk over ObjectIds. -/
import Derived.Test.YtoompcgdhokdlaaDoorJj
set_option linter.unusedSimpArgs false
set_option linter.unusedVariables false
namespace Go.Proofs.YtoompcgdhokdlaaDoor
open Go.RowKit

/-- Names stand in data, one behind the other, from a place on. -/
def Placed (ds : List Int) : Nat → List (List Int) → Prop
  | _, [] => True
  | at0, l :: ls => ∃ p, at0 ≤ p ∧ p + 32 ≤ ds.length ∧ (ds.drop p).take 32 = l ∧ Placed ds (p + 32) ls
theorem Placed.mono {ds : List Int} {a b : Nat} {ls : List (List Int)} (h : Placed ds a ls) (hb : b ≤ a) : Placed ds b ls := by
  cases ls with
  | nil => trivial
  | cons l ls =>
    obtain ⟨p, h1, h2⟩ := h
    exact ⟨p, by omega, h2⟩
theorem sub_at {a l b : List Int} (h : l.length = 32) : ((a ++ l ++ b).drop a.length).take 32 = l := by
  rw [List.append_assoc, List.drop_left', ← h, List.take_left']
  · rfl
  · rfl
theorem placed_app {E : Type} (f x g : E → List Int) (hf : ∀ e, f e = x e ++ g e) : ∀ (L : List E) (pre post : List Int), (∀ e ∈ L, (g e).length = 32) → Placed (pre ++ L.flatMap f ++ post) pre.length (L.map g)
  | [], _, _, _ => trivial
  | e :: L, pre, post, h => by
    have he := h e (by simp)
    have e0 : pre ++ (e :: L).flatMap f ++ post = (pre ++ x e) ++ g e ++ (L.flatMap f ++ post) := by
      rw [List.flatMap_cons, hf e]; simp [List.append_assoc]
    have e1 : pre ++ (e :: L).flatMap f ++ post = (pre ++ f e) ++ L.flatMap f ++ post := by
      rw [List.flatMap_cons]; simp [List.append_assoc]
    have ih := placed_app f x g hf L (pre ++ f e) post fun y hy => h y (by simp [hy])
    rw [← e1] at ih
    refine ⟨(pre ++ x e).length, by rw [List.length_append]; omega, ?_, ?_, ?_⟩
    · rw [e0, List.length_append, List.length_append (bs := L.flatMap f ++ post), List.length_append (bs := g e)]
      rw [List.length_append] at *
      omega
    · rw [e0]; exact sub_at he
    · refine ih.mono ?_
      rw [List.length_append, List.length_append, hf e, List.length_append, he]
      omega
theorem placed_links {k : Int} {ds : List Int} (hB : IsB ds) : Placed ds 0 (linksO k ds) := by
  unfold linksO
  split
  · trivial
  · split
    · trivial
    · split
      · unfold treeIds
        split
        · rename_i h
          rw [treeErr, if_neg (by decide)] at h
          obtain ⟨_, h2⟩ := fresh_ok h
          obtain ⟨_, hd, _⟩ := tree_made h2
          have hid : ∀ e ∈ tnL ds, e.id.length = 32 := fun e he => (entsR_all _ _ (rRest_isB hB 0 2) e he).1
          have hl : (List.range (tnL ds).length).flatMap (fun i => entB (entF (tnL ds) i)) = (tnL ds).flatMap entB := by
            have e1 : (tnL ds) = (List.range (tnL ds).length).map (entF (tnL ds)) := by
              apply List.ext_getElem (by simp)
              intro i h1 h2
              simp [entF, List.getD_eq_getElem?_getD, h1]
            conv => rhs; rw [e1, List.flatMap_map]
          have e0 : ds = be ((tnL ds).length : Int) 2 ++ (tnL ds).flatMap entB ++ [] := by
            conv => lhs; rw [hd]
            rw [treeUp, hl, List.append_nil]
          have := placed_app entB (fun e => [dirB e.dir] ++ textB e.name) (fun e => e.id) (fun e => rfl) (tnL ds) (be ((tnL ds).length : Int) 2) [] hid
          rw [← e0] at this
          exact this.mono (Nat.zero_le _)
        · trivial
      · split
        · split
          · rename_i h
            rw [markErr, if_neg (by decide)] at h
            obtain ⟨_, h2⟩ := fresh_ok h
            obtain ⟨_, hd, _⟩ := mark_made h2
            have hx : (mkId ds).length = 32 := idR_length _ _
            have := placed_app (fun e : List Int => e) (fun _ => []) (fun e => e) (fun e => rfl) [mkId ds] [] (textB (strOfNums (mkN ds)) ++ textB (strOfNums (mkT ds))) (fun e he => by obtain rfl : e = mkId ds := (by simpa using he); exact hx)
            simp only [List.flatMap_cons, List.flatMap_nil, List.append_nil, List.nil_append] at this
            rw [← List.append_assoc, ← hd] at this
            exact this
          · trivial
        · split
          · split
            · rename_i h
              rw [chgErr, if_neg (by decide)] at h
              obtain ⟨_, h2⟩ := fresh_ok h
              obtain ⟨_, hd, _⟩ := chg_made h2
              have hall : ∀ e ∈ cgP ds, e.length = 32 ∧ IsB e := idsR_all _ _ (rRest_isB (rRest_isB hB 0 32) _ 1)
              have hx : (idR ds 0).length = 32 := idR_length _ _
              obtain ⟨post, hp⟩ : ∃ post, ds = idR ds 0 ++ [((cgP ds).length : Int)] ++ (cgP ds).flatMap (fun e => e) ++ post := by
                refine ⟨be (num (stO (cg3 ds) 8)) 8 ++ textB (strOfNums (stT (cg4 ds))) ++ textB (strOfNums (stT (cg5 ds))), ?_⟩
                have hl : chIds (idF (cgP ds)) (cgP ds).length = cgP ds := by
                  apply List.ext_getElem (by simp [chIds])
                  intro i h1 h2
                  simp [chIds, idF, List.getD_eq_getElem?_getD, h2]
                conv => lhs; rw [hd]
                show chUp (idR ds 0) (idF (cgP ds)) (cgP ds).length (cgP ds).length ++ _ ++ _ ++ _ = _
                rw [chUp, hl]
                simp [List.flatMap, List.append_assoc, chgR]
              have := placed_app (fun e : List Int => e) (fun _ => []) (fun e => e) (fun e => rfl) (cgP ds) (idR ds 0 ++ [((cgP ds).length : Int)]) post (fun e he => (hall e he).1)
              rw [← hp, List.map_id'] at this
              have hlen := congrArg List.length hp
              simp only [List.length_append, hx, List.length_cons, List.length_nil] at hlen
              refine ⟨0, Nat.le_refl _, by omega, ?_, this.mono (by rw [List.length_append, hx]; show 32 ≤ 33; decide)⟩
              have h5 := sub_at (a := []) (l := idR ds 0) (b := [((cgP ds).length : Int)] ++ (cgP ds).flatMap (fun e => e) ++ post) hx
              have e9 : [] ++ idR ds 0 ++ ([((cgP ds).length : Int)] ++ (cgP ds).flatMap (fun e => e) ++ post) = ds := by
                conv => rhs; rw [hp]
                simp [List.append_assoc]
              rw [e9] at h5
              exact h5
            · trivial
          · trivial
theorem links_ok {k : Int} {ds : List Int} (h : checkO k ds ≠ 0) : linksO k ds = [] := by
  unfold checkO at h
  unfold linksO
  split
  · rfl
  · rename_i h1
    rw [if_neg h1] at h
    split
    · rfl
    · rename_i h2
      rw [if_neg h2] at h
      split
      · rename_i h3
        rw [if_pos h3] at h
        rw [treeIds, if_neg h]
      · rename_i h3
        rw [if_neg h3] at h
        split
        · rename_i h4
          rw [if_pos h4] at h
          rw [if_neg h]
        · rename_i h4
          rw [if_neg h4] at h
          split
          · rename_i h5
            rw [if_pos h5] at h
            rw [if_neg h]
          · rfl
end Go.Proofs.YtoompcgdhokdlaaDoor

set_option linter.unusedSimpArgs false
set_option linter.unusedVariables false
namespace Go.Proofs.YtoompcgdhokdlaaDoor
open Go.RowKit

theorem exec_load_all {P : Program} {o : Oper} {a : Act} {w : World} (ty : TypeId) (x : Operand) {g : Nat} {t : TypeId} {cs : Array Value} {d : TypeDesc} (ho : o.op = .load ty x) (hx : a.eval x = .pointer (some ⟨g, 0, none⟩)) (hg : w.heap[g]? = some (.cells cs t (0, 0)))
    (hu : P.underlying ty = some d) (hd : (match d with | .struct _ | .array _ _ => true | _ => false) = true) (hi : (P.info? ty).map (·.size) = some cs.size) : (execOp a.eval o).run P w = .ok (.value (.agg cs)) w := by
  unfold execOp
  simp only [ho, hx, Instr.loadAt, Instr.sureAddr, Sem.run_bind, Sem.run_pure, Result.andThen_ok, run_loadVar_span w g 0 t ty cs cs.size d hg hu hd hi (by omega), extract_whole]
theorem exec_bin_agg {P : Program} {o : Oper} {a : Act} {w : World} (op : BinOp) (t t2 : TypeId) (x y : Operand) (xs ys : Array Value) (ho : o.op = .binOp op t x y t2) (hx : a.eval x = .agg xs) (hy : a.eval y = .agg ys) (hm : P.eqGuardType P.depth t = false) {v : Value} (h : (binOp op t (.agg xs) (.agg ys)).run P w = .ok v w) : (execOp a.eval o).run P w = .ok (.value v) w := by
  unfold execOp
  simp only [ho, hx, hy, Sem.run_bind, Sem.run_pure, run_eqGuard_agg w op t x y xs ys hm, h, Result.andThen_ok]
theorem links_len {k : Int} {ds : List Int} (hB : IsB ds) : (linksO k ds).length ≤ 65536 := by
  have h1 : (tnL ds).length ≤ 65536 := by
    have hnum : 0 ≤ num (stO (ds, 0) 2) ∧ num (stO (ds, 0) 2) < 65536 := num_lt _ (rOut_isB hB 0 2) 2 (rOut_m _ _ 2)
    have hle : (tnL ds).length ≤ tnN ds := entsR_le _ _
    have : tnN ds ≤ 65535 := by rw [tnN]; omega
    omega
  have h2 : (cgP ds).length ≤ 255 := by
    have b1 : IsB (cg1 ds).1 := rRest_isB hB 0 32
    have hnum : 0 ≤ num (stO (cg1 ds) 1) ∧ num (stO (cg1 ds) 1) < 256 := num_lt _ (rOut_isB b1 _ 1) 1 (rOut_m _ _ 1)
    have hle : (cgP ds).length ≤ cgN ds := idsR_le _ _
    have : cgN ds ≤ 255 := by rw [cgN]; omega
    omega
  unfold linksO treeIds
  repeat' split
  all_goals simp
  all_goals omega
theorem id_guard : Tryd.prog.eqGuardType Tryd.prog.depth 24 = false := by kernel_rfl
theorem take32_len {ds : List Int} {p : Nat} (h : p + 32 ≤ ds.length) : ((ds.drop p).take 32).length = 32 := by rw [List.length_take, List.length_drop]; omega
set_option maxRecDepth 100000 in
set_option maxHeartbeats 4000000 in
theorem idsLaw_any (k : Int) (A : Option Addr) (n cap : Nat) (ds : List Int) (w : World) (hM : MaxAt w) (hrd : RdB w A n ds) (hnil : A = none → cap = 0) (hB : IsB ds) (hnc : n ≤ cap) (hcm : cap ≤ 9223372036854775807) :
    Calls Tryd.prog 6 #[.agg (objC k (.slice A n cap))] w fun e w' => e = .returned (.bool true) ∧ Below w.heap.size w w' := by
  obtain ⟨w0, hw0⟩ : ∃ w0, w0 = w.alloc (.cells (objC k (.slice A n cap)) 35) := ⟨_, rfl⟩
  have K0 : Bx (w0.heap[w.heap.size]? = some (.cells (objC k (.slice A n cap)) 35 (0, 0))) := ⟨by rw [hw0]; exact blk_new w _⟩
  have D0 : Bx (Below w.heap.size w w0) := ⟨by rw [hw0]; exact ((Below.refl _ _).alloc (Nat.le_refl _) _)⟩
  have hsz0 : w0.heap.size = w.heap.size + 1 := by rw [hw0]; simp
  have SZ0 := bx hsz0; clear hsz0
  have HW := bx hw0; clear hw0
  have z0 : w0.cell? ⟨w.heap.size, 0, none⟩ = some (.int .i64 k) := blk_cell K0.out rfl
  have z1 : w0.cell? ⟨w.heap.size, 1, none⟩ = some (.slice A n cap) := blk_cell K0.out rfl
  have hl := hrd.1
  by_cases hall : n ≤ 20000 ∧ 0 ≤ k ∧ k ≤ 255
  · obtain ⟨a1, a2, a3⟩ := hall
    have h1 : ¬ (20000 : Int) < n := by omega
    have h2 : ¬ k < 0 := by omega
    have h3 : ¬ 255 < k := by omega
    have HRD := bx hrd; have HN := bx hnil; have HB := bx hB; have HM := bx hM
    have HPL := bx (placed_links (k := k) hB); have HLK := bx (links_ok (k := k) (ds := ds)); have HLA := bx (links_all (k := k) hB)
    have HLL := bx (links_len (k := k) hB)
    have HIDO : Bx (idO k ds = shaOf (putO k ds)) := ⟨rfl⟩
    have HPB := bx (putO_isB k hB)
    have HPN : Bx ((putO k ds).length = 5 + n) := ⟨by simp [putO, be_length, hl]; omega⟩
    have ILEN : Bx ((idO k ds).length = 32) := ⟨shaOf_len _⟩
    have HONE : Bx (∀ w', Calls Tryd.prog 17 #[] w' fun e w'' => e = .returned (.bool true) ∧ Below w'.heap.size w' w'') := ⟨one10_any⟩
    have HLNK : Bx (∀ w', Below w.heap.size w w' → Calls Tryd.prog 22 #[.agg (objC k (.slice A n cap))] w' (LinksP w' (linksO k ds))) := ⟨fun w' hb => links_any k A n cap ds w' (hM.below hb) (hrd.below hb) hnil hB⟩
    have HCHK : Bx (∀ w', Below w.heap.size w w' → Calls Tryd.prog 27 #[.agg (objC k (.slice A n cap))] w' fun e w'' => e = .returned (.int .i64 (checkO k ds)) ∧ Below w'.heap.size w' w'') := ⟨fun w' hb => check_any k A n cap ds w' (hM.below hb) (hrd.below hb) hnil hB⟩
    have HPUT : Bx (∀ w', Below w.heap.size w w' → Calls Tryd.prog 24 #[.agg (objC k (.slice A n cap))] w' fun e w'' => ∃ r, e = .returned r ∧ OwB w'' w'.heap.size r (putO k ds) ∧ Below w'.heap.size w' w'') := ⟨fun w' hb => put10_any k A n cap ds w' (hrd.below hb) hnil (by omega)⟩
    have HOID : Bx (∀ w', Below w.heap.size w w' → Calls Tryd.prog 28 #[.agg (objC k (.slice A n cap))] w' fun e w'' => e = .returned (.agg (ints .u8 (idO k ds))) ∧ Below w'.heap.size w' w'') := ⟨fun w' hb => oid_any k A n cap ds w' (hrd.below hb) hnil hB hnc (by omega)⟩
    have HSUM : Bx (∀ w' A2 c2, RdB w' A2 (5 + n) (putO k ds) → 5 + n ≤ c2 → Calls Tryd.prog 29 #[.slice A2 (5 + n) c2] w' fun e w'' => e = .returned (.agg (ints .u8 (idO k ds))) ∧ Below w'.heap.size w' w'') := ⟨fun w' A2 c2 h1 h2 => by rw [HIDO.out]; exact sum_any A2 (5 + n) c2 _ w' h1 HPB.out h2 (by omega)⟩
    generalize linksO k ds = L at *
    generalize checkO k ds = ck at *
    generalize idO k ds = ID at *
    generalize putO k ds = pb at *
    have hneq : ∀ w', (binOp .neq 24 (.agg (ints .u8 ID)) (.agg (ints .u8 ID))).run Tryd.prog w' = .ok (.bool false) w' := fun w' => by
      rw [neq_ints Tryd.underlying24 Tryd.underlying5 (by kernel_rfl) ID ID ILEN.out ILEN.out w']
      simp
    have HNEQ := bx hneq
    clear hM hrd hnil hB hl hneq HIDO
    go_enter Tryd.func6, Tryd.ntmps6
    go_upto_region 1 with fail
    rw [← HW.out]
    clear HW
    go_upto_region 3 with fail
    clear z0 z1
    have hS0 : w0.drew.heap[w.heap.size]? = some (.cells (objC k (.slice A n cap)) 35 (0, 0)) ∧ Below w.heap.size w w0.drew := ⟨K0.out, D0.out.drew⟩
    refine wp_region_held_drew (S := (fun w' => w'.heap[w.heap.size]? = some (.cells (objC k (.slice A n cap)) 35 (0, 0)) ∧ Below w.heap.size w w')) (by kernel_rfl) hS0 (fun hS => ?_)
    refine takeH (i := 0) (d := 20) (v := .agg (objC k (.slice A n cap))) rfl rfl (by kernel_rfl) (by kernel_rfl) (by kernel_rfl) (fun _ _ _ h => h) (Or.inl ⟨by kernel_rfl, fun w' hS' => exec_load_all 35 (.tmp 1) rfl rfl hS'.1 Tryd.underlying35 rfl (obj_is _ _ _ _)⟩) hS ?_
    try simp only [List.setIfInBounds_toArray, List.set_cons_zero, List.set_cons_succ]
    refine takeH (i := 2) (d := 22) (v := .agg (objC k (.slice A n cap))) rfl rfl (by kernel_rfl) (by kernel_rfl) (by kernel_rfl) (fun _ _ _ h => h) (Or.inl ⟨by kernel_rfl, fun w' hS' => exec_load_all 35 (.tmp 1) rfl rfl hS'.1 Tryd.underlying35 rfl (obj_is _ _ _ _)⟩) hS ?_
    try simp only [List.setIfInBounds_toArray, List.set_cons_zero, List.set_cons_succ]
    refine wpAnyH_ready (rs := [1]) (by kernel_rfl) (by simp) ?_
    refine AllReadyH.cons rfl (fun K hK => ?_) AllReadyH.nil
    go_simp
    refine (HOID.out _ hS.2).mono ?_
    rintro x w4 ⟨rfl, hb⟩
    have Z4 := bx (show w4.heap[w.heap.size]? = some (.cells (objC k (.slice A n cap)) 35 (0, 0)) ∧ Below w.heap.size w w4 from ⟨(hb.block _ (blk_lt hS.1)).trans hS.1, hS.2.trans (hb.mono hS.2.size)⟩)
    clear hb
    refine hK.out _ _ ?_ (fun hS2 => ?_)
    · exact Z4.out
    clear hK K hS; have hS := hS2; clear hS2
    try simp only [Act.put, List.setIfInBounds_toArray, List.set_cons_zero, List.set_cons_succ]
    refine wpAnyH_ready (rs := [3]) (by kernel_rfl) (by simp) ?_
    refine AllReadyH.cons rfl (fun K hK => ?_) AllReadyH.nil
    go_simp
    refine (HPUT.out _ hS.2).mono ?_
    rintro x w5 ⟨r, rfl, ho, hb⟩
    obtain ⟨A5, c5, rfl, hr5, hc5, _⟩ := ho.rdn HPN.out
    have R5 := bx hr5
    have C5 := bx hc5
    have Z5 := bx (show w5.heap[w.heap.size]? = some (.cells (objC k (.slice A n cap)) 35 (0, 0)) ∧ Below w.heap.size w w5 from ⟨(hb.block _ (blk_lt hS.1)).trans hS.1, hS.2.trans (hb.mono hS.2.size)⟩)
    clear hb ho hr5 hc5
    refine hK.out _ _ ?_ (fun hS2 => ?_)
    · exact Z5.out
    clear hK K hS; have hS := hS2; clear hS2
    try simp only [Act.put, List.setIfInBounds_toArray, List.set_cons_zero, List.set_cons_succ]
    refine wpAnyH_ready (rs := [4]) (by kernel_rfl) (by simp) ?_
    refine AllReadyH.cons rfl (fun K hK => ?_) AllReadyH.nil
    go_simp
    refine (HSUM.out _ A5 c5 R5.out C5.out).mono ?_
    rintro x w6 ⟨rfl, hb⟩
    have Z6 := bx (show w6.heap[w.heap.size]? = some (.cells (objC k (.slice A n cap)) 35 (0, 0)) ∧ Below w.heap.size w w6 from ⟨(hb.block _ (blk_lt hS.1)).trans hS.1, hS.2.trans (hb.mono hS.2.size)⟩)
    clear hb
    refine hK.out _ _ ?_ (fun hS2 => ?_)
    · exact Z6.out
    clear hK K hS; have hS := hS2; clear hS2
    try simp only [Act.put, List.setIfInBounds_toArray, List.set_cons_zero, List.set_cons_succ]
    refine takeH (i := 5) (d := 25) (v := .bool false) rfl rfl (by kernel_rfl) (by kernel_rfl) (by kernel_rfl) (fun _ _ _ h => h) (Or.inl ⟨by kernel_rfl, fun w' hS' => exec_bin_agg .neq 24 24 (.tmp 21) (.tmp 24) _ _ rfl rfl rfl id_guard (HNEQ.out w')⟩) hS ?_
    try simp only [List.setIfInBounds_toArray, List.set_cons_zero, List.set_cons_succ]
    refine wpAnyH_done (by kernel_rfl) ?_ _
    clear hS hS0 Z4 Z5 R5 C5 HOID HPUT HSUM HPN HPB HNEQ ILEN K0 D0
    have K6 := bx Z6.out.1; have D6 := bx Z6.out.2
    clear Z6
    go_wp2_with (first
      | ((with_reducible refine at_load 26 ?_); go_must (refine load_all 35 (.tmp 1) rfl rfl rfl K6.out Tryd.underlying35 rfl (obj_is _ _ _ _) ?_)))
    refine (HLNK.out w6 D6.out).mono ?_
    rintro e w1 ⟨A1, c1, rfl, hr, hp, hb⟩
    have R1 := bx hr
    replace K6 := bx (((hb).block _ (blk_lt K6.out)).trans K6.out)
    replace D6 := bx (D6.out.trans ((hb).mono D6.out.size))
    have hln : L.length ≤ 65536 := HLL.out
    clear hb hr hp HLNK
    go_wp2_with fail
    go_loopw [4, 5] (fun a i wr => ∃ t j : Nat, a = .int .i64 t ∧ i = .int .i64 j ∧ t ≤ n ∧ j ≤ L.length ∧ Placed ds t (L.drop j) ∧ Below w1.heap.size w1 wr) (fun _ i _ => (L.length - intOf i).toNat)
    case atStart => exact ⟨0, 0, rfl, rfl, Nat.zero_le _, Nat.zero_le _, HPL.out, Below.refl _ _⟩
    case round =>
      rename World => wo
      obtain ⟨t, j, rfl, rfl, ht, hj, hpl, hb⟩ := hrel
      have F := bx hb
      have K := bx ((hb.block _ (blk_lt K6.out)).trans K6.out); have D := bx (D6.out.trans (hb.mono D6.out.size))
      clear hb
      by_cases hlt : j < L.length
      · have hlt' : (j : Int) < L.length := by omega
        have hdj : L.drop j = L[j] :: L.drop (j + 1) := List.drop_eq_getElem_cons hlt
        rw [hdj] at hpl
        obtain ⟨p, hp1, hp2, hp3, hp4⟩ := hpl
        obtain ⟨b1, o1, rfl, hb1, hr1⟩ := R1.out.at hlt
        have HR1 := bx (fun w' h => hr1 w' h)
        have hIJ : idsV L j = u8s (L[j]) := by simp [idsV, idF, List.getD_eq_getElem?_getD, hlt]
        have hlj := HLA.out _ (List.getElem_mem hlt)
        obtain ⟨lj, hlje⟩ : ∃ lj, L[j] = lj := ⟨_, rfl⟩
        rw [hlje] at hp3 hlj hIJ
        have HP3 := bx hp3; have HP4 := bx hp4; have HIJ := bx hIJ; have HLJ := bx hlj
        have hA : ∃ b0 o0, A = some ⟨b0, o0, none⟩ := by
          obtain ⟨b, o, e, _⟩ := HRD.out.2 (by have := HRD.out.1; omega)
          exact ⟨b, o, e⟩
        obtain ⟨b0, o0, rfl⟩ := hA
        have hn32 : p + 32 ≤ n := by have := HRD.out.1; omega
        clear hr1 hdj hp3 hp4 hIJ hlj hlje
        go_wp2_with fail
        go_loopw [4] (fun a wr => ∃ t : Nat, a = .int .i64 t ∧ t ≤ p ∧ Below w1.heap.size w1 wr) (fun a _ => (p - intOf a).toNat)
        case atStart => exact ⟨t, rfl, hp1, F.out⟩
        case round =>
          rename World => wq
          obtain ⟨q, rfl, hq, hb⟩ := hrel
          have FQ := bx hb
          have KQ := bx ((hb.block _ (blk_lt K6.out)).trans K6.out); have DQ := bx (D6.out.trans (hb.mono D6.out.size))
          clear hb
          have z1 : wq.drew.cell? ⟨w.heap.size, 1, none⟩ = some (.slice (some ⟨b0, o0, none⟩) n cap) := blk_cell (w := wq.drew) KQ.out rfl
          have w32 : IntKind.i64.wrap ((q : Int) + 32) = (q : Int) + 32 := IntWalk.i64_in _ (by omega)
          have le32 : (q : Int) + 32 ≤ n := by omega
          have q0 : (0 : Int) ≤ (q : Int) + 32 := by omega
          have qn : ((q : Int) + 32).toNat = q + 32 := by omega
          have sl := sl_lh (P := Tryd.prog) (t := 33) Tryd.underlying33 Tryd.sizeOf5 (some ⟨b0, o0, none⟩) n cap q (q + 32) (by omega) (by omega) .i64 .i64 q ((q : Int) + 32) rfl (by omega)
          rw [if_neg (by omega), show q + 32 - q = 32 by omega] at sl
          have sl2 := arr_slice_all (P := Tryd.prog) (t := 24) Tryd.underlying24 Tryd.sizeOf5 b1 (o1 + j * 32)
          have hs1 := rdB_sub q 32 (HRD.out.below DQ.out) (by omega)
          have cv1 := str_of (w := wq.drew) (hs1.below ((Below.refl _ _).drew)) (cap - q)
          have hg := HR1.out wq FQ.out
          rw [HIJ.out] at hg
          have hs2 := row_rdB (pre := []) (id := lj) (post := []) hg (by simp) (Nat.lt_of_lt_of_le hb1 FQ.out.size)
          rw [HLJ.out.1] at hs2
          have cv2 := str_of (w := wq.drew) (hs2.below ((Below.refl _ _).drew)) 32
          have hdec := str_dec (a := (ds.drop q).take 32) (b := lj) (isB_take (isB_drop HB.out q) 32) HLJ.out.2
          simp only [addr_add, Option.map_some] at sl
          simp only [List.length_nil, Nat.add_zero] at cv2
          clear hs1 hs2 hg
          have e1 : IntKind.i64.wrap ((q : Int) + 1) = (q : Int) + 1 := IntWalk.i64_in _ (by omega)
          have e2 : IntKind.i64.wrap ((j : Int) + 1) = (j : Int) + 1 := IntWalk.i64_in _ (by omega)
          have gt32 : ¬ (n : Int) < (q : Int) + 32 := by omega
          by_cases heq : (ds.drop q).take 32 = lj
          · rw [decide_eq_true heq] at hdec
            generalize strOfNums ((ds.drop q).take 32) = s1 at *
            generalize strOfNums lj = s2 at *
            clear heq
            go_upto_region 10 with fail
            try simp only [Act.put]
            refine region_quietC (fun w' => w' = wq.drew) (by kernel_rfl) (by kernel_rfl) rfl ?_
            repeat (first
              | (refine quiet_take (v := ?_) _ rfl (by kernel_rfl) ?_ ?_; rotate_left 1; (focus (first | (intro w' hw'; clear hw'; unfold Oper.quietAt; go_simp; done) | (intro w' hw'; clear hw'; unfold Oper.quietAt; go_simp; with_reducible rfl) | (intro w' hw'; subst hw'; unfold Oper.quietAt; go_simp; first | done | with_reducible rfl))); try simp only [List.setIfInBounds_toArray, List.set_cons_zero, List.set_cons_succ]))
            refine wpQuiet_nil ?_
            rintro w' rfl
            go_wp2_with fail
            go_roundw
            case rel => exact ⟨q + 32, j + 1, by first | rfl | go_num, by first | rfl | go_num, by omega, by omega, HP4.out.mono (by omega), FQ.out.drew⟩
            case measure => simp only [intOf]; omega
          · rw [decide_eq_false heq] at hdec
            have hqp : q < p := by
              rcases Nat.lt_or_ge q p with h | h
              · exact h
              · obtain rfl : q = p := by omega
                exact absurd HP3.out heq
            generalize strOfNums ((ds.drop q).take 32) = s1 at *
            generalize strOfNums lj = s2 at *
            clear heq
            go_upto_region 10 with fail
            try simp only [Act.put]
            refine region_quietC (fun w' => w' = wq.drew) (by kernel_rfl) (by kernel_rfl) rfl ?_
            repeat (first
              | (refine quiet_take (v := ?_) _ rfl (by kernel_rfl) ?_ ?_; rotate_left 1; (focus (first | (intro w' hw'; clear hw'; unfold Oper.quietAt; go_simp; done) | (intro w' hw'; clear hw'; unfold Oper.quietAt; go_simp; with_reducible rfl) | (intro w' hw'; subst hw'; unfold Oper.quietAt; go_simp; first | done | with_reducible rfl))); try simp only [List.setIfInBounds_toArray, List.set_cons_zero, List.set_cons_succ]))
            refine wpQuiet_nil ?_
            rintro w' rfl
            go_wp2_with fail
            go_roundw
            case rel => exact ⟨q + 1, by first | rfl | go_num, by omega, FQ.out.drew⟩
            case measure => simp only [intOf]; omega
      · have hlt' : ¬ (j : Int) < L.length := by omega
        have HCK := bx (HCHK.out wo D.out)
        clear HCHK
        by_cases hck : ck = 0
        · subst hck
          go_wp2_with (first
            | ((with_reducible refine at_load 65 ?_); go_must (refine load_all 35 (.tmp 1) rfl rfl rfl K.out Tryd.underlying35 rfl (obj_is _ _ _ _) ?_)))
          refine HCK.out.mono ?_
          rintro e w7 ⟨rfl, hb⟩
          replace D := bx (D.out.trans ((hb).mono D.out.size))
          clear hb HCK
          go_wp2_with fail
          refine (HONE.out w7).mono ?_
          rintro e w8 ⟨rfl, hb⟩
          replace D := bx (D.out.trans ((hb).mono D.out.size))
          clear hb
          go_wp2_with fail
          go_ret
          exact ⟨rfl, D.out⟩
        · have h0 : (ck == 0) = false := by simp [hck]
          have h9 : (ck != 0) = true := by simp [hck]
          have hL0 : L.length = 0 := by rw [HLK.out hck]; rfl
          rw [hL0] at *
          clear hck
          go_wp2_with (first
            | ((with_reducible refine at_load 65 ?_); go_must (refine load_all 35 (.tmp 1) rfl rfl rfl K.out Tryd.underlying35 rfl (obj_is _ _ _ _) ?_)))
          refine HCK.out.mono ?_
          rintro e w7 ⟨rfl, hb⟩
          replace D := bx (D.out.trans ((hb).mono D.out.size))
          clear hb HCK
          go_wp2_with fail
          refine (HONE.out w7).mono ?_
          rintro e w8 ⟨rfl, hb⟩
          replace D := bx (D.out.trans ((hb).mono D.out.size))
          clear hb
          go_wp2_with fail
          go_ret
          exact ⟨rfl, D.out⟩
  · have hout : 20000 < n ∨ (n ≤ 20000 ∧ k < 0) ∨ (n ≤ 20000 ∧ 0 ≤ k ∧ 255 < k) := by omega
    clear hrd hM hnil hB hl
    rcases hout with h1 | ⟨h1, h2⟩ | ⟨h1, h2, h3⟩
    · have h1' : (20000 : Int) < n := by omega
      clear hall
      go_enter Tryd.func6, Tryd.ntmps6
      go_upto_region 1 with fail
      rw [← HW.out]
      clear HW
      go_wp2_with fail
      go_ret
      exact ⟨rfl, D0.out⟩
    · have h1' : ¬ (20000 : Int) < n := by omega
      clear hall
      go_enter Tryd.func6, Tryd.ntmps6
      go_upto_region 1 with fail
      rw [← HW.out]
      clear HW
      go_wp2_with fail
      go_ret
      exact ⟨rfl, D0.out⟩
    · have h1' : ¬ (20000 : Int) < n := by omega
      have h2' : ¬ k < 0 := by omega
      clear hall
      go_enter Tryd.func6, Tryd.ntmps6
      go_upto_region 1 with fail
      rw [← HW.out]
      clear HW
      go_wp2_with fail
      go_ret
      exact ⟨rfl, D0.out⟩
end Go.Proofs.YtoompcgdhokdlaaDoor
