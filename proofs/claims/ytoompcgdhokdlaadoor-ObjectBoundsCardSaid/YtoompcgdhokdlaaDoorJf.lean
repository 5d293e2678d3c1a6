/- Objects: OfChange. -/
import Derived.Test.YtoompcgdhokdlaaDoorJe
import Derived.Carry
set_option linter.unusedSimpArgs false
set_option linter.unusedVariables false
namespace Go.Proofs.YtoompcgdhokdlaaDoor
open Go.RowKit Go.MapKept

theorem step_mapUpdate {P : Program} {ops : Array Oper} {rest : List Oper} {o : Oper} {a : Act} {w : World} {Q : Exit → Act → World → Prop} (hgd : Region.wanted o (yielded ops a.tmps) = true) (t : TypeId) (m k v : Operand) (ho : o.op = .mapUpdate t m k v)
    (w' : World) (hr : (Instr.mapUpdate t (a.eval m) (a.eval k) (a.eval v)).run P w = .ok () w') (h : wpList P ops Q rest (a.put o.dst undef) w') : wpList P ops Q (o :: rest) a w := by
  refine wpList_want hgd fun K hK => ?_
  unfold Oper.wp execOp
  simp only [ho, Sem.run_bind, hr, Result.andThen_ok]
  exact hK _ _ h
theorem at_mapUp {P : Program} {ops : Array Oper} {rest : List Oper} {t T : TypeId} {m k v : Operand} {dst : Option Nat} {pos : String} {after : Array Edge} {gd : Option (Nat × Bool)} {a : Act} {w : World} {Q : Exit → Act → World → Prop}
    (h : wpList P ops Q ({ dst := dst, op := .mapUpdate t m k v, type := T, pos := pos, after := after, guard := gd } :: rest) a w) : wpList P ops Q ({ dst := dst, op := .mapUpdate t m k v, type := T, pos := pos, after := after, guard := gd } :: rest) a w := h
theorem OwB.ne_map {w : World} {base b : Nat} {v : Value} {bs : List Int} {ids : List (List Int)} (h : OwB w base v bs) (hm : MapA w b ids) : some b ≠ v.ownBlock := by
  obtain ⟨_, ⟨rfl, _⟩ | ⟨g, cap, cur, rfl, _, hg, _⟩⟩ := h
  · intro e; cases e
  · obtain ⟨es, c, hb, _⟩ := hm
    intro e
    cases e
    rw [hg] at hb
    cases hb
theorem OwB.upd_ne {w w' : World} {base : Nat} {v : Value} {bs : List Int} (h : OwB w base v bs) {g : Nat} {o : Obj} (hu : Upd w w' g o) (hne : some g ≠ v.ownBlock) : OwB w' base v bs := by
  obtain ⟨h1, h2 | ⟨b, cap, cur, e, hb, hh, h2⟩⟩ := h
  · exact ⟨h1, .inl h2⟩
  · refine ⟨h1, .inr ⟨b, cap, cur, e, hb, (hu.other b fun e2 => hne ?_).trans hh, h2⟩⟩
    rw [e, ← e2]
    rfl
/-- A commit. -/
structure ChgA where
  tree : List Int
  A : Option Addr
  n : Nat
  cap : Nat
  P : Nat → List Int
  time : Int
  author : ByteArray
  text : ByteArray
def ChgA.cells (c : ChgA) : List Value := u8s c.tree ++ [.slice c.A c.n c.cap, .int .u64 c.time, .string c.author, .string c.text]
def chIds (P : Nat → List Int) (j : Nat) : List (List Int) := (List.range j).map P
def dupUp (P : Nat → List Int) (j : Nat) : Bool := (List.range j).any fun i => decide (P i ∈ chIds P i)
def chUp (tree : List Int) (P : Nat → List Int) (n j : Nat) : List Int := tree ++ [(n : Int)] ++ (chIds P j).flatten
def ChgA.d (c : ChgA) : List Int := chUp c.tree c.P c.n c.n ++ be c.time 8 ++ textB c.author ++ textB c.text
def changeO (c : ChgA) : Int × List Int × Int := if 4 < c.n then (0, [], 3) else if dupUp c.P c.n = true then (0, [], 2) else fitO 3 c.d
def ChgA.Full (c : ChgA) (w : World) : Prop := c.tree.length = 32 ∧ RowAt w c.A c.n 32 (fun j => u8s (c.P j)) ∧ ∀ j, j < c.n → (c.P j).length = 32
theorem chIds_succ (P : Nat → List Int) (j : Nat) : chIds P (j + 1) = chIds P j ++ [P j] := by simp [chIds, List.range_succ]
theorem dupUp_succ (P : Nat → List Int) (j : Nat) : dupUp P (j + 1) = (dupUp P j || decide (P j ∈ chIds P j)) := by simp [dupUp, List.range_succ]
theorem dupUp_at (P : Nat → List Int) {j n : Nat} (hj : j < n) (h : P j ∈ chIds P j) : dupUp P n = true := by
  simp only [dupUp, List.any_eq_true, List.mem_range, decide_eq_true_eq]
  exact ⟨j, hj, h⟩
theorem chUp_succ (tree : List Int) (P : Nat → List Int) (n j : Nat) : chUp tree P n (j + 1) = chUp tree P n j ++ P j := by simp [chUp, chIds_succ]
theorem chUp_length (tree : List Int) (P : Nat → List Int) (n : Nat) : ∀ j, (∀ i, i < j → (P i).length = 32) → (chUp tree P n j).length = tree.length + 1 + 32 * j
  | 0, _ => by simp [chUp, chIds]
  | j + 1, h => by
    rw [chUp_succ, List.length_append, chUp_length tree P n j fun i hi => h i (by omega), h j (by omega)]
    omega
theorem chg_get {c : ChgA} (h : c.tree.length = 32) : c.cells.toArray[32]? = some (.slice c.A c.n c.cap) ∧ c.cells.toArray[33]? = some (.int .u64 c.time) ∧ c.cells.toArray[34]? = some (.string c.author) ∧ c.cells.toArray[35]? = some (.string c.text) := by
  have e : (u8s c.tree).length = 32 := by rw [u8s_length, h]
  refine ⟨?_, ?_, ?_, ?_⟩ <;>
  · rw [List.getElem?_toArray, ChgA.cells, List.getElem?_append_right (by omega), e]; rfl
set_option maxRecDepth 100000 in
set_option maxHeartbeats 4000000 in
theorem ofchange_any (c : ChgA) (w : World) (hF : c.Full w) : Calls Tryd.prog 10 #[.agg c.cells.toArray] w (ObjO w (changeO c)) := by
  obtain ⟨tree, PA, n, cap, P, time, author, text⟩ := c
  obtain ⟨htree, hrow, hids⟩ := hF
  dsimp only at htree hrow hids
  have hget := chg_get (c := ⟨tree, PA, n, cap, P, time, author, text⟩) htree
  obtain ⟨CC, hCC⟩ : ∃ CC, (ChgA.cells ⟨tree, PA, n, cap, P, time, author, text⟩).toArray = CC := ⟨_, rfl⟩
  have hcd : (ChgA.cells ⟨tree, PA, n, cap, P, time, author, text⟩) = [] ++ u8s tree ++ [.slice PA n cap, .int .u64 time, .string author, .string text] := rfl
  have hrdt : ∀ w' : World, w'.heap[w.heap.size]? = some (.cells CC 28 (0, 0)) → RdB w' (some ⟨w.heap.size, 0, none⟩) 32 tree := fun w' hk => by
    rw [← hCC] at hk
    have h9 := cells_rd hk hcd
    rw [htree] at h9
    exact h9
  rw [hCC] at hget ⊢
  obtain ⟨w0, hw0⟩ : ∃ w0, w0 = (w.alloc (.cells CC 28)).alloc (.cells (objC 0 (.slice none 0 0)) 35) := ⟨_, rfl⟩
  have K0 : Bx (w0.heap[w.heap.size]? = some (.cells CC 28 (0, 0))) := ⟨by rw [hw0]; exact heap_alloc2_old w _ _⟩
  have K1 : Bx (w0.heap[w.heap.size + 1]? = some (.cells (objC 0 (.slice none 0 0)) 35 (0, 0))) := ⟨by rw [hw0]; exact heap_alloc2_new w _ _⟩
  have B0 : Bx (Below w.heap.size w w0) := ⟨by rw [hw0]; exact ((Below.refl _ _).alloc (Nat.le_refl _) _).alloc (by simp) _⟩
  have SZ : Bx (w0.heap.size = w.heap.size + 2) := ⟨by rw [hw0]; simp⟩
  have LIT : Bx ((w.alloc (.cells CC 28)).alloc (.cells #[.int .i64 0, .slice none 0 0] 35) = w0) := ⟨hw0.symm⟩
  have HC : Bx (∀ w', Below (w.heap.size + 1) w0 w' → w'.cell? ⟨w.heap.size, 32, none⟩ = some (.slice PA n cap) ∧ w'.cell? ⟨w.heap.size, 33, none⟩ = some (.int .u64 time) ∧ w'.cell? ⟨w.heap.size, 34, none⟩ = some (.string author) ∧ w'.cell? ⟨w.heap.size, 35, none⟩ = some (.string text)) := ⟨fun w' hb => by
    have hk := (hb.block _ (Nat.lt_succ_self _)).trans K0.out
    exact ⟨blk_cell hk hget.1, blk_cell hk hget.2.1, blk_cell hk hget.2.2.1, blk_cell hk hget.2.2.2⟩⟩
  have HRD : Bx (∀ w', Below w0.heap.size w0 w' → RdB w' (some ⟨w.heap.size, 0, none⟩) 32 tree) := ⟨fun w' hb => hrdt w' ((hb.block _ (blk_lt K0.out)).trans K0.out)⟩
  have sl := arr_slice_all (P := Tryd.prog) (t := 24) Tryd.underlying24 Tryd.sizeOf5 w.heap.size 0
  have z0 := (HC.out w0 (Below.refl _ _)).1
  have HROW := bx hrow; have HIDS := bx hids; have HTR := bx htree
  have HOUT : Bx (∀ (r : Int × List Int × Int) A c' w', changeO ⟨tree, PA, n, cap, P, time, author, text⟩ = r → RdB w' A r.2.1.length r.2.1 → (A = none → c' = 0) → r.2.1.length ≤ c' → Below w.heap.size w w' → ObjO w (changeO ⟨tree, PA, n, cap, P, time, author, text⟩) (.returned (.tuple #[.agg (objC r.1 (.slice A r.2.1.length c')), .int .i64 r.2.2])) w') := ⟨fun r A c' w' hr h1 h2 h3 h4 => by subst hr; exact ⟨A, c', rfl, h1, h2, h3, h4⟩⟩
  generalize ObjO w (changeO ⟨tree, PA, n, cap, P, time, author, text⟩) = OUT at *
  have HCO : Bx (changeO ⟨tree, PA, n, cap, P, time, author, text⟩ = if 4 < n then (0, [], 3) else if dupUp P n = true then (0, [], 2) else fitO 3 (chUp tree P n n ++ be time 8 ++ textB author ++ textB text)) := ⟨rfl⟩
  generalize changeO ⟨tree, PA, n, cap, P, time, author, text⟩ = CO at *
  clear hw0 hrow hids htree hrdt hget hCC hcd
  by_cases hbig : 4 < n
  · have hbig' : (4 : Int) < n := by omega
    have HT : Bx (CO = (0, [], 3)) := ⟨by rw [HCO.out, if_pos hbig]⟩
    go_enter Tryd.func10, Tryd.ntmps10
    go_upto_region 1 with fail
    rw [LIT.out]
    clear LIT
    go_wp2_with (first
      | ((with_reducible refine at_build 12 ?_); go_must (refine wpList_build2 rfl 35 [] rfl [] rfl (objC 0 (.slice none 0 0)) obj_built0 ?_))
      | ((with_reducible refine at_store (.tmp 2) (.tmp 12) ?_); go_must (refine store_all (cs := objC 0 (.slice none 0 0)) 35 (.tmp 2) (.tmp 12) rfl rfl rfl rfl K1.out (obj_is _ _ _ _) rfl (obj_one _ _ _ _) ?_; intro w9 hu9; have B9 := bx (B0.out.trans (hu9.below (Nat.le_succ _))); have R9 := bx hu9.same; clear hu9)))
    refine bodyPost_ret (results_ct (cs := objC 0 (.slice none 0 0)) rfl _ _ (w.heap.size + 1) 35 _ _ rfl rfl R9.out Tryd.underlying35 rfl (obj_is _ _ _ _)) rfl ?_
    exact HOUT.out (0, [], 3) none 0 _ HT.out ⟨rfl, fun h => absurd h (by decide)⟩ (fun _ => rfl) (Nat.le_refl _) B9.out
  · have hbig' : ¬ (4 : Int) < n := by omega
    have hn8 : (n : Int) % 256 = n := by omega
    have hn9 : IntKind.u8.wrap (n : Int) = n := IntWalk.u8_in _ (by omega)
    have hmm := @run_makeMap Tryd.prog
    go_enter Tryd.func10, Tryd.ntmps10
    go_upto_region 1 with fail
    rw [LIT.out]
    clear LIT
    go_upto_region 3 with fail
    clear z0 hbig'
    go_cut [4] from 8 to 21 (fun v wc => OwB wc (w.heap.size + 2) v (tree ++ [(n : Int)]) ∧ Below w0.heap.size w0 wc)
    case first =>
      have hS0 : Below w0.heap.size w0 w0.drew := (Below.refl _ _).drew
      refine wp_region_held_drew (S := (fun w' => Below w0.heap.size w0 w')) (by kernel_rfl) hS0 (fun hS => ?_)
      refine takeH (i := 0) (d := 13) (v := ?_) rfl rfl (by kernel_rfl) (by kernel_rfl) (by kernel_rfl) (fun _ _ _ h => h) (Or.inl ⟨by kernel_rfl, ?_⟩) hS ?_; rotate_left 1; (focus ((intro w' hS'; clear hS'; go_simp; try with_reducible rfl); done))
      try simp only [List.setIfInBounds_toArray, List.set_cons_zero, List.set_cons_succ]
      refine takeH (i := 1) (d := 14) (v := ?_) rfl rfl (by kernel_rfl) (by kernel_rfl) (by kernel_rfl) (fun _ _ _ h => h) (Or.inl ⟨by kernel_rfl, ?_⟩) hS ?_; rotate_left 1; (focus ((intro w' hS'; clear hS'; go_simp; try with_reducible rfl); done))
      try simp only [List.setIfInBounds_toArray, List.set_cons_zero, List.set_cons_succ]
      refine takeH (i := 3) (d := 16) (v := ?_) rfl rfl (by kernel_rfl) (by kernel_rfl) (by kernel_rfl) (fun _ _ _ h => h) (Or.inl ⟨by kernel_rfl, ?_⟩) hS ?_; rotate_left 1; (focus ((intro w' hS'; clear hS'; go_simp; try with_reducible rfl); done))
      try simp only [List.setIfInBounds_toArray, List.set_cons_zero, List.set_cons_succ]
      refine takeH (i := 4) (d := 17) (v := ?_) rfl rfl (by kernel_rfl) (by kernel_rfl) (by kernel_rfl) (fun _ _ _ h => h) (Or.inl ⟨by kernel_rfl, ?_⟩) hS ?_; rotate_left 1; (focus ((intro w' hS'; obtain ⟨z0, z1, z2, z3⟩ := HC.out w' (hS'.mono (by rw [SZ.out]; omega)); clear hS'; go_simp; try with_reducible rfl); done))
      try simp only [List.setIfInBounds_toArray, List.set_cons_zero, List.set_cons_succ]
      refine takeH (i := 5) (d := 18) (v := ?_) rfl rfl (by kernel_rfl) (by kernel_rfl) (by kernel_rfl) (fun _ _ _ h => h) (Or.inl ⟨by kernel_rfl, ?_⟩) hS ?_; rotate_left 1; (focus ((intro w' hS'; clear hS'; go_simp; try with_reducible rfl); done))
      try simp only [List.setIfInBounds_toArray, List.set_cons_zero, List.set_cons_succ]
      refine takeH (i := 6) (d := 19) (v := ?_) rfl rfl (by kernel_rfl) (by kernel_rfl) (by kernel_rfl) (fun _ _ _ h => h) (Or.inl ⟨by kernel_rfl, ?_⟩) hS ?_; rotate_left 1; (focus ((intro w' hS'; clear hS'; go_simp; try with_reducible rfl); done))
      try simp only [List.setIfInBounds_toArray, List.set_cons_zero, List.set_cons_succ]
      refine wpAnyH_ready (rs := [2, 7]) (by kernel_rfl) (by simp) ?_
      refine AllReadyH.cons rfl (fun K hK => ?_) ?_
      · go_simp
        refine (bclone_any ⟨w.heap.size, 0, none⟩ 32 32 tree _ (HRD.out _ hS) (by decide)).mono ?_
        rintro x w2 ⟨v2, rfl, ho, hb⟩
        have O2 := bx (ho.base_le (show w.heap.size + 2 ≤ _ from SZ.out ▸ hS.size)); have HB2 := bx hb
        clear ho hb
        refine hK.out _ _ ?_ (fun hS2 => ?_)
        · exact hS.trans (HB2.out.mono hS.size)
        clear hK K hS; have hS := hS2; clear hS2
        try simp only [Act.put, List.setIfInBounds_toArray, List.set_cons_zero, List.set_cons_succ]
        refine wpAnyH_ready (rs := [7]) (by kernel_rfl) (by simp) ?_
        refine AllReadyH.cons rfl (fun K hK => ?_) AllReadyH.nil
        go_simp
        refine hK.out _ _ ?_ (fun hS2 => ?_)
        · exact hS.alloc hS.size _
        clear hK K hS; have hS := hS2; clear hS2
        try simp only [Act.put, List.setIfInBounds_toArray, List.set_cons_zero, List.set_cons_succ]
        refine wpAnyH_ready (rs := [8]) (by kernel_rfl) (by simp) ?_
        refine readyH_list rfl (fun K hK => ?_) AllReadyH.nil
        refine wpList_app rfl (.tmp 15) (.tmp 20) rfl (w.heap.size + 2) v2 tree rfl (by first | exact O2.out | exact O2.out.alloc _) (some ⟨_, 0, none⟩) 1 1 [(n : Int)] rfl (by first | exact rdB_one _ _ _ rfl | exact (rdB_one _ _ _ rfl).below HB2.out | exact ((rdB_one _ _ _ rfl).below ((Below.refl _ _).drew)).below HB2.out) (fun h => by cases h) (by rw [HTR.out]; decide) (SZ.out ▸ hS.size) ?_
        intro v3 w3 h1 h2
        have O3 := bx h1
        have D3 := bx ((show OwB _ (w.heap.size + 2) v2 tree by first | exact O2.out | exact O2.out.alloc _).below h2 hS (Nat.le_of_eq SZ.out) hS.size)
        clear h1 h2
        show wpList _ _ K [] (Act.put _ (some 21) v3) w3
        refine hK.out _ _ ?_ (fun hS2 => ?_)
        · exact D3.out
        clear hK K hS; have hS := hS2; clear hS2
        try simp only [Act.put, List.setIfInBounds_toArray, List.set_cons_zero, List.set_cons_succ]
        refine takeH (i := 9) (d := 4) (v := ?_) rfl rfl (by kernel_rfl) (by kernel_rfl) (by kernel_rfl) (fun _ _ _ h => h) (Or.inl ⟨by kernel_rfl, ?_⟩) hS ?_; rotate_left 1; (focus ((intro w' hS'; clear hS'; go_simp; try with_reducible rfl); done))
        try simp only [List.setIfInBounds_toArray, List.set_cons_zero, List.set_cons_succ]
        refine wpAnyH_done (by kernel_rfl) ?_ _
        clear hS0 hS hmm
        go_wp2_with fail
        go_meet
        case rel => exact ⟨O3.out, D3.out⟩
      refine AllReadyH.cons rfl (fun K hK => ?_) ?_
      · go_simp
        refine hK.out _ _ ?_ (fun hS2 => ?_)
        · exact hS.alloc hS.size _
        clear hK K hS; have hS := hS2; clear hS2
        try simp only [Act.put, List.setIfInBounds_toArray, List.set_cons_zero, List.set_cons_succ]
        refine wpAnyH_ready (rs := [2]) (by kernel_rfl) (by simp) ?_
        refine AllReadyH.cons rfl (fun K hK => ?_) AllReadyH.nil
        go_simp
        refine (bclone_any ⟨w.heap.size, 0, none⟩ 32 32 tree _ (HRD.out _ hS) (by decide)).mono ?_
        rintro x w2 ⟨v2, rfl, ho, hb⟩
        have O2 := bx (ho.base_le (show w.heap.size + 2 ≤ _ from SZ.out ▸ hS.size)); have HB2 := bx hb
        clear ho hb
        refine hK.out _ _ ?_ (fun hS2 => ?_)
        · exact hS.trans (HB2.out.mono hS.size)
        clear hK K hS; have hS := hS2; clear hS2
        try simp only [Act.put, List.setIfInBounds_toArray, List.set_cons_zero, List.set_cons_succ]
        refine wpAnyH_ready (rs := [8]) (by kernel_rfl) (by simp) ?_
        refine readyH_list rfl (fun K hK => ?_) AllReadyH.nil
        refine wpList_app rfl (.tmp 15) (.tmp 20) rfl (w.heap.size + 2) v2 tree rfl (by first | exact O2.out | exact O2.out.alloc _) (some ⟨_, 0, none⟩) 1 1 [(n : Int)] rfl (by first | exact rdB_one _ _ _ rfl | exact (rdB_one _ _ _ rfl).below HB2.out | exact ((rdB_one _ _ _ rfl).below ((Below.refl _ _).drew)).below HB2.out) (fun h => by cases h) (by rw [HTR.out]; decide) (SZ.out ▸ hS.size) ?_
        intro v3 w3 h1 h2
        have O3 := bx h1
        have D3 := bx ((show OwB _ (w.heap.size + 2) v2 tree by first | exact O2.out | exact O2.out.alloc _).below h2 hS (Nat.le_of_eq SZ.out) hS.size)
        clear h1 h2
        show wpList _ _ K [] (Act.put _ (some 21) v3) w3
        refine hK.out _ _ ?_ (fun hS2 => ?_)
        · exact D3.out
        clear hK K hS; have hS := hS2; clear hS2
        try simp only [Act.put, List.setIfInBounds_toArray, List.set_cons_zero, List.set_cons_succ]
        refine takeH (i := 9) (d := 4) (v := ?_) rfl rfl (by kernel_rfl) (by kernel_rfl) (by kernel_rfl) (fun _ _ _ h => h) (Or.inl ⟨by kernel_rfl, ?_⟩) hS ?_; rotate_left 1; (focus ((intro w' hS'; clear hS'; go_simp; try with_reducible rfl); done))
        try simp only [List.setIfInBounds_toArray, List.set_cons_zero, List.set_cons_succ]
        refine wpAnyH_done (by kernel_rfl) ?_ _
        clear hS0 hS hmm
        go_wp2_with fail
        go_meet
        case rel => exact ⟨O3.out, D3.out⟩
      exact AllReadyH.nil
    case rest =>
      rename World => w1
      obtain ⟨ho, hd⟩ := hcut
      have O1 := bx ho; have D1 := bx hd
      clear ho hd
      go_upto_region 5 with fail
      obtain ⟨w2, hw2⟩ : ∃ w2, w2 = w1.alloc (.map #[] 0) := ⟨_, rfl⟩
      have M2 : Bx (MapA w2 w1.heap.size []) := ⟨by rw [hw2]; exact mapA_made w1⟩
      have D2 : Bx (Below w0.heap.size w0 w2) := ⟨by rw [hw2]; exact D1.out.alloc D1.out.size _⟩
      have O2 : Bx (OwB w2 (w.heap.size + 2) u4 (tree ++ [(n : Int)])) := ⟨by rw [hw2]; exact O1.out.alloc _⟩
      have LM : Bx (w.heap.size + 2 ≤ w1.heap.size) := ⟨SZ.out ▸ D1.out.size⟩
      rw [← hw2]
      have z0 := (HC.out w2 (D2.out.mono (by rw [SZ.out]; omega))).1
      clear hw2 hmm O1 D1 hn8 hn9
      go_wp2_with fail
      clear z0
      go_loopw [4, 26] (fun v i wr => ∃ j : Nat, j ≤ n ∧ i = .int .i64 j ∧ OwB wr (w.heap.size + 2) v (chUp tree P n j) ∧ MapA wr w1.heap.size (chIds P j) ∧ dupUp P j = false ∧ Below w0.heap.size w0 wr) (fun _ i _ => (n - intOf i).toNat)
      case atStart => exact ⟨0, Nat.zero_le _, rfl, by simpa [chUp, chIds] using O2.out, M2.out, rfl, D2.out⟩
      case round =>
        obtain ⟨j, hj, rfl, ho, hm, hdup, hb⟩ := hrel
        clear O2 M2 D2
        have O1 := bx ho; have M1 := bx hm; have D1 := bx hb; have HDUP := bx hdup
        have LEN := bx (chUp_length tree P n j fun i hi => HIDS.out i (by omega))
        rw [HTR.out] at LEN
        clear ho hm hdup hb
        by_cases hlt : j < n
        · have hlt' : (j : Int) < n := by omega
          obtain ⟨b1, o1, rfl, hb1, hr1⟩ := HROW.out.at hlt
          have HR1 := bx (hr1 wr (B0.out.trans (D1.out.mono B0.out.size)))
          have hx := HIDS.out j hlt
          have HS1 := bx (chUp_succ tree P n j); have HS2 := bx (chIds_succ P j); have HS3 := bx (dupUp_succ P j); have HS4 := bx (fun h => dupUp_at P hlt h)
          generalize P j = x at *
          have HX := bx hx
          have HI : Bx ((Tryd.prog.info? 24).map (·.size) = some (u8s x).length) := ⟨by rw [u8s_length, hx]; kernel_rfl⟩
          have HI2 : Bx ((Tryd.prog.info? 24).map (·.size) = some (ints .u8 x).size) := ⟨by rw [ints_size, hx]; kernel_rfl⟩
          have HZ : Bx ((ints .u8 x).size = 32) := ⟨by rw [ints_size, hx]⟩
          clear hr1 hx
          go_upto_region 8 with (first
            | ((with_reducible refine at_load 29 ?_); go_must (refine wpList_load_mid rfl 24 (.tmp 28) rfl b1 (o1 + j * 32) rfl (u8s x) _ HR1.out Tryd.underlying24 rfl HI.out ?_))
            | ((with_reducible refine at_store (.tmp 7) (.tmp 29) ?_); go_must (refine store_all (cs := ints .u8 x) 24 (.tmp 7) (.tmp 29) rfl rfl rfl rfl (blk_new wr _) HI2.out (by rw [HZ.out]; rfl) (ints_oneCell _ _) ?_; intro w3 hu3; have X3 := bx hu3.same; have E3 := bx (((Below.refl wr.heap.size wr).alloc (Nat.le_refl _) _).trans (hu3.below (Nat.le_refl _))); clear hu3)))
          have M3 := bx (M1.out.same (E3.out.block _ M1.out.lt))
          have O3 := bx (O1.out.kept E3.out)
          have D3 := bx (D1.out.trans (E3.out.mono D1.out.size))
          have K3 := bx ((D3.out.block _ (blk_lt K1.out)).trans K1.out)
          have LMX := bx M1.out.lt
          have LX := bx (blk_lt X3.out)
          have hlk := mapA_lookup M3.out x HX.out
          clear O1 D1 M1 E3 HR1 HI
          by_cases hdd : x ∈ chIds P j
          · have HT : Bx (CO = (0, [], 2)) := ⟨by rw [HCO.out, if_neg hbig, if_pos (HS4.out hdd)]⟩
            rw [decide_eq_true hdd] at hlk
            clear hdd
            go_wp2_with (first
              | ((with_reducible refine at_load 31 ?_); go_must (refine load_all 24 (.tmp 7) rfl rfl rfl X3.out Tryd.underlying24 rfl HI2.out ?_))
              | ((with_reducible refine at_build 33 ?_); go_must (refine wpList_build2 rfl 35 [] rfl [] rfl (objC 0 (.slice none 0 0)) obj_built0 ?_))
              | ((with_reducible refine at_store (.tmp 2) (.tmp 33) ?_); go_must (refine store_all (cs := objC 0 (.slice none 0 0)) 35 (.tmp 2) (.tmp 33) rfl rfl rfl rfl K3.out (obj_is _ _ _ _) rfl (obj_one _ _ _ _) ?_; intro w9 hu9; have B9 := bx (B0.out.trans ((D3.out.mono B0.out.size).trans (hu9.below (Nat.le_succ _)))); have R9 := bx hu9.same; clear hu9)))
            refine bodyPost_ret (results_ct (cs := objC 0 (.slice none 0 0)) rfl _ _ (w.heap.size + 1) 35 _ _ rfl rfl R9.out Tryd.underlying35 rfl (obj_is _ _ _ _)) rfl ?_
            exact HOUT.out (0, [], 2) none 0 _ HT.out ⟨rfl, fun h => absurd h (by decide)⟩ (fun _ => rfl) (Nat.le_refl _) B9.out
          · have hdf := decide_eq_false hdd
            rw [hdf] at hlk
            obtain ⟨w4, o4, hup, hu4, hm4⟩ := mapA_push M3.out x HX.out hdd
            have HUP := bx hup
            have X4 := bx (hu4.blk X3.out (Nat.ne_of_gt LMX.out))
            have O4 := bx (O3.out.upd_ne hu4 (O3.out.ne_map M3.out))
            have M4 := bx hm4
            have D4 := bx (D3.out.trans (hu4.below (by rw [SZ.out]; exact LM.out)))
            have L4 := bx (show w4.heap.size = w3.heap.size from hu4.size)
            have sl2 := arr_slice_all (P := Tryd.prog) (t := 24) Tryd.underlying24 Tryd.sizeOf5 wr.heap.size 0
            have HDF := bx hdf
            clear hup hu4 hm4 hdd hdf
            go_wp2_with (first
              | ((with_reducible refine at_load 31 ?_); go_must (refine load_all 24 (.tmp 7) rfl rfl rfl X3.out Tryd.underlying24 rfl HI2.out ?_))
              | ((with_reducible refine at_load 35 ?_); go_must (refine load_all 24 (.tmp 7) rfl rfl rfl X3.out Tryd.underlying24 rfl HI2.out ?_))
              | ((with_reducible refine at_mapUp ?_); go_must (refine step_mapUpdate rfl 88 (.tmp 34) (.tmp 35) (.const (.bool true)) rfl w4 HUP.out ?_))
              | ((with_reducible refine at_call 38 ?_); go_must (refine wpList_app rfl (.tmp 36) (.tmp 37) rfl (w.heap.size + 2) _ (chUp tree P n j) rfl O4.out (some ⟨wr.heap.size, 0, none⟩) 32 32 x rfl (row_rd X4.out HX.out) (fun h => by cases h) (by rw [LEN.out]; omega) (Nat.le_trans LM.out (Nat.le_trans (Nat.le_of_lt LMX.out) (by rw [L4.out]; exact Nat.le_of_lt LX.out))) ?_; intro v5 w5 g1 g2; have O5 := bx g1; have D5 := bx (O4.out.below g2 D4.out (Nat.le_of_eq SZ.out) D4.out.size); have M5 := bx (M4.out.same (g2.block _ M4.out.lt (O4.out.ne_map M4.out))); clear g1 g2)))
            go_roundw
            case rel => exact ⟨j + 1, by omega, by first | rfl | go_num, by rw [HS1.out]; exact O5.out, by rw [HS2.out]; exact M5.out, by rw [HS3.out, HDUP.out, HDF.out]; rfl, D5.out⟩
            case measure => simp only [intOf]; omega
        · have hlt' : ¬ (j : Int) < n := by omega
          obtain rfl : j = n := by omega
          obtain ⟨T1, hT1⟩ : ∃ T1, chUp tree P j j = T1 := ⟨_, rfl⟩
          rw [hT1] at O1 LEN HCO
          obtain ⟨DD, hDD⟩ : ∃ DD, T1 ++ be time 8 ++ textB author ++ textB text = DD := ⟨_, rfl⟩
          rw [hDD, if_neg hbig, if_neg (by rw [HDUP.out]; decide)] at HCO
          obtain ⟨m1, hm1⟩ : ∃ m1, T1.length = m1 := ⟨_, rfl⟩
          obtain ⟨m2, hm2⟩ : ∃ m2, (T1 ++ be time 8).length = m2 := ⟨_, rfl⟩
          obtain ⟨m3, hm3⟩ : ∃ m3, (T1 ++ be time 8 ++ textB author).length = m3 := ⟨_, rfl⟩
          obtain ⟨m, hm⟩ : ∃ m, DD.length = m := ⟨_, rfl⟩
          have HM1 : Bx (m1 ≤ 161) := ⟨by rw [← hm1, LEN.out]; omega⟩
          have HB2 : Bx (m2 ≤ 169) := ⟨by rw [← hm2, List.length_append, hm1, be_length]; have := HM1.out; omega⟩
          have HB3 : Bx (m3 ≤ 16558) := ⟨by rw [← hm3, List.length_append, hm2]; have := HB2.out; have := textB_length author; omega⟩
          have HDD := bx hDD; have HM2 := bx hm2; have HM3 := bx hm3; have HML := bx hm
          obtain ⟨A1, c1, rfl, hr1, hc1, hn1⟩ := O1.out.rdn hm1
          have HR1 := bx hr1; have N1 := bx hn1
          have K3 := bx ((D1.out.block _ (blk_lt K1.out)).trans K1.out)
          have z0 := (HC.out wr (D1.out.mono (by rw [SZ.out]; omega))).1
          clear hT1 hDD hm1 hm2 hm3 hm hr1 hc1 hn1 O1 M1 LEN HRD
          by_cases hf : m ≤ 16384
          · have HT : Bx (CO = (3, DD, 0)) := ⟨by rw [HCO.out, fitO, if_neg (by rw [HML.out]; omega)]⟩
            have HF := bx hf
            clear hf HCO
            go_wp2_with fail
            clear z0
            have hS0 : Below (w.heap.size + 1) w0 wr.drew ∧ w.heap.size + 2 ≤ wr.drew.heap.size ∧ ∃ old : Array Value, old.size = 2 ∧ wr.drew.heap[w.heap.size + 1]? = some (.cells old 35 (0, 0)) := ⟨(D1.out.mono (by rw [SZ.out]; omega)).drew, SZ.out ▸ D1.out.size, _, rfl, K3.out⟩
            refine wp_region_held_drew (S := (fun w' => Below (w.heap.size + 1) w0 w' ∧ w.heap.size + 2 ≤ w'.heap.size ∧ ∃ old : Array Value, old.size = 2 ∧ w'.heap[w.heap.size + 1]? = some (.cells old 35 (0, 0)))) (by kernel_rfl) hS0 (fun hS => ?_)
            refine takeH (i := 0) (d := 40) (v := ?_) rfl rfl (by kernel_rfl) (by kernel_rfl) (by kernel_rfl) (fun _ _ _ h => h) (Or.inl ⟨by kernel_rfl, ?_⟩) hS ?_; rotate_left 1; (focus ((intro w' hS'; clear hS'; go_simp; try with_reducible rfl); done))
            try simp only [List.setIfInBounds_toArray, List.set_cons_zero, List.set_cons_succ]
            refine takeH (i := 1) (d := 41) (v := ?_) rfl rfl (by kernel_rfl) (by kernel_rfl) (by kernel_rfl) (fun _ _ _ h => h) (Or.inl ⟨by kernel_rfl, ?_⟩) hS ?_; rotate_left 1; (focus ((intro w' hS'; clear hS'; go_simp; try with_reducible rfl); done))
            try simp only [List.setIfInBounds_toArray, List.set_cons_zero, List.set_cons_succ]
            refine takeH (i := 2) (d := 42) (v := ?_) rfl rfl (by kernel_rfl) (by kernel_rfl) (by kernel_rfl) (fun _ _ _ h => h) (Or.inl ⟨by kernel_rfl, ?_⟩) hS ?_; rotate_left 1; (focus ((intro w' hS'; obtain ⟨_, z1, z2, z3⟩ := HC.out w' hS'.1; clear hS'; go_simp; try with_reducible rfl); done))
            try simp only [List.setIfInBounds_toArray, List.set_cons_zero, List.set_cons_succ]
            refine takeH (i := 4) (d := 44) (v := ?_) rfl rfl (by kernel_rfl) (by kernel_rfl) (by kernel_rfl) (fun _ _ _ h => h) (Or.inl ⟨by kernel_rfl, ?_⟩) hS ?_; rotate_left 1; (focus ((intro w' hS'; clear hS'; go_simp; try with_reducible rfl); done))
            try simp only [List.setIfInBounds_toArray, List.set_cons_zero, List.set_cons_succ]
            refine takeH (i := 5) (d := 45) (v := ?_) rfl rfl (by kernel_rfl) (by kernel_rfl) (by kernel_rfl) (fun _ _ _ h => h) (Or.inl ⟨by kernel_rfl, ?_⟩) hS ?_; rotate_left 1; (focus ((intro w' hS'; obtain ⟨_, z1, z2, z3⟩ := HC.out w' hS'.1; clear hS'; go_simp; try with_reducible rfl); done))
            try simp only [List.setIfInBounds_toArray, List.set_cons_zero, List.set_cons_succ]
            refine takeH (i := 7) (d := 47) (v := ?_) rfl rfl (by kernel_rfl) (by kernel_rfl) (by kernel_rfl) (fun _ _ _ h => h) (Or.inl ⟨by kernel_rfl, ?_⟩) hS ?_; rotate_left 1; (focus ((intro w' hS'; clear hS'; go_simp; try with_reducible rfl); done))
            try simp only [List.setIfInBounds_toArray, List.set_cons_zero, List.set_cons_succ]
            refine takeH (i := 8) (d := 48) (v := ?_) rfl rfl (by kernel_rfl) (by kernel_rfl) (by kernel_rfl) (fun _ _ _ h => h) (Or.inl ⟨by kernel_rfl, ?_⟩) hS ?_; rotate_left 1; (focus ((intro w' hS'; obtain ⟨_, z1, z2, z3⟩ := HC.out w' hS'.1; clear hS'; go_simp; try with_reducible rfl); done))
            try simp only [List.setIfInBounds_toArray, List.set_cons_zero, List.set_cons_succ]
            refine wpAnyH_ready (rs := [3]) (by kernel_rfl) (by simp) ?_
            refine AllReadyH.cons rfl (fun K hK => ?_) AllReadyH.nil
            go_simp
            refine (wput_any A1 m1 c1 T1 time 8 _ (HR1.out.below ((Below.refl _ _).drew)) N1.out (by have := HM1.out; omega) (by decide)).mono ?_
            rintro x w2 ⟨v2, rfl, ho, hb⟩
            obtain ⟨A2, c2, rfl, hr2, _, hn2⟩ := ho.rdn HM2.out
            have R2 := bx hr2; have N2 := bx hn2
            have S2 := bx (show Below (w.heap.size + 1) w0 w2 ∧ w.heap.size + 2 ≤ w2.heap.size ∧ ∃ old : Array Value, old.size = 2 ∧ w2.heap[w.heap.size + 1]? = some (.cells old 35 (0, 0)) from ⟨hS.1.trans (hb.mono (by have := hS.2.1; omega)), Nat.le_trans hS.2.1 hb.size, by obtain ⟨old, h7, hk⟩ := hS.2.2; exact ⟨old, h7, (hb.block _ (blk_lt hk)).trans hk⟩⟩)
            clear ho hr2 hn2 hb
            refine hK.out _ _ ?_ (fun hS2 => ?_)
            · exact S2.out
            clear hK K hS; have hS := hS2; clear hS2
            try simp only [Act.put, List.setIfInBounds_toArray, List.set_cons_zero, List.set_cons_succ]
            refine wpAnyH_ready (rs := [6]) (by kernel_rfl) (by simp) ?_
            refine AllReadyH.cons rfl (fun K hK => ?_) AllReadyH.nil
            go_simp
            refine (text_any A2 m2 c2 _ author _ R2.out N2.out (by have := HB2.out; omega)).mono ?_
            rintro x w3 ⟨v3, rfl, ho, hb⟩
            obtain ⟨A3, c3, rfl, hr3, _, hn3⟩ := ho.rdn HM3.out
            have R3 := bx hr3; have N3 := bx hn3
            have S3 := bx (show Below (w.heap.size + 1) w0 w3 ∧ w.heap.size + 2 ≤ w3.heap.size ∧ ∃ old : Array Value, old.size = 2 ∧ w3.heap[w.heap.size + 1]? = some (.cells old 35 (0, 0)) from ⟨hS.1.trans (hb.mono (by have := hS.2.1; omega)), Nat.le_trans hS.2.1 hb.size, by obtain ⟨old, h7, hk⟩ := hS.2.2; exact ⟨old, h7, (hb.block _ (blk_lt hk)).trans hk⟩⟩)
            clear ho hr3 hn3 hb
            refine hK.out _ _ ?_ (fun hS2 => ?_)
            · exact S3.out
            clear hK K hS; have hS := hS2; clear hS2
            try simp only [Act.put, List.setIfInBounds_toArray, List.set_cons_zero, List.set_cons_succ]
            refine wpAnyH_ready (rs := [9]) (by kernel_rfl) (by simp) ?_
            refine AllReadyH.cons rfl (fun K hK => ?_) AllReadyH.nil
            go_simp
            refine (text_any A3 m3 c3 _ text _ R3.out N3.out (by have := HB3.out; omega)).mono ?_
            rintro x w4 ⟨v4, rfl, ho, hb⟩
            rw [HDD.out] at ho
            have O4 := bx (ho.base_le hS.2.1)
            obtain ⟨A4, c4, rfl, _, hc4, hn4⟩ := ho.rdn HML.out
            have C4 := bx hc4; have N4 := bx hn4
            have S4 := bx (show Below (w.heap.size + 1) w0 w4 ∧ w.heap.size + 2 ≤ w4.heap.size ∧ ∃ old : Array Value, old.size = 2 ∧ w4.heap[w.heap.size + 1]? = some (.cells old 35 (0, 0)) from ⟨hS.1.trans (hb.mono (by have := hS.2.1; omega)), Nat.le_trans hS.2.1 hb.size, by obtain ⟨old, h7, hk⟩ := hS.2.2; exact ⟨old, h7, (hb.block _ (blk_lt hk)).trans hk⟩⟩)
            clear ho hc4 hn4 hb
            refine hK.out _ _ ?_ (fun hS2 => ?_)
            · exact S4.out
            clear hK K hS; have hS := hS2; clear hS2
            try simp only [Act.put, List.setIfInBounds_toArray, List.set_cons_zero, List.set_cons_succ]
            refine wpAnyH_ready (rs := [10]) (by kernel_rfl) (by simp) ?_
            refine AllReadyH.cons rfl (fun K hK => ?_) AllReadyH.nil
            go_simp
            refine (fit_ok 3 A4 m c4 _ HF.out).mono ?_
            rintro x w5 ⟨rfl, hb⟩
            have O5 := bx (O4.out.kept hb)
            have S5 := bx (show Below (w.heap.size + 1) w0 w5 ∧ w.heap.size + 2 ≤ w5.heap.size ∧ ∃ old : Array Value, old.size = 2 ∧ w5.heap[w.heap.size + 1]? = some (.cells old 35 (0, 0)) from ⟨hS.1.trans (hb.mono (by have := hS.2.1; omega)), Nat.le_trans hS.2.1 hb.size, by obtain ⟨old, h7, hk⟩ := hS.2.2; exact ⟨old, h7, (hb.block _ (blk_lt hk)).trans hk⟩⟩)
            clear hb
            refine hK.out _ _ ?_ (fun hS2 => ?_)
            · exact S5.out
            clear hK K hS; have hS := hS2; clear hS2
            try simp only [Act.put, List.setIfInBounds_toArray, List.set_cons_zero, List.set_cons_succ]
            refine takeH (i := 11) (d := 51) (v := ?_) rfl rfl (by kernel_rfl) (by kernel_rfl) (by kernel_rfl) (fun _ _ _ h => h) (Or.inl ⟨by kernel_rfl, ?_⟩) hS ?_; rotate_left 1; (focus ((intro w' hS'; clear hS'; go_simp; try with_reducible rfl); done))
            try simp only [List.setIfInBounds_toArray, List.set_cons_zero, List.set_cons_succ]
            refine takeH (i := 12) (d := 52) (v := ?_) rfl rfl (by kernel_rfl) (by kernel_rfl) (by kernel_rfl) (fun _ _ _ h => h) (Or.inl ⟨by kernel_rfl, ?_⟩) hS ?_; rotate_left 1; (focus ((intro w' hS'; clear hS'; go_simp; try with_reducible rfl); done))
            try simp only [List.setIfInBounds_toArray, List.set_cons_zero, List.set_cons_succ]
            refine wpAnyH_ready (rs := [13]) (by kernel_rfl) (by simp) ?_
            refine readyH_list rfl (fun K hK => ?_) AllReadyH.nil
            obtain ⟨old, h7, hk⟩ := S5.out.2.2
            refine store_all (cs := objC 3 (.slice A4 m c4)) 35 (.tmp 2) (.tmp 51) rfl rfl rfl rfl hk (obj_is _ _ _ _) (by rw [h7]; rfl) (obj_one _ _ _ _) ?_
            intro w9 hu9
            have R9 := bx hu9.same; have O9 := bx (O5.out.upd hu9 (Nat.lt_succ_self _)); have BF := bx (S5.out.1.trans (hu9.below (Nat.le_refl _))); have L9 := bx (show w.heap.size + 2 ≤ w9.heap.size by rw [hu9.size]; exact S5.out.2.1)
            clear hu9 hk h7
            show wpList _ _ K [] (Act.put _ none undef) w9
            refine hK.out _ _ ?_ (fun hS2 => ?_)
            · exact ⟨BF.out, L9.out, _, rfl, R9.out⟩
            clear hK K hS; have hS := hS2; clear hS2
            try simp only [Act.put, List.setIfInBounds_toArray, List.set_cons_zero, List.set_cons_succ]
            refine takeH (i := 14) (d := 3) (v := ?_) rfl rfl (by kernel_rfl) (by kernel_rfl) (by kernel_rfl) (fun _ _ _ h => h) (Or.inl ⟨by kernel_rfl, ?_⟩) hS ?_; rotate_left 1; (focus ((intro w' hS'; clear hS'; go_simp; try with_reducible rfl); done))
            try simp only [List.setIfInBounds_toArray, List.set_cons_zero, List.set_cons_succ]
            refine wpAnyH_done (by kernel_rfl) ?_ _
            go_wp2_with fail
            refine bodyPost_ret (results_ct (cs := objC 3 (.slice A4 m c4)) rfl _ _ (w.heap.size + 1) 35 _ _ rfl rfl R9.out Tryd.underlying35 rfl (obj_is _ _ _ _)) rfl ?_
            have hm := HML.out
            subst hm
            obtain ⟨A9, c9, e9, hr9, _⟩ := O9.out.rdn rfl
            simp only [Value.slice.injEq, true_and] at e9
            obtain ⟨rfl, rfl⟩ := e9
            exact HOUT.out (3, DD, 0) A4 c4 _ HT.out hr9 N4.out C4.out (B0.out.trans (BF.out.mono (by omega)))
          · have HT : Bx (CO = (0, [], 3)) := ⟨by rw [HCO.out, fitO, if_pos (by rw [HML.out]; omega)]⟩
            have HF := bx (show 16384 < m by omega)
            clear hf HCO
            go_wp2_with fail
            clear z0
            have hS0 : Below (w.heap.size + 1) w0 wr.drew ∧ w.heap.size + 2 ≤ wr.drew.heap.size ∧ ∃ old : Array Value, old.size = 2 ∧ wr.drew.heap[w.heap.size + 1]? = some (.cells old 35 (0, 0)) := ⟨(D1.out.mono (by rw [SZ.out]; omega)).drew, SZ.out ▸ D1.out.size, _, rfl, K3.out⟩
            refine wp_region_held_drew (S := (fun w' => Below (w.heap.size + 1) w0 w' ∧ w.heap.size + 2 ≤ w'.heap.size ∧ ∃ old : Array Value, old.size = 2 ∧ w'.heap[w.heap.size + 1]? = some (.cells old 35 (0, 0)))) (by kernel_rfl) hS0 (fun hS => ?_)
            refine takeH (i := 0) (d := 40) (v := ?_) rfl rfl (by kernel_rfl) (by kernel_rfl) (by kernel_rfl) (fun _ _ _ h => h) (Or.inl ⟨by kernel_rfl, ?_⟩) hS ?_; rotate_left 1; (focus ((intro w' hS'; clear hS'; go_simp; try with_reducible rfl); done))
            try simp only [List.setIfInBounds_toArray, List.set_cons_zero, List.set_cons_succ]
            refine takeH (i := 1) (d := 41) (v := ?_) rfl rfl (by kernel_rfl) (by kernel_rfl) (by kernel_rfl) (fun _ _ _ h => h) (Or.inl ⟨by kernel_rfl, ?_⟩) hS ?_; rotate_left 1; (focus ((intro w' hS'; clear hS'; go_simp; try with_reducible rfl); done))
            try simp only [List.setIfInBounds_toArray, List.set_cons_zero, List.set_cons_succ]
            refine takeH (i := 2) (d := 42) (v := ?_) rfl rfl (by kernel_rfl) (by kernel_rfl) (by kernel_rfl) (fun _ _ _ h => h) (Or.inl ⟨by kernel_rfl, ?_⟩) hS ?_; rotate_left 1; (focus ((intro w' hS'; obtain ⟨_, z1, z2, z3⟩ := HC.out w' hS'.1; clear hS'; go_simp; try with_reducible rfl); done))
            try simp only [List.setIfInBounds_toArray, List.set_cons_zero, List.set_cons_succ]
            refine takeH (i := 4) (d := 44) (v := ?_) rfl rfl (by kernel_rfl) (by kernel_rfl) (by kernel_rfl) (fun _ _ _ h => h) (Or.inl ⟨by kernel_rfl, ?_⟩) hS ?_; rotate_left 1; (focus ((intro w' hS'; clear hS'; go_simp; try with_reducible rfl); done))
            try simp only [List.setIfInBounds_toArray, List.set_cons_zero, List.set_cons_succ]
            refine takeH (i := 5) (d := 45) (v := ?_) rfl rfl (by kernel_rfl) (by kernel_rfl) (by kernel_rfl) (fun _ _ _ h => h) (Or.inl ⟨by kernel_rfl, ?_⟩) hS ?_; rotate_left 1; (focus ((intro w' hS'; obtain ⟨_, z1, z2, z3⟩ := HC.out w' hS'.1; clear hS'; go_simp; try with_reducible rfl); done))
            try simp only [List.setIfInBounds_toArray, List.set_cons_zero, List.set_cons_succ]
            refine takeH (i := 7) (d := 47) (v := ?_) rfl rfl (by kernel_rfl) (by kernel_rfl) (by kernel_rfl) (fun _ _ _ h => h) (Or.inl ⟨by kernel_rfl, ?_⟩) hS ?_; rotate_left 1; (focus ((intro w' hS'; clear hS'; go_simp; try with_reducible rfl); done))
            try simp only [List.setIfInBounds_toArray, List.set_cons_zero, List.set_cons_succ]
            refine takeH (i := 8) (d := 48) (v := ?_) rfl rfl (by kernel_rfl) (by kernel_rfl) (by kernel_rfl) (fun _ _ _ h => h) (Or.inl ⟨by kernel_rfl, ?_⟩) hS ?_; rotate_left 1; (focus ((intro w' hS'; obtain ⟨_, z1, z2, z3⟩ := HC.out w' hS'.1; clear hS'; go_simp; try with_reducible rfl); done))
            try simp only [List.setIfInBounds_toArray, List.set_cons_zero, List.set_cons_succ]
            refine wpAnyH_ready (rs := [3]) (by kernel_rfl) (by simp) ?_
            refine AllReadyH.cons rfl (fun K hK => ?_) AllReadyH.nil
            go_simp
            refine (wput_any A1 m1 c1 T1 time 8 _ (HR1.out.below ((Below.refl _ _).drew)) N1.out (by have := HM1.out; omega) (by decide)).mono ?_
            rintro x w2 ⟨v2, rfl, ho, hb⟩
            obtain ⟨A2, c2, rfl, hr2, _, hn2⟩ := ho.rdn HM2.out
            have R2 := bx hr2; have N2 := bx hn2
            have S2 := bx (show Below (w.heap.size + 1) w0 w2 ∧ w.heap.size + 2 ≤ w2.heap.size ∧ ∃ old : Array Value, old.size = 2 ∧ w2.heap[w.heap.size + 1]? = some (.cells old 35 (0, 0)) from ⟨hS.1.trans (hb.mono (by have := hS.2.1; omega)), Nat.le_trans hS.2.1 hb.size, by obtain ⟨old, h7, hk⟩ := hS.2.2; exact ⟨old, h7, (hb.block _ (blk_lt hk)).trans hk⟩⟩)
            clear ho hr2 hn2 hb
            refine hK.out _ _ ?_ (fun hS2 => ?_)
            · exact S2.out
            clear hK K hS; have hS := hS2; clear hS2
            try simp only [Act.put, List.setIfInBounds_toArray, List.set_cons_zero, List.set_cons_succ]
            refine wpAnyH_ready (rs := [6]) (by kernel_rfl) (by simp) ?_
            refine AllReadyH.cons rfl (fun K hK => ?_) AllReadyH.nil
            go_simp
            refine (text_any A2 m2 c2 _ author _ R2.out N2.out (by have := HB2.out; omega)).mono ?_
            rintro x w3 ⟨v3, rfl, ho, hb⟩
            obtain ⟨A3, c3, rfl, hr3, _, hn3⟩ := ho.rdn HM3.out
            have R3 := bx hr3; have N3 := bx hn3
            have S3 := bx (show Below (w.heap.size + 1) w0 w3 ∧ w.heap.size + 2 ≤ w3.heap.size ∧ ∃ old : Array Value, old.size = 2 ∧ w3.heap[w.heap.size + 1]? = some (.cells old 35 (0, 0)) from ⟨hS.1.trans (hb.mono (by have := hS.2.1; omega)), Nat.le_trans hS.2.1 hb.size, by obtain ⟨old, h7, hk⟩ := hS.2.2; exact ⟨old, h7, (hb.block _ (blk_lt hk)).trans hk⟩⟩)
            clear ho hr3 hn3 hb
            refine hK.out _ _ ?_ (fun hS2 => ?_)
            · exact S3.out
            clear hK K hS; have hS := hS2; clear hS2
            try simp only [Act.put, List.setIfInBounds_toArray, List.set_cons_zero, List.set_cons_succ]
            refine wpAnyH_ready (rs := [9]) (by kernel_rfl) (by simp) ?_
            refine AllReadyH.cons rfl (fun K hK => ?_) AllReadyH.nil
            go_simp
            refine (text_any A3 m3 c3 _ text _ R3.out N3.out (by have := HB3.out; omega)).mono ?_
            rintro x w4 ⟨v4, rfl, ho, hb⟩
            rw [HDD.out] at ho
            have O4 := bx (ho.base_le hS.2.1)
            obtain ⟨A4, c4, rfl, _, hc4, hn4⟩ := ho.rdn HML.out
            have C4 := bx hc4; have N4 := bx hn4
            have S4 := bx (show Below (w.heap.size + 1) w0 w4 ∧ w.heap.size + 2 ≤ w4.heap.size ∧ ∃ old : Array Value, old.size = 2 ∧ w4.heap[w.heap.size + 1]? = some (.cells old 35 (0, 0)) from ⟨hS.1.trans (hb.mono (by have := hS.2.1; omega)), Nat.le_trans hS.2.1 hb.size, by obtain ⟨old, h7, hk⟩ := hS.2.2; exact ⟨old, h7, (hb.block _ (blk_lt hk)).trans hk⟩⟩)
            clear ho hc4 hn4 hb
            refine hK.out _ _ ?_ (fun hS2 => ?_)
            · exact S4.out
            clear hK K hS; have hS := hS2; clear hS2
            try simp only [Act.put, List.setIfInBounds_toArray, List.set_cons_zero, List.set_cons_succ]
            refine wpAnyH_ready (rs := [10]) (by kernel_rfl) (by simp) ?_
            refine AllReadyH.cons rfl (fun K hK => ?_) AllReadyH.nil
            go_simp
            refine (fit_big 3 A4 m c4 _ HF.out).mono ?_
            rintro x w5 ⟨rfl, hb⟩
            have O5 := bx (O4.out.kept hb)
            have S5 := bx (show Below (w.heap.size + 1) w0 w5 ∧ w.heap.size + 2 ≤ w5.heap.size ∧ ∃ old : Array Value, old.size = 2 ∧ w5.heap[w.heap.size + 1]? = some (.cells old 35 (0, 0)) from ⟨hS.1.trans (hb.mono (by have := hS.2.1; omega)), Nat.le_trans hS.2.1 hb.size, by obtain ⟨old, h7, hk⟩ := hS.2.2; exact ⟨old, h7, (hb.block _ (blk_lt hk)).trans hk⟩⟩)
            clear hb
            refine hK.out _ _ ?_ (fun hS2 => ?_)
            · exact S5.out
            clear hK K hS; have hS := hS2; clear hS2
            try simp only [Act.put, List.setIfInBounds_toArray, List.set_cons_zero, List.set_cons_succ]
            refine takeH (i := 11) (d := 51) (v := ?_) rfl rfl (by kernel_rfl) (by kernel_rfl) (by kernel_rfl) (fun _ _ _ h => h) (Or.inl ⟨by kernel_rfl, ?_⟩) hS ?_; rotate_left 1; (focus ((intro w' hS'; clear hS'; go_simp; try with_reducible rfl); done))
            try simp only [List.setIfInBounds_toArray, List.set_cons_zero, List.set_cons_succ]
            refine takeH (i := 12) (d := 52) (v := ?_) rfl rfl (by kernel_rfl) (by kernel_rfl) (by kernel_rfl) (fun _ _ _ h => h) (Or.inl ⟨by kernel_rfl, ?_⟩) hS ?_; rotate_left 1; (focus ((intro w' hS'; clear hS'; go_simp; try with_reducible rfl); done))
            try simp only [List.setIfInBounds_toArray, List.set_cons_zero, List.set_cons_succ]
            refine wpAnyH_ready (rs := [13]) (by kernel_rfl) (by simp) ?_
            refine readyH_list rfl (fun K hK => ?_) AllReadyH.nil
            obtain ⟨old, h7, hk⟩ := S5.out.2.2
            refine store_all (cs := objC 0 (.slice none 0 0)) 35 (.tmp 2) (.tmp 51) rfl rfl rfl rfl hk (obj_is _ _ _ _) (by rw [h7]; rfl) (obj_one _ _ _ _) ?_
            intro w9 hu9
            have R9 := bx hu9.same; have O9 := bx (O5.out.upd hu9 (Nat.lt_succ_self _)); have BF := bx (S5.out.1.trans (hu9.below (Nat.le_refl _))); have L9 := bx (show w.heap.size + 2 ≤ w9.heap.size by rw [hu9.size]; exact S5.out.2.1)
            clear hu9 hk h7
            show wpList _ _ K [] (Act.put _ none undef) w9
            refine hK.out _ _ ?_ (fun hS2 => ?_)
            · exact ⟨BF.out, L9.out, _, rfl, R9.out⟩
            clear hK K hS; have hS := hS2; clear hS2
            try simp only [Act.put, List.setIfInBounds_toArray, List.set_cons_zero, List.set_cons_succ]
            refine takeH (i := 14) (d := 3) (v := ?_) rfl rfl (by kernel_rfl) (by kernel_rfl) (by kernel_rfl) (fun _ _ _ h => h) (Or.inl ⟨by kernel_rfl, ?_⟩) hS ?_; rotate_left 1; (focus ((intro w' hS'; clear hS'; go_simp; try with_reducible rfl); done))
            try simp only [List.setIfInBounds_toArray, List.set_cons_zero, List.set_cons_succ]
            refine wpAnyH_done (by kernel_rfl) ?_ _
            go_wp2_with fail
            refine bodyPost_ret (results_ct (cs := objC 0 (.slice none 0 0)) rfl _ _ (w.heap.size + 1) 35 _ _ rfl rfl R9.out Tryd.underlying35 rfl (obj_is _ _ _ _)) rfl ?_
            exact HOUT.out (0, [], 3) none 0 _ HT.out ⟨rfl, fun h => absurd h (by decide)⟩ (fun _ => rfl) (Nat.le_refl _) (B0.out.trans (BF.out.mono (by omega)))
end Go.Proofs.YtoompcgdhokdlaaDoor
