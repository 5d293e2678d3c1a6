/- The walk over settle. -/
import Derived.Test.YthnommoljikaiaaDsk2
set_option linter.unusedSimpArgs false
set_option linter.unusedVariables false
namespace Go.Proofs.Ythnommoljikaiaa
open Go.RowKit

theorem wrInfo : (Try.prog.info? 142).map (·.size) = some 257 := by kernel_rfl
/-- A write's cells. -/
def wCells (at_ : Int) (b : List Int) : Array Value := (Value.int .i64 at_ :: b.map (Value.int .u8)).toArray
theorem wCells_size {at_ : Int} {b : List Int} (h : SecOk b) : (wCells at_ b).size = 257 := by simp [wCells, h.1]
theorem wCells_sec {at_ : Int} {b : List Int} (h : SecOk b) : (wCells at_ b).extract 1 (1 + 256) = ints .u8 b := by
  have hl := h.1
  simp only [wCells, ints, List.extract_toArray, List.extract_eq_take_drop]
  rw [show 1 + 256 - 1 = 256 from rfl, List.drop_succ_cons, List.drop_zero, List.take_of_length_le (by simp [hl])]
/-- One operation of a region that draws: a whole array or struct is stored. -/
theorem step_store_agg {P : Program} {ops : Array Oper} {o : Oper} {a : Act} {w : World} {K : Act → World → Prop} {Q : Exit → Act → World → Prop} {E : Prop} (hgd : Region.wanted o (yielded ops a.tmps) = true) (ty : TypeId) (x y : Operand) (ho : o.op = .store ty x y)
    (g off : Nat) (cells : Array Value) (hx : a.eval x = .pointer (some ⟨g, off, none⟩)) (hy : a.eval y = .agg cells)
    (t : TypeId) (cur : Array Value) (hg : w.heap[g]? = some (.cells cur t (0, 0))) (hi : (P.info? ty).map (·.size) = some cells.size)
    (hold : off + cells.size ≤ cur.size) (h1 : ∀ v ∈ cells.toList, v.oneCell' = true) (new : Array Value) (hnew : putRow cur off cells.toList = new)
    (h : ∀ w', Upd w w' g (.cells new t (0, 0)) → K (a.put o.dst undef) w') : if Region.wanted o (yielded ops a.tmps) = true then Oper.wp P o a w K Q else E := by
  rw [if_pos hgd]
  subst hnew
  unfold Oper.wp execOp
  simp only [ho, hx, hy, Instr.storeAt, Instr.sureAddr, Sem.run_bind, Sem.run_pure, Result.andThen_ok, run_storeVar_span w g off t ty cur cells hg hi hold h1]
  exact h _ (upd_setRow hg)
/-- Of a write under way so many first bytes become safe. -/
def settleOf (st : DSt) (at_ : Int) (b : List Int) (f : Int) : DSt :=
  if f ≤ 0 then st else { st with f := fun k => if k = at_ then b.take (min f 256).toNat ++ (st.f at_).drop (min f 256).toNat else st.f k }
theorem secZeroV (w : World) : (zeroValue 140).run Try.prog w = .ok (.agg (ints .u8 zeros256)) w := by kernel_rfl
theorem mapI_secs {w : World} {mb : Nat} {st : DSt} {g : Int → Option Value} (hm : MapI .i64 w mb g) (hg : ∀ k, (g k = none ∧ st.f k = zeros256) ∨ g k = some (.agg (ints .u8 (st.f k)))) (k : Int) :
    (Instr.lookup 60 (.map (some mb)) (.int .i64 k) false).run Try.prog w = .ok (.agg (ints .u8 (st.f k))) w := by
  have := mapI_lookup Try.underlying60 Try.underlying3 hm k _ (secZeroV w) false
  rw [this]
  rcases hg k with ⟨h1, h2⟩ | h1
  · rw [h1, h2]; rfl
  · rw [h1]; rfl
theorem DskAt.secAt {w : World} {S : Nat → Prop} {D mb : Nat} {uv : Value} {st : DSt} (h : DskAt w S D mb uv st) (k : Int) :
    (Instr.lookup 60 (.map (some mb)) (.int .i64 k) false).run Try.prog w = .ok (.agg (ints .u8 (st.f k))) w := by
  obtain ⟨g, hm, hg⟩ := h.map
  exact mapI_secs hm hg k

theorem step_delete {P : Program} {ops : Array Oper} {o : Oper} {a : Act} {w : World} {K : Act → World → Prop} {Q : Exit → Act → World → Prop} {E : Prop} (hgd : Region.wanted o (yielded ops a.tmps) = true) (m x : Operand) (t k : TypeId)
    (ho : o.op = .call { callee := .builtin .delete, args := #[m, x], argTypes := #[t, k] }) (M X : Value) (hm : a.eval m = M) (hx : a.eval x = X) (w' : World) (hr : (Builtin.delete_ #[t, k] o.type #[M, X]).run P w = .ok (.tuple #[]) w')
    (h : K (a.put o.dst (.tuple #[])) w') : if Region.wanted o (yielded ops a.tmps) = true then Oper.wp P o a w K Q else E := by
  rw [if_pos hgd]
  unfold Oper.wp
  simp [execOp, ho, resolve, invoke, builtin, hm, hx, hr, Result.andThen]
  exact h
theorem step_mapUpdate {P : Program} {ops : Array Oper} {o : Oper} {a : Act} {w : World} {K : Act → World → Prop} {Q : Exit → Act → World → Prop} {E : Prop} (hgd : Region.wanted o (yielded ops a.tmps) = true) (t : TypeId) (m x v : Operand)
    (ho : o.op = .mapUpdate t m x v) (M X V : Value) (hm : a.eval m = M) (hx : a.eval x = X) (hv : a.eval v = V) (w' : World) (hr : (Instr.mapUpdate t M X V).run P w = .ok () w')
    (h : K (a.put o.dst undef) w') : if Region.wanted o (yielded ops a.tmps) = true then Oper.wp P o a w K Q else E := by
  rw [if_pos hgd]
  unfold Oper.wp
  simp [execOp, ho, hm, hx, hv, hr, Result.andThen]
  exact h
/-- A whole array is loaded: what the operation yields. -/
theorem exec_load_agg {P : Program} {o : Oper} {a : Act} {w : World} (ty : TypeId) (x : Operand) (ho : o.op = .load ty x)
    (g off : Nat) (hx : a.eval x = .pointer (some ⟨g, off, none⟩)) (t : TypeId) (cs : Array Value) (n : Nat) (d : TypeDesc) (hg : w.heap[g]? = some (.cells cs t (0, 0)))
    (hu : P.underlying ty = some d) (hd : (match d with | .struct _ | .array _ _ => true | _ => false) = true) (hi : (P.info? ty).map (·.size) = some n) (hn : off + n ≤ cs.size)
    (vs : Array Value) (hv : cs.extract off (off + n) = vs) : (execOp a.eval o).run P w = .ok (.value (.agg vs)) w := by
  subst hv
  unfold execOp
  simp only [ho, hx, Instr.loadAt, Instr.sureAddr, Sem.run_bind, Sem.run_pure, Result.andThen_ok, run_loadVar_span w g off t ty cs n d hg hu hd hi hn]
theorem DskAt.mapUpd {w w' : World} {S : Nat → Prop} {D mb : Nat} {uv : Value} {st : DSt} {o : Obj} {g : Int → Option Value} {f : Int → List Int} (h : DskAt w S D mb uv st) (hu : Upd w w' mb o) (hm : MapI .i64 w' mb g)
    (hg : ∀ k, (g k = none ∧ f k = zeros256) ∨ g k = some (.agg (ints .u8 (f k)))) (hf : ∀ k, SecOk (f k)) : DskAt w' S D mb uv { st with f := f } :=
  ⟨(hu.other D (fun e => h.ne_map e.symm)).trans h.blk, ⟨g, hm, hg⟩, ownsRow_same h.und (fun k hk => hu.other k (h.ne_und k hk).2), h.inD, h.inM, h.inU, hf, h.unds, h.lo, h.hi, h.n1, h.n2⟩

set_option maxRecDepth 100000 in
set_option maxHeartbeats 1000000 in
theorem settle_any (w : World) (S : Nat → Prop) (D mb : Nat) (uv : Value) (st : DSt) (at_ : Int) (b : List Int) (f : Int) (h : DskAt w S D mb uv st) (hb : SecOk b) :
    Calls Try.prog 68 #[.pointer (some ⟨D, 0, none⟩), .agg (wCells at_ b), .int .i64 f] w fun e w' => e = .returned (.tuple #[]) ∧ DskAt w' S D mb uv (settleOf st at_ b f) ∧ Only (fun k => k = mb) w w' := by
  have H := bx h; have HB := bx hb
  by_cases hf : f ≤ 0
  · have hS : Bx (settleOf st at_ b f = st) := ⟨by rw [settleOf, if_pos hf]⟩
    clear h hb
    go_enter Try.func68, Try.ntmps68
    go_wp2_with fail
    refine bodyPost_ret (results_none rfl _ _ _) rfl ?_
    exact ⟨rfl, by rw [hS.out]; exact H.out.kept ((Below.refl _ _).alloc (Nat.le_refl _) _), (Only.refl _ _).alloc _⟩
  · obtain ⟨n, hn, hn1, hn2⟩ : ∃ n : Nat, min f 256 = n ∧ 1 ≤ n ∧ n ≤ 256 := ⟨(min f 256).toNat, by omega, by omega, by omega⟩
    have HSO : Bx (settleOf st at_ b f = { st with f := fun k => if k = at_ then b.take n ++ (st.f at_).drop n else st.f k }) := ⟨by rw [settleOf, if_neg hf, hn]; rfl⟩
    have hdm : DskAt (w.alloc (.cells (wCells at_ b) 142)) S D mb uv st := h.kept ((Below.refl _ _).alloc (Nat.le_refl _) _)
    obtain ⟨w1, hw1⟩ : ∃ w1, w1 = w.alloc (.cells (wCells at_ b) 142) := ⟨_, rfl⟩
    have hq : w1.heap[w.heap.size]? = some (.cells (wCells at_ b) 142 (0, 0)) := by rw [hw1]; exact blk_new w _
    have ho1 : Only (fun k => k = mb) w w1 := by rw [hw1]; exact (Only.refl _ _).alloc _
    have hz1 : w1.heap.size = w.heap.size + 1 := by rw [hw1]; simp
    rw [← hw1] at hdm
    have HF1 : Bx (∀ w', Below w1.heap.size w1 w' → w'.cell? ⟨D, 1, none⟩ = some (.map (some mb)) ∧ w'.cell? ⟨w.heap.size, 0, none⟩ = some (.int .i64 at_) ∧
        (Instr.lookup 60 (.map (some mb)) (.int .i64 at_) false).run Try.prog w' = .ok (.agg (ints .u8 (st.f at_))) w') :=
      ⟨fun w' hb => ⟨blk_cell (hdm.kept hb).blk rfl, blk_cell ((hb.block _ (blk_lt hq)).trans hq) rfl, (hdm.kept hb).secAt at_⟩⟩
    have HD := bx hdm; have HQ := bx hq; have O1 := bx ho1; have HW1 := bx hw1; have HZ1 := bx hz1
    have hfa := h.secs at_
    clear h hb hdm hq ho1 hw1 hz1
    generalize hs : st.f at_ = s at *
    have HS := bx hs
    clear hs
    have HFA := bx hfa
    clear hfa
    have hf2 : ¬ f ≤ 0 := hf
    go_enter Try.func68, Try.ntmps68
    go_wp2_with fail
    rw [← HW1.out]
    have hS0 : Below w1.heap.size w1 w1.drew := (Below.refl _ _).drew
    refine wp_region_held_drew (S := (fun w' => Below w1.heap.size w1 w')) (by kernel_rfl) hS0 (fun hS => ?_)
    refine takeH (i := 0) (d := 10) (v := ?_) rfl rfl (by kernel_rfl) (by kernel_rfl) (by kernel_rfl) (fun _ _ _ h => h) (Or.inl ⟨by kernel_rfl, ?_⟩) hS ?_; rotate_left 1; (focus ((intro w' hS'; clear hS'; go_simp; try with_reducible rfl); done))
    try simp only [List.setIfInBounds_toArray, List.set_cons_zero, List.set_cons_succ]
    refine takeH (i := 1) (d := 11) (v := ?_) rfl rfl (by kernel_rfl) (by kernel_rfl) (by kernel_rfl) (fun _ _ _ h => h) (Or.inl ⟨by kernel_rfl, ?_⟩) hS ?_; rotate_left 1; (focus ((intro w' hS'; clear hS'; go_simp; try with_reducible rfl); done))
    try simp only [List.setIfInBounds_toArray, List.set_cons_zero, List.set_cons_succ]
    refine takeH (i := 2) (d := 12) (v := ?_) rfl rfl (by kernel_rfl) (by kernel_rfl) (by kernel_rfl) (fun _ _ _ h => h) (Or.inl ⟨by kernel_rfl, ?_⟩) hS ?_; rotate_left 1; (focus ((intro w' hS'; clear hS'; go_simp; try with_reducible rfl); done))
    try simp only [List.setIfInBounds_toArray, List.set_cons_zero, List.set_cons_succ]
    refine takeH (i := 3) (d := 13) (v := ?_) rfl rfl (by kernel_rfl) (by kernel_rfl) (by kernel_rfl) (fun _ _ _ h => h) (Or.inl ⟨by kernel_rfl, ?_⟩) hS ?_; rotate_left 1; (focus ((intro w' hS'; obtain ⟨k1, k2, k3⟩ := HF1.out w' hS'; clear hS'; go_simp; try with_reducible rfl); done))
    try simp only [List.setIfInBounds_toArray, List.set_cons_zero, List.set_cons_succ]
    refine takeH (i := 4) (d := 14) (v := ?_) rfl rfl (by kernel_rfl) (by kernel_rfl) (by kernel_rfl) (fun _ _ _ h => h) (Or.inl ⟨by kernel_rfl, ?_⟩) hS ?_; rotate_left 1; (focus ((intro w' hS'; clear hS'; go_simp; try with_reducible rfl); done))
    try simp only [List.setIfInBounds_toArray, List.set_cons_zero, List.set_cons_succ]
    refine takeH (i := 5) (d := 15) (v := ?_) rfl rfl (by kernel_rfl) (by kernel_rfl) (by kernel_rfl) (fun _ _ _ h => h) (Or.inl ⟨by kernel_rfl, ?_⟩) hS ?_; rotate_left 1; (focus ((intro w' hS'; obtain ⟨k1, k2, k3⟩ := HF1.out w' hS'; clear hS'; go_simp; try with_reducible rfl); done))
    try simp only [List.setIfInBounds_toArray, List.set_cons_zero, List.set_cons_succ]
    refine takeH (i := 6) (d := 16) (v := ?_) rfl rfl (by kernel_rfl) (by kernel_rfl) (by kernel_rfl) (fun _ _ _ h => h) (Or.inl ⟨by kernel_rfl, ?_⟩) hS ?_; rotate_left 1; (focus ((intro w' hS'; obtain ⟨k1, k2, k3⟩ := HF1.out w' hS'; clear hS'; go_simp; try with_reducible rfl); done))
    try simp only [List.setIfInBounds_toArray, List.set_cons_zero, List.set_cons_succ]
    refine wpAnyH_ready (rs := [7]) (by kernel_rfl) (by simp) ?_
    refine AllReadyH.cons rfl (fun K hK => ?_) AllReadyH.nil
    go_simp
    refine hK.out _ _ ?_ (fun hS2 => ?_)
    · exact hS.alloc hS.size _
    clear hK K hS; have hS := hS2; clear hS2
    try simp only [Act.put, List.setIfInBounds_toArray, List.set_cons_zero, List.set_cons_succ]
    refine wpAnyH_ready (rs := [8]) (by kernel_rfl) (by simp) ?_
    refine AllReadyH.cons rfl (fun K hK => ?_) AllReadyH.nil
    refine step_store_agg rfl 140 (.tmp 6) (.tmp 16) rfl w1.heap.size 0 (ints .u8 s) rfl rfl 140 (ints .u8 zeros256) (by rw [← secZero]; exact blk_new w1.drew _) (by rw [ints_size, HFA.out.1]; exact secInfo) (by rw [ints_size, ints_size, HFA.out.1, zeros_ok.1]; decide) (ints_oneCell _ _) (ints .u8 s) (putRow_all _ _ (by rw [Array.length_toList, ints_size, ints_size, HFA.out.1, zeros_ok.1])) ?_
    intro w2 hu2
    refine hK.out _ _ ?_ (fun hS2 => ?_)
    · exact hS.trans (hu2.below (Nat.le_refl _))
    clear hK K hS; have hS := hS2; clear hS2
    try simp only [Act.put, List.setIfInBounds_toArray, List.set_cons_zero, List.set_cons_succ]
    refine wpAnyH_done (by kernel_rfl) ?_ _
    have P2 := bx hu2.same
    have R2 : Bx (w2.heap[w.heap.size]? = some (.cells (wCells at_ b) 142 (0, 0))) := ⟨(hS.block _ (blk_lt HQ.out)).trans HQ.out⟩
    have HD2 := bx (HD.out.kept hS); have O2 := bx (O1.out.trans (only_of_below hS))
    have ES : Bx ((ints .u8 s).extract 0 (0 + 256) = ints .u8 s) := ⟨ints_extract_all .u8 s 256 HFA.out.1⟩
    clear hu2 hS hS0 HF1
    go_wp2_with (first
      | ((with_reducible refine at_load 17 ?_); go_must (refine wpList_load_agg rfl 140 (.tmp 6) rfl w1.heap.size 0 rfl 140 (ints .u8 s) 256 _ P2.out Try.underlying140 rfl secInfo (by rw [ints_size, HFA.out.1]; decide) (ints .u8 s) ES.out ?_))
      | ((with_reducible refine at_load 19 ?_); go_must (refine wpList_load_agg rfl 140 (.tmp 18) rfl w.heap.size 1 rfl 142 (wCells at_ b) 256 _ R2.out Try.underlying140 rfl secInfo (by rw [wCells_size HB.out]; decide) (ints .u8 b) (wCells_sec HB.out) ?_)))
    refine (lay_any s b n HFA.out HB.out hn2 _).mono ?_
    rintro e w3 ⟨rfl, hb3⟩
    have HT := bx (lay_ok n HFA.out HB.out hn2)
    have HD3 := bx (HD2.out.kept hb3); have O3 := bx (O2.out.trans (only_of_below hb3))
    have R3 : Bx (w3.heap[w.heap.size]? = some (.cells (wCells at_ b) 142 (0, 0))) := ⟨(hb3.block _ (blk_lt R2.out)).trans R2.out⟩
    generalize hte : b.take n ++ s.drop n = t at *
    have HTE := bx hte
    clear hte hb3
    have IT : Bx ((Try.prog.info? 140).map (·.size) = some (ints .u8 t).size) := ⟨by rw [ints_size, HT.out.1]; exact secInfo⟩
    have ET : Bx ((ints .u8 t).extract 0 (0 + 256) = ints .u8 t) := ⟨ints_extract_all .u8 t 256 HT.out.1⟩
    have PT : Bx (putRow (ints .u8 zeros256) 0 (ints .u8 t).toList = ints .u8 t) := ⟨putRow_all _ _ (by rw [Array.length_toList, ints_size, ints_size, HT.out.1, zeros_ok.1])⟩
    have hbz : Try.prog.built 140 [] = some (ints .u8 zeros256) := by kernel_rfl
    have HBZ := bx hbz
    clear hbz
    obtain ⟨q, hq⟩ : ∃ q, decide (t = zeros256) = q := ⟨_, rfl⟩
    have heq := fun w => eql_ints (P := Try.prog) Try.underlying140 Try.underlying5 u8Info t zeros256 HT.out.1 zeros_ok.1 w
    rw [hq] at heq
    have HQQ := bx hq
    clear hq
    generalize hz : zeros256 = Z at *
    have HZ := bx hz
    clear hz
    go_wp2_with (first
      | ((with_reducible refine at_store (.tmp 7) (.tmp 22) ?_); go_must (refine wpList_store_agg rfl 140 (.tmp 7) (.tmp 22) rfl w3.heap.size 0 (ints .u8 t) rfl rfl 140 (ints .u8 Z) (by rw [← HZ.out, ← secZero]; exact blk_new w3 _) IT.out (by rw [ints_size, ints_size, HT.out.1, ← HZ.out, zeros_ok.1]; decide) (ints_oneCell _ _) (ints .u8 t) PT.out ?_; intro w4 hu4; have P4 := bx hu4.same; have B4 := bx (show Below w3.heap.size w3 w4 from ((Below.refl _ _).alloc (Nat.le_refl _) _).trans (hu4.below (Nat.le_refl _))); clear hu4))
      | ((with_reducible refine at_load 23 ?_); go_must (refine wpList_load_agg rfl 140 (.tmp 7) rfl w3.heap.size 0 rfl 140 (ints .u8 t) 256 _ P4.out Try.underlying140 rfl secInfo (by rw [ints_size, HT.out.1]; decide) (ints .u8 t) ET.out ?_))
      | ((with_reducible refine at_build 24 ?_); go_must (refine wpList_build2 rfl 140 [] rfl [] rfl (ints .u8 Z) HBZ.out ?_)))
    all_goals
      have HD4 := bx (HD3.out.kept B4.out); have O4 := bx (O3.out.trans (only_of_below B4.out))
      have R4 : Bx (w4.heap[w.heap.size]? = some (.cells (wCells at_ b) 142 (0, 0))) := ⟨(B4.out.block _ (blk_lt R3.out)).trans R3.out⟩
      have hne1 : w.heap.size ≠ mb := fun e => by have := H.out.lt mb (.inr (.inl rfl)); omega
      have hne2 : w3.heap.size ≠ mb := fun e => by have := HD3.out.lt mb (.inr (.inl rfl)); omega
      have HF5 : Bx (∀ w', Only (fun k => k = mb) w4 w' → w'.cell? ⟨D, 1, none⟩ = some (.map (some mb)) ∧ w'.cell? ⟨w.heap.size, 0, none⟩ = some (.int .i64 at_) ∧ w'.heap[w3.heap.size]? = some (.cells (ints .u8 t) 140 (0, 0))) :=
        ⟨fun w' ho => ⟨blk_cell ((ho.block D (blk_lt HD4.out.blk) (fun e => HD4.out.ne_map e.symm)).trans HD4.out.blk) rfl, blk_cell ((ho.block _ (blk_lt R4.out) hne1).trans R4.out) rfl, (ho.block _ (blk_lt P4.out) hne2).trans P4.out⟩⟩
      have hS0 : Only (fun k => k = mb) w4 w4.drew := (Only.refl _ _).drew
      have HD5 := bx (HD4.out.kept (Below.refl w4.heap.size w4).drew)
      clear hne1 hne2
    · subst q
      refine wp_region_held_drew (S := (fun w' => Only (fun k => k = mb) w4 w')) (by kernel_rfl) hS0 (fun hS => ?_)
      refine takeH (i := 0) (d := 26) (v := ?_) rfl rfl (by kernel_rfl) (by kernel_rfl) (by kernel_rfl) (fun _ _ _ h => h) (Or.inl ⟨by kernel_rfl, ?_⟩) hS ?_; rotate_left 1; (focus ((intro w' hS'; clear hS'; go_simp; try with_reducible rfl); done))
      try simp only [List.setIfInBounds_toArray, List.set_cons_zero, List.set_cons_succ]
      refine takeH (i := 1) (d := 27) (v := ?_) rfl rfl (by kernel_rfl) (by kernel_rfl) (by kernel_rfl) (fun _ _ _ h => h) (Or.inl ⟨by kernel_rfl, ?_⟩) hS ?_; rotate_left 1; (focus ((intro w' hS'; clear hS'; go_simp; try with_reducible rfl); done))
      try simp only [List.setIfInBounds_toArray, List.set_cons_zero, List.set_cons_succ]
      refine takeH (i := 2) (d := 28) (v := ?_) rfl rfl (by kernel_rfl) (by kernel_rfl) (by kernel_rfl) (fun _ _ _ h => h) (Or.inl ⟨by kernel_rfl, ?_⟩) hS ?_; rotate_left 1; (focus ((intro w' hS'; clear hS'; go_simp; try with_reducible rfl); done))
      try simp only [List.setIfInBounds_toArray, List.set_cons_zero, List.set_cons_succ]
      refine takeH (i := 3) (d := 29) (v := ?_) rfl rfl (by kernel_rfl) (by kernel_rfl) (by kernel_rfl) (fun _ _ _ h => h) (Or.inl ⟨by kernel_rfl, ?_⟩) hS ?_; rotate_left 1; (focus ((intro w' hS'; obtain ⟨k1, k2, k3⟩ := HF5.out w' hS'; clear hS' k3; go_simp; try with_reducible rfl); done))
      try simp only [List.setIfInBounds_toArray, List.set_cons_zero, List.set_cons_succ]
      refine takeH (i := 4) (d := 30) (v := ?_) rfl rfl (by kernel_rfl) (by kernel_rfl) (by kernel_rfl) (fun _ _ _ h => h) (Or.inl ⟨by kernel_rfl, ?_⟩) hS ?_; rotate_left 1; (focus ((intro w' hS'; clear hS'; go_simp; try with_reducible rfl); done))
      try simp only [List.setIfInBounds_toArray, List.set_cons_zero, List.set_cons_succ]
      refine takeH (i := 5) (d := 31) (v := ?_) rfl rfl (by kernel_rfl) (by kernel_rfl) (by kernel_rfl) (fun _ _ _ h => h) (Or.inl ⟨by kernel_rfl, ?_⟩) hS ?_; rotate_left 1; (focus ((intro w' hS'; obtain ⟨k1, k2, k3⟩ := HF5.out w' hS'; clear hS' k3; go_simp; try with_reducible rfl); done))
      try simp only [List.setIfInBounds_toArray, List.set_cons_zero, List.set_cons_succ]
      refine wpAnyH_ready (rs := [6]) (by kernel_rfl) (by simp) ?_
      refine AllReadyH.cons rfl (fun K hK => ?_) AllReadyH.nil
      obtain ⟨g, hm, hg⟩ := HD5.out.map
      obtain ⟨w5, o5, hr5, hu5, hm5⟩ := mapI_delete Try.underlying60 Try.underlying3 hm at_ 0
      refine step_delete rfl (.tmp 29) (.tmp 31) 60 3 rfl _ _ rfl rfl w5 hr5 ?_
      have HU5 := bx hu5; have HM5 := bx hm5; have HG := bx hg
      clear hr5 hu5 hm5 hm hg
      refine hK.out _ _ ?_ (fun hS2 => ?_)
      · exact hS.upd HU5.out rfl
      clear hK K hS; have hS := hS2; clear hS2
      try simp only [Act.put, List.setIfInBounds_toArray, List.set_cons_zero, List.set_cons_succ]
      refine wpAnyH_done (by kernel_rfl) ?_ _
      have OS := bx hS
      clear hS hS0
      go_wp2_with fail
      refine bodyPost_ret (results_none rfl _ _ _) rfl ?_
      refine ⟨rfl, ?_, O4.out.trans OS.out⟩
      rw [HSO.out]
      have htz : t = zeros256 := by rw [HZ.out]; exact of_decide_eq_true HQQ.out
      refine HD5.out.mapUpd HU5.out HM5.out (fun k => ?_) (fun k => ?_)
      · by_cases hk : k = at_
        · rw [if_pos hk, if_pos hk]; exact .inl ⟨rfl, htz⟩
        · rw [if_neg hk, if_neg hk]; exact HG.out k
      · try dsimp only
        by_cases hk : k = at_
        · rw [if_pos hk]; exact HT.out
        · rw [if_neg hk]; exact H.out.secs k
    · subst q
      refine wp_region_held_drew (S := (fun w' => Only (fun k => k = mb) w4 w')) (by kernel_rfl) hS0 (fun hS => ?_)
      refine takeH (i := 0) (d := 32) (v := ?_) rfl rfl (by kernel_rfl) (by kernel_rfl) (by kernel_rfl) (fun _ _ _ h => h) (Or.inl ⟨by kernel_rfl, ?_⟩) hS ?_; rotate_left 1; (focus ((intro w' hS'; clear hS'; go_simp; try with_reducible rfl); done))
      try simp only [List.setIfInBounds_toArray, List.set_cons_zero, List.set_cons_succ]
      refine takeH (i := 1) (d := 33) (v := ?_) rfl rfl (by kernel_rfl) (by kernel_rfl) (by kernel_rfl) (fun _ _ _ h => h) (Or.inl ⟨by kernel_rfl, ?_⟩) hS ?_; rotate_left 1; (focus ((intro w' hS'; clear hS'; go_simp; try with_reducible rfl); done))
      try simp only [List.setIfInBounds_toArray, List.set_cons_zero, List.set_cons_succ]
      refine takeH (i := 2) (d := 34) (v := ?_) rfl rfl (by kernel_rfl) (by kernel_rfl) (by kernel_rfl) (fun _ _ _ h => h) (Or.inl ⟨by kernel_rfl, ?_⟩) hS ?_; rotate_left 1; (focus ((intro w' hS'; clear hS'; go_simp; try with_reducible rfl); done))
      try simp only [List.setIfInBounds_toArray, List.set_cons_zero, List.set_cons_succ]
      refine takeH (i := 3) (d := 35) (v := ?_) rfl rfl (by kernel_rfl) (by kernel_rfl) (by kernel_rfl) (fun _ _ _ h => h) (Or.inl ⟨by kernel_rfl, ?_⟩) hS ?_; rotate_left 1; (focus ((intro w' hS'; obtain ⟨k1, k2, k3⟩ := HF5.out w' hS'; clear hS' k3; go_simp; try with_reducible rfl); done))
      try simp only [List.setIfInBounds_toArray, List.set_cons_zero, List.set_cons_succ]
      refine takeH (i := 4) (d := 36) (v := ?_) rfl rfl (by kernel_rfl) (by kernel_rfl) (by kernel_rfl) (fun _ _ _ h => h) (Or.inl ⟨by kernel_rfl, ?_⟩) hS ?_; rotate_left 1; (focus ((intro w' hS'; clear hS'; go_simp; try with_reducible rfl); done))
      try simp only [List.setIfInBounds_toArray, List.set_cons_zero, List.set_cons_succ]
      refine takeH (i := 5) (d := 37) (v := ?_) rfl rfl (by kernel_rfl) (by kernel_rfl) (by kernel_rfl) (fun _ _ _ h => h) (Or.inl ⟨by kernel_rfl, ?_⟩) hS ?_; rotate_left 1; (focus ((intro w' hS'; obtain ⟨k1, k2, k3⟩ := HF5.out w' hS'; clear hS' k3; go_simp; try with_reducible rfl); done))
      try simp only [List.setIfInBounds_toArray, List.set_cons_zero, List.set_cons_succ]
      refine takeH (i := 6) (d := 38) (v := .agg (ints .u8 t)) rfl rfl (by kernel_rfl) (by kernel_rfl) (by kernel_rfl) (fun _ _ _ h => h) (Or.inl ⟨by kernel_rfl, fun w' hS' => exec_load_agg 140 (.tmp 7) rfl w3.heap.size 0 rfl 140 (ints .u8 t) 256 _ (HF5.out w' hS').2.2 Try.underlying140 rfl secInfo (by rw [ints_size, HT.out.1]; decide) (ints .u8 t) ET.out⟩) hS ?_
      try simp only [List.setIfInBounds_toArray, List.set_cons_zero, List.set_cons_succ]
      refine wpAnyH_ready (rs := [7]) (by kernel_rfl) (by simp) ?_
      refine AllReadyH.cons rfl (fun K hK => ?_) AllReadyH.nil
      obtain ⟨g, hm, hg⟩ := HD5.out.map
      obtain ⟨w5, o5, hr5, hu5, hm5⟩ := mapI_update Try.underlying60 Try.underlying3 hm at_ (.agg (ints .u8 t))
      refine step_mapUpdate rfl 60 (.tmp 35) (.tmp 37) (.tmp 38) rfl _ _ _ rfl rfl rfl w5 hr5 ?_
      have HU5 := bx hu5; have HM5 := bx hm5; have HG := bx hg
      clear hr5 hu5 hm5 hm hg
      refine hK.out _ _ ?_ (fun hS2 => ?_)
      · exact hS.upd HU5.out rfl
      clear hK K hS; have hS := hS2; clear hS2
      try simp only [Act.put, List.setIfInBounds_toArray, List.set_cons_zero, List.set_cons_succ]
      refine wpAnyH_done (by kernel_rfl) ?_ _
      have OS := bx hS
      clear hS hS0
      go_wp2_with fail
      go_end0
      refine ⟨rfl, ?_, O4.out.trans OS.out⟩
      rw [HSO.out]
      refine HD5.out.mapUpd HU5.out HM5.out (fun k => ?_) (fun k => ?_)
      · by_cases hk : k = at_
        · rw [if_pos hk, if_pos hk]; exact .inr rfl
        · rw [if_neg hk, if_neg hk]; exact HG.out k
      · try dsimp only
        by_cases hk : k = at_
        · rw [if_pos hk]; exact HT.out
        · rw [if_neg hk]; exact H.out.secs k
end Go.Proofs.Ythnommoljikaiaa
