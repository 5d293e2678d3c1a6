/- Messages: PutRequest, PutReply, Text. -/
import Derived.Test.YthnommoljikaiaaMsg2
set_option linter.unusedSimpArgs false
set_option linter.unusedVariables false
namespace Go.Proofs.Ythnommoljikaiaa
open Go.RowKit

theorem exec_load_aggM {P : Program} {o : Oper} {a : Act} {w : World} (ty : TypeId) (x : Operand) (ho : o.op = .load ty x)
    (g off : Nat) (hx : a.eval x = .pointer (some ⟨g, off, none⟩)) (t : TypeId) (cs : Array Value) (n : Nat) (d : TypeDesc) (hg : w.heap[g]? = some (.cells cs t (0, 0)))
    (hu : P.underlying ty = some d) (hd : (match d with | .struct _ | .array _ _ => true | _ => false) = true) (hi : (P.info? ty).map (·.size) = some n) (hn : off + n ≤ cs.size)
    (vs : Array Value) (hv : cs.extract off (off + n) = vs) : (execOp a.eval o).run P w = .ok (.value (.agg vs)) w := by
  subst hv
  unfold execOp
  simp only [ho, hx, Instr.loadAt, Instr.sureAddr, Sem.run_bind, Sem.run_pure, Result.andThen_ok, run_loadVar_span w g off t ty cs n d hg hu hd hi hn]
theorem mayB_true {c k lo hi : Int} {nn dn : Nat} (h : mayB c k lo hi nn dn = true) : 1 ≤ c ∧ c ≤ 255 ∧ lo ≤ k ∧ k ≤ hi ∧ nn ≤ 128 ∧ dn ≤ 8192 := by simpa [mayB] using h
def bodyM (named : Bool) (c k i g : Int) (nm : List Int) (n2 : Nat) (flat : List Int) (n3 : Nat) (ds : List Int) : List Int := headOf named c k i g nm ++ be n2 2 ++ flat ++ be n3 4 ++ ds
def putM (kind lo hi : Int) (named : Bool) (c k i g : Int) (nm : List Int) (n2 : Nat) (flat : List Int) (n3 : Nat) (ds : List Int) : List Int × Int :=
  if mayB c k lo hi n2 n3 = true then (frameOf kind (bodyM named c k i g nm n2 flat n3 ds), 0) else ([], 2)
def PutOut (w : World) (r : List Int × Int) (e : Ending) (w' : World) : Prop := ∃ A c, e = .returned (.tuple #[.slice A r.1.length c, .int .i64 r.2]) ∧ RdB w' A r.1.length r.1 ∧ (A = none → c = 0) ∧ r.1.length ≤ c ∧ Below w.heap.size w w'
theorem rep_is {c k i g : Int} {nv dv : Value} : (Try.prog.info? 118).map (·.size) = some (repCells c i k g nv dv).size := rep_info
theorem u8_small {c : Int} (h0 : 0 ≤ c) (h1 : c ≤ 255) : IntKind.u8.wrap c = c := IntWalk.u8_in _ (by omega)
theorem bodyM_length {named : Bool} {c k i g : Int} {nm : List Int} {n2 : Nat} {flat : List Int} {n3 : Nat} {ds : List Int} (h : nm.length = 16) (h2 : flat.length = 16 * n2) (h3 : ds.length = n3) :
    (bodyM named c k i g nm n2 flat n3 ds).length = (if named then 34 else 18) + 2 + 16 * n2 + 4 + n3 := by
  rw [bodyM, List.length_append, List.length_append, List.length_append, List.length_append, headOf_length _ _ _ _ _ _ h, be_length, be_length, h2, h3]
theorem bodyM_isB {named : Bool} {c k i g : Int} {nm : List Int} {n2 : Nat} {flat : List Int} {n3 : Nat} {ds : List Int} (hc : 0 ≤ c ∧ c ≤ 255) (hk : 0 ≤ k ∧ k ≤ 255) (h : IsB nm) (h2 : IsB flat) (h3 : IsB ds) : IsB (bodyM named c k i g nm n2 flat n3 ds) := by
  refine isB_append (isB_append (isB_append (isB_append (isB_append (isB_append (isB_append (isB_append (isB_one ⟨hc.1, by omega⟩) (be_isB _ _)) (isB_one ⟨hk.1, by omega⟩)) ?_) (be_isB _ _)) (be_isB _ _)) h2) (be_isB _ _)) h3
  cases named
  · exact isB_nil
  · exact h
set_option maxRecDepth 100000 in
set_option maxHeartbeats 800000 in
theorem putq_any (c k i g : Int) (nm : List Int) (A2 : Option Addr) (n2 cap2 : Nat) (flat : List Int) (A3 : Option Addr) (n3 cap3 : Nat) (ds : List Int) (w : World) (h : nm.length = 16) (hrd2 : RdB w A2 (16 * n2) flat) (hrd3 : RdB w A3 n3 ds) (hnil3 : A3 = none → cap3 = 0) (hB : IsB nm) (hB2 : IsB flat) (hB3 : IsB ds) (hz : nm = zero16 ∨ true = true) :
    Calls Try.prog 53 #[.agg (reqCells c i k nm g (.slice A2 n2 cap2) (.slice A3 n3 cap3))] w (PutOut w (putM (if true then 1 else 2) 1 6 true c k i g nm n2 flat n3 ds)) := by
  obtain ⟨w0, hw0⟩ : ∃ w0, w0 = w.alloc (.cells (reqCells c i k nm g (.slice A2 n2 cap2) (.slice A3 n3 cap3)) 116) := ⟨_, rfl⟩
  have K0 : Bx (w0.heap[w.heap.size]? = some (.cells (reqCells c i k nm g (.slice A2 n2 cap2) (.slice A3 n3 cap3)) 116 (0, 0))) := ⟨by rw [hw0]; exact blk_new w _⟩
  have B0 : Bx (Below w.heap.size w w0) := ⟨by rw [hw0]; exact (Below.refl _ _).alloc (Nat.le_refl _) _⟩
  have H := bx h; have HRD2 := bx hrd2; have HRD3 := bx hrd3; have HN3 := bx hnil3; have HB := bx hB; have HB2 := bx hB2; have HB3 := bx hB3
  have HIS : Bx ((Try.prog.info? 116).map (·.size) = some (reqCells c i k nm g (.slice A2 n2 cap2) (.slice A3 n3 cap3)).size) := ⟨(req_is H.out)⟩
  have HC : Bx (∀ w', Below w0.heap.size w0 w' → w'.cell? ⟨w.heap.size, if true then 20 else 4, none⟩ = some (.slice A2 n2 cap2) ∧ w'.cell? ⟨w.heap.size, if true then 21 else 5, none⟩ = some (.slice A3 n3 cap3)) := ⟨fun w' hb => by
    have hk := (hb.block _ (blk_lt K0.out)).trans K0.out
    obtain ⟨e1, e2⟩ : _ ∧ _ := (show (reqCells c i k nm g (.slice A2 n2 cap2) (.slice A3 n3 cap3))[if true then 20 else 4]? = some (.slice A2 n2 cap2) ∧ (reqCells c i k nm g (.slice A2 n2 cap2) (.slice A3 n3 cap3))[if true then 21 else 5]? = some (.slice A3 n3 cap3) from ⟨(req_get c i k nm g _ _ H.out).2.1, (req_get c i k nm g _ _ H.out).2.2⟩)
    exact ⟨blk_cell hk e1, blk_cell hk e2⟩⟩
  have HK : Bx (∀ w', Below w0.heap.size w0 w' → w'.heap[w.heap.size]? = some (.cells (reqCells c i k nm g (.slice A2 n2 cap2) (.slice A3 n3 cap3)) 116 (0, 0))) := ⟨fun w' hb => (hb.block _ (blk_lt K0.out)).trans K0.out⟩
  have HA1 : Bx (∀ w', Calls Try.prog 94 #[.agg (reqCells c i k nm g (.slice A2 n2 cap2) (.slice A3 n3 cap3))] w' fun e w'' => e = .returned (.agg (coreCells c k i g nm)) ∧ Below w'.heap.size w' w'') := ⟨fun w' => by
    first
      | exact qcore_any c i k nm g _ _ w' H.out
      | (rcases hz with rfl | hz
         · exact pcore_any c i k g _ _ w'
         · cases hz)⟩
  have HA2 : Bx (∀ w', Calls Try.prog 95 #[.agg (coreCells c k i g nm), .int .i64 1, .int .i64 6, .slice A2 n2 cap2, .slice A3 n3 cap3] w' fun e w'' => e = .returned (.bool (mayB c k 1 6 n2 n3)) ∧ Below w'.heap.size w' w'') := ⟨fun w' => msgmay_any c k i g nm 1 6 A2 n2 cap2 A3 n3 cap3 w'⟩
  simp only [if_true, Bool.false_eq_true, if_false] at HC ⊢
  have HW := bx hw0
  obtain ⟨pm, hpm⟩ : ∃ pm, putM (if true then 1 else 2) 1 6 true c k i g nm n2 flat n3 ds = pm := ⟨_, rfl⟩
  simp only [if_true, Bool.false_eq_true, if_false] at hpm
  rw [hpm]
  have HPM := bx hpm
  clear hpm
  obtain ⟨q, hq⟩ : ∃ q, mayB c k 1 6 n2 n3 = q := ⟨_, rfl⟩
  have HQ := bx hq
  rw [hq] at HA2
  clear h hw0 hrd2 hrd3 hnil3 hB hB2 hB3 hz hq
  generalize hv : reqCells c i k nm g (.slice A2 n2 cap2) (.slice A3 n3 cap3) = CS at *
  have HV := bx hv
  clear hv
  go_enter Try.func53, Try.ntmps53
  go_upto_region 1 with fail
  rw [← HW.out]
  clear HW
  try simp only [Act.put]
  refine region_quietC (fun w' => Below w0.heap.size w0 w') (by kernel_rfl) (by kernel_rfl) ((Below.refl _ _).drew) ?_
  repeat (first
    | go_big_quiet_skip
    | (refine quiet_take (v := .agg CS) 4 rfl (by kernel_rfl) (fun w' hw' => quiet_load_all 116 (.tmp 1) rfl rfl (HK.out w' hw') Try.underlying116 rfl HIS.out) ?_; try simp only [List.setIfInBounds_toArray, List.set_cons_zero, List.set_cons_succ])
    | (go_big_quiet_want; go_big_quiet_op; go_big_quiet_on)
    | (refine quiet_take (v := ?_) _ rfl (by kernel_rfl) ?_ ?_; rotate_left 1; (focus (first | (intro w' hw'; clear hw'; unfold Oper.quietAt; go_simp; done) | (intro w' hw'; clear hw'; unfold Oper.quietAt; go_simp; with_reducible rfl) | (intro w' hw'; obtain ⟨z0, z1⟩ := HC.out w' hw'; unfold Oper.quietAt; go_simp; first | done | with_reducible rfl | ((with_reducible refine (HA1.out w').mono ?_); rintro x w9 ⟨rfl, hb⟩; refine ⟨?_, hw'.trans (hb.mono hw'.size)⟩; with_reducible rfl) | ((with_reducible refine (HA2.out w').mono ?_); rintro x w9 ⟨rfl, hb⟩; refine ⟨?_, hw'.trans (hb.mono hw'.size)⟩; with_reducible rfl)))); try simp only [List.setIfInBounds_toArray, List.set_cons_zero, List.set_cons_succ]))
  refine wpQuiet_nil ?_
  intro w1 hw1
  have B1 := bx hw1
  clear hw1
  cases q with
  | false =>
    have hpm := HPM.out
    rw [putM, if_neg (by rw [HQ.out]; decide)] at hpm
    subst hpm
    clear HA1 HA2
    go_wp2_with fail
    refine bodyPost_ret (results_tmp2 rfl _ _ _) rfl ?_
    exact ⟨none, 0, rfl, ⟨rfl, fun h => absurd h (by decide)⟩, fun _ => rfl, Nat.le_refl _, B0.out.trans (B1.out.mono B0.out.size)⟩
  | true =>
    have hm := mayB_true HQ.out
    have hpm := HPM.out
    rw [putM, if_pos HQ.out] at hpm
    subst hpm
    have HH : Bx (∀ w', Calls Try.prog 97 #[.agg (coreCells c k i g nm), .bool true] w' fun e w'' => ∃ A c9, e = .returned (.slice A (if true then 34 else 18) c9) ∧ RdB w'' A (if true then 34 else 18) (headOf true c k i g nm) ∧ (A = none → c9 = 0) ∧ Below w'.heap.size w' w'') := ⟨fun w' => by
      refine (mhead_any true c k i g nm w' H.out (u8_small (by omega) (by omega)) (u8_small (by omega) (by omega))).mono ?_
      rintro e w9 ⟨r, rfl, ho, hb⟩
      obtain ⟨A9, c9, rfl, h1, _, h3⟩ := ho.rdn (headOf_length true c k i g nm H.out)
      exact ⟨A9, c9, rfl, h1, h3, hb⟩⟩
    have LB : Bx ((bodyM true c k i g nm n2 flat n3 ds).length ≤ 65536) := ⟨by rw [bodyM_length H.out HRD2.out.1 HRD3.out.1]; split <;> omega⟩
    have IB : Bx (IsB (bodyM true c k i g nm n2 flat n3 ds)) := ⟨bodyM_isB ⟨by omega, by omega⟩ ⟨by omega, by omega⟩ HB.out HB2.out HB3.out⟩
    simp only [if_true, Bool.false_eq_true, if_false] at HH
    have hL : ∃ L, L = bodyM true c k i g nm n2 flat n3 ds ∧ ∃ n, L.length = n := ⟨_, rfl, _, rfl⟩
    obtain ⟨L, hL, n9, hL9⟩ := hL
    rw [← hL] at LB IB HPM ⊢
    have HL := bx hL; have HL9 := bx hL9
    rw [hL9] at LB
    clear hL hL9
    go_upto_region 3 with fail
    have hS0 : Below w0.heap.size w0 w1.drew := B1.out.drew
    refine wp_region_held_drew (S := (fun w' => Below w0.heap.size w0 w')) (by kernel_rfl) hS0 (fun hS => ?_)
    refine takeH (i := 0) (d := 12) (v := .agg CS) rfl rfl (by kernel_rfl) (by kernel_rfl) (by kernel_rfl) (fun _ _ _ h => h) (Or.inl ⟨by kernel_rfl, fun w' hS' => exec_load_aggM 116 (.tmp 1) rfl w.heap.size 0 rfl 116 CS CS.size _ (HK.out w' hS') Try.underlying116 rfl HIS.out (by omega) CS (extract_whole CS)⟩) hS ?_
    try simp only [List.setIfInBounds_toArray, List.set_cons_zero, List.set_cons_succ]
    refine takeH (i := 3) (d := 15) (v := ?_) rfl rfl (by kernel_rfl) (by kernel_rfl) (by kernel_rfl) (fun _ _ _ h => h) (Or.inl ⟨by kernel_rfl, ?_⟩) hS ?_; rotate_left 1; (focus ((intro w' hS'; clear hS'; go_simp; try with_reducible rfl); done))
    try simp only [List.setIfInBounds_toArray, List.set_cons_zero, List.set_cons_succ]
    refine takeH (i := 4) (d := 16) (v := ?_) rfl rfl (by kernel_rfl) (by kernel_rfl) (by kernel_rfl) (fun _ _ _ h => h) (Or.inl ⟨by kernel_rfl, ?_⟩) hS ?_; rotate_left 1; (focus ((intro w' hS'; obtain ⟨z0, z1⟩ := HC.out w' hS'; clear hS'; go_simp; try with_reducible rfl); done))
    try simp only [List.setIfInBounds_toArray, List.set_cons_zero, List.set_cons_succ]
    refine takeH (i := 5) (d := 17) (v := ?_) rfl rfl (by kernel_rfl) (by kernel_rfl) (by kernel_rfl) (fun _ _ _ h => h) (Or.inl ⟨by kernel_rfl, ?_⟩) hS ?_; rotate_left 1; (focus ((intro w' hS'; clear hS'; go_simp; try with_reducible rfl); done))
    try simp only [List.setIfInBounds_toArray, List.set_cons_zero, List.set_cons_succ]
    refine takeH (i := 6) (d := 18) (v := ?_) rfl rfl (by kernel_rfl) (by kernel_rfl) (by kernel_rfl) (fun _ _ _ h => h) (Or.inl ⟨by kernel_rfl, ?_⟩) hS ?_; rotate_left 1; (focus ((intro w' hS'; obtain ⟨z0, z1⟩ := HC.out w' hS'; clear hS'; go_simp; try with_reducible rfl); done))
    try simp only [List.setIfInBounds_toArray, List.set_cons_zero, List.set_cons_succ]
    refine wpAnyH_ready (rs := [1]) (by kernel_rfl) (by simp) ?_
    refine AllReadyH.cons rfl (fun K hK => ?_) AllReadyH.nil
    go_simp
    refine (HA1.out _).mono ?_
    rintro x w2 ⟨rfl, hb⟩
    have HB4 := bx hb
    clear hb
    refine hK.out _ _ ?_ (fun hS2 => ?_)
    · exact hS.trans (HB4.out.mono hS.size)
    clear hK K hS; have hS := hS2; clear hS2
    try simp only [Act.put, List.setIfInBounds_toArray, List.set_cons_zero, List.set_cons_succ]
    refine wpAnyH_ready (rs := [2]) (by kernel_rfl) (by simp) ?_
    refine AllReadyH.cons rfl (fun K hK => ?_) AllReadyH.nil
    go_simp
    refine (HH.out _).mono ?_
    rintro x w3 ⟨A5, c5, rfl, hr5, hn5, hb⟩
    have R5 := bx hr5; have N5 := bx hn5; have HB5 := bx hb
    clear hr5 hn5 hb
    refine hK.out _ _ ?_ (fun hS2 => ?_)
    · exact hS.trans (HB5.out.mono hS.size)
    clear hK K hS; have hS := hS2; clear hS2
    try simp only [Act.put, List.setIfInBounds_toArray, List.set_cons_zero, List.set_cons_succ]
    refine wpAnyH_ready (rs := [7]) (by kernel_rfl) (by simp) ?_
    refine AllReadyH.cons rfl (fun K hK => ?_) AllReadyH.nil
    go_simp
    refine (mtail_any A5 _ c5 _ A2 n2 cap2 flat A3 n3 cap3 ds _ (by first | exact R5.out | exact R5.out.drew') N5.out (HRD2.out.below (B0.out.trans (hS.mono B0.out.size))) (HRD3.out.below (B0.out.trans (hS.mono B0.out.size))) HN3.out (by decide) (by omega) (by omega)).mono ?_
    rintro x w4 ⟨r6, rfl, ho, hb⟩
    obtain ⟨A6, c6, rfl, hr6, _, hn6⟩ := ho.rdn (show _ = n9 by rw [← HL9.out, HL.out]; rfl)
    have R6 := bx hr6; have N6 := bx hn6; have HB6 := bx hb
    clear ho hr6 hn6 hb
    refine hK.out _ _ ?_ (fun hS2 => ?_)
    · exact hS.trans (HB6.out.mono hS.size)
    clear hK K hS; have hS := hS2; clear hS2
    try simp only [Act.put, List.setIfInBounds_toArray, List.set_cons_zero, List.set_cons_succ]
    refine wpAnyH_ready (rs := [8]) (by kernel_rfl) (by simp) ?_
    refine AllReadyH.cons rfl (fun K hK => ?_) AllReadyH.nil
    go_simp
    refine (fput_any _ A6 n9 c6 L _ (by decide) (by rw [HL.out]; first | exact R6.out | exact R6.out.drew') N6.out IB.out LB.out).mono ?_
    rintro x w5 ⟨r7, rfl, ho, hb⟩
    obtain ⟨A7, c7, rfl, hr7, hc7, hn7⟩ := ho.rdn rfl
    have R7 := bx hr7; have N7 := bx hn7; have C7 := bx hc7; have HB7 := bx hb
    clear ho hr7 hc7 hn7 hb
    refine hK.out _ _ ?_ (fun hS2 => ?_)
    · exact hS.trans (HB7.out.mono hS.size)
    clear hK K hS; have hS := hS2; clear hS2
    try simp only [Act.put, List.setIfInBounds_toArray, List.set_cons_zero, List.set_cons_succ]
    refine takeH (i := 9) (d := 21) (v := ?_) rfl rfl (by kernel_rfl) (by kernel_rfl) (by kernel_rfl) (fun _ _ _ h => h) (Or.inl ⟨by kernel_rfl, ?_⟩) hS ?_; rotate_left 1; (focus ((intro w' hS'; clear hS'; go_simp; try with_reducible rfl); done))
    try simp only [List.setIfInBounds_toArray, List.set_cons_zero, List.set_cons_succ]
    refine takeH (i := 10) (d := 22) (v := ?_) rfl rfl (by kernel_rfl) (by kernel_rfl) (by kernel_rfl) (fun _ _ _ h => h) (Or.inl ⟨by kernel_rfl, ?_⟩) hS ?_; rotate_left 1; (focus ((intro w' hS'; clear hS'; go_simp; try with_reducible rfl); done))
    try simp only [List.setIfInBounds_toArray, List.set_cons_zero, List.set_cons_succ]
    refine takeH (i := 11) (d := 2) (v := ?_) rfl rfl (by kernel_rfl) (by kernel_rfl) (by kernel_rfl) (fun _ _ _ h => h) (Or.inl ⟨by kernel_rfl, ?_⟩) hS ?_; rotate_left 1; (focus ((intro w' hS'; clear hS'; go_simp; try with_reducible rfl); done))
    try simp only [List.setIfInBounds_toArray, List.set_cons_zero, List.set_cons_succ]
    refine takeH (i := 12) (d := 3) (v := ?_) rfl rfl (by kernel_rfl) (by kernel_rfl) (by kernel_rfl) (fun _ _ _ h => h) (Or.inl ⟨by kernel_rfl, ?_⟩) hS ?_; rotate_left 1; (focus ((intro w' hS'; clear hS'; go_simp; try with_reducible rfl); done))
    try simp only [List.setIfInBounds_toArray, List.set_cons_zero, List.set_cons_succ]
    refine wpAnyH_done (by kernel_rfl) ?_ _
    have B5 := bx (B0.out.trans (hS.mono B0.out.size))
    clear hS hS0
    go_wp2_with fail
    refine bodyPost_ret (results_tmp2 rfl _ _ _) rfl ?_
    have hLx := HL.out
    subst hLx
    exact ⟨_, _, rfl, R7.out, N7.out, C7.out, B5.out⟩
set_option maxRecDepth 100000 in
set_option maxHeartbeats 800000 in
theorem putp_any (c k i g : Int) (nm : List Int) (A2 : Option Addr) (n2 cap2 : Nat) (flat : List Int) (A3 : Option Addr) (n3 cap3 : Nat) (ds : List Int) (w : World) (h : nm.length = 16) (hrd2 : RdB w A2 (16 * n2) flat) (hrd3 : RdB w A3 n3 ds) (hnil3 : A3 = none → cap3 = 0) (hB : IsB nm) (hB2 : IsB flat) (hB3 : IsB ds) (hz : nm = zero16 ∨ false = true) :
    Calls Try.prog 56 #[.agg (repCells c i k g (.slice A2 n2 cap2) (.slice A3 n3 cap3))] w (PutOut w (putM (if false then 1 else 2) 0 9 false c k i g nm n2 flat n3 ds)) := by
  obtain ⟨w0, hw0⟩ : ∃ w0, w0 = w.alloc (.cells (repCells c i k g (.slice A2 n2 cap2) (.slice A3 n3 cap3)) 118) := ⟨_, rfl⟩
  have K0 : Bx (w0.heap[w.heap.size]? = some (.cells (repCells c i k g (.slice A2 n2 cap2) (.slice A3 n3 cap3)) 118 (0, 0))) := ⟨by rw [hw0]; exact blk_new w _⟩
  have B0 : Bx (Below w.heap.size w w0) := ⟨by rw [hw0]; exact (Below.refl _ _).alloc (Nat.le_refl _) _⟩
  have H := bx h; have HRD2 := bx hrd2; have HRD3 := bx hrd3; have HN3 := bx hnil3; have HB := bx hB; have HB2 := bx hB2; have HB3 := bx hB3
  have HIS : Bx ((Try.prog.info? 118).map (·.size) = some (repCells c i k g (.slice A2 n2 cap2) (.slice A3 n3 cap3)).size) := ⟨rep_is⟩
  have HC : Bx (∀ w', Below w0.heap.size w0 w' → w'.cell? ⟨w.heap.size, if false then 20 else 4, none⟩ = some (.slice A2 n2 cap2) ∧ w'.cell? ⟨w.heap.size, if false then 21 else 5, none⟩ = some (.slice A3 n3 cap3)) := ⟨fun w' hb => by
    have hk := (hb.block _ (blk_lt K0.out)).trans K0.out
    obtain ⟨e1, e2⟩ : _ ∧ _ := (show (repCells c i k g (.slice A2 n2 cap2) (.slice A3 n3 cap3))[if false then 20 else 4]? = some (.slice A2 n2 cap2) ∧ (repCells c i k g (.slice A2 n2 cap2) (.slice A3 n3 cap3))[if false then 21 else 5]? = some (.slice A3 n3 cap3) from ⟨rfl, rfl⟩)
    exact ⟨blk_cell hk e1, blk_cell hk e2⟩⟩
  have HK : Bx (∀ w', Below w0.heap.size w0 w' → w'.heap[w.heap.size]? = some (.cells (repCells c i k g (.slice A2 n2 cap2) (.slice A3 n3 cap3)) 118 (0, 0))) := ⟨fun w' hb => (hb.block _ (blk_lt K0.out)).trans K0.out⟩
  have HA1 : Bx (∀ w', Calls Try.prog 100 #[.agg (repCells c i k g (.slice A2 n2 cap2) (.slice A3 n3 cap3))] w' fun e w'' => e = .returned (.agg (coreCells c k i g nm)) ∧ Below w'.heap.size w' w'') := ⟨fun w' => by
    first
      | exact qcore_any c i k nm g _ _ w' H.out
      | (rcases hz with rfl | hz
         · exact pcore_any c i k g _ _ w'
         · cases hz)⟩
  have HA2 : Bx (∀ w', Calls Try.prog 95 #[.agg (coreCells c k i g nm), .int .i64 0, .int .i64 9, .slice A2 n2 cap2, .slice A3 n3 cap3] w' fun e w'' => e = .returned (.bool (mayB c k 0 9 n2 n3)) ∧ Below w'.heap.size w' w'') := ⟨fun w' => msgmay_any c k i g nm 0 9 A2 n2 cap2 A3 n3 cap3 w'⟩
  simp only [if_true, Bool.false_eq_true, if_false] at HC ⊢
  have HW := bx hw0
  obtain ⟨pm, hpm⟩ : ∃ pm, putM (if false then 1 else 2) 0 9 false c k i g nm n2 flat n3 ds = pm := ⟨_, rfl⟩
  simp only [if_true, Bool.false_eq_true, if_false] at hpm
  rw [hpm]
  have HPM := bx hpm
  clear hpm
  obtain ⟨q, hq⟩ : ∃ q, mayB c k 0 9 n2 n3 = q := ⟨_, rfl⟩
  have HQ := bx hq
  rw [hq] at HA2
  clear h hw0 hrd2 hrd3 hnil3 hB hB2 hB3 hz hq
  generalize hv : repCells c i k g (.slice A2 n2 cap2) (.slice A3 n3 cap3) = CS at *
  have HV := bx hv
  clear hv
  go_enter Try.func56, Try.ntmps56
  go_upto_region 1 with fail
  rw [← HW.out]
  clear HW
  try simp only [Act.put]
  refine region_quietC (fun w' => Below w0.heap.size w0 w') (by kernel_rfl) (by kernel_rfl) ((Below.refl _ _).drew) ?_
  repeat (first
    | go_big_quiet_skip
    | (refine quiet_take (v := .agg CS) 4 rfl (by kernel_rfl) (fun w' hw' => quiet_load_all 118 (.tmp 1) rfl rfl (HK.out w' hw') Try.underlying118 rfl HIS.out) ?_; try simp only [List.setIfInBounds_toArray, List.set_cons_zero, List.set_cons_succ])
    | (go_big_quiet_want; go_big_quiet_op; go_big_quiet_on)
    | (refine quiet_take (v := ?_) _ rfl (by kernel_rfl) ?_ ?_; rotate_left 1; (focus (first | (intro w' hw'; clear hw'; unfold Oper.quietAt; go_simp; done) | (intro w' hw'; clear hw'; unfold Oper.quietAt; go_simp; with_reducible rfl) | (intro w' hw'; obtain ⟨z0, z1⟩ := HC.out w' hw'; unfold Oper.quietAt; go_simp; first | done | with_reducible rfl | ((with_reducible refine (HA1.out w').mono ?_); rintro x w9 ⟨rfl, hb⟩; refine ⟨?_, hw'.trans (hb.mono hw'.size)⟩; with_reducible rfl) | ((with_reducible refine (HA2.out w').mono ?_); rintro x w9 ⟨rfl, hb⟩; refine ⟨?_, hw'.trans (hb.mono hw'.size)⟩; with_reducible rfl)))); try simp only [List.setIfInBounds_toArray, List.set_cons_zero, List.set_cons_succ]))
  refine wpQuiet_nil ?_
  intro w1 hw1
  have B1 := bx hw1
  clear hw1
  cases q with
  | false =>
    have hpm := HPM.out
    rw [putM, if_neg (by rw [HQ.out]; decide)] at hpm
    subst hpm
    clear HA1 HA2
    go_wp2_with fail
    refine bodyPost_ret (results_tmp2 rfl _ _ _) rfl ?_
    exact ⟨none, 0, rfl, ⟨rfl, fun h => absurd h (by decide)⟩, fun _ => rfl, Nat.le_refl _, B0.out.trans (B1.out.mono B0.out.size)⟩
  | true =>
    have hm := mayB_true HQ.out
    have hpm := HPM.out
    rw [putM, if_pos HQ.out] at hpm
    subst hpm
    have HH : Bx (∀ w', Calls Try.prog 97 #[.agg (coreCells c k i g nm), .bool false] w' fun e w'' => ∃ A c9, e = .returned (.slice A (if false then 34 else 18) c9) ∧ RdB w'' A (if false then 34 else 18) (headOf false c k i g nm) ∧ (A = none → c9 = 0) ∧ Below w'.heap.size w' w'') := ⟨fun w' => by
      refine (mhead_any false c k i g nm w' H.out (u8_small (by omega) (by omega)) (u8_small (by omega) (by omega))).mono ?_
      rintro e w9 ⟨r, rfl, ho, hb⟩
      obtain ⟨A9, c9, rfl, h1, _, h3⟩ := ho.rdn (headOf_length false c k i g nm H.out)
      exact ⟨A9, c9, rfl, h1, h3, hb⟩⟩
    have LB : Bx ((bodyM false c k i g nm n2 flat n3 ds).length ≤ 65536) := ⟨by rw [bodyM_length H.out HRD2.out.1 HRD3.out.1]; split <;> omega⟩
    have IB : Bx (IsB (bodyM false c k i g nm n2 flat n3 ds)) := ⟨bodyM_isB ⟨by omega, by omega⟩ ⟨by omega, by omega⟩ HB.out HB2.out HB3.out⟩
    simp only [if_true, Bool.false_eq_true, if_false] at HH
    have hL : ∃ L, L = bodyM false c k i g nm n2 flat n3 ds ∧ ∃ n, L.length = n := ⟨_, rfl, _, rfl⟩
    obtain ⟨L, hL, n9, hL9⟩ := hL
    rw [← hL] at LB IB HPM ⊢
    have HL := bx hL; have HL9 := bx hL9
    rw [hL9] at LB
    clear hL hL9
    go_upto_region 3 with fail
    have hS0 : Below w0.heap.size w0 w1.drew := B1.out.drew
    refine wp_region_held_drew (S := (fun w' => Below w0.heap.size w0 w')) (by kernel_rfl) hS0 (fun hS => ?_)
    refine takeH (i := 0) (d := 12) (v := .agg CS) rfl rfl (by kernel_rfl) (by kernel_rfl) (by kernel_rfl) (fun _ _ _ h => h) (Or.inl ⟨by kernel_rfl, fun w' hS' => exec_load_aggM 118 (.tmp 1) rfl w.heap.size 0 rfl 118 CS CS.size _ (HK.out w' hS') Try.underlying118 rfl HIS.out (by omega) CS (extract_whole CS)⟩) hS ?_
    try simp only [List.setIfInBounds_toArray, List.set_cons_zero, List.set_cons_succ]
    refine takeH (i := 3) (d := 15) (v := ?_) rfl rfl (by kernel_rfl) (by kernel_rfl) (by kernel_rfl) (fun _ _ _ h => h) (Or.inl ⟨by kernel_rfl, ?_⟩) hS ?_; rotate_left 1; (focus ((intro w' hS'; clear hS'; go_simp; try with_reducible rfl); done))
    try simp only [List.setIfInBounds_toArray, List.set_cons_zero, List.set_cons_succ]
    refine takeH (i := 4) (d := 16) (v := ?_) rfl rfl (by kernel_rfl) (by kernel_rfl) (by kernel_rfl) (fun _ _ _ h => h) (Or.inl ⟨by kernel_rfl, ?_⟩) hS ?_; rotate_left 1; (focus ((intro w' hS'; obtain ⟨z0, z1⟩ := HC.out w' hS'; clear hS'; go_simp; try with_reducible rfl); done))
    try simp only [List.setIfInBounds_toArray, List.set_cons_zero, List.set_cons_succ]
    refine takeH (i := 5) (d := 17) (v := ?_) rfl rfl (by kernel_rfl) (by kernel_rfl) (by kernel_rfl) (fun _ _ _ h => h) (Or.inl ⟨by kernel_rfl, ?_⟩) hS ?_; rotate_left 1; (focus ((intro w' hS'; clear hS'; go_simp; try with_reducible rfl); done))
    try simp only [List.setIfInBounds_toArray, List.set_cons_zero, List.set_cons_succ]
    refine takeH (i := 6) (d := 18) (v := ?_) rfl rfl (by kernel_rfl) (by kernel_rfl) (by kernel_rfl) (fun _ _ _ h => h) (Or.inl ⟨by kernel_rfl, ?_⟩) hS ?_; rotate_left 1; (focus ((intro w' hS'; obtain ⟨z0, z1⟩ := HC.out w' hS'; clear hS'; go_simp; try with_reducible rfl); done))
    try simp only [List.setIfInBounds_toArray, List.set_cons_zero, List.set_cons_succ]
    refine wpAnyH_ready (rs := [1]) (by kernel_rfl) (by simp) ?_
    refine AllReadyH.cons rfl (fun K hK => ?_) AllReadyH.nil
    go_simp
    refine (HA1.out _).mono ?_
    rintro x w2 ⟨rfl, hb⟩
    have HB4 := bx hb
    clear hb
    refine hK.out _ _ ?_ (fun hS2 => ?_)
    · exact hS.trans (HB4.out.mono hS.size)
    clear hK K hS; have hS := hS2; clear hS2
    try simp only [Act.put, List.setIfInBounds_toArray, List.set_cons_zero, List.set_cons_succ]
    refine wpAnyH_ready (rs := [2]) (by kernel_rfl) (by simp) ?_
    refine AllReadyH.cons rfl (fun K hK => ?_) AllReadyH.nil
    go_simp
    refine (HH.out _).mono ?_
    rintro x w3 ⟨A5, c5, rfl, hr5, hn5, hb⟩
    have R5 := bx hr5; have N5 := bx hn5; have HB5 := bx hb
    clear hr5 hn5 hb
    refine hK.out _ _ ?_ (fun hS2 => ?_)
    · exact hS.trans (HB5.out.mono hS.size)
    clear hK K hS; have hS := hS2; clear hS2
    try simp only [Act.put, List.setIfInBounds_toArray, List.set_cons_zero, List.set_cons_succ]
    refine wpAnyH_ready (rs := [7]) (by kernel_rfl) (by simp) ?_
    refine AllReadyH.cons rfl (fun K hK => ?_) AllReadyH.nil
    go_simp
    refine (mtail_any A5 _ c5 _ A2 n2 cap2 flat A3 n3 cap3 ds _ (by first | exact R5.out | exact R5.out.drew') N5.out (HRD2.out.below (B0.out.trans (hS.mono B0.out.size))) (HRD3.out.below (B0.out.trans (hS.mono B0.out.size))) HN3.out (by decide) (by omega) (by omega)).mono ?_
    rintro x w4 ⟨r6, rfl, ho, hb⟩
    obtain ⟨A6, c6, rfl, hr6, _, hn6⟩ := ho.rdn (show _ = n9 by rw [← HL9.out, HL.out]; rfl)
    have R6 := bx hr6; have N6 := bx hn6; have HB6 := bx hb
    clear ho hr6 hn6 hb
    refine hK.out _ _ ?_ (fun hS2 => ?_)
    · exact hS.trans (HB6.out.mono hS.size)
    clear hK K hS; have hS := hS2; clear hS2
    try simp only [Act.put, List.setIfInBounds_toArray, List.set_cons_zero, List.set_cons_succ]
    refine wpAnyH_ready (rs := [8]) (by kernel_rfl) (by simp) ?_
    refine AllReadyH.cons rfl (fun K hK => ?_) AllReadyH.nil
    go_simp
    refine (fput_any _ A6 n9 c6 L _ (by decide) (by rw [HL.out]; first | exact R6.out | exact R6.out.drew') N6.out IB.out LB.out).mono ?_
    rintro x w5 ⟨r7, rfl, ho, hb⟩
    obtain ⟨A7, c7, rfl, hr7, hc7, hn7⟩ := ho.rdn rfl
    have R7 := bx hr7; have N7 := bx hn7; have C7 := bx hc7; have HB7 := bx hb
    clear ho hr7 hc7 hn7 hb
    refine hK.out _ _ ?_ (fun hS2 => ?_)
    · exact hS.trans (HB7.out.mono hS.size)
    clear hK K hS; have hS := hS2; clear hS2
    try simp only [Act.put, List.setIfInBounds_toArray, List.set_cons_zero, List.set_cons_succ]
    refine takeH (i := 9) (d := 21) (v := ?_) rfl rfl (by kernel_rfl) (by kernel_rfl) (by kernel_rfl) (fun _ _ _ h => h) (Or.inl ⟨by kernel_rfl, ?_⟩) hS ?_; rotate_left 1; (focus ((intro w' hS'; clear hS'; go_simp; try with_reducible rfl); done))
    try simp only [List.setIfInBounds_toArray, List.set_cons_zero, List.set_cons_succ]
    refine takeH (i := 10) (d := 22) (v := ?_) rfl rfl (by kernel_rfl) (by kernel_rfl) (by kernel_rfl) (fun _ _ _ h => h) (Or.inl ⟨by kernel_rfl, ?_⟩) hS ?_; rotate_left 1; (focus ((intro w' hS'; clear hS'; go_simp; try with_reducible rfl); done))
    try simp only [List.setIfInBounds_toArray, List.set_cons_zero, List.set_cons_succ]
    refine takeH (i := 11) (d := 2) (v := ?_) rfl rfl (by kernel_rfl) (by kernel_rfl) (by kernel_rfl) (fun _ _ _ h => h) (Or.inl ⟨by kernel_rfl, ?_⟩) hS ?_; rotate_left 1; (focus ((intro w' hS'; clear hS'; go_simp; try with_reducible rfl); done))
    try simp only [List.setIfInBounds_toArray, List.set_cons_zero, List.set_cons_succ]
    refine takeH (i := 12) (d := 3) (v := ?_) rfl rfl (by kernel_rfl) (by kernel_rfl) (by kernel_rfl) (fun _ _ _ h => h) (Or.inl ⟨by kernel_rfl, ?_⟩) hS ?_; rotate_left 1; (focus ((intro w' hS'; clear hS'; go_simp; try with_reducible rfl); done))
    try simp only [List.setIfInBounds_toArray, List.set_cons_zero, List.set_cons_succ]
    refine wpAnyH_done (by kernel_rfl) ?_ _
    have B5 := bx (B0.out.trans (hS.mono B0.out.size))
    clear hS hS0
    go_wp2_with fail
    refine bodyPost_ret (results_tmp2 rfl _ _ _) rfl ?_
    have hLx := HL.out
    subst hLx
    exact ⟨_, _, rfl, R7.out, N7.out, C7.out, B5.out⟩
end Go.Proofs.Ythnommoljikaiaa
