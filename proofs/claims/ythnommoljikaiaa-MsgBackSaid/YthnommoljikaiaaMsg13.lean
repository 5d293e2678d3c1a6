/- Messages: SameRequest, SameReply: where all is alike, and where what is without lists is not. -/
import Derived.Test.YthnommoljikaiaaMsg12
set_option linter.unusedSimpArgs false
set_option linter.unusedVariables false
namespace Go.Proofs.Ythnommoljikaiaa
open Go.RowKit

theorem quietAt_load_mid {P : Program} {o : Oper} {a : Act} {C : World → Prop} {w : World} (ty : TypeId) (x : Operand) (ho : o.op = .load ty x) {b off : Nat} (hx : a.eval x = .pointer (some ⟨b, off, none⟩)) {l : List Int} {d : TypeDesc} (hc : w.rangeAt b off (l.map (Value.int .u8)))
    (hu : P.underlying ty = some d) (hd : d.isRow = true) (hi : (P.info? ty).map (·.size) = some (l.map (Value.int .u8)).length) : o.quietAt P a C w (.agg (ints .u8 l)) := by
  unfold Oper.quietAt execOp
  simp only [ho, hx, Instr.loadAt, Instr.sureAddr, Sem.run_bind, Sem.run_pure, Result.andThen_ok, run_loadVar_mid w b off ty _ d hc hu hd hi]
  exact ⟨rfl, rfl⟩
def nmAt (flat : List Int) (j : Nat) : List Int := (flat.drop (16 * j)).take 16
theorem rdB_range {w : World} {A : Option Addr} {n j : Nat} {flat : List Int} (h : RdB w A (16 * n) flat) (hj : j < n) : ∃ b o, A = some ⟨b, o, none⟩ ∧ b < w.heap.size ∧ (∀ w', Below w.heap.size w w' → w'.rangeAt b (o + j * 16) ((nmAt flat j).map (Value.int .u8))) ∧ (nmAt flat j).length = 16 := by
  obtain ⟨b, o, rfl, hl, _⟩ := h.2 (by omega)
  have hlen : (nmAt flat j).length = 16 := by rw [nmAt, List.length_take, List.length_drop, h.1]; omega
  refine ⟨b, o, rfl, hl, fun w' hb q v hv => ?_, hlen⟩
  have hq : q < 16 := by
    have := (List.getElem?_eq_some_iff.1 hv).1
    rw [List.length_map, hlen] at this
    exact this
  obtain ⟨b9, o9, e9, _, hc9⟩ := (rdB_sub (16 * j) 16 (h.below hb) (by omega)).2 (by decide)
  cases e9
  have e : (nmAt flat j)[q]? = some ((nmAt flat j).getD q 0) := by
    rw [List.getD_eq_getElem?_getD, List.getElem?_eq_getElem (show q < (nmAt flat j).length by rw [hlen]; exact hq)]
    rfl
  rw [Nat.mul_comm j 16, hc9 q hq, ← hv, List.getElem?_map, e]
  rfl
theorem core_get (c k i g : Int) (nm : List Int) : (coreCells c k i g nm)[0]? = some (.int .i64 c) ∧ (coreCells c k i g nm)[1]? = some (.int .i64 k) ∧ (coreCells c k i g nm)[2]? = some (.int .u64 i) ∧ (coreCells c k i g nm)[3]? = some (.int .u64 g) := ⟨rfl, rfl, rfl, rfl⟩
def coreB (c k i g c' k' i' g' : Int) (s s' : List Int) : Bool := (c == c') && ((k == k') && ((i == i') && ((g == g') && ((decide (s = s')) && true))))
theorem core_eqIn (c k i g c' k' i' g' : Int) (s s' : List Int) (hs : s.length = 16) (hs' : s'.length = 16) (w : World) :
    (Op.equalIn 10000 187 (.agg (coreCells c k i g s)) (.agg (coreCells c' k' i' g' s'))).run Try.prog w = .ok (coreB c k i g c' k' i' g' s s') w := by
  rw [eqIn_struct Try.underlying187 Try.stoodInHeld187 9999]
  refine eqf_step (by decide) (part_int Try.underlying3 (core_get c k i g s).1 w) (part_int Try.underlying3 (core_get c' k' i' g' s').1 w) (run_equalIn_int w 9998 _ _ _ c c' Try.underlying3) ?_
  refine eqf_step (by decide) (part_int Try.underlying3 (core_get c k i g s).2.1 w) (part_int Try.underlying3 (core_get c' k' i' g' s').2.1 w) (run_equalIn_int w 9998 _ _ _ k k' Try.underlying3) ?_
  refine eqf_step (by decide) (part_int Try.underlying65 (core_get c k i g s).2.2.1 w) (part_int Try.underlying65 (core_get c' k' i' g' s').2.2.1 w) (run_equalIn_int w 9998 _ _ _ i i' Try.underlying65) ?_
  refine eqf_step (by decide) (part_int Try.underlying65 (core_get c k i g s).2.2.2 w) (part_int Try.underlying65 (core_get c' k' i' g' s').2.2.2 w) (run_equalIn_int w 9998 _ _ _ g g' Try.underlying65) ?_
  refine eqf_step (a := .agg (ints .u8 s)) (b := .agg (ints .u8 s')) (by decide) ?_ ?_ (eq_ints Try.underlying113 Try.underlying5 (by kernel_rfl) 9997 s s' hs hs' w) eqf_nil
  · rw [← core_nmx c k i g s hs]; exact part_agg Try.underlying113 rfl name_info w
  · rw [← core_nmx c' k' i' g' s' hs']; exact part_agg Try.underlying113 rfl name_info w
def sameq_falsez (_ : List Int) : Prop := True
def samep_falsez (nm : List Int) : Prop := nm = zero16
theorem coreB_same (c k i g : Int) (s : List Int) : coreB c k i g c k i g s s = true := by simp [coreB]
set_option maxRecDepth 100000 in
set_option maxHeartbeats 800000 in
theorem nameseq_any (A : Option Addr) (n cap : Nat) (flat : List Int) (A2 : Option Addr) (cap2 : Nat) (w : World) (h1 : RdB w A (16 * n) flat) (h2 : RdB w A2 (16 * n) flat) (hn : n ≤ 1099511627776) :
    Calls Try.prog 102 #[.slice A n cap, .slice A2 n cap2] w fun e w' => e = .returned (.bool true) ∧ Below w.heap.size w w' := by
  have R1 := bx h1; have R2 := bx h2
  clear h1 h2
  go_enter Try.func102, Try.ntmps102
  go_wp2_with fail
  go_loopw [13] (fun i wr => ∃ j : Nat, j ≤ n ∧ i = .int .i64 j ∧ Below w.heap.size w wr) (fun i _ => (n - intOf i).toNat)
  case atStart => exact ⟨0, Nat.zero_le _, rfl, Below.refl _ _⟩
  case round =>
    obtain ⟨j, hj, rfl, hb⟩ := hrel
    have B := bx hb
    clear hb
    by_cases hlt : j < n
    · have hlt' : (j : Int) < n := by omega
      obtain ⟨b1, o1, rfl, _, hr1, hl⟩ := rdB_range (R1.out.below B.out) hlt
      obtain ⟨b2, o2, rfl, _, hr2, _⟩ := rdB_range (R2.out.below B.out) hlt
      have HR1 := bx hr1; have HR2 := bx hr2
      have HI : Bx ((Try.prog.info? 113).map (·.size) = some ((nmAt flat j).map (Value.int .u8)).length) := ⟨by rw [List.length_map, hl]; exact name_info⟩
      have hne : ∀ w, (Op.equalIn 10000 113 (.agg (ints .u8 (nmAt flat j))) (.agg (ints .u8 (nmAt flat j)))).run Try.prog w = .ok true w := fun w => by
        rw [eq_ints Try.underlying113 Try.underlying5 (by kernel_rfl) 9998 _ _ hl hl w]; simp
      generalize nmAt flat j = nm at *
      clear hr1 hr2 hl R1 R2
      go_wp2_with fail
      try simp only [Act.put]
      refine region_quietC (fun w' => Below wr.heap.size wr w') (by kernel_rfl) (by kernel_rfl) ((Below.refl _ _).drew) ?_
      repeat (first
        | go_big_quiet_skip
        | (refine quiet_take (v := .agg (ints .u8 nm)) 19 rfl (by kernel_rfl) (fun w' hw' => quietAt_load_mid 113 (.tmp 18) rfl rfl (HR1.out w' hw') Try.underlying113 rfl HI.out) ?_; try simp only [List.setIfInBounds_toArray, List.set_cons_zero, List.set_cons_succ])
        | (refine quiet_take (v := .agg (ints .u8 nm)) 23 rfl (by kernel_rfl) (fun w' hw' => quietAt_load_mid 113 (.tmp 22) rfl rfl (HR2.out w' hw') Try.underlying113 rfl HI.out) ?_; try simp only [List.setIfInBounds_toArray, List.set_cons_zero, List.set_cons_succ])
        | (go_big_quiet_want; go_big_quiet_op; go_big_quiet_on)
        | (refine quiet_take (v := ?_) _ rfl (by kernel_rfl) ?_ ?_; rotate_left 1; (focus (first | (intro w' hw'; clear hw'; unfold Oper.quietAt; go_simp; done) | (intro w' hw'; clear hw'; unfold Oper.quietAt; go_simp; with_reducible rfl) | (intro w' hw'; skip; unfold Oper.quietAt; go_simp; first | done | with_reducible rfl))); try simp only [List.setIfInBounds_toArray, List.set_cons_zero, List.set_cons_succ]))
      refine wpQuiet_nil ?_
      intro w1 hw1
      have B2 := bx (B.out.trans (hw1.mono B.out.size))
      clear hw1
      go_wp2_with fail
      go_roundw
      case rel => exact ⟨j + 1, by omega, by first | rfl | go_num, B2.out⟩
      case measure => simp only [intOf]; omega
    · have hlt' : ¬ (j : Int) < n := by omega
      go_wp2_with fail
      go_ret
      exact ⟨rfl, B.out⟩
set_option maxRecDepth 100000 in
set_option maxHeartbeats 800000 in
theorem sameq_true (c i k : Int) (nm : List Int) (g : Int) (A2 : Option Addr) (n cap2 : Nat) (flat : List Int) (A3 : Option Addr) (n3 cap3 : Nat) (ds : List Int) (B2 : Option Addr) (cap4 : Nat) (B3 : Option Addr) (cap5 : Nat) (w : World) (h : nm.length = 16)
    (r1 : RdB w A2 (16 * n) flat) (r2 : RdB w B2 (16 * n) flat) (r3 : RdB w A3 n3 ds) (r4 : RdB w B3 n3 ds) (hB : IsB ds) (hn : n ≤ 1099511627776) :
    Calls Try.prog 64 #[.agg (reqCells c i k nm g (.slice A2 n cap2) (.slice A3 n3 cap3)), .agg (reqCells c i k nm g (.slice B2 n cap4) (.slice B3 n3 cap5))] w fun e w' => e = .returned (.bool true) ∧ Below w.heap.size w w' := by
  obtain ⟨w0, hw0⟩ : ∃ w0, w0 = (w.alloc (.cells (reqCells c i k nm g (.slice A2 n cap2) (.slice A3 n3 cap3)) 116)).alloc (.cells (reqCells c i k nm g (.slice B2 n cap4) (.slice B3 n3 cap5)) 116) := ⟨_, rfl⟩
  have K0 : Bx (w0.heap[w.heap.size]? = some (.cells (reqCells c i k nm g (.slice A2 n cap2) (.slice A3 n3 cap3)) 116 (0, 0))) := ⟨by rw [hw0]; exact heap_alloc2_old w _ _⟩
  have K1 : Bx (w0.heap[w.heap.size + 1]? = some (.cells (reqCells c i k nm g (.slice B2 n cap4) (.slice B3 n3 cap5)) 116 (0, 0))) := ⟨by rw [hw0]; exact heap_alloc2_new w _ _⟩
  have B0 : Bx (Below w.heap.size w w0) := ⟨by rw [hw0]; exact ((Below.refl _ _).alloc (Nat.le_refl _) _).alloc (by simp) _⟩
  have H := bx h
  have HIS : Bx (∀ nv dv, (Try.prog.info? 116).map (·.size) = some (reqCells c i k nm g nv dv).size) := ⟨fun _ _ => (req_is H.out)⟩
  have HG : Bx (∀ nv dv, (reqCells c i k nm g nv dv)[20]? = some nv ∧ (reqCells c i k nm g nv dv)[21]? = some dv) := ⟨fun nv dv => by first | exact ⟨rfl, rfl⟩ | exact (req_get c i k nm g nv dv H.out).2⟩
  have HK0 : Bx (∀ w', Below w0.heap.size w0 w' → w'.heap[w.heap.size]? = some (.cells (reqCells c i k nm g (.slice A2 n cap2) (.slice A3 n3 cap3)) 116 (0, 0))) := ⟨fun w' hb => (hb.block _ (blk_lt K0.out)).trans K0.out⟩
  have HK1 : Bx (∀ w', Below w0.heap.size w0 w' → w'.heap[w.heap.size + 1]? = some (.cells (reqCells c i k nm g (.slice B2 n cap4) (.slice B3 n3 cap5)) 116 (0, 0))) := ⟨fun w' hb => (hb.block _ (blk_lt K1.out)).trans K1.out⟩
  have HC : Bx (∀ w', Below w0.heap.size w0 w' → w'.cell? ⟨w.heap.size, 20, none⟩ = some (.slice A2 n cap2) ∧ w'.cell? ⟨w.heap.size, 21, none⟩ = some (.slice A3 n3 cap3) ∧ w'.cell? ⟨w.heap.size + 1, 20, none⟩ = some (.slice B2 n cap4) ∧ w'.cell? ⟨w.heap.size + 1, 21, none⟩ = some (.slice B3 n3 cap5)) := ⟨fun w' hb =>
    ⟨blk_cell (HK0.out w' hb) (HG.out _ _).1, blk_cell (HK0.out w' hb) (HG.out _ _).2, blk_cell (HK1.out w' hb) (HG.out _ _).1, blk_cell (HK1.out w' hb) (HG.out _ _).2⟩⟩
  have HA : Bx (∀ w', Calls Try.prog 94 #[.agg (reqCells c i k nm g (.slice A2 n cap2) (.slice A3 n3 cap3))] w' fun e w'' => e = .returned (.agg (coreCells c k i g nm)) ∧ Below w'.heap.size w' w'') := ⟨fun w' => qcore_any c i k nm g _ _ w' H.out⟩
  have HB : Bx (∀ w', Calls Try.prog 94 #[.agg (reqCells c i k nm g (.slice B2 n cap4) (.slice B3 n3 cap5))] w' fun e w'' => e = .returned (.agg (coreCells c k i g nm)) ∧ Below w'.heap.size w' w'') := ⟨fun w' => qcore_any c i k nm g _ _ w' H.out⟩
  have HN : Bx (∀ w', Below w0.heap.size w0 w' → Calls Try.prog 102 #[.slice A2 n cap2, .slice B2 n cap4] w' fun e w'' => e = .returned (.bool true) ∧ Below w'.heap.size w' w'') := ⟨fun w' hb =>
    nameseq_any A2 n cap2 flat B2 cap4 w' (r1.below (B0.out.trans (hb.mono B0.out.size))) (r2.below (B0.out.trans (hb.mono B0.out.size))) hn⟩
  have HE : Bx (∀ w', Below w0.heap.size w0 w' → Calls Try.prog 92 #[.slice A3 n3 cap3, .slice B3 n3 cap5] w' fun e w'' => e = .returned (.bool true) ∧ Below w'.heap.size w' w'') := ⟨fun w' hb => by
    refine (equal_any A3 n3 cap3 ds B3 n3 cap5 ds w' (r3.below (B0.out.trans (hb.mono B0.out.size))) (r4.below (B0.out.trans (hb.mono B0.out.size))) hB hB).mono ?_
    rintro e w'' ⟨rfl, rfl⟩
    exact ⟨by simp, Below.refl _ _⟩⟩
  have hce : ∀ w, (Op.equalIn 10000 187 (.agg (coreCells c k i g nm)) (.agg (coreCells c k i g nm))).run Try.prog w = .ok true w := fun w => by
    rw [core_eqIn c k i g c k i g nm nm (by first | exact h | rfl) (by first | exact h | rfl) w, coreB_same]
  have I0 : Bx ((Try.prog.info? 116).map (·.size) = some (reqCells c i k nm g (.slice A2 n cap2) (.slice A3 n3 cap3)).size) := ⟨HIS.out _ _⟩
  have I1 : Bx ((Try.prog.info? 116).map (·.size) = some (reqCells c i k nm g (.slice B2 n cap4) (.slice B3 n3 cap5)).size) := ⟨HIS.out _ _⟩
  have HW := bx hw0
  clear hw0 h r1 r2 r3 r4 hB hn HIS HG K0 K1
  generalize hca : reqCells c i k nm g (.slice A2 n cap2) (.slice A3 n3 cap3) = CA at *
  generalize hcb : reqCells c i k nm g (.slice B2 n cap4) (.slice B3 n3 cap5) = CB at *
  generalize coreCells c k i g nm = CC at *
  clear hca hcb H
  go_enter Try.func64, Try.ntmps64
  go_upto_region 1 with fail
  rw [← HW.out]
  clear HW
  try simp only [Act.put]
  refine region_quietC (fun w' => Below w0.heap.size w0 w') (by kernel_rfl) (by kernel_rfl) ((Below.refl _ _).drew) ?_
  repeat (first
    | go_big_quiet_skip
    | (refine quiet_take (v := .agg CA) 5 rfl (by kernel_rfl) (fun w' hw' => quiet_load_all 116 (.tmp 2) rfl rfl (HK0.out w' hw') Try.underlying116 rfl I0.out) ?_; try simp only [List.setIfInBounds_toArray, List.set_cons_zero, List.set_cons_succ])
    | (refine quiet_take (v := .agg CB) 7 rfl (by kernel_rfl) (fun w' hw' => quiet_load_all 116 (.tmp 3) rfl rfl (HK1.out w' hw') Try.underlying116 rfl I1.out) ?_; try simp only [List.setIfInBounds_toArray, List.set_cons_zero, List.set_cons_succ])
    | (go_big_quiet_want; go_big_quiet_op; go_big_quiet_on)
    | (refine quiet_take (v := ?_) _ rfl (by kernel_rfl) ?_ ?_; rotate_left 1; (focus (first | (intro w' hw'; clear hw'; unfold Oper.quietAt; go_simp; done) | (intro w' hw'; clear hw'; unfold Oper.quietAt; go_simp; with_reducible rfl) | (intro w' hw'; obtain ⟨z0, z1, z2, z3⟩ := HC.out w' hw'; unfold Oper.quietAt; go_simp; first | done | with_reducible rfl | ((with_reducible refine (HA.out w').mono ?_); rintro x w9 ⟨rfl, hb⟩; refine ⟨?_, hw'.trans (hb.mono hw'.size)⟩; with_reducible rfl) | ((with_reducible refine (HB.out w').mono ?_); rintro x w9 ⟨rfl, hb⟩; refine ⟨?_, hw'.trans (hb.mono hw'.size)⟩; with_reducible rfl) | ((with_reducible refine (HN.out w' hw').mono ?_); rintro x w9 ⟨rfl, hb⟩; refine ⟨?_, hw'.trans (hb.mono hw'.size)⟩; with_reducible rfl) | ((with_reducible refine (HE.out w' hw').mono ?_); rintro x w9 ⟨rfl, hb⟩; refine ⟨?_, hw'.trans (hb.mono hw'.size)⟩; with_reducible rfl)))); try simp only [List.setIfInBounds_toArray, List.set_cons_zero, List.set_cons_succ]))
  refine wpQuiet_nil ?_
  intro w1 hw1
  have B1 := bx (B0.out.trans (hw1.mono B0.out.size))
  clear hw1
  go_wp2_with fail
  go_ret
  exact ⟨rfl, B1.out⟩
set_option maxRecDepth 100000 in
set_option maxHeartbeats 800000 in
theorem samep_true (c i k : Int) (nm : List Int) (g : Int) (A2 : Option Addr) (n cap2 : Nat) (flat : List Int) (A3 : Option Addr) (n3 cap3 : Nat) (ds : List Int) (B2 : Option Addr) (cap4 : Nat) (B3 : Option Addr) (cap5 : Nat) (w : World) (h : nm.length = 16)
    (r1 : RdB w A2 (16 * n) flat) (r2 : RdB w B2 (16 * n) flat) (r3 : RdB w A3 n3 ds) (r4 : RdB w B3 n3 ds) (hB : IsB ds) (hn : n ≤ 1099511627776) :
    Calls Try.prog 65 #[.agg (repCells c i k g (.slice A2 n cap2) (.slice A3 n3 cap3)), .agg (repCells c i k g (.slice B2 n cap4) (.slice B3 n3 cap5))] w fun e w' => e = .returned (.bool true) ∧ Below w.heap.size w w' := by
  obtain ⟨w0, hw0⟩ : ∃ w0, w0 = (w.alloc (.cells (repCells c i k g (.slice A2 n cap2) (.slice A3 n3 cap3)) 118)).alloc (.cells (repCells c i k g (.slice B2 n cap4) (.slice B3 n3 cap5)) 118) := ⟨_, rfl⟩
  have K0 : Bx (w0.heap[w.heap.size]? = some (.cells (repCells c i k g (.slice A2 n cap2) (.slice A3 n3 cap3)) 118 (0, 0))) := ⟨by rw [hw0]; exact heap_alloc2_old w _ _⟩
  have K1 : Bx (w0.heap[w.heap.size + 1]? = some (.cells (repCells c i k g (.slice B2 n cap4) (.slice B3 n3 cap5)) 118 (0, 0))) := ⟨by rw [hw0]; exact heap_alloc2_new w _ _⟩
  have B0 : Bx (Below w.heap.size w w0) := ⟨by rw [hw0]; exact ((Below.refl _ _).alloc (Nat.le_refl _) _).alloc (by simp) _⟩
  have H := bx h
  have HIS : Bx (∀ nv dv, (Try.prog.info? 118).map (·.size) = some (repCells c i k g nv dv).size) := ⟨fun _ _ => rep_is⟩
  have HG : Bx (∀ nv dv, (repCells c i k g nv dv)[4]? = some nv ∧ (repCells c i k g nv dv)[5]? = some dv) := ⟨fun nv dv => by first | exact ⟨rfl, rfl⟩ | exact (req_get c i k nm g nv dv H.out).2⟩
  have HK0 : Bx (∀ w', Below w0.heap.size w0 w' → w'.heap[w.heap.size]? = some (.cells (repCells c i k g (.slice A2 n cap2) (.slice A3 n3 cap3)) 118 (0, 0))) := ⟨fun w' hb => (hb.block _ (blk_lt K0.out)).trans K0.out⟩
  have HK1 : Bx (∀ w', Below w0.heap.size w0 w' → w'.heap[w.heap.size + 1]? = some (.cells (repCells c i k g (.slice B2 n cap4) (.slice B3 n3 cap5)) 118 (0, 0))) := ⟨fun w' hb => (hb.block _ (blk_lt K1.out)).trans K1.out⟩
  have HC : Bx (∀ w', Below w0.heap.size w0 w' → w'.cell? ⟨w.heap.size, 4, none⟩ = some (.slice A2 n cap2) ∧ w'.cell? ⟨w.heap.size, 5, none⟩ = some (.slice A3 n3 cap3) ∧ w'.cell? ⟨w.heap.size + 1, 4, none⟩ = some (.slice B2 n cap4) ∧ w'.cell? ⟨w.heap.size + 1, 5, none⟩ = some (.slice B3 n3 cap5)) := ⟨fun w' hb =>
    ⟨blk_cell (HK0.out w' hb) (HG.out _ _).1, blk_cell (HK0.out w' hb) (HG.out _ _).2, blk_cell (HK1.out w' hb) (HG.out _ _).1, blk_cell (HK1.out w' hb) (HG.out _ _).2⟩⟩
  have HA : Bx (∀ w', Calls Try.prog 100 #[.agg (repCells c i k g (.slice A2 n cap2) (.slice A3 n3 cap3))] w' fun e w'' => e = .returned (.agg (coreCells c k i g zero16)) ∧ Below w'.heap.size w' w'') := ⟨fun w' => pcore_any c i k g _ _ w'⟩
  have HB : Bx (∀ w', Calls Try.prog 100 #[.agg (repCells c i k g (.slice B2 n cap4) (.slice B3 n3 cap5))] w' fun e w'' => e = .returned (.agg (coreCells c k i g zero16)) ∧ Below w'.heap.size w' w'') := ⟨fun w' => pcore_any c i k g _ _ w'⟩
  have HN : Bx (∀ w', Below w0.heap.size w0 w' → Calls Try.prog 102 #[.slice A2 n cap2, .slice B2 n cap4] w' fun e w'' => e = .returned (.bool true) ∧ Below w'.heap.size w' w'') := ⟨fun w' hb =>
    nameseq_any A2 n cap2 flat B2 cap4 w' (r1.below (B0.out.trans (hb.mono B0.out.size))) (r2.below (B0.out.trans (hb.mono B0.out.size))) hn⟩
  have HE : Bx (∀ w', Below w0.heap.size w0 w' → Calls Try.prog 92 #[.slice A3 n3 cap3, .slice B3 n3 cap5] w' fun e w'' => e = .returned (.bool true) ∧ Below w'.heap.size w' w'') := ⟨fun w' hb => by
    refine (equal_any A3 n3 cap3 ds B3 n3 cap5 ds w' (r3.below (B0.out.trans (hb.mono B0.out.size))) (r4.below (B0.out.trans (hb.mono B0.out.size))) hB hB).mono ?_
    rintro e w'' ⟨rfl, rfl⟩
    exact ⟨by simp, Below.refl _ _⟩⟩
  have hce : ∀ w, (Op.equalIn 10000 187 (.agg (coreCells c k i g zero16)) (.agg (coreCells c k i g zero16))).run Try.prog w = .ok true w := fun w => by
    rw [core_eqIn c k i g c k i g zero16 zero16 (by first | exact h | rfl) (by first | exact h | rfl) w, coreB_same]
  have I0 : Bx ((Try.prog.info? 118).map (·.size) = some (repCells c i k g (.slice A2 n cap2) (.slice A3 n3 cap3)).size) := ⟨HIS.out _ _⟩
  have I1 : Bx ((Try.prog.info? 118).map (·.size) = some (repCells c i k g (.slice B2 n cap4) (.slice B3 n3 cap5)).size) := ⟨HIS.out _ _⟩
  have HW := bx hw0
  clear hw0 h r1 r2 r3 r4 hB hn HIS HG K0 K1
  generalize hca : repCells c i k g (.slice A2 n cap2) (.slice A3 n3 cap3) = CA at *
  generalize hcb : repCells c i k g (.slice B2 n cap4) (.slice B3 n3 cap5) = CB at *
  generalize coreCells c k i g zero16 = CC at *
  clear hca hcb H
  go_enter Try.func65, Try.ntmps65
  go_upto_region 1 with fail
  rw [← HW.out]
  clear HW
  try simp only [Act.put]
  refine region_quietC (fun w' => Below w0.heap.size w0 w') (by kernel_rfl) (by kernel_rfl) ((Below.refl _ _).drew) ?_
  repeat (first
    | go_big_quiet_skip
    | (refine quiet_take (v := .agg CA) 5 rfl (by kernel_rfl) (fun w' hw' => quiet_load_all 118 (.tmp 2) rfl rfl (HK0.out w' hw') Try.underlying118 rfl I0.out) ?_; try simp only [List.setIfInBounds_toArray, List.set_cons_zero, List.set_cons_succ])
    | (refine quiet_take (v := .agg CB) 7 rfl (by kernel_rfl) (fun w' hw' => quiet_load_all 118 (.tmp 3) rfl rfl (HK1.out w' hw') Try.underlying118 rfl I1.out) ?_; try simp only [List.setIfInBounds_toArray, List.set_cons_zero, List.set_cons_succ])
    | (go_big_quiet_want; go_big_quiet_op; go_big_quiet_on)
    | (refine quiet_take (v := ?_) _ rfl (by kernel_rfl) ?_ ?_; rotate_left 1; (focus (first | (intro w' hw'; clear hw'; unfold Oper.quietAt; go_simp; done) | (intro w' hw'; clear hw'; unfold Oper.quietAt; go_simp; with_reducible rfl) | (intro w' hw'; obtain ⟨z0, z1, z2, z3⟩ := HC.out w' hw'; unfold Oper.quietAt; go_simp; first | done | with_reducible rfl | ((with_reducible refine (HA.out w').mono ?_); rintro x w9 ⟨rfl, hb⟩; refine ⟨?_, hw'.trans (hb.mono hw'.size)⟩; with_reducible rfl) | ((with_reducible refine (HB.out w').mono ?_); rintro x w9 ⟨rfl, hb⟩; refine ⟨?_, hw'.trans (hb.mono hw'.size)⟩; with_reducible rfl) | ((with_reducible refine (HN.out w' hw').mono ?_); rintro x w9 ⟨rfl, hb⟩; refine ⟨?_, hw'.trans (hb.mono hw'.size)⟩; with_reducible rfl) | ((with_reducible refine (HE.out w' hw').mono ?_); rintro x w9 ⟨rfl, hb⟩; refine ⟨?_, hw'.trans (hb.mono hw'.size)⟩; with_reducible rfl)))); try simp only [List.setIfInBounds_toArray, List.set_cons_zero, List.set_cons_succ]))
  refine wpQuiet_nil ?_
  intro w1 hw1
  have B1 := bx (B0.out.trans (hw1.mono B0.out.size))
  clear hw1
  go_wp2_with fail
  go_ret
  exact ⟨rfl, B1.out⟩
set_option maxRecDepth 100000 in
set_option maxHeartbeats 800000 in
theorem sameq_false (c i k : Int) (nm : List Int) (g : Int) (c' i' k' : Int) (nm' : List Int) (g' : Int) (nv dv nv' dv' : Value) (w : World) (h : nm.length = 16) (h' : nm'.length = 16) (hz : sameq_falsez nm) (hz' : sameq_falsez nm') (hne : coreB c k i g c' k' i' g' nm nm' = false) :
    Calls Try.prog 64 #[.agg (reqCells c i k nm g nv dv), .agg ((reqCells c' i' k' nm' g') nv' dv')] w fun e w' => e = .returned (.bool false) ∧ Below w.heap.size w w' := by
  obtain ⟨w0, hw0⟩ : ∃ w0, w0 = (w.alloc (.cells (reqCells c i k nm g nv dv) 116)).alloc (.cells ((reqCells c' i' k' nm' g') nv' dv') 116) := ⟨_, rfl⟩
  have K0 : Bx (w0.heap[w.heap.size]? = some (.cells (reqCells c i k nm g nv dv) 116 (0, 0))) := ⟨by rw [hw0]; exact heap_alloc2_old w _ _⟩
  have K1 : Bx (w0.heap[w.heap.size + 1]? = some (.cells ((reqCells c' i' k' nm' g') nv' dv') 116 (0, 0))) := ⟨by rw [hw0]; exact heap_alloc2_new w _ _⟩
  have B0 : Bx (Below w.heap.size w w0) := ⟨by rw [hw0]; exact ((Below.refl _ _).alloc (Nat.le_refl _) _).alloc (by simp) _⟩
  have H := bx h; have H' := bx h'
  have HK0 : Bx (∀ w', Below w0.heap.size w0 w' → w'.heap[w.heap.size]? = some (.cells (reqCells c i k nm g nv dv) 116 (0, 0))) := ⟨fun w' hb => (hb.block _ (blk_lt K0.out)).trans K0.out⟩
  have HK1 : Bx (∀ w', Below w0.heap.size w0 w' → w'.heap[w.heap.size + 1]? = some (.cells ((reqCells c' i' k' nm' g') nv' dv') 116 (0, 0))) := ⟨fun w' hb => (hb.block _ (blk_lt K1.out)).trans K1.out⟩
  have HA : Bx (∀ w', Calls Try.prog 94 #[.agg (reqCells c i k nm g nv dv)] w' fun e w'' => e = .returned (.agg (coreCells c k i g nm)) ∧ Below w'.heap.size w' w'') := ⟨fun w' => by
    first
      | exact qcore_any c i k nm g _ _ w' H.out
      | (unfold samep_falsez at hz; subst hz; exact qcore_any c i k nm g _ _ w' H.out)⟩
  have HB : Bx (∀ w', Calls Try.prog 94 #[.agg ((reqCells c' i' k' nm' g') nv' dv')] w' fun e w'' => e = .returned (.agg (coreCells c' k' i' g' nm')) ∧ Below w'.heap.size w' w'') := ⟨fun w' => by
    first
      | exact qcore_any c' i' k' nm' g' _ _ w' H'.out
      | (unfold samep_falsez at hz'; subst hz'; exact qcore_any c' i' k' nm' g' _ _ w' H'.out)⟩
  have hce : ∀ w, (Op.equalIn 10000 187 (.agg (coreCells c k i g nm)) (.agg (coreCells c' k' i' g' nm'))).run Try.prog w = .ok false w := fun w => by
    rw [core_eqIn c k i g c' k' i' g' nm nm' h h' w, hne]
  have I0 : Bx ((Try.prog.info? 116).map (·.size) = some (reqCells c i k nm g nv dv).size) := ⟨(req_is H.out)⟩
  have I1 : Bx ((Try.prog.info? 116).map (·.size) = some ((reqCells c' i' k' nm' g') nv' dv').size) := ⟨(req_is H'.out)⟩
  have HW := bx hw0
  clear hw0 h h' hz hz' hne K0 K1
  generalize hca : reqCells c i k nm g nv dv = CA at *
  generalize hcb : (reqCells c' i' k' nm' g') nv' dv' = CB at *
  generalize coreCells c k i g nm = CC at *
  generalize coreCells c' k' i' g' nm' = CD at *
  clear hca hcb H H'
  go_enter Try.func64, Try.ntmps64
  go_upto_region 1 with fail
  rw [← HW.out]
  clear HW
  try simp only [Act.put]
  refine region_quietC (fun w' => Below w0.heap.size w0 w') (by kernel_rfl) (by kernel_rfl) ((Below.refl _ _).drew) ?_
  repeat (first
    | go_big_quiet_skip
    | (refine quiet_take (v := .agg CA) 5 rfl (by kernel_rfl) (fun w' hw' => quiet_load_all 116 (.tmp 2) rfl rfl (HK0.out w' hw') Try.underlying116 rfl I0.out) ?_; try simp only [List.setIfInBounds_toArray, List.set_cons_zero, List.set_cons_succ])
    | (refine quiet_take (v := .agg CB) 7 rfl (by kernel_rfl) (fun w' hw' => quiet_load_all 116 (.tmp 3) rfl rfl (HK1.out w' hw') Try.underlying116 rfl I1.out) ?_; try simp only [List.setIfInBounds_toArray, List.set_cons_zero, List.set_cons_succ])
    | (go_big_quiet_want; go_big_quiet_op; go_big_quiet_on)
    | (refine quiet_take (v := ?_) _ rfl (by kernel_rfl) ?_ ?_; rotate_left 1; (focus (first | (intro w' hw'; clear hw'; unfold Oper.quietAt; go_simp; done) | (intro w' hw'; clear hw'; unfold Oper.quietAt; go_simp; with_reducible rfl) | (intro w' hw'; skip; unfold Oper.quietAt; go_simp; first | done | with_reducible rfl | ((with_reducible refine (HA.out w').mono ?_); rintro x w9 ⟨rfl, hb⟩; refine ⟨?_, hw'.trans (hb.mono hw'.size)⟩; with_reducible rfl) | ((with_reducible refine (HB.out w').mono ?_); rintro x w9 ⟨rfl, hb⟩; refine ⟨?_, hw'.trans (hb.mono hw'.size)⟩; with_reducible rfl)))); try simp only [List.setIfInBounds_toArray, List.set_cons_zero, List.set_cons_succ]))
  refine wpQuiet_nil ?_
  intro w1 hw1
  have B1 := bx (B0.out.trans (hw1.mono B0.out.size))
  clear hw1
  go_wp2_with fail
  go_ret
  exact ⟨rfl, B1.out⟩
set_option maxRecDepth 100000 in
set_option maxHeartbeats 800000 in
theorem samep_false (c i k : Int) (nm : List Int) (g : Int) (c' i' k' : Int) (nm' : List Int) (g' : Int) (nv dv nv' dv' : Value) (w : World) (h : nm.length = 16) (h' : nm'.length = 16) (hz : samep_falsez nm) (hz' : samep_falsez nm') (hne : coreB c k i g c' k' i' g' nm nm' = false) :
    Calls Try.prog 65 #[.agg (repCells c i k g nv dv), .agg ((repCells c' i' k' g') nv' dv')] w fun e w' => e = .returned (.bool false) ∧ Below w.heap.size w w' := by
  obtain ⟨w0, hw0⟩ : ∃ w0, w0 = (w.alloc (.cells (repCells c i k g nv dv) 118)).alloc (.cells ((repCells c' i' k' g') nv' dv') 118) := ⟨_, rfl⟩
  have K0 : Bx (w0.heap[w.heap.size]? = some (.cells (repCells c i k g nv dv) 118 (0, 0))) := ⟨by rw [hw0]; exact heap_alloc2_old w _ _⟩
  have K1 : Bx (w0.heap[w.heap.size + 1]? = some (.cells ((repCells c' i' k' g') nv' dv') 118 (0, 0))) := ⟨by rw [hw0]; exact heap_alloc2_new w _ _⟩
  have B0 : Bx (Below w.heap.size w w0) := ⟨by rw [hw0]; exact ((Below.refl _ _).alloc (Nat.le_refl _) _).alloc (by simp) _⟩
  have H := bx h; have H' := bx h'
  have HK0 : Bx (∀ w', Below w0.heap.size w0 w' → w'.heap[w.heap.size]? = some (.cells (repCells c i k g nv dv) 118 (0, 0))) := ⟨fun w' hb => (hb.block _ (blk_lt K0.out)).trans K0.out⟩
  have HK1 : Bx (∀ w', Below w0.heap.size w0 w' → w'.heap[w.heap.size + 1]? = some (.cells ((repCells c' i' k' g') nv' dv') 118 (0, 0))) := ⟨fun w' hb => (hb.block _ (blk_lt K1.out)).trans K1.out⟩
  have HA : Bx (∀ w', Calls Try.prog 100 #[.agg (repCells c i k g nv dv)] w' fun e w'' => e = .returned (.agg (coreCells c k i g nm)) ∧ Below w'.heap.size w' w'') := ⟨fun w' => by
    first
      | exact pcore_any c i k g _ _ w'
      | (unfold samep_falsez at hz; subst hz; exact pcore_any c i k g _ _ w')⟩
  have HB : Bx (∀ w', Calls Try.prog 100 #[.agg ((repCells c' i' k' g') nv' dv')] w' fun e w'' => e = .returned (.agg (coreCells c' k' i' g' nm')) ∧ Below w'.heap.size w' w'') := ⟨fun w' => by
    first
      | exact pcore_any c' i' k' g' _ _ w'
      | (unfold samep_falsez at hz'; subst hz'; exact pcore_any c' i' k' g' _ _ w')⟩
  have hce : ∀ w, (Op.equalIn 10000 187 (.agg (coreCells c k i g nm)) (.agg (coreCells c' k' i' g' nm'))).run Try.prog w = .ok false w := fun w => by
    rw [core_eqIn c k i g c' k' i' g' nm nm' h h' w, hne]
  have I0 : Bx ((Try.prog.info? 118).map (·.size) = some (repCells c i k g nv dv).size) := ⟨rep_is⟩
  have I1 : Bx ((Try.prog.info? 118).map (·.size) = some ((repCells c' i' k' g') nv' dv').size) := ⟨rep_is⟩
  have HW := bx hw0
  clear hw0 h h' hz hz' hne K0 K1
  generalize hca : repCells c i k g nv dv = CA at *
  generalize hcb : (repCells c' i' k' g') nv' dv' = CB at *
  generalize coreCells c k i g nm = CC at *
  generalize coreCells c' k' i' g' nm' = CD at *
  clear hca hcb H H'
  go_enter Try.func65, Try.ntmps65
  go_upto_region 1 with fail
  rw [← HW.out]
  clear HW
  try simp only [Act.put]
  refine region_quietC (fun w' => Below w0.heap.size w0 w') (by kernel_rfl) (by kernel_rfl) ((Below.refl _ _).drew) ?_
  repeat (first
    | go_big_quiet_skip
    | (refine quiet_take (v := .agg CA) 5 rfl (by kernel_rfl) (fun w' hw' => quiet_load_all 118 (.tmp 2) rfl rfl (HK0.out w' hw') Try.underlying118 rfl I0.out) ?_; try simp only [List.setIfInBounds_toArray, List.set_cons_zero, List.set_cons_succ])
    | (refine quiet_take (v := .agg CB) 7 rfl (by kernel_rfl) (fun w' hw' => quiet_load_all 118 (.tmp 3) rfl rfl (HK1.out w' hw') Try.underlying118 rfl I1.out) ?_; try simp only [List.setIfInBounds_toArray, List.set_cons_zero, List.set_cons_succ])
    | (go_big_quiet_want; go_big_quiet_op; go_big_quiet_on)
    | (refine quiet_take (v := ?_) _ rfl (by kernel_rfl) ?_ ?_; rotate_left 1; (focus (first | (intro w' hw'; clear hw'; unfold Oper.quietAt; go_simp; done) | (intro w' hw'; clear hw'; unfold Oper.quietAt; go_simp; with_reducible rfl) | (intro w' hw'; skip; unfold Oper.quietAt; go_simp; first | done | with_reducible rfl | ((with_reducible refine (HA.out w').mono ?_); rintro x w9 ⟨rfl, hb⟩; refine ⟨?_, hw'.trans (hb.mono hw'.size)⟩; with_reducible rfl) | ((with_reducible refine (HB.out w').mono ?_); rintro x w9 ⟨rfl, hb⟩; refine ⟨?_, hw'.trans (hb.mono hw'.size)⟩; with_reducible rfl)))); try simp only [List.setIfInBounds_toArray, List.set_cons_zero, List.set_cons_succ]))
  refine wpQuiet_nil ?_
  intro w1 hw1
  have B1 := bx (B0.out.trans (hw1.mono B0.out.size))
  clear hw1
  go_wp2_with fail
  go_ret
  exact ⟨rfl, B1.out⟩
end Go.Proofs.Ythnommoljikaiaa
