/- Messages: the law's own turning of requests and replies for the document. -/
import Derived.Test.YthnommoljikaiaaMsg14
set_option linter.unusedSimpArgs false
set_option linter.unusedVariables false
namespace Go.Proofs.Ythnommoljikaiaa
open Go.RowKit

theorem rq_built (c i k : Int) (t : ByteArray) (g : Int) (A : Option Addr) (n cap : Nat) (d : ByteArray) : Try.prog.built 122 [(0, .int .i64 c), (1, .int .u64 i), (2, .int .i64 k), (3, .string t), (4, .int .u64 g), (5, .slice A n cap), (6, .string d)] = some (rqCells c i k t g (.slice A n cap) d) := by kernel_rfl
theorem rp_built (c i k g : Int) (A : Option Addr) (n cap : Nat) (d : ByteArray) : Try.prog.built 127 [(0, .int .i64 c), (1, .int .u64 i), (2, .int .i64 k), (3, .int .u64 g), (4, .slice A n cap), (5, .string d)] = some (rpCells c i k g (.slice A n cap) d) := by kernel_rfl
theorem rq_is (c i k : Int) (t : ByteArray) (g : Int) (A : Option Addr) (n cap : Nat) (d : ByteArray) : (Try.prog.info? 122).map (·.size) = some (rqCells c i k t g (.slice A n cap) d).size := by kernel_rfl
theorem rp_is (c i k g : Int) (A : Option Addr) (n cap : Nat) (d : ByteArray) : (Try.prog.info? 127).map (·.size) = some (rpCells c i k g (.slice A n cap) d).size := by kernel_rfl
theorem rq_one (c i k : Int) (t : ByteArray) (g : Int) (A : Option Addr) (n cap : Nat) (d : ByteArray) : ∀ v ∈ (rqCells c i k t g (.slice A n cap) d).toList, v.oneCell' = true := by
  intro v hv
  simp only [rqCells, List.mem_cons, List.not_mem_nil, or_false] at hv
  rcases hv with rfl | rfl | rfl | rfl | rfl | rfl | rfl <;> rfl
theorem rp_one (c i k g : Int) (A : Option Addr) (n cap : Nat) (d : ByteArray) : ∀ v ∈ (rpCells c i k g (.slice A n cap) d).toList, v.oneCell' = true := by
  intro v hv
  simp only [rpCells, List.mem_cons, List.not_mem_nil, or_false] at hv
  rcases hv with rfl | rfl | rfl | rfl | rfl | rfl <;> rfl
theorem req_rd {w : World} {b : Nat} {c i k : Int} {nm : List Int} {g : Int} {nv dv : Value} (hs : nm.length = 16) (h : w.heap[b]? = some (.cells (reqCells c i k nm g nv dv) 116 (0, 0))) : RdB w (some ⟨b, 3, none⟩) 16 nm :=
  ⟨hs, fun _ => ⟨b, 3, rfl, blk_lt h, fun j hj => blk_cell h (by
    have e1 : (reqList c i k nm g nv dv)[3 + j]? = some (.int .u8 (nm.getD j 0)) := by
      rw [show 3 + j = j + 1 + 1 + 1 by omega]
      simp [reqList, List.getElem?_append_left (show j < (nm.map (Value.int .u8)).length by rw [List.length_map]; omega), List.getD_eq_getElem?_getD, List.getElem?_eq_getElem (show j < nm.length by omega)]
    simpa [reqCells] using e1)⟩⟩
/-- A slice of texts reads so, from a block on. -/
def RdTL (lo : Nat) (w : World) (A : Option Addr) (pcs : List ByteArray) : Prop := 0 < pcs.length → ∃ b, A = some ⟨b, 0, none⟩ ∧ lo ≤ b ∧ b < w.heap.size ∧ ∀ (j : Nat) (hj : j < pcs.length), w.cell? ⟨b, j, none⟩ = some (.string pcs[j])
theorem OwS.rdL {w : World} {base : Nat} {v : Value} {pcs : List ByteArray} (h : OwS w base v pcs) : ∃ A cap, v = .slice A pcs.length cap ∧ RdTL base w A pcs := by
  have hw := h.own
  obtain ⟨A, cap, rfl, hr⟩ := h.rd
  refine ⟨A, cap, rfl, fun hn => ?_⟩
  obtain ⟨b, rfl, hl, hc⟩ := hr hn
  exact ⟨b, rfl, (hw b rfl).1, hl, hc⟩
theorem RdTL.upd {lo : Nat} {w w' : World} {A : Option Addr} {pcs : List ByteArray} (h : RdTL lo w A pcs) {g : Nat} {o : Obj} (hu : Upd w w' g o) (hg : g < lo) : RdT w' A pcs := fun hn => by
  obtain ⟨b, e, hlo, hl, hc⟩ := h hn
  refine ⟨b, e, by rw [hu.size]; exact hl, fun j hj => ?_⟩
  have := hc j hj
  rw [← this]
  unfold World.cell?
  rw [hu.other b (by omega)]
/-- What request, and reply, tell. -/
def ReqO (w : World) (mk : Value → Array Value) (flat : List Int) (n : Nat) (e : Ending) (w' : World) : Prop := ∃ A cap, e = .returned (.agg (mk (.slice A n cap))) ∧ RdT w' A (strsOf flat n) ∧ Below w.heap.size w w'
set_option maxRecDepth 100000 in
set_option maxHeartbeats 1000000 in
theorem request_any (c i k : Int) (nm : List Int) (g : Int) (A2 : Option Addr) (n2 cap2 : Nat) (flat : List Int) (A3 : Option Addr) (n3 cap3 : Nat) (ds : List Int) (w : World) (h : nm.length = 16) (hrd2 : RdB w A2 (16 * n2) flat) (hrd3 : RdB w A3 n3 ds) :
    Calls Try.prog 55 #[.agg (reqCells c i k nm g (.slice A2 n2 cap2) (.slice A3 n3 cap3))] w (ReqO w (fun v => rqCells c i k (strOfNums nm) g v (strOfNums ds)) flat (min n2 300)) := by
  obtain ⟨w0, hw0⟩ : ∃ w0, w0 = (w.alloc (.cells (reqCells c i k nm g (.slice A2 n2 cap2) (.slice A3 n3 cap3)) 116)).alloc (.cells #[.int .i64 0, .int .u64 0, .int .i64 0, .string ⟨#[]⟩, .int .u64 0, .slice none 0 0, .string ⟨#[]⟩] 122) := ⟨_, rfl⟩
  have K0 : Bx (w0.heap[w.heap.size]? = some (.cells (reqCells c i k nm g (.slice A2 n2 cap2) (.slice A3 n3 cap3)) 116 (0, 0))) := ⟨by rw [hw0]; exact heap_alloc2_old w _ _⟩
  have K1 : Bx (w0.heap[w.heap.size + 1]? = some (.cells #[.int .i64 0, .int .u64 0, .int .i64 0, .string ⟨#[]⟩, .int .u64 0, .slice none 0 0, .string ⟨#[]⟩] 122 (0, 0))) := ⟨by rw [hw0]; exact heap_alloc2_new w _ _⟩
  have B0 : Bx (Below w.heap.size w w0) := ⟨by rw [hw0]; exact ((Below.refl _ _).alloc (Nat.le_refl _) _).alloc (by simp) _⟩
  have SZ : Bx (w0.heap.size = w.heap.size + 2) := ⟨by rw [hw0]; simp⟩
  have HC : Bx (∀ w', Below (w.heap.size + 1) w0 w' → w'.cell? ⟨w.heap.size, 0, none⟩ = some (.int .i64 c) ∧ w'.cell? ⟨w.heap.size, 1, none⟩ = some (.int .u64 i) ∧ w'.cell? ⟨w.heap.size, 2, none⟩ = some (.int .i64 k) ∧ w'.cell? ⟨w.heap.size, 19, none⟩ = some (.int .u64 g) ∧ w'.cell? ⟨w.heap.size, 20, none⟩ = some (.slice A2 n2 cap2) ∧ w'.cell? ⟨w.heap.size, 21, none⟩ = some (.slice A3 n3 cap3)
      ∧ (convert 22 9 (.slice (some ⟨w.heap.size, 3, none⟩) 16 16)).run Try.prog w' = .ok (.string (strOfNums nm)) w' ∧ (convert 22 9 (.slice A3 n3 cap3)).run Try.prog w' = .ok (.string (strOfNums ds)) w') := ⟨fun w' hb => by
    have hk := (hb.block _ (by omega)).trans K0.out
    exact ⟨blk_cell hk rfl, blk_cell hk rfl, blk_cell hk rfl, blk_cell hk (req_get c i k nm g _ _ h).1, blk_cell hk (req_get c i k nm g _ _ h).2.1, blk_cell hk (req_get c i k nm g _ _ h).2.2, str_of (req_rd h hk) 16, str_of (hrd3.below (B0.out.trans (hb.mono (by omega)))) cap3⟩⟩
  have HRD2 := bx hrd2; have HW := bx hw0
  have sl := fun w' => arr_slice_all (P := Try.prog) (t := 113) Try.underlying113 Try.sizeOf5 w.heap.size 3 w'
  clear hw0 h hrd2 hrd3
  generalize strOfNums nm = t at *
  generalize strOfNums ds = d at *
  go_enter Try.func55, Try.ntmps55
  go_upto_region 1 with fail
  rw [← HW.out]
  clear HW
  have hS0 : Below (w.heap.size + 1) w0 w0.drew ∧ ∃ old : Array Value, old.size = 7 ∧ w0.drew.heap[w.heap.size + 1]? = some (.cells old 122 (0, 0)) := ⟨(Below.refl _ _).drew, _, rfl, K1.out⟩
  refine wp_region_held_drew (S := (fun w' => Below (w.heap.size + 1) w0 w' ∧ ∃ old : Array Value, old.size = 7 ∧ w'.heap[w.heap.size + 1]? = some (.cells old 122 (0, 0)))) (by kernel_rfl) hS0 (fun hS => ?_)
  refine takeH (i := 0) (d := 3) (v := ?_) rfl rfl (by kernel_rfl) (by kernel_rfl) (by kernel_rfl) (fun _ _ _ h => h) (Or.inl ⟨by kernel_rfl, ?_⟩) hS ?_; rotate_left 1; (focus ((intro w' hS'; clear hS'; go_simp; try with_reducible rfl); done))
  try simp only [List.setIfInBounds_toArray, List.set_cons_zero, List.set_cons_succ]
  refine takeH (i := 1) (d := 4) (v := ?_) rfl rfl (by kernel_rfl) (by kernel_rfl) (by kernel_rfl) (fun _ _ _ h => h) (Or.inl ⟨by kernel_rfl, ?_⟩) hS ?_; rotate_left 1; (focus ((intro w' hS'; obtain ⟨z0, z1, z2, z3, z4, z5, z6, z7⟩ := HC.out w' hS'.1; clear hS'; go_simp; try with_reducible rfl); done))
  try simp only [List.setIfInBounds_toArray, List.set_cons_zero, List.set_cons_succ]
  refine takeH (i := 2) (d := 5) (v := ?_) rfl rfl (by kernel_rfl) (by kernel_rfl) (by kernel_rfl) (fun _ _ _ h => h) (Or.inl ⟨by kernel_rfl, ?_⟩) hS ?_; rotate_left 1; (focus ((intro w' hS'; clear hS'; go_simp; try with_reducible rfl); done))
  try simp only [List.setIfInBounds_toArray, List.set_cons_zero, List.set_cons_succ]
  refine takeH (i := 3) (d := 6) (v := ?_) rfl rfl (by kernel_rfl) (by kernel_rfl) (by kernel_rfl) (fun _ _ _ h => h) (Or.inl ⟨by kernel_rfl, ?_⟩) hS ?_; rotate_left 1; (focus ((intro w' hS'; obtain ⟨z0, z1, z2, z3, z4, z5, z6, z7⟩ := HC.out w' hS'.1; clear hS'; go_simp; try with_reducible rfl); done))
  try simp only [List.setIfInBounds_toArray, List.set_cons_zero, List.set_cons_succ]
  refine takeH (i := 4) (d := 7) (v := ?_) rfl rfl (by kernel_rfl) (by kernel_rfl) (by kernel_rfl) (fun _ _ _ h => h) (Or.inl ⟨by kernel_rfl, ?_⟩) hS ?_; rotate_left 1; (focus ((intro w' hS'; clear hS'; go_simp; try with_reducible rfl); done))
  try simp only [List.setIfInBounds_toArray, List.set_cons_zero, List.set_cons_succ]
  refine takeH (i := 5) (d := 8) (v := ?_) rfl rfl (by kernel_rfl) (by kernel_rfl) (by kernel_rfl) (fun _ _ _ h => h) (Or.inl ⟨by kernel_rfl, ?_⟩) hS ?_; rotate_left 1; (focus ((intro w' hS'; obtain ⟨z0, z1, z2, z3, z4, z5, z6, z7⟩ := HC.out w' hS'.1; clear hS'; go_simp; try with_reducible rfl); done))
  try simp only [List.setIfInBounds_toArray, List.set_cons_zero, List.set_cons_succ]
  refine takeH (i := 6) (d := 9) (v := ?_) rfl rfl (by kernel_rfl) (by kernel_rfl) (by kernel_rfl) (fun _ _ _ h => h) (Or.inl ⟨by kernel_rfl, ?_⟩) hS ?_; rotate_left 1; (focus ((intro w' hS'; clear hS'; go_simp; try with_reducible rfl); done))
  try simp only [List.setIfInBounds_toArray, List.set_cons_zero, List.set_cons_succ]
  refine takeH (i := 7) (d := 10) (v := ?_) rfl rfl (by kernel_rfl) (by kernel_rfl) (by kernel_rfl) (fun _ _ _ h => h) (Or.inl ⟨by kernel_rfl, ?_⟩) hS ?_; rotate_left 1; (focus ((intro w' hS'; clear hS'; go_simp; try with_reducible rfl); done))
  try simp only [List.setIfInBounds_toArray, List.set_cons_zero, List.set_cons_succ]
  refine takeH (i := 8) (d := 11) (v := ?_) rfl rfl (by kernel_rfl) (by kernel_rfl) (by kernel_rfl) (fun _ _ _ h => h) (Or.inl ⟨by kernel_rfl, ?_⟩) hS ?_; rotate_left 1; (focus ((intro w' hS'; obtain ⟨z0, z1, z2, z3, z4, z5, z6, z7⟩ := HC.out w' hS'.1; clear hS'; go_simp; try with_reducible rfl); done))
  try simp only [List.setIfInBounds_toArray, List.set_cons_zero, List.set_cons_succ]
  refine takeH (i := 9) (d := 12) (v := ?_) rfl rfl (by kernel_rfl) (by kernel_rfl) (by kernel_rfl) (fun _ _ _ h => h) (Or.inl ⟨by kernel_rfl, ?_⟩) hS ?_; rotate_left 1; (focus ((intro w' hS'; clear hS'; go_simp; try with_reducible rfl); done))
  try simp only [List.setIfInBounds_toArray, List.set_cons_zero, List.set_cons_succ]
  refine takeH (i := 10) (d := 13) (v := ?_) rfl rfl (by kernel_rfl) (by kernel_rfl) (by kernel_rfl) (fun _ _ _ h => h) (Or.inl ⟨by kernel_rfl, ?_⟩) hS ?_; rotate_left 1; (focus ((intro w' hS'; obtain ⟨z0, z1, z2, z3, z4, z5, z6, z7⟩ := HC.out w' hS'.1; clear hS'; go_simp; try with_reducible rfl); done))
  try simp only [List.setIfInBounds_toArray, List.set_cons_zero, List.set_cons_succ]
  refine takeH (i := 11) (d := 14) (v := ?_) rfl rfl (by kernel_rfl) (by kernel_rfl) (by kernel_rfl) (fun _ _ _ h => h) (Or.inl ⟨by kernel_rfl, ?_⟩) hS ?_; rotate_left 1; (focus ((intro w' hS'; clear hS'; go_simp; try with_reducible rfl); done))
  try simp only [List.setIfInBounds_toArray, List.set_cons_zero, List.set_cons_succ]
  refine takeH (i := 12) (d := 15) (v := ?_) rfl rfl (by kernel_rfl) (by kernel_rfl) (by kernel_rfl) (fun _ _ _ h => h) (Or.inl ⟨by kernel_rfl, ?_⟩) hS ?_; rotate_left 1; (focus ((intro w' hS'; obtain ⟨z0, z1, z2, z3, z4, z5, z6, z7⟩ := HC.out w' hS'.1; clear hS'; go_simp; try with_reducible rfl); done))
  try simp only [List.setIfInBounds_toArray, List.set_cons_zero, List.set_cons_succ]
  refine takeH (i := 14) (d := 17) (v := ?_) rfl rfl (by kernel_rfl) (by kernel_rfl) (by kernel_rfl) (fun _ _ _ h => h) (Or.inl ⟨by kernel_rfl, ?_⟩) hS ?_; rotate_left 1; (focus ((intro w' hS'; clear hS'; go_simp; try with_reducible rfl); done))
  try simp only [List.setIfInBounds_toArray, List.set_cons_zero, List.set_cons_succ]
  refine takeH (i := 15) (d := 18) (v := ?_) rfl rfl (by kernel_rfl) (by kernel_rfl) (by kernel_rfl) (fun _ _ _ h => h) (Or.inl ⟨by kernel_rfl, ?_⟩) hS ?_; rotate_left 1; (focus ((intro w' hS'; obtain ⟨z0, z1, z2, z3, z4, z5, z6, z7⟩ := HC.out w' hS'.1; clear hS'; go_simp; try with_reducible rfl); done))
  try simp only [List.setIfInBounds_toArray, List.set_cons_zero, List.set_cons_succ]
  refine takeH (i := 16) (d := 19) (v := ?_) rfl rfl (by kernel_rfl) (by kernel_rfl) (by kernel_rfl) (fun _ _ _ h => h) (Or.inl ⟨by kernel_rfl, ?_⟩) hS ?_; rotate_left 1; (focus ((intro w' hS'; obtain ⟨z0, z1, z2, z3, z4, z5, z6, z7⟩ := HC.out w' hS'.1; clear hS'; go_simp; try with_reducible rfl); done))
  try simp only [List.setIfInBounds_toArray, List.set_cons_zero, List.set_cons_succ]
  refine wpAnyH_ready (rs := [13]) (by kernel_rfl) (by simp) ?_
  refine AllReadyH.cons rfl (fun K hK => ?_) AllReadyH.nil
  go_simp
  refine (names20_any A2 n2 cap2 flat _ (HRD2.out.below (B0.out.trans (hS.1.mono (by omega))))).mono ?_
  rintro x w2 ⟨v, rfl, ho, hb⟩
  obtain ⟨A5, c5, rfl, hr5⟩ := ho.rdL
  rw [strsOf_length]
  have lo := hS.1.size
  rw [SZ.out] at lo
  have LO := bx lo
  clear lo
  have R5 := bx hr5; have HB5 := bx hb
  clear ho hr5 hb
  refine hK.out _ _ ?_ (fun hS2 => ?_)
  · exact ⟨hS.1.trans (HB5.out.mono (Nat.le_trans (by omega) LO.out)), by obtain ⟨old, ho7, hko⟩ := hS.2; exact ⟨old, ho7, (HB5.out.block _ (blk_lt hko)).trans hko⟩⟩
  clear hK K hS; have hS := hS2; clear hS2
  try simp only [Act.put, List.setIfInBounds_toArray, List.set_cons_zero, List.set_cons_succ]
  refine wpAnyH_ready (rs := [17]) (by kernel_rfl) (by simp) ?_
  refine readyH_list rfl (fun K hK => ?_) AllReadyH.nil
  refine wpList_build2 rfl 122 [(0, .tmp 4), (1, .tmp 6), (2, .tmp 8), (3, .tmp 11), (4, .tmp 13), (5, .tmp 16), (6, .tmp 19)] rfl _ rfl _ (rq_built c i k t g A5 (min n2 300) c5 d) ?_
  show wpList _ _ K [] (Act.put _ (some 20) (.agg (rqCells c i k t g (.slice A5 (min n2 300) c5) d))) _
  refine hK.out _ _ ?_ (fun hS2 => ?_)
  · exact hS
  clear hK K hS; have hS := hS2; clear hS2
  try simp only [Act.put, List.setIfInBounds_toArray, List.set_cons_zero, List.set_cons_succ]
  refine wpAnyH_ready (rs := [18]) (by kernel_rfl) (by simp) ?_
  refine readyH_list rfl (fun K hK => ?_) AllReadyH.nil
  have hS8 := hS
  obtain ⟨hS1, old, ho7, hko⟩ := hS8
  refine store_all (cs := rqCells c i k t g (.slice A5 (min n2 300) c5) d) 122 (.tmp 2) (.tmp 20) rfl rfl rfl rfl hko (rq_is c i k t g A5 (min n2 300) c5 d) (by rw [ho7]; rfl) (rq_one c i k t g A5 (min n2 300) c5 d) ?_
  intro w9 hu9
  have R9 := bx hu9.same
  have RT := bx (R5.out.upd hu9 (Nat.lt_of_lt_of_le (by omega) LO.out))
  have BF := bx (hS1.trans (hu9.below (Nat.le_refl _)))
  clear hu9 hko ho7
  show wpList _ _ K [] (Act.put _ none undef) w9
  refine hK.out _ _ ?_ (fun hS2 => ?_)
  · exact ⟨BF.out, _, rfl, R9.out⟩
  clear hK K hS; have hS := hS2; clear hS2
  try simp only [Act.put, List.setIfInBounds_toArray, List.set_cons_zero, List.set_cons_succ]
  refine wpAnyH_done (by kernel_rfl) ?_ _
  go_wp2_with fail
  refine bodyPost_ret (v := .agg (rqCells c i k t g (.slice A5 (min n2 300) c5) d)) (results_agg (cs := rqCells c i k t g (.slice A5 (min n2 300) c5) d) rfl _ _ (w.heap.size + 1) 122 _ rfl R9.out Try.underlying122 rfl (rq_is c i k t g A5 (min n2 300) c5 d)) rfl ?_
  exact ⟨A5, c5, rfl, RT.out, B0.out.trans (BF.out.mono (by omega))⟩
set_option maxRecDepth 100000 in
set_option maxHeartbeats 1000000 in
theorem reply_any (c i k : Int) (nm : List Int) (g : Int) (A2 : Option Addr) (n2 cap2 : Nat) (flat : List Int) (A3 : Option Addr) (n3 cap3 : Nat) (ds : List Int) (w : World) (h : nm.length = 16) (hrd2 : RdB w A2 (16 * n2) flat) (hrd3 : RdB w A3 n3 ds) :
    Calls Try.prog 58 #[.agg (repCells c i k g (.slice A2 n2 cap2) (.slice A3 n3 cap3))] w (ReqO w (fun v => rpCells c i k g v (strOfNums ds)) flat (min n2 300)) := by
  obtain ⟨w0, hw0⟩ : ∃ w0, w0 = (w.alloc (.cells (repCells c i k g (.slice A2 n2 cap2) (.slice A3 n3 cap3)) 118)).alloc (.cells #[.int .i64 0, .int .u64 0, .int .i64 0, .int .u64 0, .slice none 0 0, .string ⟨#[]⟩] 127) := ⟨_, rfl⟩
  have K0 : Bx (w0.heap[w.heap.size]? = some (.cells (repCells c i k g (.slice A2 n2 cap2) (.slice A3 n3 cap3)) 118 (0, 0))) := ⟨by rw [hw0]; exact heap_alloc2_old w _ _⟩
  have K1 : Bx (w0.heap[w.heap.size + 1]? = some (.cells #[.int .i64 0, .int .u64 0, .int .i64 0, .int .u64 0, .slice none 0 0, .string ⟨#[]⟩] 127 (0, 0))) := ⟨by rw [hw0]; exact heap_alloc2_new w _ _⟩
  have B0 : Bx (Below w.heap.size w w0) := ⟨by rw [hw0]; exact ((Below.refl _ _).alloc (Nat.le_refl _) _).alloc (by simp) _⟩
  have SZ : Bx (w0.heap.size = w.heap.size + 2) := ⟨by rw [hw0]; simp⟩
  have HC : Bx (∀ w', Below (w.heap.size + 1) w0 w' → w'.cell? ⟨w.heap.size, 0, none⟩ = some (.int .i64 c) ∧ w'.cell? ⟨w.heap.size, 1, none⟩ = some (.int .u64 i) ∧ w'.cell? ⟨w.heap.size, 2, none⟩ = some (.int .i64 k) ∧ w'.cell? ⟨w.heap.size, 3, none⟩ = some (.int .u64 g) ∧ w'.cell? ⟨w.heap.size, 4, none⟩ = some (.slice A2 n2 cap2) ∧ w'.cell? ⟨w.heap.size, 5, none⟩ = some (.slice A3 n3 cap3)
      ∧ True ∧ (convert 22 9 (.slice A3 n3 cap3)).run Try.prog w' = .ok (.string (strOfNums ds)) w') := ⟨fun w' hb => by
    have hk := (hb.block _ (by omega)).trans K0.out
    exact ⟨blk_cell hk rfl, blk_cell hk rfl, blk_cell hk rfl, blk_cell hk rfl, blk_cell hk rfl, blk_cell hk rfl, trivial, str_of (hrd3.below (B0.out.trans (hb.mono (by omega)))) cap3⟩⟩
  have HRD2 := bx hrd2; have HW := bx hw0
  skip
  clear hw0 h hrd2 hrd3
  skip
  generalize strOfNums ds = d at *
  go_enter Try.func58, Try.ntmps58
  go_upto_region 1 with fail
  rw [← HW.out]
  clear HW
  have hS0 : Below (w.heap.size + 1) w0 w0.drew ∧ ∃ old : Array Value, old.size = 6 ∧ w0.drew.heap[w.heap.size + 1]? = some (.cells old 127 (0, 0)) := ⟨(Below.refl _ _).drew, _, rfl, K1.out⟩
  refine wp_region_held_drew (S := (fun w' => Below (w.heap.size + 1) w0 w' ∧ ∃ old : Array Value, old.size = 6 ∧ w'.heap[w.heap.size + 1]? = some (.cells old 127 (0, 0)))) (by kernel_rfl) hS0 (fun hS => ?_)
  refine takeH (i := 0) (d := 3) (v := ?_) rfl rfl (by kernel_rfl) (by kernel_rfl) (by kernel_rfl) (fun _ _ _ h => h) (Or.inl ⟨by kernel_rfl, ?_⟩) hS ?_; rotate_left 1; (focus ((intro w' hS'; clear hS'; go_simp; try with_reducible rfl); done))
  try simp only [List.setIfInBounds_toArray, List.set_cons_zero, List.set_cons_succ]
  refine takeH (i := 1) (d := 4) (v := ?_) rfl rfl (by kernel_rfl) (by kernel_rfl) (by kernel_rfl) (fun _ _ _ h => h) (Or.inl ⟨by kernel_rfl, ?_⟩) hS ?_; rotate_left 1; (focus ((intro w' hS'; obtain ⟨z0, z1, z2, z3, z4, z5, z6, z7⟩ := HC.out w' hS'.1; clear hS'; go_simp; try with_reducible rfl); done))
  try simp only [List.setIfInBounds_toArray, List.set_cons_zero, List.set_cons_succ]
  refine takeH (i := 2) (d := 5) (v := ?_) rfl rfl (by kernel_rfl) (by kernel_rfl) (by kernel_rfl) (fun _ _ _ h => h) (Or.inl ⟨by kernel_rfl, ?_⟩) hS ?_; rotate_left 1; (focus ((intro w' hS'; clear hS'; go_simp; try with_reducible rfl); done))
  try simp only [List.setIfInBounds_toArray, List.set_cons_zero, List.set_cons_succ]
  refine takeH (i := 3) (d := 6) (v := ?_) rfl rfl (by kernel_rfl) (by kernel_rfl) (by kernel_rfl) (fun _ _ _ h => h) (Or.inl ⟨by kernel_rfl, ?_⟩) hS ?_; rotate_left 1; (focus ((intro w' hS'; obtain ⟨z0, z1, z2, z3, z4, z5, z6, z7⟩ := HC.out w' hS'.1; clear hS'; go_simp; try with_reducible rfl); done))
  try simp only [List.setIfInBounds_toArray, List.set_cons_zero, List.set_cons_succ]
  refine takeH (i := 4) (d := 7) (v := ?_) rfl rfl (by kernel_rfl) (by kernel_rfl) (by kernel_rfl) (fun _ _ _ h => h) (Or.inl ⟨by kernel_rfl, ?_⟩) hS ?_; rotate_left 1; (focus ((intro w' hS'; clear hS'; go_simp; try with_reducible rfl); done))
  try simp only [List.setIfInBounds_toArray, List.set_cons_zero, List.set_cons_succ]
  refine takeH (i := 5) (d := 8) (v := ?_) rfl rfl (by kernel_rfl) (by kernel_rfl) (by kernel_rfl) (fun _ _ _ h => h) (Or.inl ⟨by kernel_rfl, ?_⟩) hS ?_; rotate_left 1; (focus ((intro w' hS'; obtain ⟨z0, z1, z2, z3, z4, z5, z6, z7⟩ := HC.out w' hS'.1; clear hS'; go_simp; try with_reducible rfl); done))
  try simp only [List.setIfInBounds_toArray, List.set_cons_zero, List.set_cons_succ]
  refine takeH (i := 6) (d := 9) (v := ?_) rfl rfl (by kernel_rfl) (by kernel_rfl) (by kernel_rfl) (fun _ _ _ h => h) (Or.inl ⟨by kernel_rfl, ?_⟩) hS ?_; rotate_left 1; (focus ((intro w' hS'; clear hS'; go_simp; try with_reducible rfl); done))
  try simp only [List.setIfInBounds_toArray, List.set_cons_zero, List.set_cons_succ]
  refine takeH (i := 7) (d := 10) (v := ?_) rfl rfl (by kernel_rfl) (by kernel_rfl) (by kernel_rfl) (fun _ _ _ h => h) (Or.inl ⟨by kernel_rfl, ?_⟩) hS ?_; rotate_left 1; (focus ((intro w' hS'; obtain ⟨z0, z1, z2, z3, z4, z5, z6, z7⟩ := HC.out w' hS'.1; clear hS'; go_simp; try with_reducible rfl); done))
  try simp only [List.setIfInBounds_toArray, List.set_cons_zero, List.set_cons_succ]
  refine takeH (i := 8) (d := 11) (v := ?_) rfl rfl (by kernel_rfl) (by kernel_rfl) (by kernel_rfl) (fun _ _ _ h => h) (Or.inl ⟨by kernel_rfl, ?_⟩) hS ?_; rotate_left 1; (focus ((intro w' hS'; clear hS'; go_simp; try with_reducible rfl); done))
  try simp only [List.setIfInBounds_toArray, List.set_cons_zero, List.set_cons_succ]
  refine takeH (i := 9) (d := 12) (v := ?_) rfl rfl (by kernel_rfl) (by kernel_rfl) (by kernel_rfl) (fun _ _ _ h => h) (Or.inl ⟨by kernel_rfl, ?_⟩) hS ?_; rotate_left 1; (focus ((intro w' hS'; obtain ⟨z0, z1, z2, z3, z4, z5, z6, z7⟩ := HC.out w' hS'.1; clear hS'; go_simp; try with_reducible rfl); done))
  try simp only [List.setIfInBounds_toArray, List.set_cons_zero, List.set_cons_succ]
  refine takeH (i := 11) (d := 14) (v := ?_) rfl rfl (by kernel_rfl) (by kernel_rfl) (by kernel_rfl) (fun _ _ _ h => h) (Or.inl ⟨by kernel_rfl, ?_⟩) hS ?_; rotate_left 1; (focus ((intro w' hS'; clear hS'; go_simp; try with_reducible rfl); done))
  try simp only [List.setIfInBounds_toArray, List.set_cons_zero, List.set_cons_succ]
  refine takeH (i := 12) (d := 15) (v := ?_) rfl rfl (by kernel_rfl) (by kernel_rfl) (by kernel_rfl) (fun _ _ _ h => h) (Or.inl ⟨by kernel_rfl, ?_⟩) hS ?_; rotate_left 1; (focus ((intro w' hS'; obtain ⟨z0, z1, z2, z3, z4, z5, z6, z7⟩ := HC.out w' hS'.1; clear hS'; go_simp; try with_reducible rfl); done))
  try simp only [List.setIfInBounds_toArray, List.set_cons_zero, List.set_cons_succ]
  refine takeH (i := 13) (d := 16) (v := ?_) rfl rfl (by kernel_rfl) (by kernel_rfl) (by kernel_rfl) (fun _ _ _ h => h) (Or.inl ⟨by kernel_rfl, ?_⟩) hS ?_; rotate_left 1; (focus ((intro w' hS'; obtain ⟨z0, z1, z2, z3, z4, z5, z6, z7⟩ := HC.out w' hS'.1; clear hS'; go_simp; try with_reducible rfl); done))
  try simp only [List.setIfInBounds_toArray, List.set_cons_zero, List.set_cons_succ]
  refine wpAnyH_ready (rs := [10]) (by kernel_rfl) (by simp) ?_
  refine AllReadyH.cons rfl (fun K hK => ?_) AllReadyH.nil
  go_simp
  refine (names20_any A2 n2 cap2 flat _ (HRD2.out.below (B0.out.trans (hS.1.mono (by omega))))).mono ?_
  rintro x w2 ⟨v, rfl, ho, hb⟩
  obtain ⟨A5, c5, rfl, hr5⟩ := ho.rdL
  rw [strsOf_length]
  have lo := hS.1.size
  rw [SZ.out] at lo
  have LO := bx lo
  clear lo
  have R5 := bx hr5; have HB5 := bx hb
  clear ho hr5 hb
  refine hK.out _ _ ?_ (fun hS2 => ?_)
  · exact ⟨hS.1.trans (HB5.out.mono (Nat.le_trans (by omega) LO.out)), by obtain ⟨old, ho7, hko⟩ := hS.2; exact ⟨old, ho7, (HB5.out.block _ (blk_lt hko)).trans hko⟩⟩
  clear hK K hS; have hS := hS2; clear hS2
  try simp only [Act.put, List.setIfInBounds_toArray, List.set_cons_zero, List.set_cons_succ]
  refine wpAnyH_ready (rs := [14]) (by kernel_rfl) (by simp) ?_
  refine readyH_list rfl (fun K hK => ?_) AllReadyH.nil
  refine wpList_build2 rfl 127 [(0, .tmp 4), (1, .tmp 6), (2, .tmp 8), (3, .tmp 10), (4, .tmp 13), (5, .tmp 16)] rfl _ rfl _ (rp_built c i k g A5 (min n2 300) c5 d) ?_
  show wpList _ _ K [] (Act.put _ (some 17) (.agg (rpCells c i k g (.slice A5 (min n2 300) c5) d))) _
  refine hK.out _ _ ?_ (fun hS2 => ?_)
  · exact hS
  clear hK K hS; have hS := hS2; clear hS2
  try simp only [Act.put, List.setIfInBounds_toArray, List.set_cons_zero, List.set_cons_succ]
  refine wpAnyH_ready (rs := [15]) (by kernel_rfl) (by simp) ?_
  refine readyH_list rfl (fun K hK => ?_) AllReadyH.nil
  have hS8 := hS
  obtain ⟨hS1, old, ho7, hko⟩ := hS8
  refine store_all (cs := rpCells c i k g (.slice A5 (min n2 300) c5) d) 127 (.tmp 2) (.tmp 17) rfl rfl rfl rfl hko (rp_is c i k g A5 (min n2 300) c5 d) (by rw [ho7]; rfl) (rp_one c i k g A5 (min n2 300) c5 d) ?_
  intro w9 hu9
  have R9 := bx hu9.same
  have RT := bx (R5.out.upd hu9 (Nat.lt_of_lt_of_le (by omega) LO.out))
  have BF := bx (hS1.trans (hu9.below (Nat.le_refl _)))
  clear hu9 hko ho7
  show wpList _ _ K [] (Act.put _ none undef) w9
  refine hK.out _ _ ?_ (fun hS2 => ?_)
  · exact ⟨BF.out, _, rfl, R9.out⟩
  clear hK K hS; have hS := hS2; clear hS2
  try simp only [Act.put, List.setIfInBounds_toArray, List.set_cons_zero, List.set_cons_succ]
  refine wpAnyH_done (by kernel_rfl) ?_ _
  go_wp2_with fail
  refine bodyPost_ret (v := .agg (rpCells c i k g (.slice A5 (min n2 300) c5) d)) (results_agg (cs := rpCells c i k g (.slice A5 (min n2 300) c5) d) rfl _ _ (w.heap.size + 1) 127 _ rfl R9.out Try.underlying127 rfl (rp_is c i k g A5 (min n2 300) c5 d)) rfl ?_
  exact ⟨A5, c5, rfl, RT.out, B0.out.trans (BF.out.mono (by omega))⟩
end Go.Proofs.Ythnommoljikaiaa
