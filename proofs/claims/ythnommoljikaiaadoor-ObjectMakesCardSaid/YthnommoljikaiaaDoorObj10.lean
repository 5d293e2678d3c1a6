/- Objects: law10.mark, Own, change. -/
import Derived.Test.YthnommoljikaiaaDoorObj9
set_option linter.unusedSimpArgs false
set_option linter.unusedVariables false
namespace Go.Proofs.YthnommoljikaiaaDoor
open Go.RowKit

theorem rmark_built (a b c : ByteArray) : Tryd.prog.built 61 [(0, .string a), (1, .string b), (2, .string c)] = some (rmarkC a b c) := by kernel_rfl
theorem rmark_is (a b c : ByteArray) : (Tryd.prog.info? 61).map (·.size) = some (rmarkC a b c).size := by kernel_rfl
theorem rmark_one (a b c : ByteArray) : ∀ v ∈ (rmarkC a b c).toList, v.oneCell' = true := by
  intro v hv
  simp only [rmarkC, List.mem_cons, List.not_mem_nil, or_false] at hv
  rcases hv with rfl | rfl | rfl <;> rfl
theorem rchg_built (c : ChgA) (A : Option Addr) (cap : Nat) : Tryd.prog.built 56 [(0, .string (strOfNums c.tree)), (1, .slice A c.n cap), (2, .int .u64 c.time), (3, .string c.author), (4, .string c.text)] = some (rchgC c A cap) := by kernel_rfl
theorem rchg_is (c : ChgA) (A : Option Addr) (cap : Nat) : (Tryd.prog.info? 56).map (·.size) = some (rchgC c A cap).size := by kernel_rfl
theorem rchg_one (c : ChgA) (A : Option Addr) (cap : Nat) : ∀ v ∈ (rchgC c A cap).toList, v.oneCell' = true := by
  intro v hv
  simp only [rchgC, List.mem_cons, List.not_mem_nil, or_false] at hv
  rcases hv with rfl | rfl | rfl | rfl | rfl <;> rfl
set_option maxRecDepth 100000 in
set_option maxHeartbeats 1000000 in
theorem own_any (k : Int) (A : Option Addr) (n cap : Nat) (bs : List Int) (w : World) (hrd : RdB w A n bs) :
    Calls Tryd.prog 29 #[.agg (objC k (.slice A n cap))] w fun e w' => e = .returned (.agg (robjC k (strOfNums bs))) ∧ Below w.heap.size w w' := by
  obtain ⟨w0, hw0⟩ : ∃ w0, w0 = (w.alloc (.cells (objC k (.slice A n cap)) 43)).alloc (.cells (robjC 0 ⟨#[]⟩) 48) := ⟨_, rfl⟩
  have K0 : Bx (w0.heap[w.heap.size]? = some (.cells (objC k (.slice A n cap)) 43 (0, 0))) := ⟨by rw [hw0]; exact heap_alloc2_old w _ _⟩
  have K1 : Bx (w0.heap[w.heap.size + 1]? = some (.cells (robjC 0 ⟨#[]⟩) 48 (0, 0))) := ⟨by rw [hw0]; exact heap_alloc2_new w _ _⟩
  have B0 : Bx (Below w.heap.size w w0) := ⟨by rw [hw0]; exact ((Below.refl _ _).alloc (Nat.le_refl _) _).alloc (by simp) _⟩
  have LIT : Bx ((w.alloc (.cells (objC k (.slice A n cap)) 43)).alloc (.cells #[.int .i64 0, .string ⟨#[]⟩] 48) = w0) := ⟨hw0.symm⟩
  have z0 : w0.cell? ⟨w.heap.size, 0, none⟩ = some (.int .i64 k) := blk_cell K0.out rfl
  have z1 : w0.cell? ⟨w.heap.size, 1, none⟩ = some (.slice A n cap) := blk_cell K0.out rfl
  have cv0 : (convert 41 9 (.slice A n cap)).run Tryd.prog w0 = .ok (.string (strOfNums bs)) w0 := str_of (hrd.below B0.out) cap
  clear hw0 hrd
  generalize strOfNums bs = s at *
  go_enter Tryd.func29, Tryd.ntmps29
  go_upto_region 1 with fail
  rw [LIT.out]
  clear LIT
  go_wp2_with (first
    | ((with_reducible refine at_build 8 ?_); go_must (refine wpList_build2 rfl 48 [(0, .tmp 4), (1, .tmp 7)] rfl _ rfl (robjC k s) (robj_built k s) ?_))
    | ((with_reducible refine at_store (.tmp 2) (.tmp 8) ?_); go_must (refine store_all (cs := robjC k s) 48 (.tmp 2) (.tmp 8) rfl rfl rfl rfl K1.out (robj_is _ _) rfl (robj_one _ _) ?_; intro w9 hu9; have B9 := bx (B0.out.trans (hu9.below (Nat.le_succ _))); have R9 := bx hu9.same; clear hu9)))
  refine bodyPost_ret (results_agg (cs := robjC k s) rfl _ _ (w.heap.size + 1) 48 _ rfl R9.out Tryd.underlying48 rfl (robj_is _ _)) rfl ?_
  exact ⟨rfl, B9.out⟩

set_option maxRecDepth 100000 in
set_option maxHeartbeats 1000000 in
theorem mark10_any (id : List Int) (name text : ByteArray) (w : World) (hid : id.length = 32) :
    Calls Tryd.prog 28 #[.agg (markCells id name text).toArray] w fun e w' => e = .returned (.agg (rmarkC (strOfNums id) name text)) ∧ Below w.heap.size w w' := by
  obtain ⟨w0, hw0⟩ : ∃ w0, w0 = (w.alloc (.cells (markCells id name text).toArray 38)).alloc (.cells (rmarkC ⟨#[]⟩ ⟨#[]⟩ ⟨#[]⟩) 61) := ⟨_, rfl⟩
  have K0 : Bx (w0.heap[w.heap.size]? = some (.cells (markCells id name text).toArray 38 (0, 0))) := ⟨by rw [hw0]; exact heap_alloc2_old w _ _⟩
  have K1 : Bx (w0.heap[w.heap.size + 1]? = some (.cells (rmarkC ⟨#[]⟩ ⟨#[]⟩ ⟨#[]⟩) 61 (0, 0))) := ⟨by rw [hw0]; exact heap_alloc2_new w _ _⟩
  have B0 : Bx (Below w.heap.size w w0) := ⟨by rw [hw0]; exact ((Below.refl _ _).alloc (Nat.le_refl _) _).alloc (by simp) _⟩
  have LIT : Bx ((w.alloc (.cells (markCells id name text).toArray 38)).alloc (.cells #[.string ⟨#[]⟩, .string ⟨#[]⟩, .string ⟨#[]⟩] 61) = w0) := ⟨hw0.symm⟩
  have HC : Bx (∀ w', Below w0.heap.size w0 w' → (convert 41 9 (.slice (some ⟨w.heap.size, 0, none⟩) 32 32)).run Tryd.prog w' = .ok (.string (strOfNums id)) w' ∧ w'.cell? ⟨w.heap.size, 32, none⟩ = some (.string name) ∧ w'.cell? ⟨w.heap.size, 33, none⟩ = some (.string text)) := ⟨fun w' hb => by
    have hk := (hb.block _ (blk_lt K0.out)).trans K0.out
    have h9 := cells_rd hk (pre := []) (id := id) (post := [.string name, .string text]) rfl
    rw [hid] at h9
    exact ⟨str_of h9 32, blk_cell hk (mark_get hid name text).1, blk_cell hk (mark_get hid name text).2⟩⟩
  have sl := arr_slice_all (P := Tryd.prog) (t := 32) Tryd.underlying32 Tryd.sizeOf5 w.heap.size 0
  clear hw0 hid
  generalize strOfNums id = t at *
  go_enter Tryd.func28, Tryd.ntmps28
  go_upto_region 1 with fail
  rw [LIT.out]
  clear LIT
  try simp only [Act.put]
  refine region_tailC (fun w' => Below w0.heap.size w0 w') 7 (by kernel_rfl) (by kernel_rfl) ((Below.refl _ _).drew) ?_
  simp only [List.take_succ_cons, List.take_zero, List.drop_succ_cons, List.drop_zero]
  repeat (first
    | go_big_quiet_skip
    | (go_big_quiet_want; go_big_quiet_op; go_big_quiet_on)
    | (refine quiet_take (v := ?_) _ rfl (by kernel_rfl) ?_ ?_; rotate_left 1; (focus (first | (intro w' hw'; clear hw'; unfold Oper.quietAt; go_simp; done) | (intro w' hw'; clear hw'; unfold Oper.quietAt; go_simp; with_reducible rfl) | (intro w' hw'; obtain ⟨z0, z1, z2⟩ := HC.out w' hw'; unfold Oper.quietAt; go_simp; first | done | with_reducible rfl))); try simp only [List.setIfInBounds_toArray, List.set_cons_zero, List.set_cons_succ]))
  refine wpQuiet_nil ?_
  intro w2 hw2
  have D2 := bx (B0.out.trans (hw2.mono B0.out.size))
  have K2 := bx ((hw2.block _ (blk_lt K1.out)).trans K1.out)
  clear hw2
  go_wp2_with (first
    | ((with_reducible refine at_build 10 ?_); go_must (refine wpList_build2 rfl 61 [(0, .tmp 5), (1, .tmp 7), (2, .tmp 9)] rfl _ rfl (rmarkC t name text) (rmark_built t name text) ?_))
    | ((with_reducible refine at_store (.tmp 2) (.tmp 10) ?_); go_must (refine store_all (cs := rmarkC t name text) 61 (.tmp 2) (.tmp 10) rfl rfl rfl rfl K2.out (rmark_is _ _ _) rfl (rmark_one _ _ _) ?_; intro w9 hu9; have B9 := bx (D2.out.trans (hu9.below (Nat.le_succ _))); have R9 := bx hu9.same; clear hu9)))
  refine bodyPost_ret (results_agg (cs := rmarkC t name text) rfl _ _ (w.heap.size + 1) 61 _ rfl R9.out Tryd.underlying61 rfl (rmark_is _ _ _)) rfl ?_
  exact ⟨rfl, B9.out⟩
/-- What law10.change tells. -/
def ChgO (w : World) (c : ChgA) (e : Ending) (w' : World) : Prop := ∃ A cap, e = .returned (.agg (rchgC c A cap)) ∧ RowAt w' A c.n 1 (strR c.P) ∧ Below w.heap.size w w'
set_option maxRecDepth 100000 in
set_option maxHeartbeats 1000000 in
theorem chg10_any (c : ChgA) (w : World) (hF : c.Full w) (hn : c.n ≤ 4294967296) : Calls Tryd.prog 25 #[.agg c.cells.toArray] w (ChgO w c) := by
  obtain ⟨htree, hrow, hids⟩ := hF
  have hget := chg_get (c := c) htree
  obtain ⟨CC, hCC⟩ : ∃ CC, c.cells.toArray = CC := ⟨_, rfl⟩
  have hcd : c.cells = [] ++ u8s c.tree ++ [.slice c.A c.n c.cap, .int .u64 c.time, .string c.author, .string c.text] := rfl
  have hrdt : ∀ w' : World, w'.heap[w.heap.size]? = some (.cells CC 36 (0, 0)) → RdB w' (some ⟨w.heap.size, 0, none⟩) 32 c.tree := fun w' hk => by
    rw [← hCC] at hk
    have h9 := cells_rd hk hcd
    rw [htree] at h9
    exact h9
  rw [hCC] at hget ⊢
  have hbuilt := rchg_built c
  have his := rchg_is c
  have hone := rchg_one c
  have HBU := bx hbuilt; have HIS := bx his; have HONE := bx hone; have HRS := bx (show ∀ A cap, (rchgC c A cap).size = 5 from fun _ _ => rfl)
  obtain ⟨w0, hw0⟩ : ∃ w0, w0 = (w.alloc (.cells CC 36)).alloc (.cells #[.string ⟨#[]⟩, .slice none 0 0, .int .u64 0, .string ⟨#[]⟩, .string ⟨#[]⟩] 56) := ⟨_, rfl⟩
  have K0 : Bx (w0.heap[w.heap.size]? = some (.cells CC 36 (0, 0))) := ⟨by rw [hw0]; exact heap_alloc2_old w _ _⟩
  have K1 : Bx (w0.heap[w.heap.size + 1]? = some (.cells #[.string ⟨#[]⟩, .slice none 0 0, .int .u64 0, .string ⟨#[]⟩, .string ⟨#[]⟩] 56 (0, 0))) := ⟨by rw [hw0]; exact heap_alloc2_new w _ _⟩
  have B0 : Bx (Below w.heap.size w w0) := ⟨by rw [hw0]; exact ((Below.refl _ _).alloc (Nat.le_refl _) _).alloc (by simp) _⟩
  have SZ : Bx (w0.heap.size = w.heap.size + 2) := ⟨by rw [hw0]; simp⟩
  have HC : Bx (∀ w', Below (w.heap.size + 1) w0 w' → (convert 41 9 (.slice (some ⟨w.heap.size, 0, none⟩) 32 32)).run Tryd.prog w' = .ok (.string (strOfNums c.tree)) w' ∧ w'.cell? ⟨w.heap.size, 32, none⟩ = some (.slice c.A c.n c.cap) ∧ w'.cell? ⟨w.heap.size, 33, none⟩ = some (.int .u64 c.time) ∧ w'.cell? ⟨w.heap.size, 34, none⟩ = some (.string c.author) ∧ w'.cell? ⟨w.heap.size, 35, none⟩ = some (.string c.text)) := ⟨fun w' hb => by
    have hk := (hb.block _ (Nat.lt_succ_self _)).trans K0.out
    exact ⟨str_of (hrdt w' hk) 32, blk_cell hk hget.1, blk_cell hk hget.2.1, blk_cell hk hget.2.2.1, blk_cell hk hget.2.2.2⟩⟩
  have HIDS : Bx (∀ w', Below w.heap.size w w' → Calls Tryd.prog 34 #[.slice c.A c.n c.cap] w' (RowO1 w' c.n 1 (strR c.P))) := ⟨fun w' hb => ids_any c.A c.n c.cap c.P w' (hrow.below hb) hids hn⟩
  have HW := bx hw0
  have sl := arr_slice_all (P := Tryd.prog) (t := 32) Tryd.underlying32 Tryd.sizeOf5 w.heap.size 0
  clear hw0 hrow hids htree hrdt hget hCC hcd hbuilt his hone
  have CO : Bx (∀ A cap w', RowAt w' A c.n 1 (strR c.P) → Below w.heap.size w w' → ChgO w c (.returned (.agg (rchgC c A cap))) w') := ⟨fun A cap w' h1 h2 => ⟨A, cap, rfl, h1, h2⟩⟩
  generalize ChgO w c = OUT at *
  generalize rchgC c = RC at *
  generalize strR c.P = SR at *
  generalize strOfNums c.tree = t at *
  generalize c.time = tm at *
  generalize c.author = au at *
  generalize c.text = tx at *
  generalize c.A = PA at *
  generalize c.n = n at *
  generalize c.cap = cap at *
  go_enter Tryd.func25, Tryd.ntmps25
  go_upto_region 1 with fail
  rw [← HW.out]
  clear HW
  have hS0 : Below (w.heap.size + 1) w0 w0.drew ∧ ∃ old : Array Value, old.size = 5 ∧ w0.drew.heap[w.heap.size + 1]? = some (.cells old 56 (0, 0)) := ⟨(Below.refl _ _).drew, _, rfl, K1.out⟩
  refine wp_region_held_drew (S := (fun w' => Below (w.heap.size + 1) w0 w' ∧ ∃ old : Array Value, old.size = 5 ∧ w'.heap[w.heap.size + 1]? = some (.cells old 56 (0, 0)))) (by kernel_rfl) hS0 (fun hS => ?_)
  refine takeH (i := 0) (d := 3) (v := ?_) rfl rfl (by kernel_rfl) (by kernel_rfl) (by kernel_rfl) (fun _ _ _ h => h) (Or.inl ⟨by kernel_rfl, ?_⟩) hS ?_; rotate_left 1; (focus ((intro w' hS'; clear hS'; go_simp; try with_reducible rfl); done))
  try simp only [List.setIfInBounds_toArray, List.set_cons_zero, List.set_cons_succ]
  refine takeH (i := 1) (d := 4) (v := ?_) rfl rfl (by kernel_rfl) (by kernel_rfl) (by kernel_rfl) (fun _ _ _ h => h) (Or.inl ⟨by kernel_rfl, ?_⟩) hS ?_; rotate_left 1; (focus ((intro w' hS'; clear hS'; go_simp; try with_reducible rfl); done))
  try simp only [List.setIfInBounds_toArray, List.set_cons_zero, List.set_cons_succ]
  refine takeH (i := 2) (d := 5) (v := ?_) rfl rfl (by kernel_rfl) (by kernel_rfl) (by kernel_rfl) (fun _ _ _ h => h) (Or.inl ⟨by kernel_rfl, ?_⟩) hS ?_; rotate_left 1; (focus ((intro w' hS'; obtain ⟨z0, z1, z2, z3, z4⟩ := HC.out w' hS'.1; clear hS'; go_simp; try with_reducible rfl); done))
  try simp only [List.setIfInBounds_toArray, List.set_cons_zero, List.set_cons_succ]
  refine takeH (i := 3) (d := 6) (v := ?_) rfl rfl (by kernel_rfl) (by kernel_rfl) (by kernel_rfl) (fun _ _ _ h => h) (Or.inl ⟨by kernel_rfl, ?_⟩) hS ?_; rotate_left 1; (focus ((intro w' hS'; clear hS'; go_simp; try with_reducible rfl); done))
  try simp only [List.setIfInBounds_toArray, List.set_cons_zero, List.set_cons_succ]
  refine takeH (i := 4) (d := 7) (v := ?_) rfl rfl (by kernel_rfl) (by kernel_rfl) (by kernel_rfl) (fun _ _ _ h => h) (Or.inl ⟨by kernel_rfl, ?_⟩) hS ?_; rotate_left 1; (focus ((intro w' hS'; obtain ⟨z0, z1, z2, z3, z4⟩ := HC.out w' hS'.1; clear hS'; go_simp; try with_reducible rfl); done))
  try simp only [List.setIfInBounds_toArray, List.set_cons_zero, List.set_cons_succ]
  refine takeH (i := 6) (d := 9) (v := ?_) rfl rfl (by kernel_rfl) (by kernel_rfl) (by kernel_rfl) (fun _ _ _ h => h) (Or.inl ⟨by kernel_rfl, ?_⟩) hS ?_; rotate_left 1; (focus ((intro w' hS'; clear hS'; go_simp; try with_reducible rfl); done))
  try simp only [List.setIfInBounds_toArray, List.set_cons_zero, List.set_cons_succ]
  refine takeH (i := 7) (d := 10) (v := ?_) rfl rfl (by kernel_rfl) (by kernel_rfl) (by kernel_rfl) (fun _ _ _ h => h) (Or.inl ⟨by kernel_rfl, ?_⟩) hS ?_; rotate_left 1; (focus ((intro w' hS'; obtain ⟨z0, z1, z2, z3, z4⟩ := HC.out w' hS'.1; clear hS'; go_simp; try with_reducible rfl); done))
  try simp only [List.setIfInBounds_toArray, List.set_cons_zero, List.set_cons_succ]
  refine takeH (i := 8) (d := 11) (v := ?_) rfl rfl (by kernel_rfl) (by kernel_rfl) (by kernel_rfl) (fun _ _ _ h => h) (Or.inl ⟨by kernel_rfl, ?_⟩) hS ?_; rotate_left 1; (focus ((intro w' hS'; clear hS'; go_simp; try with_reducible rfl); done))
  try simp only [List.setIfInBounds_toArray, List.set_cons_zero, List.set_cons_succ]
  refine takeH (i := 9) (d := 12) (v := ?_) rfl rfl (by kernel_rfl) (by kernel_rfl) (by kernel_rfl) (fun _ _ _ h => h) (Or.inl ⟨by kernel_rfl, ?_⟩) hS ?_; rotate_left 1; (focus ((intro w' hS'; obtain ⟨z0, z1, z2, z3, z4⟩ := HC.out w' hS'.1; clear hS'; go_simp; try with_reducible rfl); done))
  try simp only [List.setIfInBounds_toArray, List.set_cons_zero, List.set_cons_succ]
  refine takeH (i := 10) (d := 13) (v := ?_) rfl rfl (by kernel_rfl) (by kernel_rfl) (by kernel_rfl) (fun _ _ _ h => h) (Or.inl ⟨by kernel_rfl, ?_⟩) hS ?_; rotate_left 1; (focus ((intro w' hS'; clear hS'; go_simp; try with_reducible rfl); done))
  try simp only [List.setIfInBounds_toArray, List.set_cons_zero, List.set_cons_succ]
  refine takeH (i := 11) (d := 14) (v := ?_) rfl rfl (by kernel_rfl) (by kernel_rfl) (by kernel_rfl) (fun _ _ _ h => h) (Or.inl ⟨by kernel_rfl, ?_⟩) hS ?_; rotate_left 1; (focus ((intro w' hS'; obtain ⟨z0, z1, z2, z3, z4⟩ := HC.out w' hS'.1; clear hS'; go_simp; try with_reducible rfl); done))
  try simp only [List.setIfInBounds_toArray, List.set_cons_zero, List.set_cons_succ]
  refine wpAnyH_ready (rs := [5]) (by kernel_rfl) (by simp) ?_
  refine AllReadyH.cons rfl (fun K hK => ?_) AllReadyH.nil
  go_simp
  refine (HIDS.out _ (B0.out.trans (hS.1.mono (by omega)))).mono ?_
  rintro x w2 ⟨A5, c5, rfl, hr5, hp5, hb⟩
  have lo := hS.1.size
  rw [SZ.out] at lo
  have LO := bx lo
  clear lo
  have R5 := bx hr5; have P5 := bx hp5; have HB5 := bx hb
  clear hr5 hp5 hb
  refine hK.out _ _ ?_ (fun hS2 => ?_)
  · exact ⟨hS.1.trans (HB5.out.mono (Nat.le_trans (by omega) LO.out)), by obtain ⟨old, ho7, hko⟩ := hS.2; exact ⟨old, ho7, (HB5.out.block _ (blk_lt hko)).trans hko⟩⟩
  clear hK K hS; have hS := hS2; clear hS2
  try simp only [Act.put, List.setIfInBounds_toArray, List.set_cons_zero, List.set_cons_succ]
  refine wpAnyH_ready (rs := [12]) (by kernel_rfl) (by simp) ?_
  refine readyH_list rfl (fun K hK => ?_) AllReadyH.nil
  refine wpList_build2 rfl 56 [(0, .tmp 5), (1, .tmp 8), (2, .tmp 10), (3, .tmp 12), (4, .tmp 14)] rfl _ rfl _ (HBU.out A5 c5) ?_
  show wpList _ _ K [] (Act.put _ (some 15) (.agg (RC A5 c5))) _
  refine hK.out _ _ ?_ (fun hS2 => ?_)
  · exact hS
  clear hK K hS; have hS := hS2; clear hS2
  try simp only [Act.put, List.setIfInBounds_toArray, List.set_cons_zero, List.set_cons_succ]
  refine wpAnyH_ready (rs := [13]) (by kernel_rfl) (by simp) ?_
  refine readyH_list rfl (fun K hK => ?_) AllReadyH.nil
  have hS8 := hS
  obtain ⟨hS1, old, ho7, hko⟩ := hS8
  refine store_all (cs := RC A5 c5) 56 (.tmp 2) (.tmp 15) rfl rfl rfl rfl hko (HIS.out A5 c5) (by rw [ho7]; exact HRS.out A5 c5) (HONE.out A5 c5) ?_
  intro w9 hu9
  have R9 := bx hu9.same
  have RT := bx (R5.out.upd_ne hu9 (fun p hp => by have := P5.out p hp; have := LO.out; omega))
  have BF := bx (hS1.trans (hu9.below (Nat.le_refl _)))
  clear hu9 hko ho7
  show wpList _ _ K [] (Act.put _ none undef) w9
  refine hK.out _ _ ?_ (fun hS2 => ?_)
  · exact ⟨BF.out, _, HRS.out A5 c5, R9.out⟩
  clear hK K hS; have hS := hS2; clear hS2
  try simp only [Act.put, List.setIfInBounds_toArray, List.set_cons_zero, List.set_cons_succ]
  refine wpAnyH_done (by kernel_rfl) ?_ _
  go_wp2_with fail
  refine bodyPost_ret (v := .agg (RC A5 c5)) (results_agg (cs := RC A5 c5) rfl _ _ (w.heap.size + 1) 56 _ rfl R9.out Tryd.underlying56 rfl (HIS.out A5 c5)) rfl ?_
  exact CO.out A5 c5 _ RT.out (B0.out.trans (BF.out.mono (by omega)))
end Go.Proofs.YthnommoljikaiaaDoor
