/- The walks over lay and settle. -/
import Derived.Test.YthnommoljikaiaaDsk1
set_option linter.unusedSimpArgs false
set_option linter.unusedVariables false
namespace Go.Proofs.Ythnommoljikaiaa
open Go.RowKit

theorem secInfo : (Try.prog.info? 140).map (·.size) = some 256 := by kernel_rfl
theorem u8Info : (Try.prog.info? 5).map (·.size) = some 1 := by kernel_rfl
theorem secZero : Try.zeroCells140 = ints .u8 zeros256 := by kernel_rfl
theorem putRow_ints (k : IntKind) (s b : List Int) (n : Nat) (hs : s.length = 256) (hb : b.length = 256) (hn : n ≤ 256) : putRow (ints k s) 0 ((b.take n).map (Value.int k)) = ints k (b.take n ++ s.drop n) := by
  have e : (b.take n).length = n := by rw [List.length_take]; omega
  rw [← splice_putRow (ints k s) 0 _ (by rw [List.length_map, e, ints_size]; omega)]
  simp only [ints, List.map_append, List.take_zero, List.nil_append, List.length_map, e, Nat.zero_add, List.map_drop]
theorem lay_ok {s b : List Int} (n : Nat) (hs : SecOk s) (hb : SecOk b) (hn : n ≤ 256) : SecOk (b.take n ++ s.drop n) :=
  ⟨by rw [List.length_append, List.length_take, List.length_drop, hs.1, hb.1]; omega, isB_append (isB_take hb.2 n) (isB_drop hs.2 n)⟩
set_option maxRecDepth 100000 in
set_option maxHeartbeats 400000 in
theorem lay_any (s b : List Int) (n : Nat) (hs : SecOk s) (hb : SecOk b) (hn : n ≤ 256) (w : World) :
    Calls Try.prog 103 #[.agg (ints .u8 s), .agg (ints .u8 b), .int .i64 n] w fun e w' => e = .returned (.agg (ints .u8 (b.take n ++ s.drop n))) ∧ Below w.heap.size w w' := by
  obtain ⟨w3, hw3⟩ : ∃ w3, w3 = ((w.alloc (.cells (ints .u8 s) 140)).alloc (.cells (ints .u8 b) 140)).alloc (.cells Try.zeroCells140 140) := ⟨_, rfl⟩
  have h0 : w3.heap[w.heap.size]? = some (.cells (ints .u8 s) 140 (0, 0)) := by rw [hw3]; exact blk_alloc (blk_alloc (blk_new w _))
  have h1 : w3.heap[w.heap.size + 1]? = some (.cells (ints .u8 b) 140 (0, 0)) := by
    rw [hw3]; have := blk_new (w.alloc (.cells (ints .u8 s) 140)) (.cells (ints .u8 b) 140); rw [World.size_alloc] at this; exact blk_alloc this
  have h2 : w3.heap[w.heap.size + 1 + 1]? = some (.cells (ints .u8 zeros256) 140 (0, 0)) := by
    rw [hw3, secZero]; have := blk_new ((w.alloc (.cells (ints .u8 s) 140)).alloc (.cells (ints .u8 b) 140)) (.cells (ints .u8 zeros256) 140); simp only [World.size_alloc] at this; exact this
  have hb3 : Below w.heap.size w w3 := by rw [hw3]; exact (((Below.refl _ _).alloc (Nat.le_refl _) _).alloc (by simp) _).alloc (by simp; omega) _
  have H0 := bx h0; have H1 := bx h1; have H2 := bx h2; have B3 := bx hb3; have HW3 := bx hw3; have HS := bx hs; have HB := bx hb
  clear h0 h1 h2 hb3 hw3 hs hb
  have sl1 := arr_slice_all Try.underlying140 Try.sizeOf5 w.heap.size 0
  have sl2 := arr_slice_h Try.underlying140 Try.sizeOf5 (w.heap.size + 1) 0 n hn .i64 n rfl
  have hcl : Bx ((((b.drop 0).take n).map (Value.int .u8)).length = Nat.min n 256) := ⟨by rw [List.length_map, List.length_take, List.drop_zero, HB.out.1]⟩
  have hcf : Bx (0 + (((b.drop 0).take n).map (Value.int .u8)).length ≤ (ints .u8 s).size) := ⟨by rw [hcl.out, ints_size, HS.out.1]; show 0 + min n 256 ≤ 256; omega⟩
  go_enter Try.func103, Try.ntmps103
  go_wp2_with fail
  rw [← HW3.out]
  go_region_law (refine step_copy_upd rfl (.tmp 7) (.tmp 9) 22 22 rfl 5 Try.underlying22 u8Info w.heap.size 0 ⟨w.heap.size + 1, 0, none⟩ 256 256 n 256 rfl rfl (ints .u8 s) 140 H0.out (((b.drop 0).take n).map (Value.int .u8)) hcl.out (copy_src H1.out 0 n) hcf.out (oneCell_map_int _ _) ?_; intro w4 hu4)
  all_goals
    have P4 := bx hu4.same
    have R4 := bx (hu4.blk H2.out (by omega))
    have B4 := bx (B3.out.drew.trans (hu4.below (Nat.le_refl _)))
    rw [List.drop_zero, putRow_ints _ _ _ _ HS.out.1 HB.out.1 hn] at P4
    have HT := bx (lay_ok n HS.out HB.out hn)
    clear hu4
    generalize hte : b.take n ++ s.drop n = t at *
    have HTE := bx hte
    clear hte
    have IT : Bx ((Try.prog.info? 140).map (·.size) = some (ints .u8 t).size) := ⟨by rw [ints_size, HT.out.1]; exact secInfo⟩
    have ET : Bx ((ints .u8 t).extract 0 (0 + 256) = ints .u8 t) := ⟨ints_extract_all .u8 t 256 HT.out.1⟩
    have PT : Bx (putRow (ints .u8 zeros256) 0 (ints .u8 t).toList = ints .u8 t) := ⟨putRow_all _ _ (by rw [Array.length_toList, ints_size, ints_size, HT.out.1, zeros_ok.1])⟩
    go_wp2_with (first
      | ((with_reducible refine at_load 11 ?_); go_must (refine wpList_load_agg rfl 140 (.tmp 3) rfl w.heap.size 0 rfl 140 (ints .u8 t) 256 _ P4.out Try.underlying140 rfl secInfo (by rw [ints_size, HT.out.1]; decide) (ints .u8 t) ET.out ?_))
      | ((with_reducible refine at_store (.tmp 6) (.tmp 11) ?_); go_must (refine wpList_store_agg rfl 140 (.tmp 6) (.tmp 11) rfl (w.heap.size + 1 + 1) 0 (ints .u8 t) rfl rfl 140 (ints .u8 zeros256) R4.out IT.out (by rw [ints_size, ints_size, HT.out.1, zeros_ok.1]; decide) (ints_oneCell _ _) (ints .u8 t) PT.out ?_; intro w5 hu5; have Q5 := bx hu5.same; have B5 := bx (B4.out.trans (hu5.below (by omega))); clear hu5)))
    refine bodyPost_ret (results_agg rfl _ _ _ _ (ints .u8 t) _ rfl Q5.out Try.underlying140 rfl IT.out) rfl ?_
    exact ⟨by rw [HTE.out], B5.out⟩
end Go.Proofs.Ythnommoljikaiaa
