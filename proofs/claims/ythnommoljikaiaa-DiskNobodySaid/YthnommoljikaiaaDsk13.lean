/- The law DiskNobody returns true. -/
import Derived.Test.YthnommoljikaiaaDsk12
set_option linter.unusedSimpArgs false
set_option linter.unusedVariables false
namespace Go.Proofs.Ythnommoljikaiaa
open Go.RowKit

set_option maxRecDepth 100000 in
theorem dzero : Try.prog.built 63 [] = some (dCells 0 (.map none) (.slice none 0 0) 0 false) := by kernel_rfl
set_option maxRecDepth 100000 in
set_option maxHeartbeats 2000000 in
theorem nobody_any (w : World) (a0 a1 : Int) (v2 v3 : Value) :
    Calls Try.prog 7 #[.agg #[.int .i64 a0, .int .i64 a1, v2, v3]] w fun e w' => e = .returned (.bool true) ∧ Below w.heap.size w w' := by
  obtain ⟨w0, hw0⟩ : ∃ w0, w0 = w.alloc (.cells #[.int .i64 a0, .int .i64 a1, v2, v3] 45) := ⟨_, rfl⟩
  have hb0 : Below w.heap.size w w0 := by rw [hw0]; exact (Below.refl _ _).alloc (Nat.le_refl _) _
  have hq0 : w0.heap[w.heap.size]? = some (.cells #[.int .i64 a0, .int .i64 a1, v2, v3] 45 (0, 0)) := by rw [hw0]; exact blk_new w _
  have HW0 := bx hw0; have B0 := bx hb0; have Q0 := bx hq0
  clear hw0 hb0 hq0
  go_enter Try.func7, Try.ntmps7
  go_wp2_with fail
  rw [← HW0.out]
  go_loopw [3] (fun q wr => ∃ k : Nat, k ≤ 2 ∧ q = .int .i64 k ∧ Below w0.heap.size w0 wr) (fun q _ => 2 - (intOf q).toNat)
  case atStart => exact ⟨0, by decide, rfl, Below.refl _ _⟩
  case round =>
    obtain ⟨k, hk, rfl, hb⟩ := hrel
    have BR := bx hb
    have c1 : wr.cell? ⟨w.heap.size, 1, none⟩ = some (.int .i64 a1) := blk_cell ((hb.block _ (blk_lt Q0.out)).trans Q0.out) rfl
    clear hb
    match k, hk with
    | 0, _ =>
      have c2 : (wr.alloc (.cells (dCells 0 (.map none) (.slice none 0 0) 0 false) 63)).cell? ⟨w.heap.size, 1, none⟩ = some (.int .i64 a1) := by
        rw [World.cell?_alloc_some _ _ _ (by rw [c1]; rfl)]; exact c1
      have HND : Bx (NoDisk (wr.alloc (.cells (dCells 0 (.map none) (.slice none 0 0) 0 false) 63)) (.pointer (some ⟨wr.heap.size, 0, none⟩))) := ⟨.inr ⟨_, rfl, blk_cell (blk_new wr _) rfl⟩⟩
      have BN := bx (BR.out.alloc BR.out.size (.cells (dCells 0 (.map none) (.slice none 0 0) 0 false) 63))
      go_wp2_with (first
        | ((with_reducible refine at_build 13 ?_); go_must (refine wpList_build2 rfl 63 [] rfl [] rfl _ dzero ?_)))
      refine (arm_dead _ _ _ HND.out).mono ?_
      rintro e w' ⟨rfl, rfl⟩
      go_wp2_with fail
      refine (fall_dead _ _ _ HND.out).mono ?_
      rintro e w' ⟨rfl, rfl⟩
      go_wp2_with fail
      refine (read_dead _ _ _ HND.out).mono ?_
      rintro e w' ⟨rfl, rfl⟩
      go_wp2_with fail
      refine (safe_dead _ _ _ HND.out).mono ?_
      rintro e w' ⟨rfl, rfl⟩
      go_wp2_with fail
      refine (write_dead _ _ _ _ HND.out).mono ?_
      rintro e w' ⟨rfl, rfl⟩
      go_wp2_with fail
      refine (sync_dead _ _ HND.out).mono ?_
      rintro e w' ⟨rfl, rfl⟩
      go_wp2_with fail
      refine (down_dead _ _ HND.out).mono ?_
      rintro e w' ⟨rfl, rfl⟩
      go_wp2_with fail
      refine (sectors_dead _ _ HND.out).mono ?_
      rintro e w' ⟨rfl, rfl⟩
      go_wp2_with fail
      refine (under_dead _ _ HND.out).mono ?_
      rintro e w' ⟨rfl, rfl⟩
      go_wp2_with fail
      refine (clone_dead _ _ HND.out).mono ?_
      rintro e w' ⟨rfl, rfl⟩
      go_wp2_with fail
      exact ⟨⟨1, by decide, rfl, BN.out⟩, by simp [intOf]⟩
    | 1, _ =>
      have c2 : (wr.alloc (.cells (dCells 0 (.map none) (.slice none 0 0) 0 false) 63)).cell? ⟨w.heap.size, 1, none⟩ = some (.int .i64 a1) := by
        rw [World.cell?_alloc_some _ _ _ (by rw [c1]; rfl)]; exact c1
      have HND : Bx (NoDisk (wr.alloc (.cells (dCells 0 (.map none) (.slice none 0 0) 0 false) 63)) (.pointer none)) := ⟨.inl rfl⟩
      have BN := bx (BR.out.alloc BR.out.size (.cells (dCells 0 (.map none) (.slice none 0 0) 0 false) 63))
      go_wp2_with (first
        | ((with_reducible refine at_build 13 ?_); go_must (refine wpList_build2 rfl 63 [] rfl [] rfl _ dzero ?_)))
      refine (arm_dead _ _ _ HND.out).mono ?_
      rintro e w' ⟨rfl, rfl⟩
      go_wp2_with fail
      refine (fall_dead _ _ _ HND.out).mono ?_
      rintro e w' ⟨rfl, rfl⟩
      go_wp2_with fail
      refine (read_dead _ _ _ HND.out).mono ?_
      rintro e w' ⟨rfl, rfl⟩
      go_wp2_with fail
      refine (safe_dead _ _ _ HND.out).mono ?_
      rintro e w' ⟨rfl, rfl⟩
      go_wp2_with fail
      refine (write_dead _ _ _ _ HND.out).mono ?_
      rintro e w' ⟨rfl, rfl⟩
      go_wp2_with fail
      refine (sync_dead _ _ HND.out).mono ?_
      rintro e w' ⟨rfl, rfl⟩
      go_wp2_with fail
      refine (down_dead _ _ HND.out).mono ?_
      rintro e w' ⟨rfl, rfl⟩
      go_wp2_with fail
      refine (sectors_dead _ _ HND.out).mono ?_
      rintro e w' ⟨rfl, rfl⟩
      go_wp2_with fail
      refine (under_dead _ _ HND.out).mono ?_
      rintro e w' ⟨rfl, rfl⟩
      go_wp2_with fail
      refine (clone_dead _ _ HND.out).mono ?_
      rintro e w' ⟨rfl, rfl⟩
      go_wp2_with fail
      exact ⟨⟨2, by decide, rfl, BN.out⟩, by simp [intOf]⟩
    | 2, _ =>
      go_wp2_with fail
      refine (one14_any _).mono ?_
      rintro e w5 ⟨rfl, hb⟩
      have B5 := bx ((B0.out.trans (BR.out.mono B0.out.size)).trans (hb.mono (Nat.le_trans B0.out.size BR.out.size)))
      clear hb
      go_wp2_with fail
      go_ret
      exact ⟨rfl, B5.out⟩
end Go.Proofs.Ythnommoljikaiaa
