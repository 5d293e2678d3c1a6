/- Objects: Done of a reader; object.Put; look and Check of a blob. -/
import Derived.Test.YthnommoljikaiaaDoorObj10
import Derived.Test.YthnommoljikaiaaDoorOrdr3
import Derived.Test.YthnommoljikaiaaDoorOsz
set_option linter.unusedSimpArgs false
set_option linter.unusedVariables false
namespace Go.Proofs.YthnommoljikaiaaDoor
open Go.RowKit

/-- What Done tells. -/
def doneO (bs : List Int) (bad : Int) : Int := if bad = 0 ∧ bs ≠ [] then 11 else rWrong bad
set_option maxRecDepth 100000 in
theorem rdone_any {lo : Nat} (w : World) (R : Nat) (bs : List Int) (bad : Int) (h : RdrL lo w R bs bad) :
    Calls Tryd.prog 68 #[.pointer (some ⟨R, 0, none⟩)] w fun e w' => e = .returned (.int .i64 (doneO bs bad)) ∧ w = w' := by
  have HWR := bx (rwrong_any w R bs bad h)
  obtain ⟨A, c, hR, _⟩ := h
  have c0 : w.cell? ⟨R, 0, none⟩ = some (.slice A bs.length c) := blk_cell hR rfl
  have c1 : w.cell? ⟨R, 1, none⟩ = some (wrongV bad) := blk_cell hR rfl
  clear hR
  by_cases h0 : bad = 0
  · subst h0
    have e1 : wrongV 0 = .nilIface := rfl
    rw [e1] at c1
    by_cases hb : bs = []
    · subst hb
      have HD : Bx (doneO [] 0 = rWrong 0) := ⟨by simp [doneO]⟩
      rw [List.length_nil] at c0
      go_enter Tryd.func68, Tryd.ntmps68
      go_wp2_with (first
        | (go_at_call 60; refine HWR.out.mono ?_; rintro e w1 ⟨rfl, rfl⟩)
        | go_in)
      go_ret
      exact ⟨by rw [HD.out]; rfl, rfl⟩
    · have hl : 0 < bs.length := List.length_pos_iff.2 hb
      have hl' : (0 : Int) < bs.length := by omega
      have HD : Bx (doneO bs 0 = 11) := ⟨by simp [doneO, hb]⟩
      rw [HD.out]
      clear hb HD HWR hl
      go_enter Tryd.func68, Tryd.ntmps68
      go_wp2_with (first
        | go_in)
      go_ret
      exact ⟨rfl, rfl⟩
  · have e1 : wrongV bad = .iface 44 (.int .i64 bad) := by rw [wrongV, if_neg h0]
    rw [e1] at c1
    have HD : Bx (doneO bs bad = rWrong bad) := ⟨by simp [doneO, h0]⟩
    go_enter Tryd.func68, Tryd.ntmps68
    go_wp2_with (first
      | (go_at_call 60; refine HWR.out.mono ?_; rintro e w1 ⟨rfl, rfl⟩)
      | go_in)
    go_ret
    exact ⟨by rw [HD.out]; rfl, rfl⟩
/-- The bytes of an object. -/
def putO (k : Int) (bs : List Int) : List Int := [k % 256] ++ be bs.length 4 ++ bs
set_option maxRecDepth 100000 in
set_option maxHeartbeats 1000000 in
theorem put10_any (k : Int) (A : Option Addr) (n cap : Nat) (bs : List Int) (w : World) (hrd : RdB w A n bs) (hnil : A = none → cap = 0) (hbig : n ≤ 8796093022208) :
    Calls Tryd.prog 37 #[.agg (objC k (.slice A n cap))] w fun e w' => ∃ r, e = .returned r ∧ OwB w' w.heap.size r (putO k bs) ∧ Below w.heap.size w w' := by
  obtain ⟨w0, hw0⟩ : ∃ w0, w0 = w.alloc (.cells (objC k (.slice A n cap)) 43) := ⟨_, rfl⟩
  have K0 : Bx (w0.heap[w.heap.size]? = some (.cells (objC k (.slice A n cap)) 43 (0, 0))) := ⟨by rw [hw0]; exact blk_new w _⟩
  have B0 : Bx (Below w.heap.size w w0) := ⟨by rw [hw0]; exact (Below.refl _ _).alloc (Nat.le_refl _) _⟩
  have z0 : w0.cell? ⟨w.heap.size, 0, none⟩ = some (.int .i64 k) := blk_cell K0.out rfl
  have hw8 : IntKind.u8.wrap k = k % 256 := rfl
  have hl := hrd.1
  have HRD := bx hrd; have HN := bx hnil; have HW := bx hw0
  have HP : Bx (putO k bs = [k % 256] ++ be n 4 ++ bs) := ⟨by rw [putO, hl]⟩
  have hk0 : 0 ≤ k % 256 ∧ k % 256 < 256 := by omega
  have KB := bx hk0
  have Z1 : Bx (∀ w', Below w0.heap.size w0 w' → w'.cell? ⟨w.heap.size, 1, none⟩ = some (.slice A n cap)) := ⟨fun w' hb => blk_cell ((hb.block _ (blk_lt K0.out)).trans K0.out) rfl⟩
  clear hw0 hrd hnil hl
  go_enter Tryd.func37, Tryd.ntmps37
  go_upto_region 1 with fail
  rw [← HW.out]
  clear HW
  generalize k % 256 = kb at *
  obtain ⟨w1, hw1⟩ : ∃ w1, w1 = w0.alloc (.cells #[.int .u8 kb] 5) := ⟨_, rfl⟩
  have B1 : Bx (Below w0.heap.size w0 w1) := ⟨by rw [hw1]; exact (Below.refl _ _).alloc (Nat.le_refl _) _⟩
  have D1 : Bx (Below w.heap.size w w1) := ⟨B0.out.trans (B1.out.mono B0.out.size)⟩
  have R1 : Bx (RdB w1 (some ⟨w0.heap.size, 0, none⟩) 1 [kb]) := ⟨by rw [hw1]; exact rdB_one _ _ _ rfl⟩
  have z1 := Z1.out w1 B1.out
  rw [hw1] at z1
  have HW1 := bx hw1.symm
  have hsz := sized_any (some ⟨w0.heap.size, 0, none⟩) 1 1 [kb] A n cap bs w1 R1.out (fun h => by cases h) (HRD.out.below D1.out) HN.out (by omega) hbig
  have HSZ := bx hsz
  clear hw1 hsz
  go_wp2_with fail
  rw [HW1.out]
  refine HSZ.out.mono ?_
  rintro e w2 ⟨r, rfl, ho, hb⟩
  have O2 := bx (ho.base_le D1.out.size); have D2 := bx (D1.out.trans (hb.mono D1.out.size))
  clear ho hb
  go_wp2_with fail
  go_ret
  exact ⟨r, rfl, by rw [HP.out]; exact O2.out, D2.out⟩
set_option maxRecDepth 100000 in
set_option maxHeartbeats 1000000 in
theorem look_blob (A : Option Addr) (n cap : Nat) (w : World) (hn : n ≤ 16384) :
    Calls Tryd.prog 65 #[.agg (objC 1 (.slice A n cap))] w fun e w' => e = .returned (.tuple #[.slice none 0 0, .int .i64 0]) ∧ Below w.heap.size w w' := by
  obtain ⟨w0, hw0⟩ : ∃ w0, w0 = w.alloc (.cells (objC 1 (.slice A n cap)) 43) := ⟨_, rfl⟩
  have K0 : Bx (w0.heap[w.heap.size]? = some (.cells (objC 1 (.slice A n cap)) 43 (0, 0))) := ⟨by rw [hw0]; exact blk_new w _⟩
  have B0 : Bx (Below w.heap.size w w0) := ⟨by rw [hw0]; exact (Below.refl _ _).alloc (Nat.le_refl _) _⟩
  have z0 : w0.cell? ⟨w.heap.size, 0, none⟩ = some (.int .i64 1) := blk_cell K0.out rfl
  have z1 : w0.cell? ⟨w.heap.size, 1, none⟩ = some (.slice A n cap) := blk_cell K0.out rfl
  have hn' : ¬ (16384 : Int) < n := by omega
  have HW := bx hw0
  clear hw0
  go_enter Tryd.func65, Tryd.ntmps65
  go_upto_region 1 with fail
  rw [← HW.out]
  clear HW
  go_wp2_with fail
  refine bodyPost_ret (results_tmp2 rfl _ _ _) rfl ?_
  exact ⟨rfl, B0.out⟩
set_option maxRecDepth 100000 in
theorem check_blob (A : Option Addr) (n cap : Nat) (w : World) (hn : n ≤ 16384) :
    Calls Tryd.prog 40 #[.agg (objC 1 (.slice A n cap))] w fun e w' => e = .returned (.int .i64 0) ∧ Below w.heap.size w w' := by
  obtain ⟨w0, hw0⟩ : ∃ w0, w0 = w.alloc (.cells (objC 1 (.slice A n cap)) 43) := ⟨_, rfl⟩
  have K0 : Bx (w0.heap[w.heap.size]? = some (.cells (objC 1 (.slice A n cap)) 43 (0, 0))) := ⟨by rw [hw0]; exact blk_new w _⟩
  have B0 : Bx (Below w.heap.size w w0) := ⟨by rw [hw0]; exact (Below.refl _ _).alloc (Nat.le_refl _) _⟩
  have HL := bx (look_blob A n cap w0 hn)
  have HW := bx hw0
  clear hw0
  go_enter Tryd.func40, Tryd.ntmps40
  go_upto_region 1 with fail
  rw [← HW.out]
  clear HW
  go_wp2_with (first
    | ((with_reducible refine at_load 6 ?_); go_must (refine load_all 43 (.tmp 1) rfl rfl rfl K0.out Tryd.underlying43 rfl (obj_is _ _ _ _) ?_))
    | (refine HL.out.mono ?_; rintro e w1 ⟨rfl, hb⟩; have D1 := bx (B0.out.trans (hb.mono B0.out.size)); clear hb HL))
  go_ret
  exact ⟨rfl, D1.out⟩
end Go.Proofs.YthnommoljikaiaaDoor
