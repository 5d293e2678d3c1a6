/- Objects: Done of a reader; object.Put; look and Check of a blob. Objects: object.Read, by what Check tells; law10.one. Objects: aids for the laws' walks. Objects: Same; what fresh tells. Objects: object.id: an array of 32 bytes that is read. Objects: what fresh tells, for each of its three closures. Objects: MarkOf. Objects: MarkOf. -/
import Derived.Test.YtoompcgdhokdlaaDoorJg
import Derived.Test.YtoompcgdhokdlaaDoorJb
import Derived.Great.Walk
set_option linter.unusedSimpArgs false
set_option linter.unusedVariables false
namespace Go.Proofs.YtoompcgdhokdlaaDoor
open Go.RowKit

/-- What Done tells. -/
def doneO (bs : List Int) (bad : Int) : Int := if bad = 0 ∧ bs ≠ [] then 11 else rWrong bad
set_option maxRecDepth 100000 in
theorem rdone_any {lo : Nat} (w : World) (R : Nat) (bs : List Int) (bad : Int) (h : RdrL lo w R bs bad) :
    Calls Tryd.prog 54 #[.pointer (some ⟨R, 0, none⟩)] w fun e w' => e = .returned (.int .i64 (doneO bs bad)) ∧ w = w' := by
  have HWR := bx (rwrong_any w R bs bad h)
  obtain ⟨A, c, hR, _⟩ := h
  have c0 : w.cell? ⟨R, 0, none⟩ = some (.slice A bs.length c) := blk_cell hR rfl
  have c1 : w.cell? ⟨R, 1, none⟩ = some (wrongV bad) := blk_cell hR rfl
  clear hR
  by_cases h0 : bad = 0
  · subst h0
    have e1 : wrongV 0 = .nilIface := rfl
    rw [e1] at c1
    by_cases hb : bs = []
    · subst hb
      have HD : Bx (doneO [] 0 = rWrong 0) := ⟨by simp [doneO]⟩
      rw [List.length_nil] at c0
      go_enter Tryd.func54, Tryd.ntmps54
      go_wp2_with (first
        | (go_at_call 46; refine HWR.out.mono ?_; rintro e w1 ⟨rfl, rfl⟩)
        | go_in)
      go_ret
      exact ⟨by rw [HD.out]; rfl, rfl⟩
    · have hl : 0 < bs.length := List.length_pos_iff.2 hb
      have hl' : (0 : Int) < bs.length := by omega
      have HD : Bx (doneO bs 0 = 11) := ⟨by simp [doneO, hb]⟩
      rw [HD.out]
      clear hb HD HWR hl
      go_enter Tryd.func54, Tryd.ntmps54
      go_wp2_with (first
        | go_in)
      go_ret
      exact ⟨rfl, rfl⟩
  · have e1 : wrongV bad = .iface 36 (.int .i64 bad) := by rw [wrongV, if_neg h0]
    rw [e1] at c1
    have HD : Bx (doneO bs bad = rWrong bad) := ⟨by simp [doneO, h0]⟩
    go_enter Tryd.func54, Tryd.ntmps54
    go_wp2_with (first
      | (go_at_call 46; refine HWR.out.mono ?_; rintro e w1 ⟨rfl, rfl⟩)
      | go_in)
    go_ret
    exact ⟨by rw [HD.out]; rfl, rfl⟩
/-- The bytes of an object. -/
def putO (k : Int) (bs : List Int) : List Int := [k % 256] ++ be bs.length 4 ++ bs
set_option maxRecDepth 100000 in
set_option maxHeartbeats 1000000 in
theorem put10_any (k : Int) (A : Option Addr) (n cap : Nat) (bs : List Int) (w : World) (hrd : RdB w A n bs) (hnil : A = none → cap = 0) (hbig : n ≤ 8796093022208) :
    Calls Tryd.prog 24 #[.agg (objC k (.slice A n cap))] w fun e w' => ∃ r, e = .returned r ∧ OwB w' w.heap.size r (putO k bs) ∧ Below w.heap.size w w' := by
  obtain ⟨w0, hw0⟩ : ∃ w0, w0 = w.alloc (.cells (objC k (.slice A n cap)) 35) := ⟨_, rfl⟩
  have K0 : Bx (w0.heap[w.heap.size]? = some (.cells (objC k (.slice A n cap)) 35 (0, 0))) := ⟨by rw [hw0]; exact blk_new w _⟩
  have B0 : Bx (Below w.heap.size w w0) := ⟨by rw [hw0]; exact (Below.refl _ _).alloc (Nat.le_refl _) _⟩
  have z0 : w0.cell? ⟨w.heap.size, 0, none⟩ = some (.int .i64 k) := blk_cell K0.out rfl
  have hw8 : IntKind.u8.wrap k = k % 256 := rfl
  have hl := hrd.1
  have HRD := bx hrd; have HN := bx hnil; have HW := bx hw0
  have HP : Bx (putO k bs = [k % 256] ++ be n 4 ++ bs) := ⟨by rw [putO, hl]⟩
  have hk0 : 0 ≤ k % 256 ∧ k % 256 < 256 := by omega
  have KB := bx hk0
  have Z1 : Bx (∀ w', Below w0.heap.size w0 w' → w'.cell? ⟨w.heap.size, 1, none⟩ = some (.slice A n cap)) := ⟨fun w' hb => blk_cell ((hb.block _ (blk_lt K0.out)).trans K0.out) rfl⟩
  clear hw0 hrd hnil hl
  go_enter Tryd.func24, Tryd.ntmps24
  go_upto_region 1 with fail
  rw [← HW.out]
  clear HW
  generalize k % 256 = kb at *
  obtain ⟨w1, hw1⟩ : ∃ w1, w1 = w0.alloc (.cells #[.int .u8 kb] 5) := ⟨_, rfl⟩
  have B1 : Bx (Below w0.heap.size w0 w1) := ⟨by rw [hw1]; exact (Below.refl _ _).alloc (Nat.le_refl _) _⟩
  have D1 : Bx (Below w.heap.size w w1) := ⟨B0.out.trans (B1.out.mono B0.out.size)⟩
  have R1 : Bx (RdB w1 (some ⟨w0.heap.size, 0, none⟩) 1 [kb]) := ⟨by rw [hw1]; exact rdB_one _ _ _ rfl⟩
  have z1 := Z1.out w1 B1.out
  rw [hw1] at z1
  have HW1 := bx hw1.symm
  have hsz := sized_any (some ⟨w0.heap.size, 0, none⟩) 1 1 [kb] A n cap bs w1 R1.out (fun h => by cases h) (HRD.out.below D1.out) HN.out (by omega) hbig
  have HSZ := bx hsz
  clear hw1 hsz
  go_wp2_with fail
  rw [HW1.out]
  refine HSZ.out.mono ?_
  rintro e w2 ⟨r, rfl, ho, hb⟩
  have O2 := bx (ho.base_le D1.out.size); have D2 := bx (D1.out.trans (hb.mono D1.out.size))
  clear ho hb
  go_wp2_with fail
  go_ret
  exact ⟨r, rfl, by rw [HP.out]; exact O2.out, D2.out⟩
set_option maxRecDepth 100000 in
set_option maxHeartbeats 1000000 in
theorem look_blob (A : Option Addr) (n cap : Nat) (w : World) (hn : n ≤ 16384) :
    Calls Tryd.prog 51 #[.agg (objC 1 (.slice A n cap))] w fun e w' => e = .returned (.tuple #[.slice none 0 0, .int .i64 0]) ∧ Below w.heap.size w w' := by
  obtain ⟨w0, hw0⟩ : ∃ w0, w0 = w.alloc (.cells (objC 1 (.slice A n cap)) 35) := ⟨_, rfl⟩
  have K0 : Bx (w0.heap[w.heap.size]? = some (.cells (objC 1 (.slice A n cap)) 35 (0, 0))) := ⟨by rw [hw0]; exact blk_new w _⟩
  have B0 : Bx (Below w.heap.size w w0) := ⟨by rw [hw0]; exact (Below.refl _ _).alloc (Nat.le_refl _) _⟩
  have z0 : w0.cell? ⟨w.heap.size, 0, none⟩ = some (.int .i64 1) := blk_cell K0.out rfl
  have z1 : w0.cell? ⟨w.heap.size, 1, none⟩ = some (.slice A n cap) := blk_cell K0.out rfl
  have hn' : ¬ (16384 : Int) < n := by omega
  have HW := bx hw0
  clear hw0
  go_enter Tryd.func51, Tryd.ntmps51
  go_upto_region 1 with fail
  rw [← HW.out]
  clear HW
  go_wp2_with fail
  refine bodyPost_ret (results_tmp2 rfl _ _ _) rfl ?_
  exact ⟨rfl, B0.out⟩
set_option maxRecDepth 100000 in
theorem check_blob (A : Option Addr) (n cap : Nat) (w : World) (hn : n ≤ 16384) :
    Calls Tryd.prog 27 #[.agg (objC 1 (.slice A n cap))] w fun e w' => e = .returned (.int .i64 0) ∧ Below w.heap.size w w' := by
  obtain ⟨w0, hw0⟩ : ∃ w0, w0 = w.alloc (.cells (objC 1 (.slice A n cap)) 35) := ⟨_, rfl⟩
  have K0 : Bx (w0.heap[w.heap.size]? = some (.cells (objC 1 (.slice A n cap)) 35 (0, 0))) := ⟨by rw [hw0]; exact blk_new w _⟩
  have B0 : Bx (Below w.heap.size w w0) := ⟨by rw [hw0]; exact (Below.refl _ _).alloc (Nat.le_refl _) _⟩
  have HL := bx (look_blob A n cap w0 hn)
  have HW := bx hw0
  clear hw0
  go_enter Tryd.func27, Tryd.ntmps27
  go_upto_region 1 with fail
  rw [← HW.out]
  clear HW
  go_wp2_with (first
    | ((with_reducible refine at_load 6 ?_); go_must (refine load_all 35 (.tmp 1) rfl rfl rfl K0.out Tryd.underlying35 rfl (obj_is _ _ _ _) ?_))
    | (refine HL.out.mono ?_; rintro e w1 ⟨rfl, hb⟩; have D1 := bx (B0.out.trans (hb.mono B0.out.size)); clear hb HL))
  go_ret
  exact ⟨rfl, D1.out⟩
end Go.Proofs.YtoompcgdhokdlaaDoor

set_option linter.unusedSimpArgs false
set_option linter.unusedVariables false
namespace Go.Proofs.YtoompcgdhokdlaaDoor
open Go.RowKit

def rdK (bs : List Int) : Int := num (rOut bs 0 1)
def rdD (bs : List Int) : List Int := sOut (rRest bs 0 1) (rBad bs 0 1)
def rdE (bs : List Int) : Int := doneO (sRest (rRest bs 0 1) (rBad bs 0 1)) (sBad (rRest bs 0 1) (rBad bs 0 1))
theorem rOut_isB1 {bs : List Int} (hB : IsB bs) : 0 ≤ rdK bs ∧ rdK bs < 256 := by
  have := num_lt (rOut bs 0 1) (rOut_isB hB 0 1) 1 (by have := rOut_m bs 0 1; simpa using this)
  simpa [rdK] using this
theorem RdB.upd_ne {w w' : World} {A : Option Addr} {n : Nat} {bs : List Int} (h : RdB w A n bs) {g : Nat} {o : Obj} (hu : Upd w w' g o) (hne : ∀ p, A = some p → p.block ≠ g) : RdB w' A n bs := by
  refine ⟨h.1, fun hn => ?_⟩
  obtain ⟨b, o1, e, hl, hc⟩ := h.2 hn
  refine ⟨b, o1, e, by rw [hu.size]; exact hl, fun j hj => ?_⟩
  rw [← hc j hj]
  unfold World.cell?
  rw [hu.other b (hne _ e)]
/-- What Read tells, by what Check tells of that object. -/
def readO (bs : List Int) (c : Int) : Int × List Int × Int := if rdE bs ≠ 0 ∨ c ≠ 0 then (0, [], 11) else (rdK bs, rdD bs, 0)
set_option maxRecDepth 100000 in
set_option maxHeartbeats 2000000 in
theorem oread_any (A : Option Addr) (n cap : Nat) (bs : List Int) (c : Int) (w : World) (hrd : RdB w A n bs) (hnil : A = none → cap = 0) (hB : IsB bs) (hbig : n ≤ 8796093022208)
    (hck : rdE bs = 0 → ∀ w' A' c', Below w.heap.size w w' → RdB w' A' (rdD bs).length (rdD bs) → (A' = none → c' = 0) → Calls Tryd.prog 27 #[.agg (objC (rdK bs) (.slice A' (rdD bs).length c'))] w' fun e w'' => e = .returned (.int .i64 c) ∧ Below w'.heap.size w' w'') :
    Calls Tryd.prog 25 #[.slice A n cap] w (ObjO w (readO bs c)) := by
  obtain ⟨w0, hw0⟩ : ∃ w0, w0 = w.alloc (.cells (objC 0 (.slice none 0 0)) 35) := ⟨_, rfl⟩
  have K0 : Bx (w0.heap[w.heap.size]? = some (.cells (objC 0 (.slice none 0 0)) 35 (0, 0))) := ⟨by rw [hw0]; exact blk_new w _⟩
  have B0 : Bx (Below w.heap.size w w0) := ⟨by rw [hw0]; exact (Below.refl _ _).alloc (Nat.le_refl _) _⟩
  have SZ : Bx (w0.heap.size = w.heap.size + 1) := ⟨by rw [hw0]; simp⟩
  have LIT : Bx (w.alloc (.cells #[.int .i64 0, .slice none 0 0] 35) = w0) := ⟨hw0.symm⟩
  have hlen := hrd.1
  have HNEW := bx (rnewL_any A n cap bs w0 (hrd.below B0.out) hnil (by omega))
  have HNUM : Bx (∀ R w', RdrL w0.heap.size w' R bs 0 → Calls Tryd.prog 45 #[.pointer (some ⟨R, 0, none⟩), .int .i64 1] w' fun e w'' => e = .returned (.int .u64 (rdK bs)) ∧ RdrL w0.heap.size w'' R (rRest bs 0 1) (rBad bs 0 1) ∧ OnlyR R w' w'') := ⟨fun R w' h => rnum_any w' R bs 0 1 h hB (by decide) (by decide) (by omega)⟩
  have HSZD : Bx (∀ R w', RdrL w0.heap.size w' R (rRest bs 0 1) (rBad bs 0 1) → Calls Tryd.prog 47 #[.pointer (some ⟨R, 0, none⟩)] w' fun e w'' => ∃ v, e = .returned v ∧ OwB w'' w'.heap.size v (rdD bs) ∧ RdrL w0.heap.size w'' R (sRest (rRest bs 0 1) (rBad bs 0 1)) (sBad (rRest bs 0 1) (rBad bs 0 1)) ∧ OnlyR R w' w'') := ⟨fun R w' h => rsz_any w' R _ _ h (rRest_isB hB 0 1) (by have := rRest_le bs 0 1; omega)⟩
  have HDONE : Bx (∀ R w', RdrL w0.heap.size w' R (sRest (rRest bs 0 1) (rBad bs 0 1)) (sBad (rRest bs 0 1) (rBad bs 0 1)) → Calls Tryd.prog 54 #[.pointer (some ⟨R, 0, none⟩)] w' fun e w'' => e = .returned (.int .i64 (rdE bs)) ∧ w' = w'') := ⟨fun R w' h => rdone_any w' R _ _ h⟩
  have hkb := rOut_isB1 hB
  have HCK := bx hck
  have RO : Bx (∀ (r : Int × List Int × Int) A c' w', readO bs c = r → RdB w' A r.2.1.length r.2.1 → (A = none → c' = 0) → r.2.1.length ≤ c' → Below w.heap.size w w' → ObjO w (readO bs c) (.returned (.tuple #[.agg (objC r.1 (.slice A r.2.1.length c')), .int .i64 r.2.2])) w') := ⟨fun r A c' w' hr h1 h2 h3 h4 => by subst hr; exact ⟨A, c', rfl, h1, h2, h3, h4⟩⟩
  have HRO : Bx (readO bs c = if rdE bs ≠ 0 ∨ c ≠ 0 then (0, [], 11) else (rdK bs, rdD bs, 0)) := ⟨rfl⟩
  generalize ObjO w (readO bs c) = OUT at *
  generalize readO bs c = ro at *
  generalize sRest (rRest bs 0 1) (rBad bs 0 1) = r2 at *
  generalize sBad (rRest bs 0 1) (rBad bs 0 1) = b2 at *
  generalize rRest bs 0 1 = r1 at *
  generalize rBad bs 0 1 = b1 at *
  generalize rdK bs = kd at *
  generalize rdD bs = ds at *
  generalize rdE bs = de at *
  have hk8 : IntKind.i64.wrap kd = kd := IntWalk.i64_in _ (by omega)
  clear hw0 hrd hnil hlen hck hB
  go_enter Tryd.func25, Tryd.ntmps25
  go_upto_region 1 with fail
  rw [LIT.out]
  clear LIT
  go_wp2_with fail
  refine HNEW.out.mono ?_
  rintro e w1 ⟨R, rfl, hr, hR, hb⟩
  have R1 := bx hr; have LR := bx hR; have D1 := bx hb
  clear hr hR hb HNEW
  go_wp2_with fail
  refine (HNUM.out R w1 R1.out).mono ?_
  rintro e w2 ⟨rfl, hr, ho⟩
  have R2 := bx hr
  have D2 := bx (D1.out.trans (ho.below D1.out.size LR.out))
  clear hr ho R1 HNUM
  go_wp2_with fail
  refine (HSZD.out R w2 R2.out).mono ?_
  rintro e w3 ⟨v3, rfl, hv, hr, ho⟩
  have O3 := bx (hv.base_le D2.out.size); have R3 := bx hr
  have D3 := bx (D2.out.trans (ho.below D2.out.size LR.out))
  clear hv hr ho R2 HSZD
  obtain ⟨m, hm⟩ : ∃ m, ds.length = m := ⟨_, rfl⟩
  obtain ⟨A3, c3, rfl, hr3, hc3, hn3⟩ := O3.out.rdn hm
  have HM := bx hm
  rw [hm] at HCK
  have RD3 := bx hr3; have C3 := bx hc3; have N3 := bx hn3
  have AN : Bx (∀ p, A3 = some p → p.block ≠ w.heap.size) := ⟨fun p hp => by
    have h9 := (World.ownsRow.lt O3.out p.block (by rw [hp]; rfl)).1
    have := SZ.out
    omega⟩
  clear hm hr3 hc3 hn3
  go_upto_region 3 with (first
    | ((with_reducible refine at_build 13 ?_); go_must (refine wpList_build2 rfl 35 [(0, .tmp 10), (1, .tmp 12)] rfl _ rfl (objC kd (.slice A3 m c3)) (obj_built kd A3 m c3) ?_))
    | ((with_reducible refine at_store (.tmp 5) (.tmp 13) ?_); go_must (refine store_all (cs := objC kd (.slice A3 m c3)) 35 (.tmp 5) (.tmp 13) rfl rfl rfl rfl (blk_new w3 _) (obj_is _ _ _ _) rfl (obj_one _ _ _ _) ?_; intro w4 hu4; have K4 := bx hu4.same; have E4 := bx (((Below.refl w3.heap.size w3).alloc (Nat.le_refl _) _).trans (hu4.below (Nat.le_refl _))); clear hu4)))
  have R4 := bx (R3.out.kept E4.out)
  have D4 := bx (D3.out.trans (E4.out.mono D3.out.size))
  have RD4 := bx (RD3.out.below E4.out)
  have W4 := bx (B0.out.trans (D4.out.mono B0.out.size))
  have F4 := bx ((D4.out.block _ (blk_lt K0.out)).trans K0.out)
  clear E4 R3 RD3 D3 D2 D1 O3
  by_cases hde : de = 0
  · subst hde
    go_wp2_with (first
      | (go_at_call 54; refine (HDONE.out R w4 R4.out).mono ?_; rintro e w5 ⟨rfl, rfl⟩)
      | ((with_reducible refine at_load 18 ?_); go_must (refine load_all 35 (.tmp 5) rfl rfl rfl K4.out Tryd.underlying35 rfl (obj_is _ _ _ _) ?_)))
    refine (HCK.out (by trivial) w4 A3 c3 W4.out RD4.out N3.out).mono ?_
    rintro e w5 ⟨rfl, hb⟩
    have W5 := bx (W4.out.trans (hb.mono W4.out.size))
    have F5 := bx ((hb.block _ (blk_lt F4.out)).trans F4.out)
    have K5 := bx ((hb.block _ (blk_lt K4.out)).trans K4.out)
    have RD5 := bx (RD4.out.below hb)
    clear hb HCK HDONE R4
    by_cases hc : c = 0
    · subst hc
      have HT : Bx (ro = (kd, ds, 0)) := ⟨by rw [HRO.out, if_neg (by simp)]⟩
      have LTF : Bx (w.heap.size < w5.heap.size) := ⟨blk_lt F5.out⟩
      go_wp2_with (first
        | ((with_reducible refine at_load 23 ?_); go_must (refine load_all 35 (.tmp 5) rfl rfl rfl K5.out Tryd.underlying35 rfl (obj_is _ _ _ _) ?_))
        | ((with_reducible refine at_store (.tmp 2) (.tmp 23) ?_); go_must (refine store_all (cs := objC kd (.slice A3 m c3)) 35 (.tmp 2) (.tmp 23) rfl rfl rfl rfl F5.out (obj_is _ _ _ _) rfl (obj_one _ _ _ _) ?_; intro w9 hu9; have B9 := bx (W5.out.trans (hu9.below (Nat.le_refl _))); have R9 := bx hu9.same; have RD9 := bx (RD5.out.upd_ne hu9 (AN.out)); clear hu9)))
      refine bodyPost_ret (results_ct (cs := objC kd (.slice A3 m c3)) rfl _ _ w.heap.size 35 _ _ rfl rfl R9.out Tryd.underlying35 rfl (obj_is _ _ _ _)) rfl ?_
      have := RO.out (kd, ds, 0) A3 c3 w9 HT.out
      dsimp only at this
      rw [HM.out] at this
      exact this RD9.out N3.out C3.out B9.out
    · have hc0 : (c == 0) = false := by simp [hc]
      have hc1 : (c != 0) = true := by simp [hc]
      have HT : Bx (ro = (0, [], 11)) := ⟨by rw [HRO.out, if_pos (.inr hc)]⟩
      clear hc
      go_wp2_with (first
        | ((with_reducible refine at_build 22 ?_); go_must (refine wpList_build2 rfl 35 [] rfl [] rfl (objC 0 (.slice none 0 0)) obj_built0 ?_))
        | ((with_reducible refine at_store (.tmp 2) (.tmp 22) ?_); go_must (refine store_all (cs := objC 0 (.slice none 0 0)) 35 (.tmp 2) (.tmp 22) rfl rfl rfl rfl F5.out (obj_is _ _ _ _) rfl (obj_one _ _ _ _) ?_; intro w9 hu9; have B9 := bx (W5.out.trans (hu9.below (Nat.le_refl _))); have R9 := bx hu9.same; clear hu9)))
      refine bodyPost_ret (results_ct (cs := objC 0 (.slice none 0 0)) rfl _ _ w.heap.size 35 _ _ rfl rfl R9.out Tryd.underlying35 rfl (obj_is _ _ _ _)) rfl ?_
      exact RO.out (0, [], 11) none 0 _ HT.out ⟨rfl, fun h => absurd h (by decide)⟩ (fun _ => rfl) (Nat.le_refl _) B9.out
  · have hd0 : (de == 0) = false := by simp [hde]
    have hd1 : (de != 0) = true := by simp [hde]
    have HT : Bx (ro = (0, [], 11)) := ⟨by rw [HRO.out, if_pos (.inl hde)]⟩
    clear hde HCK
    go_wp2_with (first
      | (go_at_call 54; refine (HDONE.out R w4 R4.out).mono ?_; rintro e w5 ⟨rfl, rfl⟩)
      | ((with_reducible refine at_build 22 ?_); go_must (refine wpList_build2 rfl 35 [] rfl [] rfl (objC 0 (.slice none 0 0)) obj_built0 ?_))
      | ((with_reducible refine at_store (.tmp 2) (.tmp 22) ?_); go_must (refine store_all (cs := objC 0 (.slice none 0 0)) 35 (.tmp 2) (.tmp 22) rfl rfl rfl rfl F4.out (obj_is _ _ _ _) rfl (obj_one _ _ _ _) ?_; intro w9 hu9; have B9 := bx (W4.out.trans (hu9.below (Nat.le_refl _))); have R9 := bx hu9.same; clear hu9)))
    refine bodyPost_ret (results_ct (cs := objC 0 (.slice none 0 0)) rfl _ _ w.heap.size 35 _ _ rfl rfl R9.out Tryd.underlying35 rfl (obj_is _ _ _ _)) rfl ?_
    exact RO.out (0, [], 11) none 0 _ HT.out ⟨rfl, fun h => absurd h (by decide)⟩ (fun _ => rfl) (Nat.le_refl _) B9.out
/-- The bytes of a blob of "ab". -/
theorem rd_ab : rdK [1, 0, 0, 0, 2, 97, 98] = 1 ∧ rdD [1, 0, 0, 0, 2, 97, 98] = [97, 98] ∧ rdE [1, 0, 0, 0, 2, 97, 98] = 0 := by decide
theorem put_ab : putO 1 [97, 98] = [1, 0, 0, 0, 2, 97, 98] := by decide
theorem str_ab7 : strOfNums [1, 0, 0, 0, 2, 97, 98] = ⟨#[1, 0, 0, 0, 2, 97, 98]⟩ := by decide
theorem str_ab2 : strOfNums [97, 98] = ⟨#[97, 98]⟩ := by decide
theorem isB_ab : IsB [1, 0, 0, 0, 2, 97, 98] := by
  refine isB_cons (by decide) (isB_cons (by decide) (isB_cons (by decide) (isB_cons (by decide) (isB_cons (by decide) (isB_cons (by decide) (isB_cons (by decide) isB_nil))))))
set_option maxRecDepth 100000 in
set_option maxHeartbeats 1000000 in
theorem one10_any (w : World) : Calls Tryd.prog 17 #[] w fun e w' => e = .returned (.bool true) ∧ Below w.heap.size w w' := by
  have HREAD : Bx (∀ w' A cap, RdB w' A 7 [1, 0, 0, 0, 2, 97, 98] → (A = none → cap = 0) → Calls Tryd.prog 25 #[.slice A 7 cap] w' (ObjO w' (1, [97, 98], 0))) := ⟨fun w' A cap hrd hnil => by
    have h9 := oread_any A 7 cap _ 0 w' hrd hnil isB_ab (by decide) (fun _ w2 A' c' _ h1 h2 => by
      rw [rd_ab.1]
      rw [rd_ab.2.1] at h1 ⊢
      exact check_blob A' 2 c' w2 (by decide))
    rw [show readO [1, 0, 0, 0, 2, 97, 98] 0 = (1, [97, 98], 0) by rw [readO, rd_ab.1, rd_ab.2.1, rd_ab.2.2, if_neg (by simp)]] at h9
    exact h9⟩
  have HPUT : Bx (∀ w' A cap, RdB w' A 2 [97, 98] → (A = none → cap = 0) → Calls Tryd.prog 24 #[.agg (objC 1 (.slice A 2 cap))] w' fun e w'' => ∃ r, e = .returned r ∧ OwB w'' w'.heap.size r [1, 0, 0, 0, 2, 97, 98] ∧ Below w'.heap.size w' w'') := ⟨fun w' A cap hrd hnil => by
    have h9 := put10_any 1 A 2 cap _ w' hrd hnil (by decide)
    rw [put_ab] at h9
    exact h9⟩
  obtain ⟨w0, hw0⟩ : ∃ w0, w0 = w.alloc (.cells (ints .u8 [97, 98]) 5 (2, 3)) := ⟨_, rfl⟩
  have B0 : Bx (Below w.heap.size w w0) := ⟨by rw [hw0]; exact (Below.refl _ _).alloc (Nat.le_refl _) _⟩
  have R0 : Bx (RdB w0 (some ⟨w.heap.size, 0, none⟩) 2 [97, 98]) := ⟨by rw [hw0]; exact rdB_mark w _ [97, 98] (2, 3)⟩
  have LIT : Bx (w.alloc (.cells #[.int .u8 97, .int .u8 98] 5 (2, 3)) = w0) := ⟨hw0.symm⟩
  have cvI := Lib.run_convert_bytes_const (P := Tryd.prog) w 33 5 #[.int .u8 97, .int .u8 98] 2 2 Tryd.underlying33 Tryd.underlying5
  simp only [List.size_toArray, List.length_cons, List.length_nil, Nat.zero_add, Nat.reduceAdd] at cvI
  clear hw0
  go_enter Tryd.func17, Tryd.ntmps17
  go_wp2_with (first
    | ((with_reducible refine at_build 6 ?_); go_must (refine wpList_build2 rfl 35 [(0, .const (.int .i64 1)), (1, .tmp 5)] rfl _ rfl (objC 1 (.slice (some ⟨w.heap.size, 0, none⟩) 2 2)) (obj_built 1 _ 2 2) ?_)))
  rw [LIT.out]
  refine (HPUT.out w0 _ 2 R0.out (fun h => by cases h)).mono ?_
  rintro e w1 ⟨v1, rfl, ho, hb⟩
  obtain ⟨A1, c1, rfl, hr1, hc1, hn1⟩ := ho.rdn (n := 7) rfl
  have R1 := bx hr1; have N1 := bx hn1
  have D1 := bx (B0.out.trans (hb.mono B0.out.size))
  clear ho hb hr1 hc1 hn1 HPUT LIT cvI
  go_wp2_with fail
  refine (HREAD.out w1 A1 c1 R1.out N1.out).mono ?_
  rintro e w2 ⟨A2, c2, rfl, hr2, hn2, hc2, hb⟩
  dsimp only [List.length_cons, List.length_nil, Nat.zero_add] at *
  have R2 := bx hr2; have HB2 := bx hb
  have D2 := bx (D1.out.trans (hb.mono D1.out.size))
  have R12 := bx (R1.out.below hb)
  clear hr2 hn2 hc2 hb HREAD
  go_upto_region 3 with (first
    | ((with_reducible refine at_store (.tmp 2) (.tmp 11) ?_); go_must (refine store_all (cs := objC 1 (.slice A2 2 c2)) 35 (.tmp 2) (.tmp 11) rfl rfl rfl rfl (blk_new w2 _) (obj_is _ _ _ _) rfl (obj_one _ _ _ _) ?_; intro w4 hu4; have K4 := bx hu4.same; have E4 := bx (((Below.refl w2.heap.size w2).alloc (Nat.le_refl _) _).trans (hu4.below (Nat.le_refl _))); clear hu4)))
  have z0 : w4.cell? ⟨w2.heap.size, 0, none⟩ = some (.int .i64 1) := blk_cell K4.out rfl
  have z1 : w4.cell? ⟨w2.heap.size, 1, none⟩ = some (.slice A2 2 c2) := blk_cell K4.out rfl
  have cv1 : (convert 33 9 (.slice A1 7 c1)).run Tryd.prog w4 = .ok (.string (strOfNums [1, 0, 0, 0, 2, 97, 98])) w4 := str_of (R12.out.below E4.out) c1
  have cv2 : (convert 33 9 (.slice A2 2 c2)).run Tryd.prog w4 = .ok (.string (strOfNums [97, 98])) w4 := str_of (R2.out.below E4.out) c2
  rw [str_ab7] at cv1
  rw [str_ab2] at cv2
  go_wp2_with fail
  go_ret
  exact ⟨rfl, D2.out.trans (E4.out.mono D2.out.size)⟩
end Go.Proofs.YtoompcgdhokdlaaDoor

set_option linter.unusedSimpArgs false
set_option linter.unusedVariables false
namespace Go.Proofs.YtoompcgdhokdlaaDoor
open Go.RowKit

theorem quietAt_eq {P : Program} {o : Oper} {a : Act} {C : World → Prop} {w : World} (t t2 : TypeId) (x y : Operand) (xs ys : Array Value) (ho : o.op = .binOp .eql t x y t2) (hx : a.eval x = .agg xs) (hy : a.eval y = .agg ys) (hm : P.eqGuardType P.depth t = false) {v : Value} (h : (binOp .eql t (.agg xs) (.agg ys)).run P w = .ok v w) : o.quietAt P a C w v := by
  unfold Oper.quietAt execOp
  simp only [ho, hx, hy, Sem.run_bind, Sem.run_pure, run_eqGuard_agg w .eql t x y xs ys hm, h, Result.andThen_ok]
  exact ⟨rfl, rfl⟩
theorem robj_guard : Tryd.prog.eqGuardType Tryd.prog.depth 40 = false := by kernel_rfl
def sumN (L : Nat → Ent) (j : Nat) : Nat := ((List.range j).map fun i => (L i).name.size).sum
theorem sumN_succ (L : Nat → Ent) (j : Nat) : sumN L (j + 1) = sumN L j + (L j).name.size := by simp [sumN, List.range_succ]
theorem sumN_le (L : Nat → Ent) : ∀ {n j : Nat}, j < n → (L j).name.size ≤ sumN L n
  | n + 1, j, h => by
    rw [sumN_succ]
    by_cases hj : j < n
    · have := sumN_le L hj; omega
    · obtain rfl : j = n := by omega
      omega
theorem chg_is (c : ChgA) (h : c.tree.length = 32) : (Tryd.prog.info? 28).map (·.size) = some c.cells.toArray.size := by
  have e : c.cells.toArray.size = 36 := by simp [ChgA.cells, u8s, h]
  have h9 : (Tryd.prog.info? 28).map (·.size) = some 36 := by kernel_rfl
  rw [h9, e]
theorem mark_is (id : List Int) (name text : ByteArray) (h : id.length = 32) : (Tryd.prog.info? 30).map (·.size) = some (markCells id name text).toArray.size := by
  have e : (markCells id name text).toArray.size = 34 := by simp [markCells, u8s, h]
  have h9 : (Tryd.prog.info? 30).map (·.size) = some 34 := by kernel_rfl
  rw [h9, e]
theorem robj_eq (k : Int) (s : ByteArray) (w : World) : (binOp .eql 40 (.agg (robjC k s)) (.agg (robjC k s))).run Tryd.prog w = .ok (.bool true) w := by
  have h : (Op.equalIn 10000 40 (.agg (robjC k s)) (.agg (robjC k s))).run Tryd.prog w = .ok ((k == k) && ((s.toList == s.toList) && true)) w := by
    rw [eqIn_struct Tryd.underlying40 (by kernel_rfl) 9999]
    refine eqf_step (by decide) (part_int Tryd.underlying3 rfl w) (part_int Tryd.underlying3 rfl w) (run_equalIn_int w 9998 _ _ _ k k Tryd.underlying3) ?_
    exact eqf_step (by decide) (part_str Tryd.underlying9 rfl w) (part_str Tryd.underlying9 rfl w) (run_equalIn_string w 9998 _ s s Tryd.underlying9) eqf_nil
  rw [run_eql_struct, h]
  simp
/-- An object that is told, and can be read. -/
def ObjP (w : World) (r : Int × List Int × Int) (e : Ending) (w' : World) : Prop := ∃ A c, e = .returned (.tuple #[.agg (objC r.1 (.slice A r.2.1.length c)), .int .i64 r.2.2]) ∧ RdB w' A r.2.1.length r.2.1 ∧ Below w.heap.size w w'
theorem ObjO.p {w w' : World} {r : Int × List Int × Int} {e : Ending} (h : ObjO w r e w') : ObjP w r e w' := by
  obtain ⟨A, c, h1, h2, _, _, h5⟩ := h
  exact ⟨A, c, h1, h2, h5⟩
def MakesO (w : World) (e : Ending) (w' : World) : Prop := e = .returned (.bool true) ∧ Below w.heap.size w w'
end Go.Proofs.YtoompcgdhokdlaaDoor

set_option linter.unusedSimpArgs false
set_option linter.unusedVariables false
namespace Go.Proofs.YtoompcgdhokdlaaDoor
open Go.RowKit

set_option maxRecDepth 100000 in
set_option maxHeartbeats 1000000 in
theorem same10_any (k1 k2 : Int) (A1 A2 : Option Addr) (n1 c1 n2 c2 : Nat) (d1 d2 : List Int) (w : World) (h1 : RdB w A1 n1 d1) (h2 : RdB w A2 n2 d2) (hB1 : IsB d1) (hB2 : IsB d2) :
    Calls Tryd.prog 26 #[.agg (objC k1 (.slice A1 n1 c1)), .agg (objC k2 (.slice A2 n2 c2))] w fun e w' => e = .returned (.bool (decide (k1 = k2 ∧ d1 = d2))) ∧ Below w.heap.size w w' := by
  obtain ⟨w0, hw0⟩ : ∃ w0, w0 = (w.alloc (.cells (objC k1 (.slice A1 n1 c1)) 35)).alloc (.cells (objC k2 (.slice A2 n2 c2)) 35) := ⟨_, rfl⟩
  have K0 : Bx (w0.heap[w.heap.size]? = some (.cells (objC k1 (.slice A1 n1 c1)) 35 (0, 0))) := ⟨by rw [hw0]; exact heap_alloc2_old w _ _⟩
  have K1 : Bx (w0.heap[w.heap.size + 1]? = some (.cells (objC k2 (.slice A2 n2 c2)) 35 (0, 0))) := ⟨by rw [hw0]; exact heap_alloc2_new w _ _⟩
  have B0 : Bx (Below w.heap.size w w0) := ⟨by rw [hw0]; exact ((Below.refl _ _).alloc (Nat.le_refl _) _).alloc (by simp) _⟩
  have z0 : w0.cell? ⟨w.heap.size, 0, none⟩ = some (.int .i64 k1) := blk_cell K0.out rfl
  have z1 : w0.cell? ⟨w.heap.size, 1, none⟩ = some (.slice A1 n1 c1) := blk_cell K0.out rfl
  have z2 : w0.cell? ⟨w.heap.size + 1, 0, none⟩ = some (.int .i64 k2) := blk_cell K1.out rfl
  have z3 : w0.cell? ⟨w.heap.size + 1, 1, none⟩ = some (.slice A2 n2 c2) := blk_cell K1.out rfl
  have HE := bx (equal_any A1 n1 c1 d1 A2 n2 c2 d2 w0 (h1.below B0.out) (h2.below B0.out) hB1 hB2)
  have HW := bx hw0
  clear hw0 h1 h2 hB1 hB2
  by_cases hk : k1 = k2
  · subst hk
    have HD : Bx (decide (k1 = k1 ∧ d1 = d2) = decide (d1 = d2)) := ⟨by simp⟩
    rw [HD.out]
    generalize decide (d1 = d2) = q at *
    go_enter Tryd.func26, Tryd.ntmps26
    go_upto_region 1 with fail
    rw [← HW.out]
    clear HW
    go_wp2_with (first
      | (go_at_call 55; refine HE.out.mono ?_; rintro e w1 ⟨rfl, rfl⟩))
    go_ret
    exact ⟨rfl, B0.out⟩
  · have HD : Bx (decide (k1 = k2 ∧ d1 = d2) = false) := ⟨by simp [hk]⟩
    have hkb : (k1 == k2) = false := by simp [hk]
    rw [HD.out]
    go_enter Tryd.func26, Tryd.ntmps26
    go_upto_region 1 with fail
    rw [← HW.out]
    clear HW hk HE
    go_wp2_with fail
    go_ret
    exact ⟨rfl, B0.out⟩
/-- What fresh tells: what Done tells, what is made again, the object. -/
def freshO (de : Int) (r : Int × List Int × Int) (k : Int) (ds : List Int) : Int := if de ≠ 0 then 11 else if r.2.2 ≠ 0 then 11 else if r.1 = k ∧ r.2.1 = ds then 0 else 11
end Go.Proofs.YtoompcgdhokdlaaDoor

set_option linter.unusedSimpArgs false
set_option linter.unusedVariables false
namespace Go.Proofs.YtoompcgdhokdlaaDoor
open Go.RowKit

def zero32 : List Int := List.replicate 32 0
theorem RdrL.upd' {lo : Nat} {w w' : World} {R g : Nat} {o : Obj} {bs : List Int} {bad : Int} (h : RdrL lo w R bs bad) (hu : Upd w w' g o) (hR : R < g ∨ g < lo) (hlo : lo ≤ R) : RdrL lo w' R bs bad := by
  obtain ⟨A, c, h1, h2, h3, h4, h5⟩ := h
  refine ⟨A, c, hu.blk h1 (by omega), ⟨h2.1, fun hn => ?_⟩, h3, h4, h5⟩
  obtain ⟨b, o', rfl, hb, hc⟩ := h2.2 hn
  have hlt : lo ≤ b ∧ b < R := h5 _ rfl
  refine ⟨b, o', rfl, by rw [hu.size]; exact hb, fun j hj => ?_⟩
  rw [← hc j hj]
  exact World.cell?_of_block (a := ⟨b, o' + j, none⟩) (hu.other b (by omega))
theorem u8InfoM : (Tryd.prog.info? 5).map (·.size) = some 1 := by kernel_rfl
/-- copy of bytes, whatever they are: one block is written. -/
theorem wpList_copyM {w : World} {ops : Array Oper} {rest : List Oper} {o : Oper} {a : Act} {Q : Exit → Act → World → Prop} (hgd : o.guard = none) (d s : Operand)
    (ho : o.op = .call { callee := .builtin .copy, args := #[d, s], argTypes := #[33, 33] })
    (g off dLen dCap : Nat) (hd : a.eval d = .slice (some ⟨g, off, none⟩) dLen dCap) (A : Option Addr) (n cap : Nat) (bs : List Int) (hs : a.eval s = .slice A n cap) (hrd : RdB w A n bs)
    (cur : Array Value) (t : TypeId) (hg : w.heap[g]? = some (.cells cur t (0, 0))) (hn : n ≤ dLen) (hfit : off + n ≤ cur.size)
    (h : ∀ w', Upd w w' g (.cells (putRow cur off (bs.map (Value.int .u8))) t (0, 0)) → wpList Tryd.prog ops Q rest (a.put o.dst (goInt n)) w') : wpList Tryd.prog ops Q (o :: rest) a w := by
  have hl := hrd.1
  by_cases h0 : n = 0
  · subst h0
    obtain rfl : bs = [] := List.eq_nil_of_length_eq_zero hl
    have hr := run_copy_none (P := Tryd.prog) w 33 33 o.type 5 (some ⟨g, off, none⟩) A dLen dCap 0 cap Tryd.underlying33 u8InfoM (by show min 0 dLen = 0; omega)
    exact Lib.wpList_copy_run w hgd d s _ _ ho _ _ hd hs hr (h _ ⟨rfl, rfl, rfl, rfl, hg, fun _ _ => rfl⟩)
  · obtain ⟨b, o', rfl, hb, hc⟩ := hrd.2 (by omega)
    have hsrc : ∀ j v, (bs.map (Value.int .u8))[j]? = some v → w.cell? ((⟨b, o', none⟩ : Addr).add j) = some v := by
      intro j v hv
      obtain ⟨hj, e⟩ := List.getElem?_eq_some_iff.1 hv
      have hj' : j < bs.length := by simpa using hj
      rw [addr_add, hc j (by omega), ← e]
      simp [List.getD_eq_getElem?_getD, List.getElem?_eq_getElem hj']
    have := wpList_copy_upd (P := Tryd.prog) (ops := ops) (rest := rest) (a := a) (Q := Q) hgd d s _ _ ho 5 Tryd.underlying33 u8InfoM g off ⟨b, o', none⟩ dLen dCap n cap hd hs cur t hg (bs.map (Value.int .u8)) (by rw [List.length_map, hl]; show n = min n dLen; omega) hsrc (by rw [List.length_map, hl]; exact hfit) (oneCell_map_int _ _)
    refine this fun w' hu => ?_
    rw [List.length_map, hl]
    exact h w' hu
/-- The array that is read. -/
def idR (bs : List Int) (bad : Int) : List Int := rOut bs bad 32 ++ zero32.drop (rOut bs bad 32).length
theorem idR_length (bs : List Int) (bad : Int) : (idR bs bad).length = 32 := by
  have : (rOut bs bad 32).length ≤ 32 := rOut_m bs bad 32
  rw [idR, List.length_append, List.length_drop]
  show _ + (32 - _) = 32
  omega
theorem zero32_isB : IsB zero32 := isB_zeros 32
theorem idR_isB {bs : List Int} (h : IsB bs) (bad : Int) : IsB (idR bs bad) := isB_append (rOut_isB h bad 32) (isB_drop zero32_isB _)
theorem rOut32 (bs : List Int) (bad : Int) : rOut bs bad 32 = [] ∨ (rOut bs bad 32).length = 32 := by
  unfold rOut
  split
  · exact .inl rfl
  · split
    · exact .inl rfl
    · refine .inr ?_
      rw [List.length_take]
      show min 32 bs.length = 32
      omega
theorem put_idR (bs : List Int) (bad : Int) : putRow (ints .u8 zero32) 0 ((rOut bs bad 32).map (Value.int .u8)) = ints .u8 (idR bs bad) := by
  unfold idR
  rcases rOut32 bs bad with h | h
  · rw [h]; rfl
  · generalize rOut bs bad 32 = l at *
    rw [putRow_all _ _ (by rw [List.length_map, h]; rfl), h]
    show _ = ints .u8 (l ++ [])
    rw [List.append_nil]
    rfl
set_option maxRecDepth 100000 in
set_option maxHeartbeats 800000 in
theorem id10_any (w : World) (R : Nat) (bs : List Int) (bad : Int) {lo : Nat} (hlo : lo ≤ R) (h : RdrL lo w R bs bad) (hbig : bs.length ≤ 35184372088832) :
    Calls Tryd.prog 44 #[.pointer (some ⟨R, 0, none⟩)] w fun e w' => e = .returned (.agg (ints .u8 (idR bs bad))) ∧ RdrL lo w' R (rRest bs bad 32) (rBad bs bad 32) ∧ OnlyR R w w' := by
  have H := bx h; have RL := bx h.lt; have HM : Bx ((rOut bs bad 32).length ≤ 32) := ⟨rOut_m bs bad 32⟩; have NL := bx (idR_length bs bad)
  obtain ⟨w0, hw0⟩ : ∃ w0, w0 = (w.alloc (.cells (ints .u8 zero32) 24)).alloc (.cells (ints .u8 zero32) 24) := ⟨_, rfl⟩
  have K0 : Bx (w0.heap[w.heap.size]? = some (.cells (ints .u8 zero32) 24 (0, 0))) := ⟨by rw [hw0]; exact heap_alloc2_old w _ _⟩
  have K1 : Bx (w0.heap[w.heap.size + 1]? = some (.cells (ints .u8 zero32) 24 (0, 0))) := ⟨by rw [hw0]; exact heap_alloc2_new w _ _⟩
  have O0 : Bx (OnlyR R w w0) := ⟨by rw [hw0]; exact ((Only.refl _ _).alloc _).alloc _⟩
  have R0 : Bx (RdrL lo w0.drew R bs bad) := ⟨by rw [hw0]; exact h.kept ((((Below.refl _ _).alloc (Nat.le_refl _) _).alloc (by simp) _).drew)⟩
  have sl := fun w' => arr_slice_all (P := Tryd.prog) (t := 24) Tryd.underlying24 Tryd.sizeOf5 (w.heap.size + 1) 0 w'
  have HW := bx hw0
  clear h hw0
  go_enter Tryd.func44, Tryd.ntmps44
  go_upto_region 2 with fail
  have E : (w.alloc (.cells #[.int .u8 0, .int .u8 0, .int .u8 0, .int .u8 0, .int .u8 0, .int .u8 0, .int .u8 0, .int .u8 0, .int .u8 0, .int .u8 0, .int .u8 0, .int .u8 0, .int .u8 0, .int .u8 0, .int .u8 0, .int .u8 0, .int .u8 0, .int .u8 0, .int .u8 0, .int .u8 0, .int .u8 0, .int .u8 0, .int .u8 0, .int .u8 0, .int .u8 0, .int .u8 0, .int .u8 0, .int .u8 0, .int .u8 0, .int .u8 0, .int .u8 0, .int .u8 0] 24)).alloc (.cells #[.int .u8 0, .int .u8 0, .int .u8 0, .int .u8 0, .int .u8 0, .int .u8 0, .int .u8 0, .int .u8 0, .int .u8 0, .int .u8 0, .int .u8 0, .int .u8 0, .int .u8 0, .int .u8 0, .int .u8 0, .int .u8 0, .int .u8 0, .int .u8 0, .int .u8 0, .int .u8 0, .int .u8 0, .int .u8 0, .int .u8 0, .int .u8 0, .int .u8 0, .int .u8 0, .int .u8 0, .int .u8 0, .int .u8 0, .int .u8 0, .int .u8 0, .int .u8 0] 24) = w0 := HW.out.symm
  rw [E]
  clear E HW
  have hS0 : Only (fun k => k = R ∨ k = w.heap.size + 1) w0 w0.drew := (Only.refl _ _).drew
  refine wp_region_held_drew (S := (fun w' => Only (fun k => k = R ∨ k = w.heap.size + 1) w0 w')) (by kernel_rfl) hS0 (fun hS => ?_)
  refine takeH (i := 0) (d := 4) (v := ?_) rfl rfl (by kernel_rfl) (by kernel_rfl) (by kernel_rfl) (fun _ _ _ h => h) (Or.inl ⟨by kernel_rfl, ?_⟩) hS ?_; rotate_left 1; (focus ((intro w' hS'; clear hS'; go_simp; try with_reducible rfl); done))
  try simp only [List.setIfInBounds_toArray, List.set_cons_zero, List.set_cons_succ]
  refine takeH (i := 1) (d := 5) (v := ?_) rfl rfl (by kernel_rfl) (by kernel_rfl) (by kernel_rfl) (fun _ _ _ h => h) (Or.inl ⟨by kernel_rfl, ?_⟩) hS ?_; rotate_left 1; (focus ((intro w' hS'; clear hS'; go_simp; try with_reducible rfl); done))
  try simp only [List.setIfInBounds_toArray, List.set_cons_zero, List.set_cons_succ]
  refine wpAnyH_ready (rs := [2]) (by kernel_rfl) (by simp) ?_
  refine AllReadyH.cons rfl (fun K hK => ?_) AllReadyH.nil
  go_simp
  refine (raw_any _ R bs bad 32 R0.out (by omega)).mono ?_
  rintro x w6 ⟨v, rfl, hv, hr, ho⟩
  obtain ⟨n6, hn6⟩ : ∃ n6, (rOut bs bad 32).length = n6 := ⟨_, rfl⟩
  obtain ⟨A6, c6, rfl, hr6, _, _⟩ := hv.rdn hn6
  have R6 := bx hr6; have H6 := bx hr; have O6 := bx ho; have N6 : Bx (n6 ≤ 32) := ⟨by have := HM.out; omega⟩; have P6 := bx ((ho.block _ (blk_lt K1.out) (by have := RL.out; omega)).trans K1.out)
  clear hv ho hr6 hr
  refine hK.out _ _ ?_ (fun hS2 => ?_)
  · exact hS.trans (O6.out.mono (fun k hk => .inl hk))
  clear hK K hS; have hS := hS2; clear hS2
  try simp only [Act.put, List.setIfInBounds_toArray, List.set_cons_zero, List.set_cons_succ]
  refine wpAnyH_ready (rs := [3]) (by kernel_rfl) (by simp) ?_
  refine readyH_list rfl (fun K hK => ?_) AllReadyH.nil
  refine wpList_copyM rfl (.tmp 4) (.tmp 6) rfl (w.heap.size + 1) 0 32 32 rfl A6 n6 c6 (rOut bs bad 32) rfl R6.out (ints .u8 zero32) 24 P6.out N6.out (by rw [Nat.zero_add]; exact N6.out) ?_
  intro w7 hu7
  rw [put_idR] at hu7
  show wpList _ _ K [] (Act.put _ (some 7) _) w7
  refine hK.out _ _ ?_ (fun hS2 => ?_)
  · exact hS.upd hu7 (.inr rfl)
  clear hK K hS; have hS := hS2; clear hS2
  try simp only [Act.put, List.setIfInBounds_toArray, List.set_cons_zero, List.set_cons_succ]
  refine wpAnyH_done (by kernel_rfl) ?_ _
  have K7 := bx ((hS.block _ (blk_lt K0.out) (by have := RL.out; omega)).trans K0.out)
  have O7 : Bx (OnlyR R w w7) := ⟨by
    have h9 : Only (fun k => k = R) w w6 := Only.trans (Only.trans O0.out (Only.refl _ _).drew) O6.out
    exact h9.updNew hu7 (by omega)⟩
  have P7 := bx hu7.same
  have R7 : Bx (RdrL lo w7 R (rRest bs bad 32) (rBad bs bad 32)) := ⟨H6.out.upd' hu7 (.inl (by have := RL.out; omega)) hlo⟩
  have IS : Bx ((Tryd.prog.info? 24).map (·.size) = some (ints .u8 (idR bs bad)).size) := ⟨by rw [ints_size, NL.out]; kernel_rfl⟩
  clear hu7 hS hS0
  go_wp2_with (first
    | ((with_reducible refine at_load 8 ?_); go_must (refine load_all 24 (.tmp 3) rfl rfl rfl P7.out Tryd.underlying24 rfl IS.out ?_))
    | ((with_reducible refine at_store (.tmp 2) (.tmp 8) ?_); go_must (refine store_all (cs := ints .u8 (idR bs bad)) 24 (.tmp 2) (.tmp 8) rfl rfl rfl rfl K7.out IS.out (by rw [ints_size, NL.out]; rfl) (ints_oneCell _ _) ?_; intro w9 hu9)))
  refine bodyPost_ret (v := .agg (ints .u8 (idR bs bad))) (results_agg (cs := ints .u8 (idR bs bad)) rfl _ _ w.heap.size 24 _ rfl hu9.same Tryd.underlying24 rfl IS.out) rfl ⟨rfl, ?_, ?_⟩
  · exact R7.out.upd' hu9 (.inl RL.out) hlo
  · exact O7.out.updNew hu9 (Nat.le_refl _)
end Go.Proofs.YtoompcgdhokdlaaDoor

set_option linter.unusedSimpArgs false
set_option linter.unusedVariables false
namespace Go.Proofs.YtoompcgdhokdlaaDoor
open Go.RowKit

set_option maxRecDepth 100000 in
set_option maxHeartbeats 1000000 in
theorem fresh_mark {lo : Nat} (k : Int) (A : Option Addr) (n c : Nat) (ds : List Int) (R : Nat) (bs : List Int) (bad : Int) (cap : Array Value) (r : Int × List Int × Int) (w : World) (hrd : RdB w A n ds) (hB : IsB ds) (hBr : IsB r.2.1) (hR : RdrL lo w R bs bad)
    (hag : ∀ w', Below w.heap.size w w' → Calls Tryd.prog 52 cap w' (ObjO w' r)) :
    Calls Tryd.prog 48 #[.agg (objC k (.slice A n c)), .pointer (some ⟨R, 0, none⟩), .func (.func 52) #[] cap] w fun e w' => e = .returned (.int .i64 (freshO (doneO bs bad) r k ds)) ∧ Below w.heap.size w w' := by
  obtain ⟨w0, hw0⟩ : ∃ w0, w0 = w.alloc (.cells (objC k (.slice A n c)) 35) := ⟨_, rfl⟩
  have K0 : Bx (w0.heap[w.heap.size]? = some (.cells (objC k (.slice A n c)) 35 (0, 0))) := ⟨by rw [hw0]; exact blk_new w _⟩
  have B0 : Bx (Below w.heap.size w w0) := ⟨by rw [hw0]; exact (Below.refl _ _).alloc (Nat.le_refl _) _⟩
  have HDONE := bx (rdone_any w0 R bs bad (hR.kept B0.out))
  have HAG := bx (hag w0 B0.out)
  have HRD := bx hrd
  have HSAME : Bx (∀ A2 c2 w', Below w.heap.size w w' → RdB w' A2 r.2.1.length r.2.1 → Calls Tryd.prog 26 #[.agg (objC r.1 (.slice A2 r.2.1.length c2)), .agg (objC k (.slice A n c))] w' fun e w'' => e = .returned (.bool (decide (r.1 = k ∧ r.2.1 = ds))) ∧ Below w'.heap.size w' w'') := ⟨fun A2 c2 w' hb h => same10_any r.1 k A2 A _ c2 n c r.2.1 ds w' h (hrd.below hb) hBr hB⟩
  have HW := bx hw0
  have HFO : Bx (freshO (doneO bs bad) r k ds = if doneO bs bad ≠ 0 then 11 else if r.2.2 ≠ 0 then 11 else if decide (r.1 = k ∧ r.2.1 = ds) = true then 0 else 11) := ⟨by rw [freshO]; simp only [decide_eq_true_eq]⟩
  generalize freshO (doneO bs bad) r k ds = fo at *
  generalize doneO bs bad = de at *
  generalize decide (r.1 = k ∧ r.2.1 = ds) = sm at *
  clear hw0 hrd hB hBr hR hag
  unfold ObjO at HAG
  obtain ⟨k1, d1, e1⟩ := r
  dsimp only at HAG HSAME HFO
  by_cases hd : de = 0
  · subst hd
    rw [if_neg (by simp)] at HFO
    go_enter Tryd.func48, Tryd.ntmps48
    go_upto_region 1 with fail
    rw [← HW.out]
    clear HW
    go_wp2_with (first
      | (go_at_call 54; refine HDONE.out.mono ?_; rintro e w1 ⟨rfl, rfl⟩))
    refine HAG.out.mono ?_
    rintro e w1 ⟨A1, c1, rfl, hr, hn, hc, hb⟩
    have R1 := bx hr; have D1 := bx (B0.out.trans (hb.mono B0.out.size)); have K1 := bx ((hb.block _ (blk_lt K0.out)).trans K0.out)
    clear hr hn hc hb HAG
    go_upto_region 4 with (first
      | ((with_reducible refine at_store (.tmp 7) (.tmp 15) ?_); go_must (refine store_all (cs := objC k1 (.slice A1 d1.length c1)) 35 (.tmp 7) (.tmp 15) rfl rfl rfl rfl (blk_new w1 _) (obj_is _ _ _ _) rfl (obj_one _ _ _ _) ?_; intro w2 hu2; have X2 := bx hu2.same; have E2 := bx (((Below.refl w1.heap.size w1).alloc (Nat.le_refl _) _).trans (hu2.below (Nat.le_refl _))); clear hu2)))
    have R2 := bx (R1.out.below E2.out); have D2 := bx (D1.out.trans (E2.out.mono D1.out.size)); have K2 := bx ((E2.out.block _ (blk_lt K1.out)).trans K1.out)
    clear E2 R1 D1 K1
    by_cases he : e1 = 0
    · subst he
      rw [if_neg (by simp)] at HFO
      go_wp2_with (first
        | ((with_reducible refine at_load 20 ?_); go_must (refine load_all 35 (.tmp 7) rfl rfl rfl X2.out Tryd.underlying35 rfl (obj_is _ _ _ _) ?_))
        | ((with_reducible refine at_load 21 ?_); go_must (refine load_all 35 (.tmp 3) rfl rfl rfl K2.out Tryd.underlying35 rfl (obj_is _ _ _ _) ?_)))
      refine (HSAME.out A1 c1 w2 D2.out R2.out).mono ?_
      rintro e w3 ⟨rfl, hb⟩
      have D3 := bx (D2.out.trans (hb.mono D2.out.size))
      clear hb HSAME
      cases sm
      all_goals
        go_wp2_with fail
        go_ret
        exact ⟨by rw [HFO.out]; rfl, D3.out⟩
    · have h0 : (e1 == 0) = false := by simp [he]
      have h1 : (e1 != 0) = true := by simp [he]
      rw [if_pos he] at HFO
      clear he HSAME
      go_wp2_with fail
      go_ret
      exact ⟨by rw [HFO.out]; rfl, D2.out⟩
  · have h0 : (de == 0) = false := by simp [hd]
    have h1 : (de != 0) = true := by simp [hd]
    rw [if_pos hd] at HFO
    clear hd HAG HSAME
    go_enter Tryd.func48, Tryd.ntmps48
    go_upto_region 1 with fail
    rw [← HW.out]
    clear HW
    go_wp2_with (first
      | (go_at_call 54; refine HDONE.out.mono ?_; rintro e w1 ⟨rfl, rfl⟩))
    go_ret
    exact ⟨by rw [HFO.out]; rfl, B0.out⟩
set_option maxRecDepth 100000 in
set_option maxHeartbeats 1000000 in
theorem fresh_chg {lo : Nat} (k : Int) (A : Option Addr) (n c : Nat) (ds : List Int) (R : Nat) (bs : List Int) (bad : Int) (cap : Array Value) (r : Int × List Int × Int) (w : World) (hrd : RdB w A n ds) (hB : IsB ds) (hBr : IsB r.2.1) (hR : RdrL lo w R bs bad)
    (hag : ∀ w', Below w.heap.size w w' → Calls Tryd.prog 49 cap w' (ObjO w' r)) :
    Calls Tryd.prog 48 #[.agg (objC k (.slice A n c)), .pointer (some ⟨R, 0, none⟩), .func (.func 49) #[] cap] w fun e w' => e = .returned (.int .i64 (freshO (doneO bs bad) r k ds)) ∧ Below w.heap.size w w' := by
  obtain ⟨w0, hw0⟩ : ∃ w0, w0 = w.alloc (.cells (objC k (.slice A n c)) 35) := ⟨_, rfl⟩
  have K0 : Bx (w0.heap[w.heap.size]? = some (.cells (objC k (.slice A n c)) 35 (0, 0))) := ⟨by rw [hw0]; exact blk_new w _⟩
  have B0 : Bx (Below w.heap.size w w0) := ⟨by rw [hw0]; exact (Below.refl _ _).alloc (Nat.le_refl _) _⟩
  have HDONE := bx (rdone_any w0 R bs bad (hR.kept B0.out))
  have HAG := bx (hag w0 B0.out)
  have HRD := bx hrd
  have HSAME : Bx (∀ A2 c2 w', Below w.heap.size w w' → RdB w' A2 r.2.1.length r.2.1 → Calls Tryd.prog 26 #[.agg (objC r.1 (.slice A2 r.2.1.length c2)), .agg (objC k (.slice A n c))] w' fun e w'' => e = .returned (.bool (decide (r.1 = k ∧ r.2.1 = ds))) ∧ Below w'.heap.size w' w'') := ⟨fun A2 c2 w' hb h => same10_any r.1 k A2 A _ c2 n c r.2.1 ds w' h (hrd.below hb) hBr hB⟩
  have HW := bx hw0
  have HFO : Bx (freshO (doneO bs bad) r k ds = if doneO bs bad ≠ 0 then 11 else if r.2.2 ≠ 0 then 11 else if decide (r.1 = k ∧ r.2.1 = ds) = true then 0 else 11) := ⟨by rw [freshO]; simp only [decide_eq_true_eq]⟩
  generalize freshO (doneO bs bad) r k ds = fo at *
  generalize doneO bs bad = de at *
  generalize decide (r.1 = k ∧ r.2.1 = ds) = sm at *
  clear hw0 hrd hB hBr hR hag
  unfold ObjO at HAG
  obtain ⟨k1, d1, e1⟩ := r
  dsimp only at HAG HSAME HFO
  by_cases hd : de = 0
  · subst hd
    rw [if_neg (by simp)] at HFO
    go_enter Tryd.func48, Tryd.ntmps48
    go_upto_region 1 with fail
    rw [← HW.out]
    clear HW
    go_wp2_with (first
      | (go_at_call 54; refine HDONE.out.mono ?_; rintro e w1 ⟨rfl, rfl⟩))
    refine HAG.out.mono ?_
    rintro e w1 ⟨A1, c1, rfl, hr, hn, hc, hb⟩
    have R1 := bx hr; have D1 := bx (B0.out.trans (hb.mono B0.out.size)); have K1 := bx ((hb.block _ (blk_lt K0.out)).trans K0.out)
    clear hr hn hc hb HAG
    go_upto_region 4 with (first
      | ((with_reducible refine at_store (.tmp 7) (.tmp 15) ?_); go_must (refine store_all (cs := objC k1 (.slice A1 d1.length c1)) 35 (.tmp 7) (.tmp 15) rfl rfl rfl rfl (blk_new w1 _) (obj_is _ _ _ _) rfl (obj_one _ _ _ _) ?_; intro w2 hu2; have X2 := bx hu2.same; have E2 := bx (((Below.refl w1.heap.size w1).alloc (Nat.le_refl _) _).trans (hu2.below (Nat.le_refl _))); clear hu2)))
    have R2 := bx (R1.out.below E2.out); have D2 := bx (D1.out.trans (E2.out.mono D1.out.size)); have K2 := bx ((E2.out.block _ (blk_lt K1.out)).trans K1.out)
    clear E2 R1 D1 K1
    by_cases he : e1 = 0
    · subst he
      rw [if_neg (by simp)] at HFO
      go_wp2_with (first
        | ((with_reducible refine at_load 20 ?_); go_must (refine load_all 35 (.tmp 7) rfl rfl rfl X2.out Tryd.underlying35 rfl (obj_is _ _ _ _) ?_))
        | ((with_reducible refine at_load 21 ?_); go_must (refine load_all 35 (.tmp 3) rfl rfl rfl K2.out Tryd.underlying35 rfl (obj_is _ _ _ _) ?_)))
      refine (HSAME.out A1 c1 w2 D2.out R2.out).mono ?_
      rintro e w3 ⟨rfl, hb⟩
      have D3 := bx (D2.out.trans (hb.mono D2.out.size))
      clear hb HSAME
      cases sm
      all_goals
        go_wp2_with fail
        go_ret
        exact ⟨by rw [HFO.out]; rfl, D3.out⟩
    · have h0 : (e1 == 0) = false := by simp [he]
      have h1 : (e1 != 0) = true := by simp [he]
      rw [if_pos he] at HFO
      clear he HSAME
      go_wp2_with fail
      go_ret
      exact ⟨by rw [HFO.out]; rfl, D2.out⟩
  · have h0 : (de == 0) = false := by simp [hd]
    have h1 : (de != 0) = true := by simp [hd]
    rw [if_pos hd] at HFO
    clear hd HAG HSAME
    go_enter Tryd.func48, Tryd.ntmps48
    go_upto_region 1 with fail
    rw [← HW.out]
    clear HW
    go_wp2_with (first
      | (go_at_call 54; refine HDONE.out.mono ?_; rintro e w1 ⟨rfl, rfl⟩))
    go_ret
    exact ⟨by rw [HFO.out]; rfl, B0.out⟩
set_option maxRecDepth 100000 in
set_option maxHeartbeats 1000000 in
theorem fresh_tree {lo : Nat} (k : Int) (A : Option Addr) (n c : Nat) (ds : List Int) (R : Nat) (bs : List Int) (bad : Int) (cap : Array Value) (r : Int × List Int × Int) (w : World) (hrd : RdB w A n ds) (hB : IsB ds) (hBr : IsB r.2.1) (hR : RdrL lo w R bs bad)
    (hag : ∀ w', Below w.heap.size w w' → Calls Tryd.prog 50 cap w' (ObjO w' r)) :
    Calls Tryd.prog 48 #[.agg (objC k (.slice A n c)), .pointer (some ⟨R, 0, none⟩), .func (.func 50) #[] cap] w fun e w' => e = .returned (.int .i64 (freshO (doneO bs bad) r k ds)) ∧ Below w.heap.size w w' := by
  obtain ⟨w0, hw0⟩ : ∃ w0, w0 = w.alloc (.cells (objC k (.slice A n c)) 35) := ⟨_, rfl⟩
  have K0 : Bx (w0.heap[w.heap.size]? = some (.cells (objC k (.slice A n c)) 35 (0, 0))) := ⟨by rw [hw0]; exact blk_new w _⟩
  have B0 : Bx (Below w.heap.size w w0) := ⟨by rw [hw0]; exact (Below.refl _ _).alloc (Nat.le_refl _) _⟩
  have HDONE := bx (rdone_any w0 R bs bad (hR.kept B0.out))
  have HAG := bx (hag w0 B0.out)
  have HRD := bx hrd
  have HSAME : Bx (∀ A2 c2 w', Below w.heap.size w w' → RdB w' A2 r.2.1.length r.2.1 → Calls Tryd.prog 26 #[.agg (objC r.1 (.slice A2 r.2.1.length c2)), .agg (objC k (.slice A n c))] w' fun e w'' => e = .returned (.bool (decide (r.1 = k ∧ r.2.1 = ds))) ∧ Below w'.heap.size w' w'') := ⟨fun A2 c2 w' hb h => same10_any r.1 k A2 A _ c2 n c r.2.1 ds w' h (hrd.below hb) hBr hB⟩
  have HW := bx hw0
  have HFO : Bx (freshO (doneO bs bad) r k ds = if doneO bs bad ≠ 0 then 11 else if r.2.2 ≠ 0 then 11 else if decide (r.1 = k ∧ r.2.1 = ds) = true then 0 else 11) := ⟨by rw [freshO]; simp only [decide_eq_true_eq]⟩
  generalize freshO (doneO bs bad) r k ds = fo at *
  generalize doneO bs bad = de at *
  generalize decide (r.1 = k ∧ r.2.1 = ds) = sm at *
  clear hw0 hrd hB hBr hR hag
  unfold ObjO at HAG
  obtain ⟨k1, d1, e1⟩ := r
  dsimp only at HAG HSAME HFO
  by_cases hd : de = 0
  · subst hd
    rw [if_neg (by simp)] at HFO
    go_enter Tryd.func48, Tryd.ntmps48
    go_upto_region 1 with fail
    rw [← HW.out]
    clear HW
    go_wp2_with (first
      | (go_at_call 54; refine HDONE.out.mono ?_; rintro e w1 ⟨rfl, rfl⟩))
    refine HAG.out.mono ?_
    rintro e w1 ⟨A1, c1, rfl, hr, hn, hc, hb⟩
    have R1 := bx hr; have D1 := bx (B0.out.trans (hb.mono B0.out.size)); have K1 := bx ((hb.block _ (blk_lt K0.out)).trans K0.out)
    clear hr hn hc hb HAG
    go_upto_region 4 with (first
      | ((with_reducible refine at_store (.tmp 7) (.tmp 15) ?_); go_must (refine store_all (cs := objC k1 (.slice A1 d1.length c1)) 35 (.tmp 7) (.tmp 15) rfl rfl rfl rfl (blk_new w1 _) (obj_is _ _ _ _) rfl (obj_one _ _ _ _) ?_; intro w2 hu2; have X2 := bx hu2.same; have E2 := bx (((Below.refl w1.heap.size w1).alloc (Nat.le_refl _) _).trans (hu2.below (Nat.le_refl _))); clear hu2)))
    have R2 := bx (R1.out.below E2.out); have D2 := bx (D1.out.trans (E2.out.mono D1.out.size)); have K2 := bx ((E2.out.block _ (blk_lt K1.out)).trans K1.out)
    clear E2 R1 D1 K1
    by_cases he : e1 = 0
    · subst he
      rw [if_neg (by simp)] at HFO
      go_wp2_with (first
        | ((with_reducible refine at_load 20 ?_); go_must (refine load_all 35 (.tmp 7) rfl rfl rfl X2.out Tryd.underlying35 rfl (obj_is _ _ _ _) ?_))
        | ((with_reducible refine at_load 21 ?_); go_must (refine load_all 35 (.tmp 3) rfl rfl rfl K2.out Tryd.underlying35 rfl (obj_is _ _ _ _) ?_)))
      refine (HSAME.out A1 c1 w2 D2.out R2.out).mono ?_
      rintro e w3 ⟨rfl, hb⟩
      have D3 := bx (D2.out.trans (hb.mono D2.out.size))
      clear hb HSAME
      cases sm
      all_goals
        go_wp2_with fail
        go_ret
        exact ⟨by rw [HFO.out]; rfl, D3.out⟩
    · have h0 : (e1 == 0) = false := by simp [he]
      have h1 : (e1 != 0) = true := by simp [he]
      rw [if_pos he] at HFO
      clear he HSAME
      go_wp2_with fail
      go_ret
      exact ⟨by rw [HFO.out]; rfl, D2.out⟩
  · have h0 : (de == 0) = false := by simp [hd]
    have h1 : (de != 0) = true := by simp [hd]
    rw [if_pos hd] at HFO
    clear hd HAG HSAME
    go_enter Tryd.func48, Tryd.ntmps48
    go_upto_region 1 with fail
    rw [← HW.out]
    clear HW
    go_wp2_with (first
      | (go_at_call 54; refine HDONE.out.mono ?_; rintro e w1 ⟨rfl, rfl⟩))
    go_ret
    exact ⟨by rw [HFO.out]; rfl, B0.out⟩
end Go.Proofs.YtoompcgdhokdlaaDoor

set_option linter.unusedSimpArgs false
set_option linter.unusedVariables false
namespace Go.Proofs.YtoompcgdhokdlaaDoor
open Go.RowKit

/-- Bytes that read do not lie in a block that holds an object. -/
theorem RdB.upd_obj {w w' : World} {A : Option Addr} {n g : Nat} {bs : List Int} {k : Int} {B : Option Addr} {m c : Nat} {T : TypeId} {fr : Nat × Nat} {o : Obj} (h : RdB w A n bs) (hk : w.heap[g]? = some (.cells (objC k (.slice B m c)) T fr)) (hu : Upd w w' g o) : RdB w' A n bs := by
  refine ⟨h.1, fun hn => ?_⟩
  obtain ⟨b, o1, e, hl, hc⟩ := h.2 hn
  have hne : b ≠ g := by
    rintro rfl
    have h0 := hc 0 hn
    simp only [World.cell?, hk, Nat.add_zero] at h0
    match o1, h0 with
    | 0, h0 => simp [objC] at h0
    | 1, h0 => simp [objC] at h0
    | q + 2, h0 => simp [objC] at h0
  refine ⟨b, o1, e, by rw [hu.size]; exact hl, fun j hj => ?_⟩
  rw [← hc j hj]
  unfold World.cell?
  rw [hu.other b hne]
set_option maxRecDepth 100000 in
set_option maxHeartbeats 1000000 in
theorem markclo_any (b : Nat) (id : List Int) (name text : ByteArray) (w : World) (hM : MaxAt w) (hk : w.heap[b]? = some (.cells (markCells id name text).toArray 30 (0, 0))) (hid : id.length = 32) (hnm : name.size < 4294967281) :
    Calls Tryd.prog 52 #[.pointer (some ⟨b, 0, none⟩)] w (ObjO w (markO id name text)) := by
  obtain ⟨w0, hw0⟩ : ∃ w0, w0 = w.alloc (.cells (objC 0 (.slice none 0 0)) 35) := ⟨_, rfl⟩
  have K0 : Bx (w0.heap[w.heap.size]? = some (.cells (objC 0 (.slice none 0 0)) 35 (0, 0))) := ⟨by rw [hw0]; exact blk_new w _⟩
  have B0 : Bx (Below w.heap.size w w0) := ⟨by rw [hw0]; exact (Below.refl _ _).alloc (Nat.le_refl _) _⟩
  have LIT : Bx (w.alloc (.cells #[.int .i64 0, .slice none 0 0] 35) = w0) := ⟨hw0.symm⟩
  have KM := bx ((B0.out.block _ (blk_lt hk)).trans hk)
  have HIM := bx (mark_is id name text hid)
  have HMK : Bx (Calls Tryd.prog 13 #[.agg (markCells id name text).toArray] w0 (ObjO w0 (markO id name text))) := ⟨ofmark_any id name text w0 (hM.below B0.out) hid hnm⟩
  have RO : Bx (∀ (r : Int × List Int × Int) A c' w', markO id name text = r → RdB w' A r.2.1.length r.2.1 → (A = none → c' = 0) → r.2.1.length ≤ c' → Below w.heap.size w w' → ObjO w (markO id name text) (.returned (.tuple #[.agg (objC r.1 (.slice A r.2.1.length c')), .int .i64 r.2.2])) w') := ⟨fun r A c' w' hr h1 h2 h3 h4 => by subst hr; exact ⟨A, c', rfl, h1, h2, h3, h4⟩⟩
  generalize ObjO w (markO id name text) = OUT at *
  unfold ObjO at HMK
  generalize markO id name text = r at *
  generalize (markCells id name text).toArray = MC at *
  obtain ⟨k1, d1, e1⟩ := r
  dsimp only at HMK
  clear hw0 hM hk hid hnm
  go_enter Tryd.func52, Tryd.ntmps52
  go_upto_region 1 with fail
  rw [LIT.out]
  clear LIT
  go_wp2_with (first
    | ((with_reducible refine at_load 3 ?_); go_must (refine load_all 30 (.tmp 0) rfl rfl rfl KM.out Tryd.underlying30 rfl HIM.out ?_)))
  refine HMK.out.mono ?_
  rintro e w1 ⟨A1, c1, rfl, hr, hn, hc, hb⟩
  have R1 := bx hr; have N1 := bx hn; have C1 := bx hc
  have D1 := bx (B0.out.trans (hb.mono B0.out.size)); have K1 := bx ((hb.block _ (blk_lt K0.out)).trans K0.out)
  have LO := bx hb
  clear hr hn hc hb HMK
  go_wp2_with (first
    | ((with_reducible refine at_store (.tmp 1) (.tmp 5) ?_); go_must (refine store_all (cs := objC k1 (.slice A1 d1.length c1)) 35 (.tmp 1) (.tmp 5) rfl rfl rfl rfl K1.out (obj_is _ _ _ _) rfl (obj_one _ _ _ _) ?_; intro w9 hu9; have B9 := bx (D1.out.trans (hu9.below (Nat.le_refl _))); have R9 := bx hu9.same; have RD9 := bx (R1.out.upd_obj K1.out hu9); clear hu9)))
  refine bodyPost_ret (results_ct (cs := objC k1 (.slice A1 d1.length c1)) rfl _ _ w.heap.size 35 _ _ rfl rfl R9.out Tryd.underlying35 rfl (obj_is _ _ _ _)) rfl ?_
  exact RO.out (k1, d1, e1) A1 c1 _ rfl RD9.out N1.out C1.out B9.out
end Go.Proofs.YtoompcgdhokdlaaDoor

set_option linter.unusedSimpArgs false
set_option linter.unusedVariables false
namespace Go.Proofs.YtoompcgdhokdlaaDoor
open Go.RowKit

/-- What is read of a note: its target, name, text; what Done tells. -/
def mkId (ds : List Int) : List Int := idR ds 0
def mkN (ds : List Int) : List Int := sOut (rRest ds 0 32) (rBad ds 0 32)
def mkB2 (ds : List Int) : List Int := sRest (rRest ds 0 32) (rBad ds 0 32)
def mkE2 (ds : List Int) : Int := sBad (rRest ds 0 32) (rBad ds 0 32)
def mkT (ds : List Int) : List Int := sOut (mkB2 ds) (mkE2 ds)
def mkD (ds : List Int) : Int := doneO (sRest (mkB2 ds) (mkE2 ds)) (sBad (mkB2 ds) (mkE2 ds))
/-- What MarkOf tells to be wrong. -/
def markErr (k : Int) (ds : List Int) : Int := if k ≠ 4 then 2 else freshO (mkD ds) (markO (mkId ds) (strOfNums (mkN ds)) (strOfNums (mkT ds))) k ds
def MarkP (w : World) (k : Int) (ds : List Int) (e : Ending) (w' : World) : Prop :=
  e = .returned (.tuple #[.agg (if markErr k ds = 0 then (markCells (mkId ds) (strOfNums (mkN ds)) (strOfNums (mkT ds))).toArray else (markCells zero32 ⟨#[]⟩ ⟨#[]⟩).toArray), .int .i64 (markErr k ds)]) ∧ Below w.heap.size w w'
theorem mark_built0 : Tryd.prog.built 30 [] = some (markCells zero32 ⟨#[]⟩ ⟨#[]⟩).toArray := by kernel_rfl
theorem mark_one (id : List Int) (name text : ByteArray) : ∀ v ∈ (markCells id name text).toArray.toList, v.oneCell' = true := by
  intro v hv
  simp only [markCells, u8s, List.mem_append, List.mem_map, List.mem_cons, List.not_mem_nil, or_false] at hv
  rcases hv with ⟨x, _, rfl⟩ | rfl | rfl <;> rfl
theorem zero32_length : zero32.length = 32 := rfl
set_option maxRecDepth 100000 in
set_option maxHeartbeats 2000000 in
theorem markof_not (k : Int) (A : Option Addr) (n cap : Nat) (ds : List Int) (w : World) (hk : k ≠ 4) :
    Calls Tryd.prog 23 #[.agg (objC k (.slice A n cap))] w (MarkP w k ds) := by
  have HE : Bx (markErr k ds = 2) := ⟨by rw [markErr, if_pos hk]⟩
  have HP : Bx (∀ w', Below w.heap.size w w' → MarkP w k ds (.returned (.tuple #[.agg (markCells zero32 ⟨#[]⟩ ⟨#[]⟩).toArray, .int .i64 2])) w') := ⟨fun w' hb => by
    refine ⟨?_, hb⟩
    rw [HE.out, if_neg (by decide)]⟩
  generalize MarkP w k ds = OUT at *
  obtain ⟨MZ, hMZ⟩ : ∃ MZ, (markCells zero32 ⟨#[]⟩ ⟨#[]⟩).toArray = MZ := ⟨_, rfl⟩
  have MB := bx mark_built0; have MI := bx (mark_is zero32 ⟨#[]⟩ ⟨#[]⟩ rfl); have MO := bx (mark_one zero32 ⟨#[]⟩ ⟨#[]⟩)
  obtain ⟨w0, hw0⟩ : ∃ w0, w0 = (w.alloc (.cells (objC k (.slice A n cap)) 35)).alloc (.cells (markCells zero32 ⟨#[]⟩ ⟨#[]⟩).toArray 30) := ⟨_, rfl⟩
  have K0 : Bx (w0.heap[w.heap.size]? = some (.cells (objC k (.slice A n cap)) 35 (0, 0))) := ⟨by rw [hw0]; exact heap_alloc2_old w _ _⟩
  have K1 : Bx (w0.heap[w.heap.size + 1]? = some (.cells (markCells zero32 ⟨#[]⟩ ⟨#[]⟩).toArray 30 (0, 0))) := ⟨by rw [hw0]; exact heap_alloc2_new w _ _⟩
  have B0 : Bx (Below w.heap.size w w0) := ⟨by rw [hw0]; exact ((Below.refl _ _).alloc (Nat.le_refl _) _).alloc (by simp) _⟩
  have z0 : w0.cell? ⟨w.heap.size, 0, none⟩ = some (.int .i64 k) := blk_cell K0.out rfl
  have HW := bx hw0
  have h0 : (k == 4) = false := by simp [hk]
  have h1 : (k != 4) = true := by simp [hk]
  clear hw0 hk
  go_enter Tryd.func23, Tryd.ntmps23
  go_upto_region 1 with fail
  have E := HW.out.symm
  simp only [markCells, u8s, zero32, List.replicate, List.map, List.cons_append, List.nil_append] at E
  rw [E]
  clear E HW
  rw [hMZ] at MB MI MO K1 HP
  clear hMZ
  go_wp2_with (first
    | ((with_reducible refine at_build 10 ?_); go_must (refine wpList_build2 rfl 30 [] rfl [] rfl MZ MB.out ?_))
    | ((with_reducible refine at_store (.tmp 2) (.tmp 10) ?_); go_must (refine store_all (cs := MZ) 30 (.tmp 2) (.tmp 10) rfl rfl rfl rfl K1.out MI.out rfl MO.out ?_; intro w9 hu9; have B9 := bx (B0.out.trans (hu9.below (Nat.le_succ _))); have R9 := bx hu9.same; clear hu9)))
  refine bodyPost_ret (results_ct (cs := MZ) rfl _ _ (w.heap.size + 1) 30 _ _ rfl rfl R9.out Tryd.underlying30 rfl MI.out) rfl ?_
  exact HP.out _ B9.out
end Go.Proofs.YtoompcgdhokdlaaDoor
