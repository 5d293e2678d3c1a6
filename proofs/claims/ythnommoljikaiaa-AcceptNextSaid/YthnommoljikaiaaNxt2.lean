/- Bodies of manifests: slices.EqualFunc over packs, manifest.Same of what is alike, accept.Next. -/
import Derived.Test.YthnommoljikaiaaNxt1
set_option linter.unusedSimpArgs false
set_option linter.unusedVariables false
namespace Go.Proofs.Ythnommoljikaiaa
open Go.RowKit

set_option maxRecDepth 100000 in
set_option maxHeartbeats 800000 in
theorem packseq_any (A : Option Addr) (n cap : Nat) (pk : Nat → PackA) (A2 : Option Addr) (cap2 : Nat) (w : World) (h1 : RowAt w A n 34 (fun j => (pk j).cells)) (h2 : RowAt w A2 n 34 (fun j => (pk j).cells)) (hn : n ≤ 1099511627776) (hf : ∀ j, j < n → (pk j).Full w) (hb : ∀ j, j < n → (pk j).n ≤ 1099511627776) :
    Calls Try.prog 78 #[.slice A n cap, .slice A2 n cap2, .func (.func 75) #[] #[]] w fun e w' => e = .returned (.bool true) ∧ Below w.heap.size w w' := by
  have R1 := bx h1; have R2 := bx h2; have HF := bx hf; have HB := bx hb
  clear h1 h2 hf hb
  go_enter Try.func78, Try.ntmps78
  go_wp2_with fail
  go_loopw [17] (fun i wr => ∃ j : Nat, j ≤ n ∧ i = .int .i64 j ∧ Below w.heap.size w wr) (fun i _ => (n - intOf i).toNat)
  case atStart => exact ⟨0, Nat.zero_le _, rfl, Below.refl _ _⟩
  case round =>
    obtain ⟨j, hj, rfl, hb⟩ := hrel
    have B := bx hb
    clear hb
    by_cases hlt : j < n
    · have hlt' : (j : Int) < n := by omega
      obtain ⟨b1, o1, rfl, _, hr1⟩ := (R1.out.below B.out).at hlt
      obtain ⟨b2, o2, rfl, _, hr2⟩ := (R2.out.below B.out).at hlt
      have hf1 := HF.out j hlt
      have HR1 := bx (hr1 wr (Below.refl _ _)); have HR2 := bx hr2
      have HI : Bx ((Try.prog.info? 155).map (·.size) = some (pk j).cells.length) := ⟨by rw [PackA.length hf1.1]; kernel_rfl⟩
      have HI2 : Bx ((Try.prog.info? 155).map (·.size) = some (pk j).cells.toArray.size) := ⟨by rw [List.size_toArray]; exact HI.out⟩
      have HS : Bx ((pk j).cells.toArray.size = 34) := ⟨by rw [List.size_toArray]; exact PackA.length hf1.1⟩
      have HO : Bx (∀ v ∈ (pk j).cells.toArray.toList, v.oneCell' = true) := ⟨PackA.one⟩
      have HE : Bx (∀ w', Below w.heap.size w w' → Calls Try.prog 75 #[.agg (pk j).cells.toArray, .agg (pk j).cells.toArray] w' fun e w'' => e = .returned (.bool true) ∧ Below w'.heap.size w' w'') := ⟨fun w' h' => packsame_any (pk j) w' (hf1.below h') (HB.out j hlt)⟩
      clear hr1 hr2 R1 R2 HF HB hf1
      generalize (pk j).cells = cl at *
      go_wp2_with (first
        | ((with_reducible refine at_load 21 ?_); go_must (refine wpList_load_mid rfl 155 (.tmp 20) rfl b1 (o1 + j * 34) rfl cl _ HR1.out Try.underlying155 rfl HI.out ?_))
        | ((with_reducible refine at_store (.tmp 8) (.tmp 21) ?_); go_must (refine store_all (cs := cl.toArray) 155 (.tmp 8) (.tmp 21) rfl rfl rfl rfl (blk_new wr _) HI2.out (by rw [HS.out]; rfl) HO.out ?_; intro w2 hu2; have D2 := bx (((Below.refl wr.heap.size wr).alloc (Nat.le_refl _) _).trans (hu2.below (Nat.le_refl _))); have C2 := bx hu2.same; have Q2 := bx (HR2.out w2 D2.out); clear hu2))
        | ((with_reducible refine at_load 25 ?_); go_must (refine wpList_load_mid rfl 155 (.tmp 24) rfl b2 (o2 + j * 34) rfl cl _ Q2.out Try.underlying155 rfl HI.out ?_))
        | ((with_reducible refine at_store (.tmp 9) (.tmp 25) ?_); go_must (refine store_all (cs := cl.toArray) 155 (.tmp 9) (.tmp 25) rfl rfl rfl rfl (blk_new w2 _) HI2.out (by rw [HS.out]; rfl) HO.out ?_; intro w3 hu3; have d3 := ((Below.refl w2.heap.size w2).alloc (Nat.le_refl _) _).trans (hu3.below (Nat.le_refl _)); have C3 := bx hu3.same; have C4 := bx ((d3.block _ (blk_lt C2.out)).trans C2.out); have B3 := bx (B.out.trans ((D2.out.trans (d3.mono D2.out.size)).mono B.out.size)); clear hu3 d3))
        | ((with_reducible refine at_load 27 ?_); go_must (refine load_all 155 (.tmp 8) rfl rfl rfl C4.out Try.underlying155 rfl HI2.out ?_))
        | ((with_reducible refine at_load 28 ?_); go_must (refine load_all 155 (.tmp 9) rfl rfl rfl C3.out Try.underlying155 rfl HI2.out ?_)))
      refine (HE.out _ B3.out).mono ?_
      rintro e w4 ⟨rfl, hb⟩
      have B4 := bx (B3.out.trans (hb.mono B3.out.size))
      clear hb
      go_wp2_with fail
      go_roundw
      case rel => exact ⟨j + 1, by omega, by first | rfl | go_num, B4.out⟩
      case measure => simp only [intOf]; omega
    · have hlt' : ¬ (j : Int) < n := by omega
      go_wp2_with fail
      go_ret
      exact ⟨rfl, B.out⟩
/-- What a body says. -/
structure BodyA where
  g : Int
  e : Int
  wr : Int
  st : Int
  RA : Option Addr
  rn : Nat
  rc : Nat
  rs : Nat → ByteArray × List Int
  PA : Option Addr
  pn : Nat
  pc : Nat
  pk : Nat → PackA
def bodyC (g e wr st : Int) (rv pv : Value) : Array Value := #[.int .u64 g, .int .u64 e, .int .i64 wr, .int .u64 st, rv, pv]
def BodyA.cells (b : BodyA) : Array Value := bodyC b.g b.e b.wr b.st (.slice b.RA b.rn b.rc) (.slice b.PA b.pn b.pc)
def BodyA.Full (b : BodyA) (w : World) : Prop := RowAt w b.RA b.rn 33 (fun j => refCells (b.rs j).1 (b.rs j).2) ∧ (∀ j, j < b.rn → (b.rs j).2.length = 32) ∧ RowAt w b.PA b.pn 34 (fun j => (b.pk j).cells) ∧ ∀ j, j < b.pn → (b.pk j).Full w
def BodyA.Few (b : BodyA) : Prop := b.rn ≤ 12 ∧ b.pn ≤ 16 ∧ ∀ j, j < b.pn → (b.pk j).n ≤ 60
theorem BodyA.Full.below {b : BodyA} {w w' : World} (h : b.Full w) (hb : Below w.heap.size w w') : b.Full w' := ⟨h.1.below hb, h.2.1, h.2.2.1.below hb, fun j hj => (h.2.2.2 j hj).below hb⟩
theorem body_is (g e wr st : Int) (RA : Option Addr) (rn rc : Nat) (PA : Option Addr) (pn pc : Nat) : (Try.prog.info? 69).map (·.size) = some (bodyC g e wr st (.slice RA rn rc) (.slice PA pn pc)).size := by kernel_rfl
theorem body_one (g e wr st : Int) (RA : Option Addr) (rn rc : Nat) (PA : Option Addr) (pn pc : Nat) : ∀ v ∈ (bodyC g e wr st (.slice RA rn rc) (.slice PA pn pc)).toList, v.oneCell' = true := by
  intro v hv
  simp only [bodyC, List.mem_cons, List.not_mem_nil, or_false] at hv
  rcases hv with rfl | rfl | rfl | rfl | rfl | rfl <;> rfl
set_option maxRecDepth 100000 in
set_option maxHeartbeats 800000 in
theorem same17_any (b : BodyA) (w : World) (h : b.Full w) (hf : b.Few) :
    Calls Try.prog 39 #[.agg b.cells, .agg b.cells] w fun e w' => e = .returned (.bool true) ∧ Below w.heap.size w w' := by
  obtain ⟨g, ep, wr, st, RA, rn, rc, rs, PA, pn, pc, pk⟩ := b
  obtain ⟨h1, h2, h3, h4⟩ := h
  obtain ⟨f1, f2, f3⟩ := hf
  dsimp only at h1 h2 h3 h4 f1 f2 f3
  show Calls Try.prog 39 #[.agg #[.int .u64 g, .int .u64 ep, .int .i64 wr, .int .u64 st, .slice RA rn rc, .slice PA pn pc], .agg #[.int .u64 g, .int .u64 ep, .int .i64 wr, .int .u64 st, .slice RA rn rc, .slice PA pn pc]] w _
  have HR : Bx (∀ w', Below w.heap.size w w' → Calls Try.prog 77 #[.slice RA rn rc, .slice RA rn rc] w' fun e w'' => e = .returned (.bool true) ∧ Below w'.heap.size w' w'') := ⟨fun w' hb =>
    refseq_any RA rn rc _ RA rc w' (h1.below hb) (h1.below hb) (by omega) (fun j hj => by show (u8s _).length + 1 = 33; rw [u8s_length, h2 j hj]) (fun j hj w => ref_eqIn _ _ (h2 j hj) w)⟩
  have HP : Bx (∀ w', Below w.heap.size w w' → Calls Try.prog 78 #[.slice PA pn pc, .slice PA pn pc, .func (.func 75) #[] #[]] w' fun e w'' => e = .returned (.bool true) ∧ Below w'.heap.size w' w'') := ⟨fun w' hb =>
    packseq_any PA pn pc pk PA pc w' (h3.below hb) (h3.below hb) (by omega) (fun j hj => (h4 j hj).below hb) (fun j hj => by have := f3 j hj; omega)⟩
  clear h1 h2 h3 h4 f1 f2 f3
  have B0 : Bx (Below w.heap.size w ((w.alloc (.cells #[.int .u64 g, .int .u64 ep, .int .i64 wr, .int .u64 st, .slice RA rn rc, .slice PA pn pc] 69)).alloc (.cells #[.int .u64 g, .int .u64 ep, .int .i64 wr, .int .u64 st, .slice RA rn rc, .slice PA pn pc] 69))) := ⟨((Below.refl _ _).alloc (Nat.le_refl _) _).alloc (by simp) _⟩
  have k0 := heap_alloc2_old w (.cells #[.int .u64 g, .int .u64 ep, .int .i64 wr, .int .u64 st, .slice RA rn rc, .slice PA pn pc] 69) (.cells #[.int .u64 g, .int .u64 ep, .int .i64 wr, .int .u64 st, .slice RA rn rc, .slice PA pn pc] 69)
  have k1 := heap_alloc2_new w (.cells #[.int .u64 g, .int .u64 ep, .int .i64 wr, .int .u64 st, .slice RA rn rc, .slice PA pn pc] 69) (.cells #[.int .u64 g, .int .u64 ep, .int .i64 wr, .int .u64 st, .slice RA rn rc, .slice PA pn pc] 69)
  have K0 := bx k0; have K1 := bx k1
  clear k0 k1
  go_enter Try.func39, Try.ntmps39
  go_wp2_with fail
  refine (HR.out _ B0.out).mono ?_
  rintro e w1 ⟨rfl, hb⟩
  have B1 := bx (B0.out.trans (hb.mono B0.out.size))
  have z0 : w1.cell? ⟨w.heap.size, 5, none⟩ = some (.slice PA pn pc) := blk_cell ((hb.block _ (blk_lt K0.out)).trans K0.out) rfl
  have z1 : w1.cell? ⟨w.heap.size + 1, 5, none⟩ = some (.slice PA pn pc) := blk_cell ((hb.block _ (blk_lt K1.out)).trans K1.out) rfl
  clear hb K0 K1
  go_wp2_with fail
  refine (HP.out _ B1.out).mono ?_
  rintro e w2 ⟨rfl, hb⟩
  have B2 := bx (B1.out.trans (hb.mono B1.out.size))
  clear hb
  go_wp2_with fail
  go_ret
  exact ⟨rfl, B2.out⟩
theorem updC {w : World} {b j : Nat} {c : Array Value} {T : TypeId} (h : w.heap[b]? = some (.cells c T (0, 0))) (v : Value) : Upd w (w.setCell ⟨b, j, none⟩ v) b (.cells (c.setIfInBounds j v) T (0, 0)) :=
  ⟨rfl, rfl, rfl, by simp [World.setCell], heap_setCell_same w b j c T _ h, fun k hk => Below.heap_setCell _ _ _ _ hk⟩
def bodyZ : Array Value := bodyC 0 0 0 0 (.slice none 0 0) (.slice none 0 0)
theorem body_built0 : Try.prog.built 69 [] = some bodyZ := by kernel_rfl
/-- What follows a body. -/
def nextOf (g e wr st : Int) (rv pv : Value) (writer stamp : Int) : Array Value × Int :=
  if g = 18446744073709551615 then (bodyZ, 15) else if writer < 1 ∨ 255 < writer then (bodyZ, 2) else (bodyC (g + 1) e writer stamp rv pv, 0)
set_option maxRecDepth 100000 in
set_option maxHeartbeats 800000 in
theorem next_any (g ep wr st : Int) (RA : Option Addr) (rn rc : Nat) (PA : Option Addr) (pn pc : Nat) (writer stamp : Int) (w : World) (hg : 0 ≤ g ∧ g < 18446744073709551616) :
    Calls Try.prog 37 #[.agg (bodyC g ep wr st (.slice RA rn rc) (.slice PA pn pc)), .int .i64 writer, .int .u64 stamp] w fun e w' => e = .returned (.tuple #[.agg (nextOf g ep wr st (.slice RA rn rc) (.slice PA pn pc) writer stamp).1, .int .i64 (nextOf g ep wr st (.slice RA rn rc) (.slice PA pn pc) writer stamp).2]) ∧ Below w.heap.size w w' := by
  show Calls Try.prog 37 #[.agg #[.int .u64 g, .int .u64 ep, .int .i64 wr, .int .u64 st, .slice RA rn rc, .slice PA pn pc], .int .i64 writer, .int .u64 stamp] w _
  obtain ⟨w0, hw0⟩ : ∃ w0, w0 = (w.alloc (.cells #[.int .u64 g, .int .u64 ep, .int .i64 wr, .int .u64 st, .slice RA rn rc, .slice PA pn pc] 69)).alloc (.cells bodyZ 69) := ⟨_, rfl⟩
  have B0 : Bx (Below w.heap.size w w0) := ⟨by rw [hw0]; exact ((Below.refl _ _).alloc (Nat.le_refl _) _).alloc (by simp) _⟩
  have K0 : Bx (w0.heap[w.heap.size]? = some (.cells #[.int .u64 g, .int .u64 ep, .int .i64 wr, .int .u64 st, .slice RA rn rc, .slice PA pn pc] 69 (0, 0))) := ⟨by rw [hw0]; exact heap_alloc2_old w _ _⟩
  have K1 : Bx (w0.heap[w.heap.size + 1]? = some (.cells bodyZ 69 (0, 0))) := ⟨by rw [hw0]; exact heap_alloc2_new w _ _⟩
  have z0 : w0.cell? ⟨w.heap.size, 0, none⟩ = some (.int .u64 g) := blk_cell K0.out rfl
  have HW := bx hw0
  clear hw0
  have LIT : Bx ((w.alloc (.cells #[.int .u64 g, .int .u64 ep, .int .i64 wr, .int .u64 st, .slice RA rn rc, .slice PA pn pc] 69)).alloc (.cells #[.int .u64 0, .int .u64 0, .int .i64 0, .int .u64 0, .slice none 0 0, .slice none 0 0] 69) = w0) := ⟨HW.out.symm⟩
  clear HW
  by_cases hg1 : g = 18446744073709551615
  · have HN : Bx (nextOf g ep wr st (.slice RA rn rc) (.slice PA pn pc) writer stamp = (bodyZ, 15)) := ⟨by rw [nextOf, if_pos hg1]⟩
    subst hg1
    go_enter Try.func37, Try.ntmps37
    go_upto_region 1 with fail
    rw [LIT.out]
    clear LIT
    go_wp2_with (first
      | ((with_reducible refine at_build 12 ?_); go_must (refine wpList_build2 rfl 69 [] rfl [] rfl bodyZ body_built0 ?_))
      | ((with_reducible refine at_store (.tmp 6) (.tmp 12) ?_); go_must (refine store_all (cs := bodyZ) 69 (.tmp 6) (.tmp 12) rfl rfl rfl rfl K1.out (body_is _ _ _ _ _ _ _ _ _ _) rfl (body_one _ _ _ _ _ _ _ _ _ _) ?_; intro w9 hu9; have B9 := bx (B0.out.trans (hu9.below (by omega))); have R9 := bx hu9.same; clear hu9)))
    refine bodyPost_ret (results_ct (cs := bodyZ) rfl _ _ (w.heap.size + 1) 69 _ _ rfl rfl R9.out Try.underlying69 rfl (body_is _ _ _ _ _ _ _ _ _ _)) rfl ?_
    exact ⟨by rw [HN.out]; rfl, B9.out⟩
  · have hgb : (g == 18446744073709551615) = false := by simp [hg1]
    by_cases hw : writer < 1 ∨ 255 < writer
    · have HN : Bx (nextOf g ep wr st (.slice RA rn rc) (.slice PA pn pc) writer stamp = (bodyZ, 2)) := ⟨by rw [nextOf, if_neg hg1, if_pos hw]⟩
      have hw' : writer < 1 ∨ (¬ writer < 1 ∧ 255 < writer) := by omega
      clear hw hg1
      rcases hw' with h1 | ⟨h1, h2⟩
      all_goals
        go_enter Try.func37, Try.ntmps37
        go_upto_region 1 with fail
        rw [LIT.out]
        clear LIT
        go_wp2_with (first
          | ((with_reducible refine at_build 20 ?_); go_must (refine wpList_build2 rfl 69 [] rfl [] rfl bodyZ body_built0 ?_))
          | ((with_reducible refine at_store (.tmp 6) (.tmp 20) ?_); go_must (refine store_all (cs := bodyZ) 69 (.tmp 6) (.tmp 20) rfl rfl rfl rfl K1.out (body_is _ _ _ _ _ _ _ _ _ _) rfl (body_one _ _ _ _ _ _ _ _ _ _) ?_; intro w9 hu9; have B9 := bx (B0.out.trans (hu9.below (by omega))); have R9 := bx hu9.same; clear hu9)))
        refine bodyPost_ret (results_ct (cs := bodyZ) rfl _ _ (w.heap.size + 1) 69 _ _ rfl rfl R9.out Try.underlying69 rfl (body_is _ _ _ _ _ _ _ _ _ _)) rfl ?_
        exact ⟨by rw [HN.out]; rfl, B9.out⟩
    · have HN : Bx (nextOf g ep wr st (.slice RA rn rc) (.slice PA pn pc) writer stamp = (bodyC (g + 1) ep writer stamp (.slice RA rn rc) (.slice PA pn pc), 0)) := ⟨by rw [nextOf, if_neg hg1, if_neg hw]⟩
      have h1 : ¬ writer < 1 := by omega
      have h2 : ¬ 255 < writer := by omega
      have hw1 : IntKind.u64.wrap (g + 1) = g + 1 := by unfold IntKind.wrap; simp [IntKind.bits, IntKind.signed]; omega
      have hw2 : (g + 1) % 18446744073709551616 = g + 1 := by omega
      obtain ⟨g1, hg2⟩ : ∃ g1, g + 1 = g1 := ⟨_, rfl⟩
      rw [hg2] at HN hw1 hw2
      have HG := bx hg2
      clear hw hg1 hg
      have f0 := blk_frozen 0 K0.out
      go_enter Try.func37, Try.ntmps37
      go_upto_region 1 with fail
      rw [LIT.out]
      clear LIT
      go_upto_region 6 with fail
      obtain ⟨w1, hw3⟩ : ∃ w1, w1 = w0.setCell ⟨w.heap.size, 0, none⟩ (.int .u64 g1) := ⟨_, rfl⟩
      have u1 : Upd w0 w1 w.heap.size (.cells #[.int .u64 g1, .int .u64 ep, .int .i64 wr, .int .u64 st, .slice RA rn rc, .slice PA pn pc] 69 (0, 0)) := hw3 ▸ updC K0.out _
      have U1 := bx u1; have K2 := bx (u1.blk K1.out (show w.heap.size + 1 ≠ w.heap.size by omega))
      have f2 := blk_frozen 2 u1.same; have f3 := blk_frozen 3 u1.same
      have y2 : w1.cell? ⟨w.heap.size, 2, none⟩ = some (.int .i64 wr) := blk_cell u1.same rfl
      have y3 : w1.cell? ⟨w.heap.size, 3, none⟩ = some (.int .u64 st) := blk_cell u1.same rfl
      rw [← hw3]
      clear hw3 u1 z0 f0
      go_upto_region 7 with fail
      obtain ⟨w2, hw4⟩ : ∃ w2, w2 = (w1.setCell ⟨w.heap.size, 2, none⟩ (.int .i64 writer)).setCell ⟨w.heap.size, 3, none⟩ (.int .u64 stamp) := ⟨_, rfl⟩
      have V1 := bx (updC (j := 2) U1.out.same (.int .i64 writer))
      have V2 := bx (updC (j := 3) V1.out.same (.int .u64 stamp))
      rw [← hw4] at V2 ⊢
      have C2 : Bx (w2.heap[w.heap.size]? = some (.cells (bodyC g1 ep writer stamp (.slice RA rn rc) (.slice PA pn pc)) 69 (0, 0))) := ⟨V2.out.same⟩
      have K3 := bx (V2.out.blk (V1.out.blk K2.out (show w.heap.size + 1 ≠ w.heap.size by omega)) (show w.heap.size + 1 ≠ w.heap.size by omega))
      have B2 : Bx (Below w.heap.size w w2) := ⟨B0.out.trans ((U1.out.below (Nat.le_refl _)).trans ((V1.out.below (Nat.le_refl _)).trans (V2.out.below (Nat.le_refl _))))⟩
      clear hw4 f2 f3 y2 y3
      go_wp2_with (first
        | ((with_reducible refine at_load 29 ?_); go_must (refine load_all 69 (.tmp 3) rfl rfl rfl C2.out Try.underlying69 rfl (body_is _ _ _ _ _ _ _ _ _ _) ?_))
        | ((with_reducible refine at_store (.tmp 6) (.tmp 29) ?_); go_must (refine store_all (cs := bodyC g1 ep writer stamp (.slice RA rn rc) (.slice PA pn pc)) 69 (.tmp 6) (.tmp 29) rfl rfl rfl rfl K3.out (body_is _ _ _ _ _ _ _ _ _ _) rfl (body_one _ _ _ _ _ _ _ _ _ _) ?_; intro w9 hu9; have B9 := bx (B2.out.trans (hu9.below (by omega))); have R9 := bx hu9.same; clear hu9)))
      refine bodyPost_ret (results_ct (cs := bodyC g1 ep writer stamp (.slice RA rn rc) (.slice PA pn pc)) rfl _ _ (w.heap.size + 1) 69 _ _ rfl rfl R9.out Try.underlying69 rfl (body_is _ _ _ _ _ _ _ _ _ _)) rfl ?_
      exact ⟨by rw [HN.out]; rfl, B9.out⟩
end Go.Proofs.Ythnommoljikaiaa
