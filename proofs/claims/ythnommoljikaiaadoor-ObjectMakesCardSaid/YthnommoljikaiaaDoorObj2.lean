/- Objects: OfTree. -/
import Derived.Test.YthnommoljikaiaaDoorObj1
import Derived.Deep.CutRange
import Derived.IntWalk
set_option linter.unusedSimpArgs false
set_option linter.unusedVariables false
namespace Go.Proofs.YthnommoljikaiaaDoor
open Go.RowKit

/-- One of a tree. -/
structure Ent where
  name : ByteArray
  dir : Bool
  id : List Int
def Ent.cells (e : Ent) : List Value := .string e.name :: .bool e.dir :: u8s e.id
def dirB (d : Bool) : Int := if d then 1 else 0
def entB (e : Ent) : List Int := [dirB e.dir] ++ textB e.name ++ e.id
def badAt (L : Nat → Ent) (i : Nat) : Bool := !partB (L i).name.data.toList || (decide (0 < i) && !Op.bytesLess (L (i - 1)).name.data.toList (L i).name.data.toList)
def treeUp (L : Nat → Ent) (n j : Nat) : List Int := be n 2 ++ (List.range j).flatMap fun i => entB (L i)
def badUp (L : Nat → Ent) (j : Nat) : Bool := (List.range j).any (badAt L)
def treeO (L : Nat → Ent) (n : Nat) : Int × List Int × Int := if 32 < n then (0, [], 3) else if badUp L n = true then (0, [], 2) else fitO 2 (treeUp L n n)
theorem treeUp_succ (L : Nat → Ent) (n j : Nat) : treeUp L n (j + 1) = treeUp L n j ++ entB (L j) := by simp [treeUp, List.range_succ, List.append_assoc]
theorem badUp_succ (L : Nat → Ent) (j : Nat) : badUp L (j + 1) = (badUp L j || badAt L j) := by simp [badUp, List.range_succ]
theorem badUp_at (L : Nat → Ent) {j n : Nat} (hj : j < n) (h : badAt L j = true) : badUp L n = true := by
  simp only [badUp, List.any_eq_true, List.mem_range]
  exact ⟨j, hj, h⟩
theorem textB_length (s : ByteArray) : (textB s).length ≤ 16389 := by
  simp only [textB, List.length_append, be_length, List.length_take]
  omega
theorem treeUp_length (L : Nat → Ent) (n : Nat) : ∀ j, (∀ i, i < j → (L i).id.length = 32) → (treeUp L n j).length ≤ 2 + 16422 * j
  | 0, _ => by simp [treeUp, be_length]
  | j + 1, h => by
    have ih := treeUp_length L n j fun i hi => h i (by omega)
    have ht := textB_length (L j).name
    have hi := h j (by omega)
    rw [treeUp_succ, List.length_append, entB, List.length_append, List.length_append, hi]
    simp only [List.length_cons, List.length_nil]
    omega
theorem ent_inf : (Tryd.prog.info? 40).map (·.size) = some 34 := by kernel_rfl
theorem ent_is {e : Ent} (h : e.id.length = 32) : (Tryd.prog.info? 40).map (·.size) = some e.cells.length := by
  have : e.cells.length = 34 := by simp [Ent.cells, u8s_length, h]
  rw [this]
  exact ent_inf
theorem ent_one {e : Ent} : ∀ v ∈ e.cells.toArray.toList, v.oneCell' = true := by
  intro v hv
  simp only [Ent.cells, u8s, List.mem_cons, List.mem_map] at hv
  rcases hv with rfl | rfl | ⟨x, _, rfl⟩ <;> rfl
theorem less_below (a b : ByteArray) (w : World) : Calls Tryd.prog 18 #[.string a, .string b] w fun e w' => e = .returned (.bool (Op.bytesLess a.data.toList b.data.toList)) ∧ Below w.heap.size w w' :=
  (less_any a b w).mono fun e w' ⟨h1, h2⟩ => ⟨h1, h2 ▸ Below.refl _ _⟩
theorem part_below (s : ByteArray) (w : World) (hM : MaxAt w) (hs : s.size < 4294967281) : Calls Tryd.prog 15 #[.string s] w fun e w' => e = .returned (.bool (partB s.data.toList)) ∧ Below w.heap.size w w' :=
  (part_any s w hM hs).mono fun e w' ⟨h1, h2⟩ => ⟨h1, h2 ▸ Below.refl _ _⟩
set_option maxRecDepth 100000 in
set_option maxHeartbeats 4000000 in
theorem oftree_any (A : Option Addr) (n cap : Nat) (L : Nat → Ent) (w : World) (hM : MaxAt w) (hr : RowAt w A n 34 (fun j => (L j).cells)) (hid : ∀ j, j < n → (L j).id.length = 32) (hnm : ∀ j, j < n → (L j).name.size ≤ 4294967280) :
    Calls Tryd.prog 20 #[.slice A n cap] w (ObjO w (treeO L n)) := by
  obtain ⟨w0, hw0⟩ : ∃ w0, w0 = w.alloc (.cells (objC 0 (.slice none 0 0)) 43) := ⟨_, rfl⟩
  have K0 : Bx (w0.heap[w.heap.size]? = some (.cells (objC 0 (.slice none 0 0)) 43 (0, 0))) := ⟨by rw [hw0]; exact blk_new w _⟩
  have LIT : Bx (w.alloc (.cells #[.int .i64 0, .slice none 0 0] 43) = w0) := ⟨hw0.symm⟩
  have B0 : Bx (Below w.heap.size w w0) := ⟨by rw [hw0]; exact (Below.refl _ _).alloc (Nat.le_refl _) _⟩
  have SZ : Bx (w0.heap.size = w.heap.size + 1) := ⟨by rw [hw0]; simp⟩
  have HM := bx (hM.below B0.out); have HMW := bx hM; have HR := bx hr; have HID := bx hid; have HNM := bx hnm
  have HOUT : Bx (∀ (r : Int × List Int × Int) A c w', treeO L n = r → RdB w' A r.2.1.length r.2.1 → (A = none → c = 0) → r.2.1.length ≤ c → Below w.heap.size w w' → ObjO w (treeO L n) (.returned (.tuple #[.agg (objC r.1 (.slice A r.2.1.length c)), .int .i64 r.2.2])) w') := ⟨fun r A c w' hr h1 h2 h3 h4 => by subst hr; exact ⟨A, c, rfl, h1, h2, h3, h4⟩⟩
  clear hw0 hM hr hid hnm
  generalize ObjO w (treeO L n) = OUT at *
  by_cases hbig : 32 < n
  · have hbig' : (32 : Int) < n := by omega
    have HT : Bx (treeO L n = (0, [], 3)) := ⟨by rw [treeO, if_pos hbig]⟩
    go_enter Tryd.func20, Tryd.ntmps20
    go_upto_region 1 with fail
    rw [LIT.out]
    clear LIT
    go_wp2_with (first
      | ((with_reducible refine at_build 11 ?_); go_must (refine wpList_build2 rfl 43 [] rfl [] rfl (objC 0 (.slice none 0 0)) obj_built0 ?_))
      | ((with_reducible refine at_store (.tmp 2) (.tmp 11) ?_); go_must (refine store_all (cs := objC 0 (.slice none 0 0)) 43 (.tmp 2) (.tmp 11) rfl rfl rfl rfl K0.out (obj_is _ _ _ _) rfl (obj_one _ _ _ _) ?_; intro w9 hu9; have B9 := bx (B0.out.trans (hu9.below (Nat.le_refl _))); have R9 := bx hu9.same; clear hu9)))
    refine bodyPost_ret (results_ct (cs := objC 0 (.slice none 0 0)) rfl _ _ w.heap.size 43 _ _ rfl rfl R9.out Tryd.underlying43 rfl (obj_is _ _ _ _)) rfl ?_
    exact HOUT.out (0, [], 3) none 0 _ HT.out ⟨rfl, fun h => absurd h (by decide)⟩ (fun _ => rfl) (Nat.le_refl _) B9.out
  · have hbig' : ¬ (32 : Int) < n := by omega
    have hw1 : (n : Int) % 18446744073709551616 = n := by omega
    go_enter Tryd.func20, Tryd.ntmps20
    go_upto_region 1 with fail
    rw [LIT.out]
    clear LIT
    go_wp2_with fail
    refine (wput_any none 0 0 [] n 2 _ ⟨rfl, fun h => absurd h (by decide)⟩ (fun _ => rfl) (by decide) (by decide)).mono ?_
    rintro e w1 ⟨r, rfl, ho, hb⟩
    rw [List.nil_append] at ho
    have O1 := bx ho; have D1 := bx hb
    clear ho hb hbig'
    go_wp2_with fail
    clear hw1
    go_loopw [4, 18] (fun v i wr => ∃ j : Nat, j ≤ n ∧ i = .int .i64 j ∧ OwB wr (w.heap.size + 1) v (treeUp L n j) ∧ badUp L j = false ∧ Below w0.heap.size w0 wr) (fun _ i _ => (n - intOf i).toNat)
    case atStart => exact ⟨0, Nat.zero_le _, rfl, by rw [← SZ.out]; simpa [treeUp] using O1.out, rfl, D1.out⟩
    case round =>
      obtain ⟨j, hj, rfl, ho, hbad, hb⟩ := hrel
      clear O1 D1
      have O1 := bx ho; have D1 := bx hb; have HBAD := bx hbad
      have LN := bx (treeUp_length L n j fun i hi => HID.out i (by omega))
      clear ho hb hbad
      by_cases hlt : j < n
      · have hlt' : (j : Int) < n := by omega
        obtain ⟨b1, o1, rfl, hb1, hr1⟩ := HR.out.at hlt
        have HR1 := bx (fun w' h => hr1 w' h)
        have hidj := HID.out j hlt
        have hnmj := HNM.out j hlt
        have HPREV : Bx (∀ i, i + 1 = j → (L i).name.size ≤ 4294967280 ∧ ∀ w', Below w.heap.size w w' → w'.cell? ⟨b1, o1 + i * 34, none⟩ = some (.string (L i).name)) := ⟨fun i hi => by
          refine ⟨HNM.out i (by omega), fun w' h => ?_⟩
          obtain ⟨b9, o9, e9, _, hr9⟩ := HR.out.at (show i < n by omega)
          cases e9
          exact hr9 w' h 0 _ rfl⟩
        have HSUC := bx (treeUp_succ L n j)
        have HBS := bx (badUp_succ L j)
        have HBA := bx (fun h => badUp_at L hlt h)
        have hbat : badAt L j = (!partB (L j).name.data.toList || (decide (0 < j) && !Op.bytesLess (L (j - 1)).name.data.toList (L j).name.data.toList)) := rfl
        have HI : Bx ((Tryd.prog.info? 40).map (·.size) = some (L j).cells.length) := ⟨ent_is hidj⟩
        have HI2 : Bx ((Tryd.prog.info? 40).map (·.size) = some (L j).cells.toArray.size) := ⟨by rw [List.size_toArray]; exact HI.out⟩
        have HS : Bx ((L j).cells.toArray.size = 34) := ⟨by simp [Ent.cells, u8s_length, hidj]⟩
        have HO : Bx (∀ v ∈ (L j).cells.toArray.toList, v.oneCell' = true) := ⟨ent_one⟩
        have DW := bx (B0.out.trans (D1.out.mono B0.out.size))
        have HR2 := bx (HR1.out wr DW.out)
        have HCL : Bx ((L j).cells.toArray[0]? = some (.string (L j).name) ∧ (L j).cells.toArray[1]? = some (.bool (L j).dir) ∧ (L j).cells = [.string (L j).name, .bool (L j).dir] ++ u8s (L j).id) := ⟨⟨rfl, rfl, rfl⟩⟩
        have HEB : Bx (entB (L j) = [dirB (L j).dir] ++ textB (L j).name ++ (L j).id) := ⟨rfl⟩
        clear hr1
        generalize (L j).cells = cl at *
        generalize (L j).name = s at *
        generalize (L j).dir = d at *
        generalize (L j).id = id at *
        go_upto_region 7 with (first
          | ((with_reducible refine at_load 22 ?_); go_must (refine wpList_load_mid rfl 40 (.tmp 21) rfl b1 (o1 + j * 34) rfl cl _ HR2.out Tryd.underlying40 rfl HI.out ?_))
          | ((with_reducible refine at_store (.tmp 6) (.tmp 22) ?_); go_must (refine store_all (cs := cl.toArray) 40 (.tmp 6) (.tmp 22) rfl rfl rfl rfl (blk_new wr _) HI2.out (by rw [HS.out]; rfl) HO.out ?_; intro w2 hu2; have X2 := bx hu2.same; have D2 := bx (((Below.refl wr.heap.size wr).alloc (Nat.le_refl _) _).trans (hu2.below (Nat.le_refl _))); clear hu2)))
        have HX : Bx (∀ w', Below w2.heap.size w2 w' → w'.heap[wr.heap.size]? = some (.cells cl.toArray 40 (0, 0))) := ⟨fun w' h => (h.block _ (blk_lt X2.out)).trans X2.out⟩
        have DW2 := bx (DW.out.trans (D2.out.mono DW.out.size))
        have HM2 := bx (HMW.out.below DW2.out)
        obtain ⟨bad, hb0⟩ : ∃ bad, badAt L j = bad := ⟨_, rfl⟩
        rw [hb0] at hbat HBS HBA
        have HBAT := bx hbat
        clear hb0 hbat
        try simp only [Act.put]
        go_cut [42] from 19 to 56 (fun c wc => c = .bool bad ∧ Below w2.heap.size w2 wc)
        case first =>
          obtain ⟨p, hp⟩ : ∃ p, partB s.data.toList = p := ⟨_, rfl⟩
          have HPT : Bx (∀ w', Below w2.heap.size w2 w' → Calls Tryd.prog 15 #[.string s] w' fun e w'' => e = .returned (.bool p) ∧ Below w'.heap.size w' w'') := ⟨fun w' h => by
            have := part_below s w' (HM2.out.below h) (by omega)
            rw [hp] at this
            exact this⟩
          rw [hp] at HBAT
          cases p with
          | false =>
            have e1 := HBAT.out
            simp only [Bool.not_false, Bool.true_or] at e1
            subst e1
            clear hp HBAT
            try simp only [Act.put]
            refine region_quietC (fun w' => Below w2.heap.size w2 w') (by kernel_rfl) (by kernel_rfl) ((Below.refl _ _).drew) ?_
            repeat (first
              | go_big_quiet_skip
              | (go_big_quiet_want; go_big_quiet_op; go_big_quiet_on)
              | (refine quiet_take (v := ?_) _ rfl (by kernel_rfl) ?_ ?_; rotate_left 1; (focus (first | (intro w' hw'; clear hw'; unfold Oper.quietAt; go_simp; done) | (intro w' hw'; clear hw'; unfold Oper.quietAt; go_simp; with_reducible rfl) | (intro w' hw'; have z0 := blk_cell (HX.out w' hw') HCL.out.1; unfold Oper.quietAt; go_simp; first | done | with_reducible rfl | ((with_reducible refine (HPT.out w' hw').mono ?_); rintro x w9 ⟨rfl, hb⟩; refine ⟨?_, hw'.trans (hb.mono hw'.size)⟩; with_reducible rfl)))); try simp only [List.setIfInBounds_toArray, List.set_cons_zero, List.set_cons_succ]))
            refine wpQuiet_nil ?_
            intro w3 hw3
            have D3 := bx hw3
            clear hw3
            go_wp2_with fail
            go_meet
            case rel => exact ⟨rfl, D3.out⟩
          | true =>
            clear hp
            by_cases h0 : j = 0
            · have e1 := HBAT.out
              have h0' : ¬ (0 : Int) < j := by omega
              simp only [Bool.not_true, Bool.false_or, show ¬ 0 < j by omega, decide_false, Bool.false_and] at e1
              subst e1
              have hd0 : ¬ 0 < j := by omega
              have hd1 : decide (0 < j) = false := by simp; omega
              have hd2 : decide ((0 : Int) < (j : Int)) = false := by simp; omega
              clear h0 HBAT
              try simp only [Act.put]
              refine region_quietC (fun w' => Below w2.heap.size w2 w') (by kernel_rfl) (by kernel_rfl) ((Below.refl _ _).drew) ?_
              repeat (first
                | go_big_quiet_skip
                | (go_big_quiet_want; go_big_quiet_op; go_big_quiet_on)
                | (refine quiet_take (v := ?_) _ rfl (by kernel_rfl) ?_ ?_; rotate_left 1; (focus (first | (intro w' hw'; clear hw'; unfold Oper.quietAt; go_simp; done) | (intro w' hw'; clear hw'; unfold Oper.quietAt; go_simp; with_reducible rfl) | (intro w' hw'; have z0 := blk_cell (HX.out w' hw') HCL.out.1; unfold Oper.quietAt; go_simp; first | done | with_reducible rfl | ((with_reducible refine (HPT.out w' hw').mono ?_); rintro x w9 ⟨rfl, hb⟩; refine ⟨?_, hw'.trans (hb.mono hw'.size)⟩; with_reducible rfl)))); try simp only [List.setIfInBounds_toArray, List.set_cons_zero, List.set_cons_succ]))
              refine wpQuiet_nil ?_
              intro w3 hw3
              have D3 := bx hw3
              clear hw3
              go_wp2_with fail
              go_meet
              case rel => exact ⟨rfl, D3.out⟩
            · obtain ⟨i, hi⟩ : ∃ i, i + 1 = j := ⟨j - 1, by omega⟩
              obtain ⟨hpn, hpc⟩ := HPREV.out i hi
              have hji : j - 1 = i := by omega
              have h0' : (0 : Int) < j := by omega
              have hj1 : (j : Int) - 1 = i := by omega
              have hj2 : IntKind.i64.wrap (i : Int) = i := IntWalk.i64_in _ (by omega)
              have hin : (i : Int) < n := by omega
              have e1 := HBAT.out
              rw [hji] at e1
              simp only [Bool.not_true, Bool.false_or, show 0 < j by omega, decide_true, Bool.true_and] at e1
              generalize (L i).name = ps at hpc hpn e1
              obtain ⟨q, hq⟩ : ∃ q, Op.bytesLess ps.data.toList s.data.toList = q := ⟨_, rfl⟩
              have HLT : Bx (∀ w', Calls Tryd.prog 18 #[.string ps, .string s] w' fun e w'' => e = .returned (.bool q) ∧ Below w'.heap.size w' w'') := ⟨fun w' => by
                have := less_below ps s w'
                rw [hq] at this
                exact this⟩
              rw [hq] at e1
              subst e1
              have HPC := bx (fun w' h => hpc w' h)
              have hd0 : 0 < j := by omega
              have hd1 : decide (0 < j) = true := by simp; omega
              have hd2 : decide ((0 : Int) < (j : Int)) = true := by simp; omega
              clear hq h0 hpc hji hi HBAT
              try simp only [Act.put]
              refine region_quietC (fun w' => Below w2.heap.size w2 w') (by kernel_rfl) (by kernel_rfl) ((Below.refl _ _).drew) ?_
              repeat (first
                | go_big_quiet_skip
                | (go_big_quiet_want; go_big_quiet_op; go_big_quiet_on)
                | (refine quiet_take (v := ?_) _ rfl (by kernel_rfl) ?_ ?_; rotate_left 1; (focus (first | (intro w' hw'; clear hw'; unfold Oper.quietAt; go_simp; done) | (intro w' hw'; clear hw'; unfold Oper.quietAt; go_simp; with_reducible rfl) | (intro w' hw'; have z0 := blk_cell (HX.out w' hw') HCL.out.1; have z1 := HPC.out w' (DW2.out.trans (hw'.mono DW2.out.size)); unfold Oper.quietAt; go_simp; first | done | with_reducible rfl | ((with_reducible refine (HPT.out w' hw').mono ?_); rintro x w9 ⟨rfl, hb⟩; refine ⟨?_, hw'.trans (hb.mono hw'.size)⟩; with_reducible rfl) | ((with_reducible refine (HLT.out w').mono ?_); rintro x w9 ⟨rfl, hb⟩; refine ⟨?_, hw'.trans (hb.mono hw'.size)⟩; with_reducible rfl)))); try simp only [List.setIfInBounds_toArray, List.set_cons_zero, List.set_cons_succ]))
              refine wpQuiet_nil ?_
              intro w3 hw3
              have D3 := bx hw3
              clear hw3
              go_wp2_with fail
              go_meet
              case rel => exact ⟨rfl, D3.out⟩
        case rest =>
          rename World => w3
          obtain ⟨rfl, hwc⟩ := hcut
          have D3 := bx (D2.out.trans (hwc.mono D2.out.size))
          have X3 := bx (HX.out w3 hwc)
          have O3 := bx (O1.out.kept D3.out)
          have DW3 := bx (DW.out.trans (D3.out.mono DW.out.size))
          have K3 := bx (((D1.out.trans (D3.out.mono D1.out.size)).block _ (blk_lt K0.out)).trans K0.out)
          have DZ3 := bx (D1.out.trans (D3.out.mono D1.out.size))
          have HNE : Bx (some wr.heap.size ≠ u4.ownBlock) := ⟨fun e => Nat.lt_irrefl _ (O1.out.lt _ e.symm).2⟩
          have L1 := bx (Nat.le_trans (Nat.le_of_eq SZ.out.symm) D1.out.size)
          clear hwc HX O1 D1 D2 X2 DW2 HM2 HR2 HR1 HPREV
          cases bad with
          | true =>
            have HT : Bx (treeO L n = (0, [], 2)) := ⟨by rw [treeO, if_neg hbig, if_pos (HBA.out rfl)]⟩
            go_wp2_with (first
              | ((with_reducible refine at_build 43 ?_); go_must (refine wpList_build2 rfl 43 [] rfl [] rfl (objC 0 (.slice none 0 0)) obj_built0 ?_))
              | ((with_reducible refine at_store (.tmp 2) (.tmp 43) ?_); go_must (refine store_all (cs := objC 0 (.slice none 0 0)) 43 (.tmp 2) (.tmp 43) rfl rfl rfl rfl K3.out (obj_is _ _ _ _) rfl (obj_one _ _ _ _) ?_; intro w9 hu9; have B9 := bx (DW3.out.trans (hu9.below (Nat.le_refl _))); have R9 := bx hu9.same; clear hu9)))
            refine bodyPost_ret (results_ct (cs := objC 0 (.slice none 0 0)) rfl _ _ w.heap.size 43 _ _ rfl rfl R9.out Tryd.underlying43 rfl (obj_is _ _ _ _)) rfl ?_
            exact HOUT.out (0, [], 2) none 0 _ HT.out ⟨rfl, fun h => absurd h (by decide)⟩ (fun _ => rfl) (Nat.le_refl _) B9.out
          | false =>
            have y1 := blk_cell X3.out HCL.out.2.1
            go_upto_if 45 with fail
            clear y1
            go_cut [7] from 19 to 56 (fun c wx => c = .int .u8 (dirB d) ∧ Below w3.heap.size w3 wx)
            case first =>
              cases d
              all_goals
                go_wp2_with fail
                go_meet
                case rel => exact ⟨rfl, Below.refl _ _⟩
            case rest =>
              rename World => w4
              obtain ⟨rfl, hw4⟩ := hcut
              have X4 := bx ((hw4.block _ (blk_lt X3.out)).trans X3.out)
              have O4 := bx (O3.out.kept hw4)
              have DZ4 := bx (DZ3.out.trans (hw4.mono DZ3.out.size))
              have DW4 := bx (DW3.out.trans (hw4.mono DW3.out.size))
              have LX := bx (blk_lt X4.out)
              clear hw4 X3 O3 D3 DW3 K3
              have HRI : Bx (∀ w' : World, w'.heap[wr.heap.size]? = some (.cells cl.toArray 40 (0, 0)) → RdB w' (some ⟨wr.heap.size, 2, none⟩) 32 id) := ⟨fun w' hk => by
                have h9 := row_rdB (w := w') (b := wr.heap.size) (o := 0) (l := cl) (pre := [.string s, .bool d]) (id := id) (post := []) (fun q v hv => by rw [Nat.zero_add]; exact blk_cell hk (by simpa using hv)) (by rw [List.append_nil]; exact HCL.out.2.2) (blk_lt hk)
                rw [hidj] at h9
                exact h9⟩
              obtain ⟨n3, hn3⟩ : ∃ n3, (treeUp L n j ++ [dirB d]).length = n3 := ⟨_, rfl⟩
              have HN3 : Bx (n3 ≤ 1048575) := ⟨by rw [← hn3, List.length_append]; have := LN.out; simp; omega⟩
              have HL3 := bx hn3
              have HL0 : Bx ((treeUp L n j).length ≤ 1048575) := ⟨by have := LN.out; omega⟩
              have HL5 : Bx ((treeUp L n j ++ [dirB d] ++ textB s).length ≤ 2097152) := ⟨by rw [List.length_append, hn3]; have := textB_length s; have := HN3.out; omega⟩
              have HFIN : Bx (treeUp L n j ++ [dirB d] ++ textB s ++ id = treeUp L n (j + 1)) := ⟨by rw [HSUC.out, HEB.out]; simp [List.append_assoc]⟩
              have sl := arr_slice_all (P := Tryd.prog) (t := 32) Tryd.underlying32 Tryd.sizeOf5 wr.heap.size 2
              have HC : Bx (cl.toArray[0]? = some (.string s)) := ⟨HCL.out.1⟩
              clear hn3 HCL HI HI2 HS HO
              generalize treeUp L n j = T0 at *
              generalize dirB d = dv at *
              go_upto_region 12 with fail
              have hS0 : Below (w.heap.size + 1) w4 w4.drew ∧ w4.drew.heap[wr.heap.size]? = some (.cells cl.toArray 40 (0, 0)) := ⟨(Below.refl _ _).drew, X4.out⟩
              refine wp_region_held_drew (S := (fun w' => Below (w.heap.size + 1) w4 w' ∧ w'.heap[wr.heap.size]? = some (.cells cl.toArray 40 (0, 0)))) (by kernel_rfl) hS0 (fun hS => ?_)
              refine takeH (i := 0) (d := 46) (v := ?_) rfl rfl (by kernel_rfl) (by kernel_rfl) (by kernel_rfl) (fun _ _ _ h => h) (Or.inl ⟨by kernel_rfl, ?_⟩) hS ?_; rotate_left 1; (focus ((intro w' hS'; clear hS'; go_simp; try with_reducible rfl); done))
              try simp only [List.setIfInBounds_toArray, List.set_cons_zero, List.set_cons_succ]
              refine takeH (i := 1) (d := 47) (v := ?_) rfl rfl (by kernel_rfl) (by kernel_rfl) (by kernel_rfl) (fun _ _ _ h => h) (Or.inl ⟨by kernel_rfl, ?_⟩) hS ?_; rotate_left 1; (focus ((intro w' hS'; clear hS'; go_simp; try with_reducible rfl); done))
              try simp only [List.setIfInBounds_toArray, List.set_cons_zero, List.set_cons_succ]
              refine takeH (i := 4) (d := 50) (v := ?_) rfl rfl (by kernel_rfl) (by kernel_rfl) (by kernel_rfl) (fun _ _ _ h => h) (Or.inl ⟨by kernel_rfl, ?_⟩) hS ?_; rotate_left 1; (focus ((intro w' hS'; clear hS'; go_simp; try with_reducible rfl); done))
              try simp only [List.setIfInBounds_toArray, List.set_cons_zero, List.set_cons_succ]
              refine takeH (i := 5) (d := 51) (v := ?_) rfl rfl (by kernel_rfl) (by kernel_rfl) (by kernel_rfl) (fun _ _ _ h => h) (Or.inl ⟨by kernel_rfl, ?_⟩) hS ?_; rotate_left 1; (focus ((intro w' hS'; have z0 := blk_cell hS'.2 HC.out; clear hS'; go_simp; try with_reducible rfl); done))
              try simp only [List.setIfInBounds_toArray, List.set_cons_zero, List.set_cons_succ]
              refine takeH (i := 7) (d := 53) (v := ?_) rfl rfl (by kernel_rfl) (by kernel_rfl) (by kernel_rfl) (fun _ _ _ h => h) (Or.inl ⟨by kernel_rfl, ?_⟩) hS ?_; rotate_left 1; (focus ((intro w' hS'; clear hS'; go_simp; try with_reducible rfl); done))
              try simp only [List.setIfInBounds_toArray, List.set_cons_zero, List.set_cons_succ]
              refine takeH (i := 8) (d := 54) (v := ?_) rfl rfl (by kernel_rfl) (by kernel_rfl) (by kernel_rfl) (fun _ _ _ h => h) (Or.inl ⟨by kernel_rfl, ?_⟩) hS ?_; rotate_left 1; (focus ((intro w' hS'; clear hS'; go_simp; try with_reducible rfl); done))
              try simp only [List.setIfInBounds_toArray, List.set_cons_zero, List.set_cons_succ]
              refine wpAnyH_ready (rs := [2]) (by kernel_rfl) (by simp) ?_
              refine AllReadyH.cons rfl (fun K hK => ?_) AllReadyH.nil
              go_simp
              refine hK.out _ _ ?_ (fun hS2 => ?_)
              · exact ⟨hS.1.alloc (Nat.le_trans L1.out (Nat.le_of_lt LX.out)) _, blk_alloc hS.2⟩
              clear hK K hS; have hS := hS2; clear hS2
              try simp only [Act.put, List.setIfInBounds_toArray, List.set_cons_zero, List.set_cons_succ]
              refine wpAnyH_ready (rs := [3]) (by kernel_rfl) (by simp) ?_
              refine readyH_list rfl (fun K hK => ?_) AllReadyH.nil
              refine wpList_app rfl (.tmp 46) (.tmp 48) rfl (w.heap.size + 1) u4 T0 rfl ((O4.out.kept ((Below.refl _ _).drew)).alloc _) (some ⟨_, 0, none⟩) 1 1 [dv] rfl (rdB_one _ _ _ rfl) (fun h => by cases h) (by have := HL0.out; omega) (Nat.le_trans L1.out (Nat.le_trans (Nat.le_of_lt LX.out) (by simp))) ?_
              intro v5 w5 h1 h2
              obtain ⟨A5, c5, rfl, hr5, hc5, hn5⟩ := h1.rdn HL3.out
              have R5 := bx hr5; have N5 := bx hn5
              have D5 := bx (((O4.out.kept ((Below.refl _ _).drew)).alloc _).below h2 hS.1 (Nat.le_refl _) (Nat.le_trans L1.out (Nat.le_trans (Nat.le_of_lt LX.out) (by simp))))
              have X5 := bx ((h2.block wr.heap.size (blk_lt hS.2) HNE.out).trans hS.2)
              clear h1 h2 hr5 hc5 hn5
              show wpList _ _ K [] (Act.put _ (some 49) (.slice A5 n3 c5)) w5
              refine hK.out _ _ ?_ (fun hS2 => ?_)
              · exact ⟨D5.out, X5.out⟩
              clear hK K hS; have hS := hS2; clear hS2
              try simp only [Act.put, List.setIfInBounds_toArray, List.set_cons_zero, List.set_cons_succ]
              refine wpAnyH_ready (rs := [6]) (by kernel_rfl) (by simp) ?_
              refine AllReadyH.cons rfl (fun K hK => ?_) AllReadyH.nil
              go_simp
              refine (text_any A5 n3 c5 _ s _ R5.out N5.out (by have := HN3.out; omega)).mono ?_
              rintro x w6 ⟨r6, rfl, ho6, hb6⟩
              have O6 := bx (ho6.base_le (Nat.le_trans L1.out (Nat.le_of_lt (blk_lt X5.out))))
              have D6 := bx (D5.out.trans (hb6.mono (Nat.le_trans L1.out (Nat.le_of_lt (blk_lt X5.out)))))
              have X6 := bx ((hb6.block _ (blk_lt X5.out)).trans X5.out)
              have HNE6 := bx (show some wr.heap.size ≠ r6.ownBlock from fun e => Nat.lt_irrefl _ (Nat.lt_of_lt_of_le (blk_lt X5.out) (ho6.lt _ e.symm).1))
              clear ho6 hb6
              refine hK.out _ _ ?_ (fun hS2 => ?_)
              · exact ⟨D6.out, X6.out⟩
              clear hK K hS; have hS := hS2; clear hS2
              try simp only [Act.put, List.setIfInBounds_toArray, List.set_cons_zero, List.set_cons_succ]
              refine wpAnyH_ready (rs := [9]) (by kernel_rfl) (by simp) ?_
              refine readyH_list rfl (fun K hK => ?_) AllReadyH.nil
              refine wpList_app rfl (.tmp 52) (.tmp 54) rfl (w.heap.size + 1) r6 _ rfl O6.out (some ⟨wr.heap.size, 2, none⟩) 32 32 id rfl (HRI.out _ X6.out) (fun h => by cases h) (by have := HL5.out; omega) (Nat.le_trans L1.out (Nat.le_of_lt (blk_lt X6.out))) ?_
              intro v7 w7 h1 h2
              rw [HFIN.out] at h1
              have O7 := bx h1
              have D7 := bx (O6.out.below h2 D6.out (Nat.le_refl _) (Nat.le_trans L1.out (Nat.le_of_lt (blk_lt X6.out))))
              have X7 := bx ((h2.block wr.heap.size (blk_lt X6.out) HNE6.out).trans X6.out)
              clear h1 h2
              show wpList _ _ K [] (Act.put _ (some 55) v7) w7
              refine hK.out _ _ ?_ (fun hS2 => ?_)
              · exact ⟨D7.out, X7.out⟩
              clear hK K hS; have hS := hS2; clear hS2
              try simp only [Act.put, List.setIfInBounds_toArray, List.set_cons_zero, List.set_cons_succ]
              refine takeH (i := 10) (d := 4) (v := ?_) rfl rfl (by kernel_rfl) (by kernel_rfl) (by kernel_rfl) (fun _ _ _ h => h) (Or.inl ⟨by kernel_rfl, ?_⟩) hS ?_; rotate_left 1; (focus ((intro w' hS'; clear hS'; go_simp; try with_reducible rfl); done))
              try simp only [List.setIfInBounds_toArray, List.set_cons_zero, List.set_cons_succ]
              refine wpAnyH_done (by kernel_rfl) ?_ _
              go_wp2_with fail
              go_roundw
              case rel => exact ⟨j + 1, by omega, by first | rfl | go_num, O7.out, by rw [HBS.out, HBAD.out]; rfl, DZ4.out.trans (by rw [SZ.out]; exact D7.out)⟩
              case measure => simp only [intOf]; omega
      · have hlt' : ¬ (j : Int) < n := by omega
        obtain rfl : j = n := by omega
        obtain ⟨m, hm⟩ : ∃ m, (treeUp L j j).length = m := ⟨_, rfl⟩
        obtain ⟨A2, c2, rfl, hr2, hc2, hn2⟩ := O1.out.rdn hm
        have HML := bx hm
        clear hr2 hm
        go_wp2_with fail
        by_cases hf : m ≤ 16384
        · have HT : Bx (treeO L j = (2, treeUp L j j, 0)) := ⟨by rw [treeO, if_neg hbig, if_neg (by rw [HBAD.out]; decide), fitO, if_neg (by rw [HML.out]; omega)]⟩
          refine (fit_ok 2 A2 m c2 _ hf).mono ?_
          rintro e w2 ⟨rfl, hb⟩
          have O2 := bx (O1.out.kept hb); have D2 := bx (D1.out.trans (hb.mono D1.out.size))
          have K2 := bx ((D2.out.block _ (blk_lt K0.out)).trans K0.out)
          have N2 := bx hn2; have C2 := bx hc2
          clear hb hn2 hc2
          go_wp2_with (first
            | ((with_reducible refine at_store (.tmp 2) (.tmp 59) ?_); go_must (refine store_all (cs := objC 2 (.slice A2 m c2)) 43 (.tmp 2) (.tmp 59) rfl rfl rfl rfl K2.out (obj_is _ _ _ _) rfl (obj_one _ _ _ _) ?_; intro w9 hu9; have O9 := bx (O2.out.upd hu9 (Nat.lt_succ_self _)); have B9 := bx (B0.out.trans ((D2.out.mono B0.out.size).trans (hu9.below (Nat.le_refl _)))); have R9 := bx hu9.same; clear hu9)))
          refine bodyPost_ret (results_ct (cs := objC 2 (.slice A2 m c2)) rfl _ _ w.heap.size 43 _ _ rfl rfl R9.out Tryd.underlying43 rfl (obj_is _ _ _ _)) rfl ?_
          have hm := HML.out
          subst hm
          obtain ⟨A9, c9, e9, hr9, _⟩ := O9.out.rdn rfl
          simp only [Value.slice.injEq, true_and] at e9
          obtain ⟨rfl, rfl⟩ := e9
          exact HOUT.out (2, treeUp L j j, 0) A2 c2 _ HT.out hr9 N2.out C2.out B9.out
        · have HT : Bx (treeO L j = (0, [], 3)) := ⟨by rw [treeO, if_neg hbig, if_neg (by rw [HBAD.out]; decide), fitO, if_pos (by rw [HML.out]; omega)]⟩
          refine (fit_big 2 A2 m c2 _ (by omega)).mono ?_
          rintro e w2 ⟨rfl, hb⟩
          have D2 := bx (D1.out.trans (hb.mono D1.out.size))
          have K2 := bx ((D2.out.block _ (blk_lt K0.out)).trans K0.out)
          clear hb hn2 hc2
          go_wp2_with (first
            | ((with_reducible refine at_store (.tmp 2) (.tmp 59) ?_); go_must (refine store_all (cs := objC 0 (.slice none 0 0)) 43 (.tmp 2) (.tmp 59) rfl rfl rfl rfl K2.out (obj_is _ _ _ _) rfl (obj_one _ _ _ _) ?_; intro w9 hu9; have B9 := bx (B0.out.trans ((D2.out.mono B0.out.size).trans (hu9.below (Nat.le_refl _)))); have R9 := bx hu9.same; clear hu9)))
          refine bodyPost_ret (results_ct (cs := objC 0 (.slice none 0 0)) rfl _ _ w.heap.size 43 _ _ rfl rfl R9.out Tryd.underlying43 rfl (obj_is _ _ _ _)) rfl ?_
          exact HOUT.out (0, [], 3) none 0 _ HT.out ⟨rfl, fun h => absurd h (by decide)⟩ (fun _ => rfl) (Nat.le_refl _) B9.out
end Go.Proofs.YthnommoljikaiaaDoor
