/- Objects: the document's OfTree. -/
import Derived.Test.YthnommoljikaiaaDoorObj6
set_option linter.unusedSimpArgs false
set_option linter.unusedVariables false
namespace Go.Proofs.YthnommoljikaiaaDoor
open Go.RowKit

def Ent.rcells (e : Ent) : List Value := [.string e.name, .bool e.dir, .string (strOfNums e.id)]
theorem be_one {c : Int} (h0 : 0 ≤ c) (h1 : c ≤ 255) : be c 1 = [c] := by
  have : c % 256 = c := by omega
  simp [be, this]
theorem rless_below (a b : ByteArray) (w : World) (ha : a.size ≤ 4294967281) (hb : b.size ≤ 4294967281) : Calls Tryd.prog 19 #[.string a, .string b] w fun e w' => e = .returned (.bool (Op.bytesLess a.data.toList b.data.toList)) ∧ Below w.heap.size w w' := rless_any a b w ha hb
theorem rpart_below (s : ByteArray) (w : World) : Calls Tryd.prog 16 #[.string s] w fun e w' => e = .returned (.bool (partB s.data.toList)) ∧ Below w.heap.size w w' :=
  (rpart_any s w).mono fun e w' ⟨h1, h2⟩ => ⟨h1, h2 ▸ Below.refl _ _⟩
set_option maxRecDepth 100000 in
set_option maxHeartbeats 4000000 in
theorem rtree_any (A : Option Addr) (n cap : Nat) (L : Nat → Ent) (w : World) (hr : RowAt w A n 3 (fun j => (L j).rcells)) (hid : ∀ j, j < n → (L j).id.length = 32) (hnm : ∀ j, j < n → (L j).name.size ≤ 4294967280) :
    Calls Tryd.prog 21 #[.slice A n cap] w (RObj w (treeO L n)) := by
  obtain ⟨w0, hw0⟩ : ∃ w0, w0 = w.alloc (.cells (robjC 0 ⟨#[]⟩) 48) := ⟨_, rfl⟩
  have K0 : Bx (w0.heap[w.heap.size]? = some (.cells (robjC 0 ⟨#[]⟩) 48 (0, 0))) := ⟨by rw [hw0]; exact blk_new w _⟩
  have LIT : Bx (w.alloc (.cells #[.int .i64 0, .string ⟨#[]⟩] 48) = w0) := ⟨hw0.symm⟩
  have B0 : Bx (Below w.heap.size w w0) := ⟨by rw [hw0]; exact (Below.refl _ _).alloc (Nat.le_refl _) _⟩
  have HR := bx hr; have HID := bx hid; have HNM := bx hnm
  have RO : Bx (∀ r w', treeO L n = r → Below w.heap.size w w' → RObj w (treeO L n) (.returned (.tuple #[.agg (robjC r.1 (strOfNums r.2.1)), .int .i64 r.2.2])) w') := ⟨fun r w' h1 h2 => by subst h1; exact ⟨rfl, h2⟩⟩
  generalize RObj w (treeO L n) = OUT at *
  clear hw0 hr hid hnm
  by_cases hbig : 32 < n
  · have hbig' : (32 : Int) < n := by omega
    have HT : Bx (treeO L n = (0, [], 3)) := ⟨by rw [treeO, if_pos hbig]⟩
    go_enter Tryd.func21, Tryd.ntmps21
    go_upto_region 1 with fail
    rw [LIT.out]
    clear LIT
    go_wp2_with (first
      | ((with_reducible refine at_build 10 ?_); go_must (refine wpList_build2 rfl 48 [] rfl [] rfl (robjC 0 ⟨#[]⟩) robj_built0 ?_))
      | ((with_reducible refine at_store (.tmp 2) (.tmp 10) ?_); go_must (refine store_all (cs := robjC 0 ⟨#[]⟩) 48 (.tmp 2) (.tmp 10) rfl rfl rfl rfl K0.out (robj_is _ _) rfl (robj_one _ _) ?_; intro w9 hu9; have B9 := bx (B0.out.trans (hu9.below (Nat.le_refl _))); have R9 := bx hu9.same; clear hu9)))
    refine bodyPost_ret (results_ct (cs := robjC 0 ⟨#[]⟩) rfl _ _ w.heap.size 48 _ _ rfl rfl R9.out Tryd.underlying48 rfl (robj_is _ _)) rfl ?_
    exact RO.out (0, [], 3) _ HT.out B9.out
  · have hbig' : ¬ (32 : Int) < n := by omega
    have hw1 : (n : Int) % 18446744073709551616 = n := by omega
    have HP0 : Bx (∀ w', Calls Tryd.prog 53 #[.string ⟨#[]⟩, .int .u64 n, .int .i64 2] w' fun e w'' => e = .returned (.string (strOfNums (be n 2))) ∧ Below w'.heap.size w' w'') := ⟨fun w' => rput_any [] n 2 (by decide) (by decide) (by omega) (by omega) (by decide) w'⟩
    generalize hs0 : strOfNums (be n 2) = s0 at *
    have HS0 := bx hs0
    clear hs0
    go_enter Tryd.func21, Tryd.ntmps21
    go_upto_region 1 with fail
    rw [LIT.out]
    clear LIT
    go_wp2_with fail
    refine (HP0.out _).mono ?_
    rintro e w1 ⟨rfl, hb⟩
    have D1 := bx hb
    clear hb hbig' hw1 HP0
    go_wp2_with fail
    go_loopw [4, 5] (fun v i wr => ∃ j : Nat, j ≤ n ∧ i = .int .i64 j ∧ v = .string (strOfNums (treeUp L n j)) ∧ badUp L j = false ∧ Below w0.heap.size w0 wr) (fun _ i _ => (n - intOf i).toNat)
    case atStart => exact ⟨0, Nat.zero_le _, rfl, by rw [← HS0.out]; simp [treeUp], rfl, D1.out⟩
    case round =>
      obtain ⟨j, hj, rfl, rfl, hbad, hb⟩ := hrel
      clear D1
      have D1 := bx hb; have HBAD := bx hbad
      have LN := bx (treeUp_length L n j fun i hi => HID.out i (by omega))
      have DW := bx (B0.out.trans (D1.out.mono B0.out.size))
      have K1 := bx ((D1.out.block _ (blk_lt K0.out)).trans K0.out)
      clear hb hbad
      obtain ⟨sT, hsT⟩ : ∃ sT, strOfNums (treeUp L n j) = sT := ⟨_, rfl⟩
      have HST := bx hsT
      rw [hsT]
      clear hsT
      by_cases hlt : j < n
      · have hlt' : (j : Int) < n := by omega
        obtain ⟨b1, o1, rfl, hb1, hr1⟩ := HR.out.at hlt
        have hidj := HID.out j hlt
        have hnmj := HNM.out j hlt
        have HC : Bx (∀ w', Below wr.heap.size wr w' → w'.cell? ⟨b1, o1 + j * 3, none⟩ = some (.string (L j).name) ∧ w'.cell? ⟨b1, o1 + j * 3 + 1, none⟩ = some (.bool (L j).dir) ∧ w'.cell? ⟨b1, o1 + j * 3 + 2, none⟩ = some (.string (strOfNums (L j).id))) := ⟨fun w' h => by
          have hg := hr1 w' (DW.out.trans (h.mono DW.out.size))
          exact ⟨hg 0 _ rfl, hg 1 _ rfl, hg 2 _ rfl⟩⟩
        have HPREV : Bx (∀ i, i + 1 = j → (L i).name.size ≤ 4294967280 ∧ ∀ w', Below wr.heap.size wr w' → w'.cell? ⟨b1, o1 + i * 3, none⟩ = some (.string (L i).name)) := ⟨fun i hi => by
          refine ⟨HNM.out i (by omega), fun w' h => ?_⟩
          obtain ⟨b9, o9, e9, _, hr9⟩ := HR.out.at (show i < n by omega)
          cases e9
          exact hr9 w' (DW.out.trans (h.mono DW.out.size)) 0 _ rfl⟩
        have HSUC := bx (treeUp_succ L n j)
        have HBS := bx (badUp_succ L j)
        have HBA := bx (fun h => badUp_at L hlt h)
        have hbat : badAt L j = (!partB (L j).name.data.toList || (decide (0 < j) && !Op.bytesLess (L (j - 1)).name.data.toList (L j).name.data.toList)) := rfl
        have HEB : Bx (entB (L j) = [dirB (L j).dir] ++ textB (L j).name ++ (L j).id) := ⟨rfl⟩
        clear hr1
        generalize (L j).name = s at *
        generalize (L j).dir = d at *
        generalize (L j).id = id at *
        obtain ⟨bad, hb0⟩ : ∃ bad, badAt L j = bad := ⟨_, rfl⟩
        rw [hb0] at hbat HBS HBA
        have HBAT := bx hbat
        have HPART : Bx (bad = false → s.size ≤ 64) := ⟨fun h => by
          refine part_short ?_
          have e := HBAT.out
          rw [h] at e
          cases hp : partB s.data.toList with
          | true => rfl
          | false => rw [hp] at e; simp at e⟩
        have hsid : (strOfNums id).size = 32 := by rw [strLen, hidj]
        have HIDL := bx hidj
        obtain ⟨sI, hsI⟩ : ∃ sI, strOfNums id = sI := ⟨_, rfl⟩
        have HSI := bx hsI
        rw [hsI] at HC hsid
        have HSID := bx hsid
        clear hb0 hbat hidj hsI hsid
        go_upto_region 7 with fail
        go_cut [46] from 15 to 67 (fun c wc => c = .bool bad ∧ Below wr.heap.size wr wc)
        case first =>
          obtain ⟨p, hp⟩ : ∃ p, partB s.data.toList = p := ⟨_, rfl⟩
          have HPT : Bx (∀ w', Calls Tryd.prog 16 #[.string s] w' fun e w'' => e = .returned (.bool p) ∧ Below w'.heap.size w' w'') := ⟨fun w' => by
            have := rpart_below s w'
            rw [hp] at this
            exact this⟩
          rw [hp] at HBAT
          cases p with
          | false =>
            have e1 := HBAT.out
            simp only [Bool.not_false, Bool.true_or] at e1
            subst e1
            clear hp HBAT
            try simp only [Act.put]
            refine region_quietC (fun w' => Below wr.heap.size wr w') (by kernel_rfl) (by kernel_rfl) ((Below.refl _ _).drew) ?_
            repeat (first
              | go_big_quiet_skip
              | (go_big_quiet_want; go_big_quiet_op; go_big_quiet_on)
              | (refine quiet_take (v := ?_) _ rfl (by kernel_rfl) ?_ ?_; rotate_left 1; (focus (first | (intro w' hw'; clear hw'; unfold Oper.quietAt; go_simp; done) | (intro w' hw'; clear hw'; unfold Oper.quietAt; go_simp; with_reducible rfl) | (intro w' hw'; obtain ⟨z0, _, _⟩ := HC.out w' hw'; unfold Oper.quietAt; go_simp; first | done | with_reducible rfl | ((with_reducible refine (HPT.out w').mono ?_); rintro x w9 ⟨rfl, hb⟩; refine ⟨?_, hw'.trans (hb.mono hw'.size)⟩; with_reducible rfl)))); try simp only [List.setIfInBounds_toArray, List.set_cons_zero, List.set_cons_succ]))
            refine wpQuiet_nil ?_
            intro w3 hw3
            have D3 := bx hw3
            clear hw3
            go_wp2_with fail
            go_meet
            case rel => exact ⟨rfl, D3.out⟩
          | true =>
            clear hp
            by_cases h0 : j = 0
            · have e1 := HBAT.out
              have h0' : ¬ (0 : Int) < j := by omega
              simp only [Bool.not_true, Bool.false_or, show ¬ 0 < j by omega, decide_false, Bool.false_and] at e1
              subst e1
              have hd0 : ¬ 0 < j := by omega
              have hd1 : decide (0 < j) = false := by simp; omega
              have hd2 : decide ((0 : Int) < (j : Int)) = false := by simp; omega
              clear h0 HBAT
              try simp only [Act.put]
              refine region_quietC (fun w' => Below wr.heap.size wr w') (by kernel_rfl) (by kernel_rfl) ((Below.refl _ _).drew) ?_
              repeat (first
                | go_big_quiet_skip
                | (go_big_quiet_want; go_big_quiet_op; go_big_quiet_on)
                | (refine quiet_take (v := ?_) _ rfl (by kernel_rfl) ?_ ?_; rotate_left 1; (focus (first | (intro w' hw'; clear hw'; unfold Oper.quietAt; go_simp; done) | (intro w' hw'; clear hw'; unfold Oper.quietAt; go_simp; with_reducible rfl) | (intro w' hw'; obtain ⟨z0, _, _⟩ := HC.out w' hw'; unfold Oper.quietAt; go_simp; first | done | with_reducible rfl | ((with_reducible refine (HPT.out w').mono ?_); rintro x w9 ⟨rfl, hb⟩; refine ⟨?_, hw'.trans (hb.mono hw'.size)⟩; with_reducible rfl)))); try simp only [List.setIfInBounds_toArray, List.set_cons_zero, List.set_cons_succ]))
              refine wpQuiet_nil ?_
              intro w3 hw3
              have D3 := bx hw3
              clear hw3
              go_wp2_with fail
              go_meet
              case rel => exact ⟨rfl, D3.out⟩
            · obtain ⟨i, hi⟩ : ∃ i, i + 1 = j := ⟨j - 1, by omega⟩
              obtain ⟨hpn, hpc⟩ := HPREV.out i hi
              have hji : j - 1 = i := by omega
              have h0' : (0 : Int) < j := by omega
              have hj1 : (j : Int) - 1 = i := by omega
              have hj2 : IntKind.i64.wrap (i : Int) = i := IntWalk.i64_in _ (by omega)
              have hin : (i : Int) < n := by omega
              have e1 := HBAT.out
              rw [hji] at e1
              simp only [Bool.not_true, Bool.false_or, show 0 < j by omega, decide_true, Bool.true_and] at e1
              generalize (L i).name = ps at hpc hpn e1
              obtain ⟨q, hq⟩ : ∃ q, Op.bytesLess ps.data.toList s.data.toList = q := ⟨_, rfl⟩
              have HLT : Bx (∀ w', Calls Tryd.prog 19 #[.string ps, .string s] w' fun e w'' => e = .returned (.bool q) ∧ Below w'.heap.size w' w'') := ⟨fun w' => by
                have := rless_below ps s w' (by omega) (by omega)
                rw [hq] at this
                exact this⟩
              rw [hq] at e1
              subst e1
              have HPC := bx (fun w' h => hpc w' h)
              have hd0 : 0 < j := by omega
              have hd1 : decide (0 < j) = true := by simp; omega
              have hd2 : decide ((0 : Int) < (j : Int)) = true := by simp; omega
              clear hq h0 hpc hji hi HBAT
              try simp only [Act.put]
              refine region_quietC (fun w' => Below wr.heap.size wr w') (by kernel_rfl) (by kernel_rfl) ((Below.refl _ _).drew) ?_
              repeat (first
                | go_big_quiet_skip
                | (go_big_quiet_want; go_big_quiet_op; go_big_quiet_on)
                | (refine quiet_take (v := ?_) _ rfl (by kernel_rfl) ?_ ?_; rotate_left 1; (focus (first | (intro w' hw'; clear hw'; unfold Oper.quietAt; go_simp; done) | (intro w' hw'; clear hw'; unfold Oper.quietAt; go_simp; with_reducible rfl) | (intro w' hw'; obtain ⟨z0, _, _⟩ := HC.out w' hw'; have z1 := HPC.out w' hw'; unfold Oper.quietAt; go_simp; first | done | with_reducible rfl | ((with_reducible refine (HPT.out w').mono ?_); rintro x w9 ⟨rfl, hb⟩; refine ⟨?_, hw'.trans (hb.mono hw'.size)⟩; with_reducible rfl) | ((with_reducible refine (HLT.out w').mono ?_); rintro x w9 ⟨rfl, hb⟩; refine ⟨?_, hw'.trans (hb.mono hw'.size)⟩; with_reducible rfl)))); try simp only [List.setIfInBounds_toArray, List.set_cons_zero, List.set_cons_succ]))
              refine wpQuiet_nil ?_
              intro w3 hw3
              have D3 := bx hw3
              clear hw3
              go_wp2_with fail
              go_meet
              case rel => exact ⟨rfl, D3.out⟩
        case rest =>
          rename World => w3
          obtain ⟨rfl, hwc⟩ := hcut
          have E3 := bx hwc
          have D3 := bx (D1.out.trans (hwc.mono D1.out.size))
          have K3 := bx ((hwc.block _ (blk_lt K1.out)).trans K1.out)
          clear hwc HPREV
          cases bad with
          | true =>
            have HT : Bx (treeO L n = (0, [], 2)) := ⟨by rw [treeO, if_neg hbig, if_pos (HBA.out rfl)]⟩
            go_wp2_with (first
              | ((with_reducible refine at_build 47 ?_); go_must (refine wpList_build2 rfl 48 [] rfl [] rfl (robjC 0 ⟨#[]⟩) robj_built0 ?_))
              | ((with_reducible refine at_store (.tmp 2) (.tmp 47) ?_); go_must (refine store_all (cs := robjC 0 ⟨#[]⟩) 48 (.tmp 2) (.tmp 47) rfl rfl rfl rfl K3.out (robj_is _ _) rfl (robj_one _ _) ?_; intro w9 hu9; have B9 := bx (B0.out.trans ((D3.out.mono B0.out.size).trans (hu9.below (Nat.le_refl _)))); have R9 := bx hu9.same; clear hu9)))
            refine bodyPost_ret (results_ct (cs := robjC 0 ⟨#[]⟩) rfl _ _ w.heap.size 48 _ _ rfl rfl R9.out Tryd.underlying48 rfl (robj_is _ _)) rfl ?_
            exact RO.out (0, [], 2) _ HT.out B9.out
          | false =>
            have hs64 := HPART.out rfl
            obtain ⟨_, y1, _⟩ := HC.out w3 E3.out
            go_upto_if 52 with fail
            clear y1
            go_cut [6] from 15 to 67 (fun c wx => c = .int .u64 (dirB d) ∧ Below w3.heap.size w3 wx)
            case first =>
              cases d
              all_goals
                go_wp2_with fail
                go_meet
                case rel => exact ⟨rfl, Below.refl _ _⟩
            case rest =>
              rename World => w4
              obtain ⟨rfl, hw4⟩ := hcut
              have E4 := bx (E3.out.trans (hw4.mono E3.out.size))
              have D4 := bx (D3.out.trans (hw4.mono D3.out.size))
              clear hw4 E3 D3 K3
              have hdv : 0 ≤ dirB d ∧ dirB d ≤ 255 := by cases d <;> decide
              have HFIN : Bx (treeUp L n j ++ [dirB d] ++ be s.size 4 ++ bytesOf s ++ id = treeUp L n (j + 1)) := ⟨by rw [HSUC.out, HEB.out, textB_short (by omega)]; simp [List.append_assoc]⟩
              have HQ1 : Bx (∀ w', Calls Tryd.prog 53 #[.string sT, .int .u64 (dirB d), .int .i64 1] w' fun e w'' => e = .returned (.string (strOfNums (treeUp L n j ++ [dirB d]))) ∧ Below w'.heap.size w' w'') := ⟨fun w' => by
                have := rput_any (treeUp L n j) (dirB d) 1 (by decide) (by decide) hdv.1 (by omega) (by have := LN.out; omega) w'
                rw [be_one hdv.1 hdv.2, HST.out] at this
                exact this⟩
              have HQ2 : Bx (∀ w', Calls Tryd.prog 54 #[.string (strOfNums (treeUp L n j ++ [dirB d])), .string s] w' fun e w'' => e = .returned (.string (strOfNums (treeUp L n j ++ [dirB d] ++ be s.size 4 ++ bytesOf s))) ∧ Below w'.heap.size w' w'') := ⟨fun w' => by
                have := rsized_any (treeUp L n j ++ [dirB d]) (bytesOf s) (by have := LN.out; simp; omega) (by rw [bytesOf_length]; omega) w'
                rw [str_bytes, bytesOf_length] at this
                exact this⟩
              have hz1 : (strOfNums (treeUp L n j ++ [dirB d] ++ be s.size 4 ++ bytesOf s)).size ≤ 1048576 := by
                rw [strLen]
                simp only [List.length_append, be_length, bytesOf_length, List.length_cons, List.length_nil]
                have := LN.out
                omega
              have hz2 := HSID.out
              have HADD : Bx (strOfNums (treeUp L n j ++ [dirB d] ++ be s.size 4 ++ bytesOf s) ++ sI = strOfNums (treeUp L n (j + 1))) := ⟨by rw [← HSI.out, ← strApp, HFIN.out]⟩
              have hadd := HADD.out
              generalize strOfNums (treeUp L n j ++ [dirB d] ++ be s.size 4 ++ bytesOf s) = q2 at *
              generalize strOfNums (treeUp L n j ++ [dirB d]) = q1 at *
              generalize dirB d = dv at *
              have hz3 : ¬ 9223372036854775807 < q2.size + 32 := by omega
              have hz4 : ¬ 9223372036854775807 < q2.size + sI.size := by omega
              go_upto_region 12 with fail
              try simp only [Act.put]
              refine region_quietC (fun w' => Below w4.heap.size w4 w') (by kernel_rfl) (by kernel_rfl) ((Below.refl _ _).drew) ?_
              repeat (first
                | go_big_quiet_skip
                | (go_big_quiet_want; go_big_quiet_op; go_big_quiet_on)
                | (refine quiet_take (v := ?_) _ rfl (by kernel_rfl) ?_ ?_; rotate_left 1; (focus (first | (intro w' hw'; clear hw'; unfold Oper.quietAt; go_simp; done) | (intro w' hw'; clear hw'; unfold Oper.quietAt; go_simp; with_reducible rfl) | (intro w' hw'; obtain ⟨z0, _, z2⟩ := HC.out w' (E4.out.trans (hw'.mono E4.out.size)); unfold Oper.quietAt; go_simp; first | done | with_reducible rfl | ((with_reducible refine (HQ1.out w').mono ?_); rintro x w9 ⟨rfl, hb⟩; refine ⟨?_, hw'.trans (hb.mono hw'.size)⟩; with_reducible rfl) | ((with_reducible refine (HQ2.out w').mono ?_); rintro x w9 ⟨rfl, hb⟩; refine ⟨?_, hw'.trans (hb.mono hw'.size)⟩; with_reducible rfl)))); try simp only [List.setIfInBounds_toArray, List.set_cons_zero, List.set_cons_succ]))
              refine wpQuiet_nil ?_
              intro w5 hw5
              have D5 := bx (D4.out.trans (hw5.mono D4.out.size))
              clear hw5
              go_wp2_with fail
              go_roundw
              case rel => exact ⟨j + 1, by omega, by first | rfl | go_num, by first | rfl | rw [HADD.out], by rw [HBS.out, HBAD.out]; rfl, D5.out⟩
              case measure => simp only [intOf]; omega
      · have hlt' : ¬ (j : Int) < n := by omega
        obtain rfl : j = n := by omega
        have HF : Bx (∀ w', Calls Tryd.prog 55 #[.int .i64 2, .string sT] w' fun e w'' => e = .returned (.tuple #[.agg (robjC (fitO 2 (treeUp L j j)).1 (strOfNums (fitO 2 (treeUp L j j)).2.1)), .int .i64 (fitO 2 (treeUp L j j)).2.2]) ∧ Below w'.heap.size w' w'') := ⟨fun w' => by
          rw [← HST.out]
          exact rfit_any 2 _ w' (by have := LN.out; omega)⟩
        have HT : Bx (treeO L j = fitO 2 (treeUp L j j)) := ⟨by rw [treeO, if_neg hbig, if_neg (by rw [HBAD.out]; decide)]⟩
        generalize fitO 2 (treeUp L j j) = fr at *
        obtain ⟨fk, fd, fe⟩ := fr
        dsimp only at HF
        generalize hfd : strOfNums fd = sfd at *
        have HFD := bx hfd
        clear hfd
        go_wp2_with fail
        refine (HF.out _).mono ?_
        rintro e w2 ⟨rfl, hb⟩
        have D2 := bx (D1.out.trans (hb.mono D1.out.size))
        have K2 := bx ((hb.block _ (blk_lt K1.out)).trans K1.out)
        clear hb
        go_wp2_with (first
          | ((with_reducible refine at_store (.tmp 2) (.tmp 70) ?_); go_must (refine store_all (cs := robjC fk sfd) 48 (.tmp 2) (.tmp 70) rfl rfl rfl rfl K2.out (robj_is _ _) rfl (robj_one _ _) ?_; intro w9 hu9; have B9 := bx (B0.out.trans ((D2.out.mono B0.out.size).trans (hu9.below (Nat.le_refl _)))); have R9 := bx hu9.same; clear hu9)))
        refine bodyPost_ret (results_ct (cs := robjC fk sfd) rfl _ _ w.heap.size 48 _ _ rfl rfl R9.out Tryd.underlying48 rfl (robj_is _ _)) rfl ?_
        have := RO.out (fk, fd, fe) _ HT.out B9.out
        dsimp only at this
        rw [HFD.out] at this
        exact this
end Go.Proofs.YthnommoljikaiaaDoor
