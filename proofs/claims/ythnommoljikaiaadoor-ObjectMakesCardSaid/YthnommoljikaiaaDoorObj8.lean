/- Objects: the document's OfChange. -/
import Derived.Test.YthnommoljikaiaaDoorObj7
set_option linter.unusedSimpArgs false
set_option linter.unusedVariables false
namespace Go.Proofs.YthnommoljikaiaaDoor
open Go.RowKit

def rchgC (c : ChgA) (PA : Option Addr) (cap : Nat) : Array Value := #[.string (strOfNums c.tree), .slice PA c.n cap, .int .u64 c.time, .string c.author, .string c.text]
theorem mem_chIds {P : Nat → List Int} {j : Nat} {x : List Int} : x ∈ chIds P j ↔ ∃ i, i < j ∧ P i = x := by simp [chIds]
set_option maxRecDepth 100000 in
set_option maxHeartbeats 4000000 in
theorem rchange_any (c : ChgA) (PA : Option Addr) (cap : Nat) (w : World) (htree : c.tree.length = 32) (hrow : RowAt w PA c.n 1 (fun j => [.string (strOfNums (c.P j))])) (hids : ∀ j, j < c.n → (c.P j).length = 32) (hib : ∀ j, j < c.n → IsB (c.P j))
    (ht0 : 0 ≤ c.time) (ht1 : c.time < 18446744073709551616) (hau : c.author.size ≤ 1099511627776) (htx : c.text.size ≤ 1099511627776) :
    Calls Tryd.prog 24 #[.agg (rchgC c PA cap)] w (RObj w (changeO c)) := by
  obtain ⟨tree, _, n, _, P, time, author, text⟩ := c
  dsimp only at htree hrow hids hib ht0 ht1 hau htx
  dsimp only [rchgC]
  obtain ⟨st, hst⟩ : ∃ st, strOfNums tree = st := ⟨_, rfl⟩
  rw [hst]
  obtain ⟨w0, hw0⟩ : ∃ w0, w0 = (w.alloc (.cells #[.string st, .slice PA n cap, .int .u64 time, .string author, .string text] 56)).alloc (.cells (robjC 0 ⟨#[]⟩) 48) := ⟨_, rfl⟩
  have K0 : Bx (w0.heap[w.heap.size]? = some (.cells #[.string st, .slice PA n cap, .int .u64 time, .string author, .string text] 56 (0, 0))) := ⟨by rw [hw0]; exact heap_alloc2_old w _ _⟩
  have K1 : Bx (w0.heap[w.heap.size + 1]? = some (.cells (robjC 0 ⟨#[]⟩) 48 (0, 0))) := ⟨by rw [hw0]; exact heap_alloc2_new w _ _⟩
  have B0 : Bx (Below w.heap.size w w0) := ⟨by rw [hw0]; exact ((Below.refl _ _).alloc (Nat.le_refl _) _).alloc (by simp) _⟩
  have SZ : Bx (w0.heap.size = w.heap.size + 2) := ⟨by rw [hw0]; simp⟩
  have LIT : Bx ((w.alloc (.cells #[.string st, .slice PA n cap, .int .u64 time, .string author, .string text] 56)).alloc (.cells #[.int .i64 0, .string ⟨#[]⟩] 48) = w0) := ⟨hw0.symm⟩
  have HC : Bx (∀ w', Below w0.heap.size w0 w' → w'.cell? ⟨w.heap.size, 0, none⟩ = some (.string st) ∧ w'.cell? ⟨w.heap.size, 1, none⟩ = some (.slice PA n cap) ∧ w'.cell? ⟨w.heap.size, 2, none⟩ = some (.int .u64 time) ∧ w'.cell? ⟨w.heap.size, 3, none⟩ = some (.string author) ∧ w'.cell? ⟨w.heap.size, 4, none⟩ = some (.string text)) := ⟨fun w' hb => by
    have hk := (hb.block _ (blk_lt K0.out)).trans K0.out
    exact ⟨blk_cell hk rfl, blk_cell hk rfl, blk_cell hk rfl, blk_cell hk rfl, blk_cell hk rfl⟩⟩
  have HROW := bx hrow; have HIDS := bx hids; have HIB := bx hib; have HTR := bx htree; have HST := bx hst
  have HT0 := bx ht0; have HT1 := bx ht1; have HAU := bx hau; have HTX := bx htx
  have RO : Bx (∀ r w', changeO ⟨tree, none, n, 0, P, time, author, text⟩ = r → Below w.heap.size w w' → RObj w (changeO ⟨tree, none, n, 0, P, time, author, text⟩) (.returned (.tuple #[.agg (robjC r.1 (strOfNums r.2.1)), .int .i64 r.2.2])) w') := ⟨fun r w' h1 h2 => by subst h1; exact ⟨rfl, h2⟩⟩
  have HCO : Bx (changeO ⟨tree, none, n, 0, P, time, author, text⟩ = if 4 < n then (0, [], 3) else if dupUp P n = true then (0, [], 2) else fitO 3 (chUp tree P n n ++ be time 8 ++ textB author ++ textB text)) := ⟨rfl⟩
  have HX : changeO ⟨tree, ‹Option Addr›, n, ‹Nat›, P, time, author, text⟩ = changeO ⟨tree, none, n, 0, P, time, author, text⟩ := rfl
  show Calls _ _ _ w (RObj w (changeO ⟨tree, none, n, 0, P, time, author, text⟩))
  clear HX
  generalize RObj w (changeO ⟨tree, none, n, 0, P, time, author, text⟩) = OUT at *
  generalize changeO ⟨tree, none, n, 0, P, time, author, text⟩ = CO at *
  have z1 := (HC.out w0 (Below.refl _ _)).2.1
  clear hw0 hrow hids hib htree hst ht0 ht1 hau htx
  by_cases hbig : 4 < n
  · have hbig' : (4 : Int) < n := by omega
    have HT : Bx (CO = (0, [], 3)) := ⟨by rw [HCO.out, if_pos hbig]⟩
    go_enter Tryd.func24, Tryd.ntmps24
    go_upto_region 1 with fail
    rw [LIT.out]
    clear LIT
    go_wp2_with (first
      | ((with_reducible refine at_build 11 ?_); go_must (refine wpList_build2 rfl 48 [] rfl [] rfl (robjC 0 ⟨#[]⟩) robj_built0 ?_))
      | ((with_reducible refine at_store (.tmp 2) (.tmp 11) ?_); go_must (refine store_all (cs := robjC 0 ⟨#[]⟩) 48 (.tmp 2) (.tmp 11) rfl rfl rfl rfl K1.out (robj_is _ _) rfl (robj_one _ _) ?_; intro w9 hu9; have B9 := bx (B0.out.trans (hu9.below (Nat.le_succ _))); have R9 := bx hu9.same; clear hu9)))
    refine bodyPost_ret (results_ct (cs := robjC 0 ⟨#[]⟩) rfl _ _ (w.heap.size + 1) 48 _ _ rfl rfl R9.out Tryd.underlying48 rfl (robj_is _ _)) rfl ?_
    exact RO.out (0, [], 3) _ HT.out B9.out
  · have hbig' : ¬ (4 : Int) < n := by omega
    have hn8 : (n : Int) % 18446744073709551616 = n := by omega
    have HP0 : Bx (∀ w', Calls Tryd.prog 53 #[.string st, .int .u64 n, .int .i64 1] w' fun e w'' => e = .returned (.string (strOfNums (tree ++ [(n : Int)]))) ∧ Below w'.heap.size w' w'') := ⟨fun w' => by
      have := rput_any tree n 1 (by decide) (by decide) (by omega) (by omega) (by rw [HTR.out]; decide) w'
      rw [be_one (by omega) (by omega), HST.out] at this
      exact this⟩
    generalize hs0 : strOfNums (tree ++ [(n : Int)]) = s0 at *
    have HS0 := bx hs0
    clear hs0
    go_enter Tryd.func24, Tryd.ntmps24
    go_upto_region 1 with fail
    rw [LIT.out]
    clear LIT
    have z0 := (HC.out w0 (Below.refl _ _)).1
    go_wp2_with fail
    refine (HP0.out _).mono ?_
    rintro e w1 ⟨rfl, hb⟩
    have D1 := bx hb
    clear hb hbig' hn8 HP0 z0 z1
    go_wp2_with fail
    go_loopw [4, 5] (fun v i wr => ∃ j : Nat, j ≤ n ∧ i = .int .i64 j ∧ v = .string (strOfNums (chUp tree P n j)) ∧ dupUp P j = false ∧ Below w0.heap.size w0 wr) (fun _ i _ => (n - intOf i).toNat)
    case atStart => exact ⟨0, Nat.zero_le _, rfl, by rw [← HS0.out]; simp [chUp, chIds], rfl, D1.out⟩
    case round =>
      obtain ⟨j, hj, rfl, rfl, hdup, hb⟩ := hrel
      clear D1
      have D1 := bx hb; have HDUP := bx hdup
      have LEN := bx (chUp_length tree P n j fun i hi => HIDS.out i (by omega))
      rw [HTR.out] at LEN
      have DW := bx (B0.out.trans (D1.out.mono B0.out.size))
      have K2 := bx ((D1.out.block _ (blk_lt K1.out)).trans K1.out)
      have z1 := (HC.out wr D1.out).2.1
      clear hb hdup
      obtain ⟨sT, hsT⟩ : ∃ sT, strOfNums (chUp tree P n j) = sT := ⟨_, rfl⟩
      have HSZ : Bx (sT.size = 33 + 32 * j) := ⟨by rw [← hsT, strLen, LEN.out]⟩
      have HSTT := bx hsT
      rw [hsT]
      clear hsT
      by_cases hlt : j < n
      · have hlt' : (j : Int) < n := by omega
        obtain ⟨b1, o1, rfl, hb1, _⟩ := HROW.out.at hlt
        have HR : Bx (∀ i, i < n → ∀ w', Below wr.heap.size wr w' → w'.cell? ⟨b1, o1 + i, none⟩ = some (.string (strOfNums (P i)))) := ⟨fun i hi w' h => by
          obtain ⟨b9, o9, e9, _, hr9⟩ := HROW.out.at hi
          cases e9
          have := hr9 w' (DW.out.trans (h.mono DW.out.size)) 0 _ rfl
          simpa using this⟩
        have HS1 := bx (chUp_succ tree P n j); have HS3 := bx (dupUp_succ P j); have HS4 := bx (fun h => dupUp_at P hlt h)
        go_upto_region 7 with fail
        clear z1
        go_wp2_with fail
        go_loopw [6] (fun i wx => ∃ k : Nat, k ≤ j ∧ i = .int .i64 k ∧ (∀ m, m < k → P m ≠ P j) ∧ Below wr.heap.size wr wx) (fun i _ => (j - intOf i).toNat)
        case atStart => exact ⟨0, Nat.zero_le _, rfl, fun m hm => absurd hm (Nat.not_lt_zero _), Below.refl _ _⟩
        case round =>
          rename World => w2
          obtain ⟨k, hk, rfl, hne, hb⟩ := hrel
          have D2 := bx hb; have HNE := bx hne
          have D3 := bx (D1.out.trans (hb.mono D1.out.size))
          have K3 := bx ((hb.block _ (blk_lt K2.out)).trans K2.out)
          clear hne hb
          by_cases hkj : k < j
          · have hkj' : (k : Int) < j := by omega
            have hkn : (k : Int) < n := by omega
            have HRK := bx (HR.out k (by omega)); have HRJ := bx (HR.out j hlt)
            have HD := bx (str_dec (HIB.out k (by omega)) (HIB.out j hlt))
            generalize hpk : P k = pk at *
            generalize hpj : P j = pj at *
            generalize strOfNums pk = sk at *
            generalize strOfNums pj = sj at *
            have HPK := bx hpk; have HPJ := bx hpj
            clear hpk hpj
            by_cases heq : pk = pj
            · have HT : Bx (CO = (0, [], 2)) := ⟨by rw [HCO.out, if_neg hbig, if_pos (HS4.out (mem_chIds.2 ⟨k, hkj, by rw [HPK.out, heq]⟩))]⟩
              rw [decide_eq_true heq] at HD
              have hd := HD.out
              clear heq
              go_upto_region 10 with fail
              try simp only [Act.put]
              refine region_quietC (fun w' => Below w2.heap.size w2 w') (by kernel_rfl) (by kernel_rfl) ((Below.refl _ _).drew) ?_
              repeat (first
                | go_big_quiet_skip
                | (go_big_quiet_want; go_big_quiet_op; go_big_quiet_on)
                | (refine quiet_take (v := ?_) _ rfl (by kernel_rfl) ?_ ?_; rotate_left 1; (focus (first | (intro w' hw'; clear hw'; unfold Oper.quietAt; go_simp; done) | (intro w' hw'; clear hw'; unfold Oper.quietAt; go_simp; with_reducible rfl) | (intro w' hw'; obtain ⟨_, z1, _⟩ := HC.out w' (D3.out.trans (hw'.mono D3.out.size)); have z2 := HRK.out w' (D2.out.trans (hw'.mono D2.out.size)); have z3 := HRJ.out w' (D2.out.trans (hw'.mono D2.out.size)); unfold Oper.quietAt; go_simp; first | done | with_reducible rfl))); try simp only [List.setIfInBounds_toArray, List.set_cons_zero, List.set_cons_succ]))
              refine wpQuiet_nil ?_
              intro w4 hw4
              have K4 := bx ((hw4.block _ (blk_lt K3.out)).trans K3.out)
              have D4 := bx (D3.out.trans (hw4.mono D3.out.size))
              clear hw4
              go_wp2_with (first
                | ((with_reducible refine at_build 42 ?_); go_must (refine wpList_build2 rfl 48 [] rfl [] rfl (robjC 0 ⟨#[]⟩) robj_built0 ?_))
                | ((with_reducible refine at_store (.tmp 2) (.tmp 42) ?_); go_must (refine store_all (cs := robjC 0 ⟨#[]⟩) 48 (.tmp 2) (.tmp 42) rfl rfl rfl rfl K4.out (robj_is _ _) rfl (robj_one _ _) ?_; intro w9 hu9; have B9 := bx (B0.out.trans ((D4.out.mono B0.out.size).trans (hu9.below (Nat.le_succ _)))); have R9 := bx hu9.same; clear hu9)))
              refine bodyPost_ret (results_ct (cs := robjC 0 ⟨#[]⟩) rfl _ _ (w.heap.size + 1) 48 _ _ rfl rfl R9.out Tryd.underlying48 rfl (robj_is _ _)) rfl ?_
              exact RO.out (0, [], 2) _ HT.out B9.out
            · rw [decide_eq_false heq] at HD
              have hd := HD.out
              have HNEQ := bx heq
              clear heq
              go_upto_region 10 with fail
              try simp only [Act.put]
              refine region_quietC (fun w' => Below w2.heap.size w2 w') (by kernel_rfl) (by kernel_rfl) ((Below.refl _ _).drew) ?_
              repeat (first
                | go_big_quiet_skip
                | (go_big_quiet_want; go_big_quiet_op; go_big_quiet_on)
                | (refine quiet_take (v := ?_) _ rfl (by kernel_rfl) ?_ ?_; rotate_left 1; (focus (first | (intro w' hw'; clear hw'; unfold Oper.quietAt; go_simp; done) | (intro w' hw'; clear hw'; unfold Oper.quietAt; go_simp; with_reducible rfl) | (intro w' hw'; obtain ⟨_, z1, _⟩ := HC.out w' (D3.out.trans (hw'.mono D3.out.size)); have z2 := HRK.out w' (D2.out.trans (hw'.mono D2.out.size)); have z3 := HRJ.out w' (D2.out.trans (hw'.mono D2.out.size)); unfold Oper.quietAt; go_simp; first | done | with_reducible rfl))); try simp only [List.setIfInBounds_toArray, List.set_cons_zero, List.set_cons_succ]))
              refine wpQuiet_nil ?_
              intro w4 hw4
              have D4 := bx (D2.out.trans (hw4.mono D2.out.size))
              clear hw4
              go_wp2_with fail
              go_roundw
              case rel => exact ⟨k + 1, by omega, by first | rfl | go_num, fun m hm => by
                by_cases h : m = k
                · rw [h, HPK.out]; exact HNEQ.out
                · exact HNE.out m (by omega), D4.out⟩
              case measure => simp only [intOf]; omega
          · have hkj' : ¬ (k : Int) < j := by omega
            obtain rfl : k = j := by omega
            have hnd : ¬ (P k ∈ chIds P k) := fun h => by
              obtain ⟨m, hm, e⟩ := mem_chIds.1 h
              exact HNE.out m hm e
            have HSD : Bx (dupUp P (k + 1) = false) := ⟨by rw [HS3.out, HDUP.out, decide_eq_false hnd]; rfl⟩
            have z1 := (HC.out w2 D3.out).2.1
            have z2 := HR.out k hlt w2 D2.out
            have hsj : (strOfNums (P k)).size = 32 := by rw [strLen, HIDS.out k hlt]
            have HADD : Bx (sT ++ strOfNums (P k) = strOfNums (chUp tree P n (k + 1))) := ⟨by rw [HS1.out, ← HSTT.out, ← strApp]⟩
            have hsz := HSZ.out
            clear hnd
            generalize strOfNums (P k) = sj at *
            have hz3 : ¬ 9223372036854775807 < sT.size + sj.size := by omega
            have hz4 : ¬ 9223372036854775807 < sT.size + 32 := by omega
            have hz5 : ¬ 9223372036854775807 < 33 + 32 * k + 32 := by omega
            have hadd := HADD.out
            go_wp2_with fail
            go_roundw
            case rel => exact ⟨k + 1, by omega, by first | rfl | go_num, by first | rfl | rw [HADD.out], HSD.out, D3.out⟩
            case measure => simp only [intOf]; omega
      · have hlt' : ¬ (j : Int) < n := by omega
        obtain rfl : j = n := by omega
        rw [if_neg hbig, if_neg (by rw [HDUP.out]; decide)] at HCO
        go_upto_region 13 with fail
        clear z1
        have z3 := (HC.out wr D1.out).2.2.2.1
        have z4 := (HC.out wr D1.out).2.2.2.2
        by_cases hok : author.size ≤ 16384 ∧ text.size ≤ 16384
        · obtain ⟨ha, ht⟩ := hok
          have ha' : ¬ (16384 : Int) < author.size := by omega
          have ht' : ¬ (16384 : Int) < text.size := by omega
          obtain ⟨T1, hT1⟩ : ∃ T1, chUp tree P j j = T1 := ⟨_, rfl⟩
          rw [hT1] at HCO LEN HSTT
          rw [textB_short (by omega), textB_short (by omega)] at HCO
          have HQ1 : Bx (∀ w', Calls Tryd.prog 53 #[.string sT, .int .u64 time, .int .i64 8] w' fun e w'' => e = .returned (.string (strOfNums (T1 ++ be time 8))) ∧ Below w'.heap.size w' w'') := ⟨fun w' => by
            have := rput_any T1 time 8 (by decide) (by decide) HT0.out (by have := HT1.out; omega) (by have := LEN.out; omega) w'
            rw [HSTT.out] at this
            exact this⟩
          have HQ2 : Bx (∀ w', Calls Tryd.prog 54 #[.string (strOfNums (T1 ++ be time 8)), .string author] w' fun e w'' => e = .returned (.string (strOfNums (T1 ++ be time 8 ++ be author.size 4 ++ bytesOf author))) ∧ Below w'.heap.size w' w'') := ⟨fun w' => by
            have := rsized_any (T1 ++ be time 8) (bytesOf author) (by have := LEN.out; rw [List.length_append, be_length]; omega) (by rw [bytesOf_length]; omega) w'
            rw [str_bytes, bytesOf_length] at this
            exact this⟩
          have HQ3 : Bx (∀ w', Calls Tryd.prog 54 #[.string (strOfNums (T1 ++ be time 8 ++ be author.size 4 ++ bytesOf author)), .string text] w' fun e w'' => e = .returned (.string (strOfNums (T1 ++ be time 8 ++ be author.size 4 ++ bytesOf author ++ be text.size 4 ++ bytesOf text))) ∧ Below w'.heap.size w' w'') := ⟨fun w' => by
            have := rsized_any (T1 ++ be time 8 ++ be author.size 4 ++ bytesOf author) (bytesOf text) (by have := LEN.out; simp only [List.length_append, be_length, bytesOf_length]; omega) (by rw [bytesOf_length]; omega) w'
            rw [str_bytes, bytesOf_length] at this
            exact this⟩
          have hDD : T1 ++ be time 8 ++ (be author.size 4 ++ bytesOf author) ++ (be text.size 4 ++ bytesOf text) = T1 ++ be time 8 ++ be author.size 4 ++ bytesOf author ++ be text.size 4 ++ bytesOf text := by simp [List.append_assoc]
          rw [hDD] at HCO
          have hlen : (T1 ++ be time 8 ++ be author.size 4 ++ bytesOf author ++ be text.size 4 ++ bytesOf text).length ≤ 65536 := by
            simp only [List.length_append, be_length, bytesOf_length]
            have := LEN.out
            omega
          generalize T1 ++ be time 8 ++ be author.size 4 ++ bytesOf author ++ be text.size 4 ++ bytesOf text = DD at *
          have HFT : Bx (∀ w', Calls Tryd.prog 55 #[.int .i64 3, .string (strOfNums DD)] w' fun e w'' => e = .returned (.tuple #[.agg (robjC (fitO 3 DD).1 (strOfNums (fitO 3 DD).2.1)), .int .i64 (fitO 3 DD).2.2]) ∧ Below w'.heap.size w' w'') := ⟨fun w' => rfit_any 3 _ w' (by omega)⟩
          generalize fitO 3 DD = fr at *
          obtain ⟨fk, fd, fe⟩ := fr
          dsimp only at HFT
          generalize strOfNums DD = s3 at *
          generalize strOfNums (T1 ++ be time 8 ++ be author.size 4 ++ bytesOf author) = s2 at *
          generalize strOfNums (T1 ++ be time 8) = s1 at *
          generalize hfd : strOfNums fd = sfd at *
          have HFD := bx hfd
          clear hfd hDD hT1 hlen
          go_wp2_with fail
          clear z3 z4
          try simp only [Act.put]
          refine region_tailC (fun w' => Below wr.heap.size wr w') 13 (by kernel_rfl) (by kernel_rfl) ((Below.refl _ _).drew) ?_
          simp only [List.take_succ_cons, List.take_zero, List.drop_succ_cons, List.drop_zero]
          repeat (first
            | go_big_quiet_skip
            | (go_big_quiet_want; go_big_quiet_op; go_big_quiet_on)
            | (refine quiet_take (v := ?_) _ rfl (by kernel_rfl) ?_ ?_; rotate_left 1; (focus (first | (intro w' hw'; clear hw'; unfold Oper.quietAt; go_simp; done) | (intro w' hw'; clear hw'; unfold Oper.quietAt; go_simp; with_reducible rfl) | (intro w' hw'; obtain ⟨z0, z1, z2, z3, z4⟩ := HC.out w' (D1.out.trans (hw'.mono D1.out.size)); unfold Oper.quietAt; go_simp; first | done | with_reducible rfl | ((with_reducible refine (HQ1.out w').mono ?_); rintro x w9 ⟨rfl, hb⟩; refine ⟨?_, hw'.trans (hb.mono hw'.size)⟩; with_reducible rfl) | ((with_reducible refine (HQ2.out w').mono ?_); rintro x w9 ⟨rfl, hb⟩; refine ⟨?_, hw'.trans (hb.mono hw'.size)⟩; with_reducible rfl) | ((with_reducible refine (HQ3.out w').mono ?_); rintro x w9 ⟨rfl, hb⟩; refine ⟨?_, hw'.trans (hb.mono hw'.size)⟩; with_reducible rfl) | ((with_reducible refine (HFT.out w').mono ?_); rintro x w9 ⟨rfl, hb⟩; refine ⟨?_, hw'.trans (hb.mono hw'.size)⟩; with_reducible rfl)))); try simp only [List.setIfInBounds_toArray, List.set_cons_zero, List.set_cons_succ]))
          refine wpQuiet_nil ?_
          intro w2 hw2
          have D2 := bx (D1.out.trans (hw2.mono D1.out.size))
          have KR2 := bx ((D2.out.block _ (blk_lt K1.out)).trans K1.out)
          clear hw2
          go_wp2_with (first
            | ((with_reducible refine at_store (.tmp 2) (.tmp 72) ?_); go_must (refine store_all (cs := robjC fk sfd) 48 (.tmp 2) (.tmp 72) rfl rfl rfl rfl KR2.out (robj_is _ _) rfl (robj_one _ _) ?_; intro w9 hu9; have B9 := bx (B0.out.trans ((D2.out.mono B0.out.size).trans (hu9.below (Nat.le_succ _)))); have R9 := bx hu9.same; clear hu9)))
          refine bodyPost_ret (results_ct (cs := robjC fk sfd) rfl _ _ (w.heap.size + 1) 48 _ _ rfl rfl R9.out Tryd.underlying48 rfl (robj_is _ _)) rfl ?_
          have := RO.out (fk, fd, fe) _ HCO.out B9.out
          dsimp only at this
          rw [HFD.out] at this
          exact this
        · have HT : Bx (CO = (0, [], 3)) := ⟨by
            rw [HCO.out, fitO, if_pos]
            simp only [List.length_append, be_length]
            by_cases ha : 16384 < author.size
            · rw [textB_long ha]; omega
            · rw [textB_long (s := text) (by omega)]; omega⟩
          by_cases ha : 16384 < author.size
          all_goals
            first
              | have ha' : (16384 : Int) < author.size := by omega
              | (have ha' : ¬ (16384 : Int) < author.size := by omega
                 have ht' : (16384 : Int) < text.size := by omega)
            clear HCO hok
            go_wp2_with (first
              | ((with_reducible refine at_build 60 ?_); go_must (refine wpList_build2 rfl 48 [] rfl [] rfl (robjC 0 ⟨#[]⟩) robj_built0 ?_))
              | ((with_reducible refine at_store (.tmp 2) (.tmp 60) ?_); go_must (refine store_all (cs := robjC 0 ⟨#[]⟩) 48 (.tmp 2) (.tmp 60) rfl rfl rfl rfl K2.out (robj_is _ _) rfl (robj_one _ _) ?_; intro w9 hu9; have B9 := bx (B0.out.trans ((D1.out.mono B0.out.size).trans (hu9.below (Nat.le_succ _)))); have R9 := bx hu9.same; clear hu9)))
            refine bodyPost_ret (results_ct (cs := robjC 0 ⟨#[]⟩) rfl _ _ (w.heap.size + 1) 48 _ _ rfl rfl R9.out Tryd.underlying48 rfl (robj_is _ _)) rfl ?_
            exact RO.out (0, [], 3) _ HT.out B9.out
end Go.Proofs.YthnommoljikaiaaDoor
