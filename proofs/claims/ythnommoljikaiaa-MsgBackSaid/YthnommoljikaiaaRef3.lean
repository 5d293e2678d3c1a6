/- The document's sum (coffretref02): the walks over padded and Sum. -/
import Derived.Test.YthnommoljikaiaaRef2
set_option linter.unusedSimpArgs false
set_option linter.unusedVariables false
namespace Go.Proofs.Ythnommoljikaiaa
open Go.RowKit

theorem strApp (a b : List Int) : strOfNums (a ++ b) = strOfNums a ++ strOfNums b := by
  apply ByteArray.ext
  apply Array.toList_inj.1
  rw [strOfNums_data, ByteArray.data_append, Array.toList_append, strOfNums_data, strOfNums_data, List.map_append]
theorem strLen (a : List Int) : (strOfNums a).size = a.length := by
  have := congrArg List.length (strOfNums_data a)
  rw [List.length_map, Array.length_toList] at this
  exact this
theorem strExt (b : List Int) (i j : Nat) : (strOfNums b).extract i j = strOfNums ((b.take j).drop i) := by
  apply ByteArray.ext
  apply Array.toList_inj.1
  rw [ByteArray.data_extract, Array.toList_extract, strOfNums_data, strOfNums_data, List.map_drop, List.map_take]
  simp only [List.extract, List.drop_take]
theorem bytesOf_str (a : List Int) (h : IsB a) : bytesOf (strOfNums a) = a := by
  rw [bytesOf, strOfNums_data, List.map_map]
  apply List.ext_getElem (by simp)
  intro j h1 h2
  have := h j
  rw [List.getD_eq_getElem?_getD, List.getElem?_eq_getElem h2] at this
  simp at this ⊢
  omega
theorem str_app1 (a : List Int) (b : Int) (c : UInt8) (h : UInt8.ofNat b.toNat = c) : strOfNums a ++ ⟨#[c]⟩ = strOfNums (a ++ [b]) := by
  have e : (⟨#[c]⟩ : ByteArray) = strOfNums [b] := by subst h; rfl
  rw [e, ← strApp]
set_option maxRecDepth 100000 in
set_option maxHeartbeats 1000000 in
theorem padded_any (bs : List Int) (hbig : bs.length ≤ 1152921504606846976) (w : World) :
    Calls Try.prog 110 #[.string (strOfNums bs)] w fun e w' => e = .returned (.string (strOfNums (padR bs))) ∧ Below w.heap.size w w' := by
  have hsz : (strOfNums bs).size = bs.length := strLen bs
  have HA : Bx (strOfNums bs ++ ⟨#[128]⟩ = strOfNums (bs ++ [128] ++ List.replicate 0 0)) := ⟨by rw [str_app1 bs 128 128 rfl]; simp⟩
  have hz := zerosOf_lt bs.length
  generalize strOfNums bs = s0 at *
  go_enter Try.func110, Try.ntmps110
  go_wp2_with fail
  obtain ⟨s1, hs1⟩ : ∃ s1, s0 ++ ⟨#[128]⟩ = s1 := ⟨_, rfl⟩
  rw [hs1]
  rw [hs1] at HA
  clear hs1
  go_loopw [0] (fun v wr => ∃ j : Nat, j ≤ zerosOf bs.length ∧ v = .string (strOfNums (bs ++ [128] ++ List.replicate j 0)) ∧ w = wr) (fun v _ => 0 + zerosOf bs.length + bs.length + 1 - (match v with | .string s => s.size | _ => 0))
  case atStart => exact ⟨0, Nat.zero_le _, by rw [HA.out], rfl⟩
  case round =>
    obtain ⟨j, hj, rfl, rfl⟩ := hrel
    have hs1 : (strOfNums (bs ++ [128] ++ List.replicate j 0)).size = bs.length + 1 + j := by rw [strLen]; simp; omega
    have HN : Bx (strOfNums (bs ++ [128] ++ List.replicate j 0) ++ ⟨#[0]⟩ = strOfNums (bs ++ [128] ++ List.replicate (j + 1) 0)) := ⟨by rw [str_app1 _ 0 0 rfl, List.replicate_succ', ← List.append_assoc]⟩
    have HS2 : Bx ((strOfNums (bs ++ [128] ++ List.replicate (j + 1) 0)).size = bs.length + 1 + (j + 1)) := ⟨by rw [strLen]; simp; omega⟩
    have HL : Bx (strOfNums (bs ++ [128] ++ List.replicate j 0) = strOfNums (bs ++ [128] ++ List.replicate j 0 ++ lenBytes (bs.length * 8) 0)) := ⟨by rw [show lenBytes (bs.length * 8) 0 = [] from rfl, List.append_nil]⟩
    by_cases hlt : j < zerosOf bs.length
    · have hne := zeros_ne bs.length j hlt
      generalize strOfNums (bs ++ [128] ++ List.replicate j 0) = s at *
      go_wp2_with fail
      rw [HN.out]
      exact ⟨⟨j + 1, by omega, rfl, trivial⟩, by dsimp only; rw [HS2.out, hs1]; omega⟩
    · obtain rfl : j = zerosOf bs.length := by omega
      have hne := zeros_eq bs.length
      generalize strOfNums (bs ++ [128] ++ List.replicate (zerosOf bs.length) 0) = s at *
      go_wp2_with fail
      clear HN HS2
      obtain ⟨p, hp⟩ : ∃ p, p = bs ++ [128] ++ List.replicate (zerosOf bs.length) 0 := ⟨_, rfl⟩
      rw [← hp] at HL
      have HP := bx hp
      have hpl : Bx (p.length ≤ 1152921504606847104) := ⟨by rw [hp]; simp; omega⟩
      clear hp
      go_loopw [0, 4] (fun v q wr => ∃ i : Nat, i ≤ 8 ∧ q = .int .i64 i ∧ v = .string (strOfNums (p ++ lenBytes (bs.length * 8) i)) ∧ Below w.heap.size w wr) (fun _ q _ => 8 - (intOf q).toNat)
      case atStart => exact ⟨0, Nat.zero_le _, rfl, by rw [HL.out], Below.refl _ _⟩
      case round =>
        obtain ⟨i, hi, rfl, rfl, hb⟩ := hrel
        have BR := bx hb
        clear hb HL hs1
        have hs2 : (strOfNums (p ++ lenBytes (bs.length * 8) i)).size ≤ 1152921504606847112 := by rw [strLen]; have := hpl.out; simp [lenBytes]; omega
        by_cases hlt : i < 8
        · have hlt' : (i : Int) < 8 := by omega
          have cv : ∀ b : Int, (convert 22 9 (.slice (some ⟨wr.heap.size, 0, none⟩) 1 1)).run Try.prog (wr.alloc (.cells #[.int .u8 b] 5)) = .ok (.string (strOfNums [b])) (wr.alloc (.cells #[.int .u8 b] 5)) := fun b => str_of (rdB_made wr 5 [b]) 1
          have HN : Bx (∀ b : Int, b = lenByte (bs.length * 8) i → strOfNums (p ++ lenBytes (bs.length * 8) i) ++ strOfNums [b] = strOfNums (p ++ lenBytes (bs.length * 8) (i + 1))) := ⟨fun b hb => by rw [← strApp, List.append_assoc, hb]; congr 2; simp [lenBytes, List.range_succ]⟩
          have hs3 : ∀ b : Int, (strOfNums [b]).size = 1 := fun b => strLen [b]
          have HE : Bx ((bs.length : Int) * 8 / 2 ^ (56 - 8 * i) % 256 = lenByte (bs.length * 8) i) := ⟨by rw [lenByte, show 8 * (7 - i) = 56 - 8 * i by omega]⟩
          generalize strOfNums (p ++ lenBytes (bs.length * 8) i) = s' at *
          go_wp2_with fail
          rw [HN.out _ HE.out]
          exact ⟨⟨i + 1, by omega, by go_num, rfl, BR.out.alloc BR.out.size _⟩, by simp [intOf]; omega⟩
        · obtain rfl : i = 8 := by omega
          have hlt' : ¬ (8 : Int) < 8 := by omega
          have HF : Bx (p ++ lenBytes (bs.length * 8) 8 = padR bs) := ⟨by rw [HP.out, padR]⟩
          rw [HF.out]
          go_wp2_with fail
          go_ret
          exact ⟨rfl, BR.out⟩
theorem iv_built : Try.prog.built 210 [(0, .int .u32 1779033703), (1, .int .u32 3144134277), (2, .int .u32 1013904242), (3, .int .u32 2773480762), (4, .int .u32 1359893119), (5, .int .u32 2600822924), (6, .int .u32 528734635), (7, .int .u32 1541459225)] = some (ints .u32 iv) := by kernel_rfl
theorem foldR_length (bs : List Int) : ∀ k, (foldR iv bs k).length = 8
  | 0 => rfl
  | k + 1 => by rw [foldR, blockR, addAll_length, foldR_length bs k]
set_option maxRecDepth 100000 in
set_option maxHeartbeats 2000000 in
theorem refsum_any (bs : List Int) (hB : IsB bs) (hbig : bs.length ≤ 1152921504606846976) (w : World) :
    Calls Try.prog 81 #[.string (strOfNums bs)] w fun e w' => e = .returned (.agg (ints .u8 (shaOf bs))) ∧ Below w.heap.size w w' := by
  obtain ⟨Q, hQ⟩ := padR_length bs
  have HP := bx (padR_isB bs hB)
  have HR : Bx (shaOf bs = outBytes (foldR iv (padR bs) Q) 32) := ⟨by rw [← sumR_eq bs hB, sumR, hQ, Nat.mul_div_cancel_left Q (by decide)]⟩
  have HC := bx (padded_any bs hbig)
  have hQ2 : 64 * Q ≤ 1152921504606847112 := by rw [← hQ]; simp [padR, lenBytes]; have := zerosOf_lt bs.length; omega
  rw [HR.out]
  have hsz : (strOfNums (padR bs)).size = 64 * Q := by rw [strLen, hQ]
  have HEX : Bx (∀ q, q < Q → bytesOf ((strOfNums (padR bs)).extract (64 * q) (64 * q + 64)) = ((padR bs).drop (64 * q)).take 64) := ⟨fun q hq => by
    rw [strExt, List.drop_take, show 64 * q + 64 - 64 * q = 64 by omega]
    exact bytesOf_str _ (isB_take (isB_drop HP.out _) _)⟩
  have I8 : Bx ((Try.prog.info? 210).map (·.size) = some 8) := ⟨by kernel_rfl⟩
  have I32 : Bx ((Try.prog.info? 81).map (·.size) = some 32) := ⟨by kernel_rfl⟩
  have HS := bx hsz
  clear hQ hB hsz
  go_enter Try.func81, Try.ntmps81
  go_wp2_with (first
    | ((with_reducible refine at_build 7 ?_); go_must (refine wpList_build2 rfl 210 [(0, .const (.int .u32 1779033703)), (1, .const (.int .u32 3144134277)), (2, .const (.int .u32 1013904242)), (3, .const (.int .u32 2773480762)), (4, .const (.int .u32 1359893119)), (5, .const (.int .u32 2600822924)), (6, .const (.int .u32 528734635)), (7, .const (.int .u32 1541459225))] rfl _ rfl _ iv_built ?_))
    | ((with_reducible refine at_store (.tmp 3) (.tmp 7) ?_); go_must (refine wpList_store_agg (cells := ints .u32 iv) rfl 210 (.tmp 3) (.tmp 7) rfl (w.heap.size + 1) 0 rfl rfl 210 #[.int .u32 0, .int .u32 0, .int .u32 0, .int .u32 0, .int .u32 0, .int .u32 0, .int .u32 0, .int .u32 0] (heap_alloc2_new w _ _) I8.out (Nat.le_refl 8) (ints_oneCell _ _) _ (putRow_all _ _ rfl) ?_; intro w1 hu1)))
  have B1 := bx ((((Below.refl w.heap.size w).alloc (Nat.le_refl _) _).alloc (by simp) _).trans (hu1.below (Nat.le_succ _)))
  have H1 : Bx (w1.heap[w.heap.size + 1]? = some (.cells (ints .u32 iv) 210 (0, 0))) := ⟨hu1.same⟩
  have O1 : Bx (w1.heap[w.heap.size]? = some (.cells (List.replicate 32 (Value.int .u8 0)).toArray 81 (0, 0))) := ⟨hu1.blk (heap_alloc2_old w _ _) (by omega)⟩
  clear hu1
  refine (HC.out w1).mono ?_
  rintro e w2 ⟨rfl, hb2⟩
  have H2 := bx ((hb2.block _ (blk_lt H1.out)).trans H1.out); have O2 := bx ((hb2.block _ (blk_lt O1.out)).trans O1.out); have B2 := bx (B1.out.trans (hb2.mono B1.out.size))
  clear hb2 H1 O1 B1
  have hsz := HS.out
  generalize strOfNums (padR bs) = s at *
  obtain ⟨B, hB⟩ : ∃ B, B = w.heap.size := ⟨_, rfl⟩
  rw [← hB] at H2 O2 B2 ⊢
  have HB := bx hB
  clear hB
  go_wp2_with fail
  go_loopw [4] (fun i wr => ∃ q : Nat, q ≤ Q ∧ i = .int .i64 ((64 * q : Nat) : Int) ∧ wr.heap[B + 1]? = some (.cells (ints .u32 (foldR iv (padR bs) q)) 210 (0, 0)) ∧ wr.heap[B]? = some (.cells (List.replicate 32 (Value.int .u8 0)).toArray 81 (0, 0)) ∧ Below B w wr)
    (fun i _ => 64 * Q - (intOf i).toNat)
  case atStart => exact ⟨0, Nat.zero_le _, rfl, H2.out, O2.out, B2.out⟩
  case round =>
    obtain ⟨q, hq, rfl, hH, hO, hbel⟩ := hrel
    have HH := bx hH; have HO := bx hO; have BR := bx hbel; have HFL := bx (foldR_length (padR bs) q)
    clear hH hO hbel
    by_cases hlt : q < Q
    · have hE := HEX.out q hlt
      have HES : Bx ((s.extract (64 * q) (64 * q + 64)).size = 64) := ⟨by have := congrArg List.length hE; rw [bytesOf_length] at this; rw [this]; rw [← bytesOf_length, hE] at this; simp at this ⊢; have h2 := congrArg List.length hE; rw [bytesOf_length] at h2; simp [ByteArray.size_extract] at h2; omega⟩
      have HN : Bx (foldR iv (padR bs) (q + 1) = blockR (foldR iv (padR bs) q) (bytesOf (s.extract (64 * q) (64 * q + 64)))) := ⟨by rw [hE]; rfl⟩
      generalize foldR iv (padR bs) q = F at *
      clear hE
      have w0 : IntKind.i64.wrap (64 * (q : Int) + 64) = 64 * q + 64 := IntWalk.i64_in _ (by omega)
      have n1 : (0 : Int) ≤ 64 * q := by omega
      have n2 : (0 : Int) ≤ 64 * q + 64 := by omega
      have m1 : (64 * (q : Int)).toNat = 64 * q := by omega
      have m2 : (64 * (q : Int) + 64).toNat = 64 * q + 64 := by omega
      have l1 : 64 * (q : Int) ≤ 64 * q + 64 := by omega
      have l2 : 64 * (q : Int) + 64 ≤ 64 * Q := by omega
      go_wp2_with fail
      refine region_tailC (fun w' => Below wr.heap.size wr w') 7 (by kernel_rfl) (by kernel_rfl) ((Below.refl _ _).drew) ?_
      simp only [List.take_succ_cons, List.take_zero, List.drop_succ_cons, List.drop_zero]
      repeat (first
        | (refine quiet_take (v := (.agg (ints .u32 F))) 16 rfl (by kernel_rfl) (fun w' hw' => quietAt_load_agg 210 (.tmp 3) rfl (B + 1) 0 rfl 210 _ 8 _ ((hw'.block _ (blk_lt HH.out)).trans HH.out) Try.underlying210 rfl I8.out (by rw [ints_size, HFL.out]; decide) (ints .u32 F) (ints_extract_all .u32 _ 8 HFL.out)) ?_; try simp only [List.setIfInBounds_toArray, List.set_cons_zero, List.set_cons_succ])
        | (refine quiet_take (v := ?_) _ rfl (by kernel_rfl) ?_ ?_; rotate_left 1; (focus (first | (intro w' hw'; clear hw'; unfold Oper.quietAt; go_simp; done) | (intro w' hw'; clear hw'; unfold Oper.quietAt; go_simp; with_reducible rfl) | (intro w' hw'; skip; unfold Oper.quietAt; go_simp; first | done | with_reducible rfl | (refine (block_any F _ HFL.out HES.out _).mono ?_; rintro e w'' ⟨rfl, hb⟩; refine ⟨?_, hw'.trans (hb.mono hw'.size)⟩; with_reducible rfl)))); try simp only [List.setIfInBounds_toArray, List.set_cons_zero, List.set_cons_succ]))
      refine wpQuiet_nil ?_
      intro w' hw'
      have HK := bx ((hw'.block _ (blk_lt HH.out)).trans HH.out); have OK := bx ((hw'.block _ (blk_lt HO.out)).trans HO.out); have BK := bx (BR.out.trans (hw'.mono (by have := BR.out.size; have := HB.out; omega)))
      have HBL : Bx ((blockR F (bytesOf (s.extract (64 * q) (64 * q + 64)))).length = 8) := ⟨by rw [← HN.out, foldR_length]⟩
      clear hw'
      generalize blockR F (bytesOf (s.extract (64 * q) (64 * q + 64))) = F2 at *
      go_wp2_with (first
        | ((with_reducible refine at_store (.tmp 3) (.tmp 22) ?_); go_must (refine wpList_store_agg (cells := ints .u32 F2) rfl 210 (.tmp 3) (.tmp 22) rfl (B + 1) 0 rfl rfl 210 (ints .u32 F) HK.out (by rw [ints_size, HBL.out]; exact I8.out) (by rw [ints_size, ints_size, HBL.out, HFL.out]; decide) (ints_oneCell _ _) _ (putRow_all _ _ (by rw [Array.length_toList, ints_size, ints_size, HBL.out, HFL.out])) ?_; intro w6 hu6)))
      exact ⟨⟨q + 1, by omega, by congr 1, by rw [HN.out]; exact hu6.same, hu6.blk OK.out (by omega), BK.out.trans (hu6.below (by omega))⟩, by simp [intOf]; omega⟩
    · obtain rfl : q = Q := by omega
      generalize hst : foldR iv (padR bs) q = st at *
      have HST := bx hst
      clear hst
      have HC8 : Bx (∀ i, i < 8 → wr.cell? ⟨B + 1, i, none⟩ = some (.int .u32 (st.getD i 0))) := ⟨fun i hi => blk_int HH.out i (by rw [HFL.out]; exact hi)⟩
      have ZH := bx (blk_lt HH.out); have ZO := bx (blk_lt HO.out)
      go_wp2_with fail
      have HOO : Bx ((wr.alloc (.cells (ints .u8 (outBytes st 0)) 81)).heap[wr.heap.size]? = some (.cells (ints .u8 (outBytes st 0)) 81 (0, 0))) := ⟨blk_new wr _⟩
      go_loopw [6] (fun i ws => ∃ j : Nat, j ≤ 32 ∧ i = .int .i64 j ∧ ws.heap[wr.heap.size]? = some (.cells (ints .u8 (outBytes st j)) 81 (0, 0)) ∧ Below wr.heap.size wr ws)
        (fun i _ => 32 - (intOf i).toNat)
      case atStart => exact ⟨0, by omega, rfl, HOO.out, (Below.refl _ _).alloc (Nat.le_refl _) _⟩
      case round =>
        rename World => ws
        obtain ⟨j, hj, rfl, hOj, hbj⟩ := hrel
        have HOj := bx hOj; have BJ := bx hbj
        clear hOj hbj
        by_cases hlt : j < 32
        · have hc := (BJ.out.cell (p := ⟨B + 1, j / 4, none⟩) ZH.out).trans (HC8.out (j / 4) (by omega))
          rw [getD_q] at hc
          have ho := blk_int HOj.out j (by rw [outBytes_length]; exact hlt)
          have hf := blk_frozen j HOj.out
          have HE : Bx (st[j / 4]?.getD 0 / 2 ^ (24 - 8 * (j % 4)) % 256 = outByte st j) := ⟨by rw [outByte, show 8 * (3 - j % 4) = 24 - 8 * (j % 4) by omega]⟩
          have hlt' : (j : Int) < 32 := by omega
          generalize hX : st[j / 4]?.getD 0 = X at *
          go_wp2_with fail
          rw [HE.out]
          exact ⟨⟨j + 1, by omega, by go_num, blk_set HOj.out j _, BJ.out.setCell (Nat.le_refl _) _⟩, by simp [intOf]; omega⟩
        · obtain rfl : j = 32 := by omega
          have hR := bx ((BJ.out.block B ZO.out).trans HO.out)
          have hF := bx (BR.out.trans (BJ.out.mono (by have := BR.out.size; have := HB.out; omega)))
          have HSZ : Bx ((ints .u8 (outBytes st 32)).size = 32) := ⟨by rw [ints_size, outBytes_length]⟩
          go_wp2_with (first
            | ((with_reducible refine at_load 40 ?_); go_must (refine wpList_load_agg rfl 81 (.tmp 5) rfl _ 0 rfl 81 _ 32 _ HOj.out Try.underlying81 rfl I32.out (by rw [HSZ.out]; decide) (ints .u8 (outBytes st 32)) (ints_extract_all .u8 _ 32 (outBytes_length _ _)) ?_))
            | ((with_reducible refine at_store (.tmp 2) (.tmp 40) ?_); go_must (refine wpList_store_agg (cells := ints .u8 (outBytes st 32)) rfl 81 (.tmp 2) (.tmp 40) rfl B 0 rfl rfl 81 _ hR.out (by rw [HSZ.out]; exact I32.out) (by rw [HSZ.out]; decide) (ints_oneCell _ _) _ (putRow_all _ _ (by rw [Array.length_toList, HSZ.out]; decide)) ?_; intro w9 hu9)))
          refine bodyPost_ret (v := .agg (ints .u8 (outBytes st 32))) (results_agg (cs := ints .u8 (outBytes st 32)) rfl _ _ B 81 _ rfl (by rw [hu9.same, Array.toArray_toList]) Try.underlying81 rfl (by rw [HSZ.out]; exact I32.out)) rfl ⟨by rw [HST.out], ?_⟩
          rw [← HB.out]
          exact hF.out.trans (hu9.below (Nat.le_refl _))
end Go.Proofs.Ythnommoljikaiaa
