/- The document's disk: the walk over settled. -/
import Derived.Test.YthnommoljikaiaaPly3
import Derived.Test.YthnommoljikaiaaDsk17
set_option linter.unusedSimpArgs false
set_option linter.unusedVariables false
namespace Go.Proofs.Ythnommoljikaiaa
open Go.RowKit

theorem rwSize : (Try.prog.info? 56).map (·.size) = some 2 := by kernel_rfl
theorem empty_str (w : World) : (w.alloc (.cells #[] 9)).ownsRow w.heap.size 9 1 (.slice (some ⟨w.heap.size, 0, none⟩) 0 0) 0 [] := ⟨rfl, .inr ⟨_, 0, _, rfl, Nat.le_refl _, blk_new w _, Nat.le_refl _, by decide, rfl, rfl⟩⟩
/-- One string of a row is written. -/
theorem safe_set {w w' : World} {base g n c : Nat} {f f' : Int → List Int} (h : w.ownsRow base 9 1 (.slice (some ⟨g, 0, none⟩) n c) n (safeCells f n)) {k : Nat} (hk : k < n) (hf : ∀ j : Nat, j < n → j ≠ k → f' j = f j)
    (hw : w' = w.setCell ⟨g, k, none⟩ (.string (strOfNums (f' k)))) : w'.ownsRow base 9 1 (.slice (some ⟨g, 0, none⟩) n c) n (safeCells f' n) := by
  obtain ⟨h1, ⟨h2, h3⟩ | ⟨g', cap, cur, e, hg, hh, hn, hm, hs, htk⟩⟩ := h
  · cases h2
  · simp only [Value.slice.injEq, Option.some.injEq, Addr.mk.injEq, true_and, and_true] at e
    obtain ⟨rfl, rfl⟩ := e
    subst hw
    refine ⟨by rw [safeCells_length, Nat.mul_one], .inr ⟨g, c, _, rfl, hg, (upd_cell hh (j := k) _).same, hn, hm, by simpa using hs, ?_⟩⟩
    rw [Nat.mul_one] at htk ⊢
    apply List.ext_getElem?
    intro j
    have hj := congrArg (fun l => l[j]?) htk
    rw [Array.toList_setIfInBounds, List.getElem?_take] at *
    by_cases hjn : j < n
    · rw [if_pos hjn] at hj ⊢
      rw [List.getElem?_set]
      by_cases hjk : k = j
      · subst hjk
        rw [if_pos rfl, if_pos (by have := congrArg List.length htk; simp [safeCells_length] at this; simp; omega)]
        simp [safeCells, hjn]
      · rw [if_neg hjk, hj]
        simp [safeCells, hjn, hf j hjn (fun e => hjk e.symm)]
    · rw [if_neg hjn]
      simp [safeCells, hjn]
theorem ext_str (b : List Int) (i j : Nat) : (strOfNums b).extract i j = strOfNums ((b.take j).drop i) := by
  apply ByteArray.ext
  apply Array.toList_inj.1
  rw [ByteArray.data_extract, Array.toList_extract, strOfNums_data, strOfNums_data, List.map_drop, List.map_take]
  simp only [List.extract, List.drop_take]
theorem safe_cellF {w : World} {base : Nat} {A : Option Addr} {n c : Nat} {f : Int → List Int} (h : w.ownsRow base 9 1 (.slice A n c) n (safeCells f n)) {k : Nat} (hk : k < n) :
    ∃ g, A = some ⟨g, 0, none⟩ ∧ base ≤ g ∧ w.cell? ⟨g, k, none⟩ = some (.string (strOfNums (f k))) ∧ w.frozen? ⟨g, k, none⟩ = false := by
  obtain ⟨g, rfl, h1, h2⟩ := safe_cell (ownsRow_base h (Nat.zero_le _)).1 hk
  refine ⟨g, rfl, (ownsRow_base h (Nat.zero_le _)).2 g rfl, h2, ?_⟩
  obtain ⟨_, ⟨h2, h3⟩ | ⟨g', cap, cur, e, hg, hh, _⟩⟩ := h
  · cases h2
  · cases e
    exact blk_frozen k hh
theorem settleUp_len {st : DSt} {F : Nat → Int} (h1 : ∀ j, (st.f j).length = 256) (h2 : ∀ x ∈ st.und, x.2.length = 256) : ∀ k j, ((settleUp st F k).f j).length = 256
  | 0, j => h1 j
  | k + 1, j => by
    rw [settleUp]
    split
    · rename_i h
      have ih := settleUp_len (F := F) h1 h2 k
      have hx := h2 _ (List.getElem_mem h)
      rw [settleOf]
      split
      · exact ih j
      · dsimp only
        split
        · rw [List.length_append, List.length_take, List.length_drop, hx, ih]; omega
        · exact ih j
    · exact settleUp_len h1 h2 k j
set_option maxRecDepth 100000 in
set_option maxHeartbeats 3200000 in
theorem rsettled_any (w : World) (S : Nat → Prop) (v : Value) (st : DSt) (A0 : Option Addr) (n0 c0 : Nat) (fs : List Int) (h : RefIs w S v st) (hf : RdI w A0 n0 fs) (hS : ∀ k, S k → k < w.heap.size) (hn1 : 1 ≤ st.n) (hn2 : st.n ≤ 2048) (hu : st.und.length ≤ 100000)
    (h1 : ∀ j, (st.f j).length = 256) (h2 : ∀ x ∈ st.und, x.2.length = 256 ∧ 0 ≤ x.1 ∧ x.1 < st.n) (hn0 : n0 ≤ 1152921504606846976) :
    Calls Try.prog 72 #[v, .slice A0 n0 c0] w fun e w' => ∃ v', e = .returned v' ∧ RefIs w' S v' (settled st (fate fs)) ∧ Below w.heap.size w w' := by
  obtain ⟨A, c, B, d, rfl, hr⟩ := h
  have HLEN := bx (settleUp_len (F := fate fs) h1 (fun x hx => (h2 x hx).1))
  have HST := bx (fun k hk => settleUp_succ st (fate fs) k hk)
  have HRE := bx (settleUp_rest st (fate fs))
  obtain ⟨nn, hnn⟩ : ∃ k : Nat, st.n = k := ⟨st.n.toNat, by omega⟩
  have hnt : st.n.toNat = nn := by omega
  obtain ⟨m, hm⟩ : ∃ m, m = st.und.length := ⟨_, rfl⟩
  have hml : m ≤ 100000 := by omega
  have hn2' : nn ≤ 2048 := by omega
  have hsf := hr.safe
  have hun := hr.und
  rw [← hm] at hun ⊢
  rw [hnt] at hsf ⊢
  have HM := bx hm.symm; have HSF := bx hsf; have HUN := bx hun; have HNN := bx hnn; have HNT := bx hnt; have HF := bx hf; have HS := bx hS; have H2 := bx h2
  obtain ⟨i0, hi, hz0, hz1, hz2⟩ := info_parts strInfo
  have HI0 := bx hi; have HI1 := bx hz0; have HI2 := bx hz1; have HI3 := bx hz2
  have HB0 : Bx (0 + nn ≤ maxLen ∧ (0 + nn) * 16 ≤ 140737488355328) := ⟨by simp only [maxLen]; omega, by omega⟩
  have HSU : Bx (settleUp st (fate fs) 0 = st) := ⟨rfl⟩
  clear hr hsf hun hm hnn hnt hf hS h1 h2 hi hz0 hz1 hz2 hn1 hn2 hu
  show Calls Try.prog 72 #[.agg #[.slice A nn c, .slice B m d, .int .i64 st.left, .bool st.down], .slice A0 n0 c0] w _
  generalize hlf : st.left = left
  generalize hdn : st.down = down
  have HLF := bx hlf; have HDN := bx hdn
  clear hlf hdn
  have KA := bx (heap_alloc2_old w (.cells #[.slice A nn c, .slice B m d, .int .i64 left, .bool down] 40) (.cells #[.slice none 0 0, .slice none 0 0, .int .i64 0, .bool false] 40))
  have KZ := bx (heap_alloc2_new w (.cells #[.slice A nn c, .slice B m d, .int .i64 left, .bool down] 40) (.cells #[.slice none 0 0, .slice none 0 0, .int .i64 0, .bool false] 40))
  have B0 := bx (((Below.refl w.heap.size w).alloc (Nat.le_refl _) (.cells #[.slice A nn c, .slice B m d, .int .i64 left, .bool down] 40)).alloc (by simp) (.cells #[.slice none 0 0, .slice none 0 0, .int .i64 0, .bool false] 40))
  generalize hW0 : ((w.alloc (.cells #[.slice A nn c, .slice B m d, .int .i64 left, .bool down] 40)).alloc (.cells #[.slice none 0 0, .slice none 0 0, .int .i64 0, .bool false] 40)) = W0 at KA KZ B0
  have HZ0 : Bx (W0.heap.size = w.heap.size + 2) := ⟨by rw [← hW0]; simp⟩
  have HW0 := bx hW0
  have OE := bx (empty_str W0)
  have OS := bx (ownsRow_same HSF.out fun j hj => (B0.out.alloc B0.out.size (.cells #[] 9)).block j (ownsRow_lt HSF.out j hj))
  clear hW0
  go_enter Try.func72, Try.ntmps72
  go_wp2_with (first
    | ((with_reducible refine at_call 12 ?_); rw [HW0.out]; go_must (refine wpList_append_src rfl (.tmp 9) (.tmp 11) 37 rfl (w.heap.size + 2) 9 i0 _ 1 16 Try.underlying37 HI0.out HI1.out HI2.out HI3.out rfl (by decide) _ 0 [] rfl (by rw [← HZ0.out]; exact OE.out) _ 0 nn _ rfl OS.out safe_one HB0.out.1 HB0.out.2 (by have := HZ0.out; simp; omega) ?_; intro w1 W1 q1 q2; rw [Nat.zero_add, List.nil_append] at q1; obtain ⟨A5, c5, rfl⟩ := ownsRow_sl q1; have k1 := (q2.block w.heap.size (by have := HZ0.out; simp; omega) (fun e => by have e' : some w.heap.size = some (w.heap.size + 1 + 1) := e; have := Option.some.inj e'; omega)).trans (blk_alloc KA.out); have k2 := (q2.block (w.heap.size + 1) (by have := HZ0.out; simp; omega) (fun e => by have e' : some (w.heap.size + 1) = some (w.heap.size + 1 + 1) := e; have := Option.some.inj e'; omega)).trans (blk_alloc KZ.out); have k3 := (B0.out.alloc B0.out.size _).grown q2 (B0.out.alloc B0.out.size _).size (fun k hk => by have e' : some (w.heap.size + 1 + 1) = some k := hk; have := Option.some.inj e'; omega); have K1 := bx k1; have K2 := bx k2; have BB1 := bx k3; have Q1 := bx q1; clear q1 q2 k1 k2 k3)))
  go_loopw [6] (fun q wr => ∃ k : Nat, k ≤ m ∧ q = .int .i64 k ∧ wr.heap[w.heap.size]? = some (.cells #[.slice A nn c, .slice B m d, .int .i64 left, .bool down] 40 (0, 0)) ∧ wr.heap[w.heap.size + 1]? = some (.cells #[.slice none 0 0, .slice none 0 0, .int .i64 0, .bool false] 40 (0, 0)) ∧ wr.ownsRow (w.heap.size + 2) 9 1 (.slice A5 nn c5) nn (safeCells (settleUp st (fate fs) k).f nn) ∧ Below w.heap.size w wr) (fun q _ => m - (intOf q).toNat)
  case atStart => exact ⟨0, Nat.zero_le _, rfl, K1.out, K2.out, Q1.out, BB1.out⟩
  case round =>
    obtain ⟨k, hk, rfl, hkr, hzr, hor, hbr⟩ := hrel
    have KR := bx hkr; have ZR := bx hzr; have OR := bx hor; have BR := bx hbr
    have c1 : wr.cell? ⟨w.heap.size, 1, none⟩ = some (.slice B m d) := blk_cell hkr rfl
    clear hkr hzr hor hbr
    by_cases hlt : k < m
    · have hlt' : (k : Int) < m := by omega
      have hku : k < st.und.length := by rw [HM.out]; exact hlt
      have hst := HST.out k hku
      have hmem := H2.out _ (List.getElem_mem hku)
      obtain ⟨g, rfl, hg, hc, hd⟩ := rw_cell (ownsRow_same HUN.out fun j hj => BR.out.block j (ownsRow_lt HUN.out j hj)) hku
      generalize st.und[k] = x at hst hmem hc hd
      obtain ⟨xa, xb⟩ := x
      dsimp only at hst hmem hc hd
      rw [HNN.out] at hmem
      obtain ⟨hxl, hx0, hx1⟩ := hmem
      obtain ⟨ia, rfl⟩ : ∃ ia : Nat, xa = ia := ⟨xa.toNat, by omega⟩
      have hia : ia < nn := by omega
      have hia' : (ia : Int) < nn := by omega
      have HXC : Bx (∀ j v, [Value.int .i64 ia, Value.string (strOfNums xb)][j]? = some v → wr.cell? ⟨g, k * 2 + j, none⟩ = some v) := ⟨fun j v hj => by
        match j, hj with
        | 0, hj => cases hj; exact hc
        | 1, hj => cases hj; exact hd⟩
      have hsx : (strOfNums xb).size = 256 := by rw [str_size, hxl]
      have hsy : (strOfNums ((settleUp st (fate fs) k).f ia)).size = 256 := by rw [str_size, HLEN.out]
      have HXL := bx hxl
      clear hc hd hxl hx0 hx1
      by_cases hkn : k < n0
      · have hkn' : (k : Int) < n0 := by omega
        obtain ⟨fb, fo, rfl, hfl, hfc⟩ := HF.out.2 (by omega)
        have hfk := (BR.out.cell (p := ⟨fb, fo + k, none⟩) hfl).trans (hfc k hkn)
        have hfe : fs.getD k 0 = fate fs k := rfl
        rw [hfe] at hfk
        clear hfc hfe
        generalize fate fs k = x at hst hfk
        by_cases h0 : x ≤ 0
        · have h0' : ¬ (0 : Int) < x := by omega
          have h256 : ¬ (256 : Int) < x := by omega
          have HSAME : Bx (settleUp st (fate fs) (k + 1) = settleUp st (fate fs) k) := ⟨by rw [hst, settleOf, if_pos h0]⟩
          clear hst
          go_wp2_with fail
          exact ⟨⟨k + 1, by omega, by go_num, KR.out, ZR.out, by rw [HSAME.out]; exact OR.out, BR.out⟩, by simp [intOf]; omega⟩
        · rw [settleOf, if_neg h0] at hst
          by_cases hbig : 256 < x
          · have hmin : (min x 256).toNat = 256 := by omega
            rw [hmin] at hst
            have HST2 := bx hst
            clear hst hmin h0
            go_wp2_with (first
              | ((with_reducible refine at_load 36 ?_); go_must (refine wpList_load_cells rfl 56 (.tmp 35) rfl g (k * 2) rfl [.int .i64 ia, .string (strOfNums xb)] 2 _ HXC.out Try.underlying56 rfl rwSize rfl ?_))
              | ((with_reducible refine at_store (.tmp 8) (.tmp 36) ?_); go_must (refine wpList_store_agg rfl 56 (.tmp 8) (.tmp 36) rfl wr.heap.size 0 #[.int .i64 ia, .string (strOfNums xb)] rfl rfl 56 #[.int .i64 0, .string ⟨#[]⟩] (blk_new wr _) rwSize (Nat.le_refl 2) two_one #[.int .i64 ia, .string (strOfNums xb)] (putRow_all _ _ rfl) ?_; intro w5 hu5; have b5 := (((Below.refl wr.heap.size wr).alloc (Nat.le_refl _) (.cells #[.int .i64 0, .string ⟨#[]⟩] 56)).trans (hu5.below (Nat.le_refl _))); have e0 : w5.cell? ⟨wr.heap.size, 0, none⟩ = some (.int .i64 ia) := blk_cell hu5.same rfl; have e1 : w5.cell? ⟨wr.heap.size, 1, none⟩ = some (.string (strOfNums xb)) := blk_cell hu5.same rfl; have B5 := bx b5; have O5 := bx (ownsRow_same OR.out fun j hj => b5.block j (ownsRow_lt OR.out j hj)); obtain ⟨g5, hg5, hg6, hsc, hfz⟩ := safe_cellF O5.out (k := ia) hia; have HG5 := bx hg5; have HG6 := bx hg6; clear hu5 b5 hg5 hg6)))
            obtain rfl := HG5.out
            go_region
            all_goals
              go_wp2_with fail
              have hX : strOfNums ((settleUp st (fate fs) (k + 1)).f ia) = (strOfNums xb).extract 0 256 := by
                rw [HST2.out]
                dsimp only
                rw [if_pos rfl, List.drop_of_length_le (by rw [HLEN.out]; exact Nat.le_refl _), List.append_nil, ext_str, List.drop_zero]
              have hZR := blk_lt ZR.out
              have hfo : ∀ j : Nat, j < nn → j ≠ ia → (settleUp st (fate fs) (k + 1)).f j = (settleUp st (fate fs) k).f j := fun j _ hj => by
                rw [HST2.out]
                dsimp only
                rw [if_neg (by omega)]
              refine ⟨⟨k + 1, by omega, by go_num, ?_, ?_, ?_, ?_⟩, by simp [intOf]; omega⟩
              · exact (Below.heap_setCell _ _ _ _ (by have := HG6.out; show w.heap.size ≠ g5; omega)).trans ((B5.out.block _ (by omega)).trans KR.out)
              · exact (Below.heap_setCell _ _ _ _ (by have := HG6.out; show w.heap.size + 1 ≠ g5; omega)).trans ((B5.out.block _ (by omega)).trans ZR.out)
              · exact ownsRow_same (safe_set (w' := w5.setCell ⟨g5, ia, none⟩ (.string (strOfNums ((settleUp st (fate fs) (k + 1)).f ia)))) O5.out hia hfo rfl) (fun j _ => by rw [hX]; rfl)
              · exact ((BR.out.trans (B5.out.mono BR.out.size)).setCell (by have := HG6.out; show w.heap.size ≤ g5; omega) _).drew
          · have hmin : (min x 256).toNat = x.toNat := by omega
            rw [hmin] at hst
            have HST2 := bx hst
            obtain ⟨y, rfl⟩ : ∃ y : Nat, x = y := ⟨x.toNat, by omega⟩
            clear hst hmin
            go_wp2_with (first
              | ((with_reducible refine at_load 36 ?_); go_must (refine wpList_load_cells rfl 56 (.tmp 35) rfl g (k * 2) rfl [.int .i64 ia, .string (strOfNums xb)] 2 _ HXC.out Try.underlying56 rfl rwSize rfl ?_))
              | ((with_reducible refine at_store (.tmp 8) (.tmp 36) ?_); go_must (refine wpList_store_agg rfl 56 (.tmp 8) (.tmp 36) rfl wr.heap.size 0 #[.int .i64 ia, .string (strOfNums xb)] rfl rfl 56 #[.int .i64 0, .string ⟨#[]⟩] (blk_new wr _) rwSize (Nat.le_refl 2) two_one #[.int .i64 ia, .string (strOfNums xb)] (putRow_all _ _ rfl) ?_; intro w5 hu5; have b5 := (((Below.refl wr.heap.size wr).alloc (Nat.le_refl _) (.cells #[.int .i64 0, .string ⟨#[]⟩] 56)).trans (hu5.below (Nat.le_refl _))); have e0 : w5.cell? ⟨wr.heap.size, 0, none⟩ = some (.int .i64 ia) := blk_cell hu5.same rfl; have e1 : w5.cell? ⟨wr.heap.size, 1, none⟩ = some (.string (strOfNums xb)) := blk_cell hu5.same rfl; have B5 := bx b5; have O5 := bx (ownsRow_same OR.out fun j hj => b5.block j (ownsRow_lt OR.out j hj)); obtain ⟨g5, hg5, hg6, hsc, hfz⟩ := safe_cellF O5.out (k := ia) hia; have HG5 := bx hg5; have HG6 := bx hg6; clear hu5 b5 hg5 hg6)))
            obtain rfl := HG5.out
            go_region
            all_goals
              go_wp2_with fail
              have hX : strOfNums ((settleUp st (fate fs) (k + 1)).f ia) = (strOfNums xb).extract 0 y ++ (strOfNums ((settleUp st (fate fs) k).f ia)).extract y 256 := by
                rw [HST2.out]
                dsimp only
                rw [if_pos rfl, str_append, ext_str, ext_str, List.drop_zero, Int.toNat_natCast, List.take_of_length_le (l := (settleUp st (fate fs) k).f ia) (by rw [HLEN.out]; exact Nat.le_refl _)]
              have hZR := blk_lt ZR.out
              have hfo : ∀ j : Nat, j < nn → j ≠ ia → (settleUp st (fate fs) (k + 1)).f j = (settleUp st (fate fs) k).f j := fun j _ hj => by
                rw [HST2.out]
                dsimp only
                rw [if_neg (by omega)]
              refine ⟨⟨k + 1, by omega, by go_num, ?_, ?_, ?_, ?_⟩, by simp [intOf]; omega⟩
              · exact (Below.heap_setCell _ _ _ _ (by have := HG6.out; show w.heap.size ≠ g5; omega)).trans ((B5.out.block _ (by omega)).trans KR.out)
              · exact (Below.heap_setCell _ _ _ _ (by have := HG6.out; show w.heap.size + 1 ≠ g5; omega)).trans ((B5.out.block _ (by omega)).trans ZR.out)
              · exact ownsRow_same (safe_set (w' := w5.setCell ⟨g5, ia, none⟩ (.string (strOfNums ((settleUp st (fate fs) (k + 1)).f ia)))) O5.out hia hfo rfl) (fun j _ => by rw [hX]; rfl)
              · exact ((BR.out.trans (B5.out.mono BR.out.size)).setCell (by have := HG6.out; show w.heap.size ≤ g5; omega) _).drew
      · have hkn' : ¬ (k : Int) < n0 := by omega
        have HSAME : Bx (settleUp st (fate fs) (k + 1) = settleUp st (fate fs) k) := ⟨by rw [hst, fate_beyond (by rw [HF.out.1]; omega), settleOf_zero]⟩
        clear hst
        go_wp2_with fail
        exact ⟨⟨k + 1, by omega, by go_num, KR.out, ZR.out, by rw [HSAME.out]; exact OR.out, BR.out⟩, by simp [intOf]; omega⟩
    · obtain rfl : k = m := by omega
      have hlt' : ¬ (k : Int) < k := by omega
      have c0 : wr.cell? ⟨w.heap.size, 0, none⟩ = some (.slice A nn c) := blk_cell KR.out rfl
      have f0 : wr.frozen? ⟨w.heap.size, 0, none⟩ = false := blk_frozen 0 KR.out
      have f1 : wr.frozen? ⟨w.heap.size, 1, none⟩ = false := blk_frozen 1 KR.out
      have U1 := bx (upd_cell KR.out (j := 0) (.slice A5 nn c5))
      have U2 := bx (upd_cell U1.out.same (j := 1) (.slice none 0 0))
      go_wp2_with (first
        | ((with_reducible refine at_load 56 ?_); go_must (refine wpList_load_agg rfl 40 (.tmp 2) rfl w.heap.size 0 rfl 40 _ 4 _ U2.out.same Try.underlying40 rfl rdInfo (Nat.le_refl 4) (rCells (.slice A5 nn c5) (.slice none 0 0) left down) rfl ?_))
        | ((with_reducible refine at_store (.tmp 4) (.tmp 56) ?_); go_must (refine wpList_store_agg (cells := rCells (.slice A5 nn c5) (.slice none 0 0) left down) rfl 40 (.tmp 4) (.tmp 56) rfl (w.heap.size + 1) 0 rfl rfl 40 rZero ((U2.out.other _ (by omega)).trans ((U1.out.other _ (by omega)).trans ZR.out)) rdInfo (Nat.le_refl 4) (rd_one _ _ _ _ _ _ _ _) (rCells (.slice A5 nn c5) (.slice none 0 0) left down) (putRow_all _ _ rfl) ?_; intro w3 hu3)))
      refine bodyPost_ret (results_agg (cs := rCells (.slice A5 nn c5) (.slice none 0 0) left down) rfl _ _ (w.heap.size + 1) 40 _ rfl hu3.same Try.underlying40 rfl rdInfo) rfl ?_
      have hge : ∀ j, (Value.slice A5 nn c5).ownBlock = some j → w.heap.size + 2 ≤ j := (ownsRow_base OR.out (Nat.zero_le _)).2
      have hb := BR.out.trans ((U1.out.below (Nat.le_refl _)).trans ((U2.out.below (Nat.le_refl _)).trans (hu3.below (by omega))))
      have hso := ownsRow_same (ownsRow_base OR.out (Nat.zero_le _)).1 (fun j hj => (hu3.other j (by have := hge j hj; omega)).trans ((U2.out.other j (by have := hge j hj; omega)).trans (U1.out.other j (by have := hge j hj; omega))))
      have hsn : (settled st (fate fs)).n = st.n := (HRE.out _).2.1
      have hsl : (settled st (fate fs)).left = left := ((HRE.out _).2.2.1).trans HLF.out
      have hsd : (settled st (fate fs)).down = down := ((HRE.out _).2.2.2).trans HDN.out
      have hsu : (settled st (fate fs)).und = [] := rfl
      have hsf : (settled st (fate fs)).f = (settleUp st (fate fs) k).f := by rw [settled, HM.out]
      refine ⟨_, rfl, ⟨A5, c5, none, 0, by rw [hsn, HNT.out, hsl, hsd, hsu]; rfl, ?_⟩, hb⟩
      rw [hsn, HNT.out, hsu, hsf]
      exact ⟨by rw [HNT.out]; exact hso, World.ownsRow_nil _ _ _ _, fun j hj hs => by have := hge j hj; have := HS.out j hs; omega, fun j hj => by cases hj⟩
end Go.Proofs.Ythnommoljikaiaa
