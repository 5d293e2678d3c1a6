/- The walk over Read. -/
import Derived.Test.YthnommoljikaiaaDsk6
set_option linter.unusedSimpArgs false
set_option linter.unusedVariables false
namespace Go.Proofs.Ythnommoljikaiaa
open Go.RowKit

/-- What a sector reads as, the first k writes looked at. -/
def readUp (st : DSt) (i : Int) (k : Nat) : List Int := (st.und.take k).foldl (fun s x => if x.1 = i then x.2 else s) (st.f i)
def readD (st : DSt) (i : Int) : List Int × Int := if mayOf st i ≠ 0 then ([], mayOf st i) else (readUp st i st.und.length, 0)
theorem readUp_succ (st : DSt) (i : Int) (k : Nat) (hk : k < st.und.length) : readUp st i (k + 1) = if st.und[k].1 = i then st.und[k].2 else readUp st i k := by
  rw [readUp, List.take_succ_eq_append_getElem hk, List.foldl_append]
  rfl
theorem readUp_ok {st : DSt} {i : Int} (h1 : SecOk (st.f i)) (h2 : ∀ x ∈ st.und, SecOk x.2) : ∀ k, k ≤ st.und.length → SecOk (readUp st i k)
  | 0, _ => by simpa [readUp] using h1
  | k + 1, h => by
    rw [readUp_succ st i k (by omega)]
    split
    · exact h2 _ (List.getElem_mem _)
    · exact readUp_ok h1 h2 k (by omega)
theorem ownsRow_len {w : World} {base : Nat} {e : TypeId} {size : Nat} {v : Value} {n : Nat} {xs : List Value} (h : w.ownsRow base e size v n xs) : ∃ A c, v = .slice A n c := by
  obtain ⟨_, h | ⟨g, cap, cur, e, _⟩⟩ := h
  · exact ⟨_, _, by rw [h.1, h.2]⟩
  · exact ⟨_, _, e⟩
set_option maxRecDepth 100000 in
set_option maxHeartbeats 2000000 in
theorem dread_any (w : World) (S : Nat → Prop) (D : Nat) (st : DSt) (i : Int) (h : DskIs w S D st) (hu : st.und.length ≤ 100000) :
    Calls Try.prog 22 #[.pointer (some ⟨D, 0, none⟩), .int .i64 i] w fun e w' => ∃ v, e = .returned (.tuple #[v, .int .i64 (readD st i).2]) ∧ BytesV w' v (readD st i).1 ∧ FreshV w v ∧ Below w.heap.size w w' := by
  obtain ⟨mb, uv, hd⟩ := h
  have HMAY := bx (may_any w D st _ uv i hd.blk hd.n1)
  have c1 : w.cell? ⟨D, 1, none⟩ = some (.map (some mb)) := blk_cell hd.blk rfl
  have hlk := hd.secAt i
  have HD := bx hd
  by_cases hm : mayOf st i = 0
  · rw [hm] at HMAY
    have HO : Bx (readD st i = (readUp st i st.und.length, 0)) := ⟨by rw [readD, if_neg (fun h => h hm)]⟩
    have HOK := bx (fun k hk => readUp_ok (st := st) (i := i) (hd.secs i) hd.unds k hk)
    have HST := bx (fun k hk => readUp_succ st i k hk)
    obtain ⟨uA, uc, hue⟩ := ownsRow_len hd.und
    have HEX := bx (fun h => und_extract hd.und hd.unds h)
    have hr0 : st.f i = readUp st i 0 := rfl
    rw [hr0] at hlk
    subst hue
    have HL := bx hu
    have HGET := bx (fun k (hk : k < st.und.length) => hd.unds st.und[k] (List.getElem_mem hk))
    obtain ⟨L, hL⟩ : ∃ L, L = st.und.length := ⟨_, rfl⟩
    have HLL := bx hL.symm
    have hul : uA = uA := rfl
    rw [← hL] at hu
    have sl := arr_slice_all (t := 140) Try.underlying140 Try.sizeOf5
    have HE : Bx (Value.slice uA st.und.length uc = .slice uA L uc) := ⟨by rw [hL]⟩
    have HDB : Bx (w.heap[D]? = some (.cells (dCells st.n (.map (some mb)) (.slice uA L uc) st.left st.down) 63 (0, 0))) := ⟨by rw [hL]; exact hd.blk⟩
    clear hd hm hr0 hL hul
    have HR0 := bx (HOK.out 0 (Nat.zero_le _))
    go_enter Try.func22, Try.ntmps22
    go_wp2_with fail
    refine HMAY.out.mono ?_
    rintro e w' ⟨rfl, rfl⟩
    go_wp2_with (first
      | ((with_reducible refine at_store (.tmp 7) (.tmp 21) ?_); go_must (refine wpList_store_agg rfl 140 (.tmp 7) (.tmp 21) rfl w.heap.size 0 (ints .u8 (readUp st i 0)) rfl rfl 140 (ints .u8 zeros256) (blk_sec zeros256) (secI HR0.out) (secFit HR0.out zeros_ok) (ints_oneCell _ _) (ints .u8 (readUp st i 0)) (secPut HR0.out zeros_ok) ?_; intro w2 hu2; have P2 := bx hu2.same; have b2 := ((Below.refl w.heap.size w).alloc (Nat.le_refl _) (.cells Try.zeroCells140 140)).trans (hu2.below (Nat.le_refl _)); have c2 : w2.cell? ⟨D, 2, none⟩ = some (.slice uA L uc) := blk_cell ((b2.block D (blk_lt HDB.out)).trans HDB.out) rfl; have B2 := bx b2; clear hu2 b2)))
    go_loopw [27] (fun q wr => ∃ k : Nat, k ≤ L ∧ q = .int .i64 k ∧ wr.heap[w.heap.size]? = some (.cells (ints .u8 (readUp st i k)) 140 (0, 0)) ∧ Below w.heap.size w wr) (fun q _ => L - (intOf q).toNat)
    case atStart => exact ⟨0, Nat.zero_le _, rfl, P2.out, B2.out⟩
    case round =>
      obtain ⟨k, hk, rfl, hp, hb⟩ := hrel
      have PR := bx hp; have BR := bx hb
      clear hp hb P2 B2 c2
      by_cases hlt : k < L
      · have hkl : k < st.und.length := by rw [HLL.out]; exact hlt
        obtain ⟨g, cap, cur, hue, hh, hcap, hx⟩ := HEX.out (by omega)
        simp only [Value.slice.injEq, true_and] at hue
        obtain ⟨rfl, rfl⟩ := hue
        obtain ⟨hx1, hx2⟩ := hx k hkl
        have hst := HST.out k hkl
        have hok := HGET.out k hkl
        have H2 := bx ((BR.out.block g (blk_lt hh)).trans hh)
        generalize st.und[k] = x at hst hok hx2
        obtain ⟨xa, xb⟩ := x
        dsimp only at hst hok hx2
        have HX1 := bx hx1; have HX2 := bx hx2; have HOX := bx hok
        have HRK := bx (HOK.out k (by omega))
        have hix : (k : Int) < L := by omega
        have HWI : Bx ((Try.prog.info? 142).map (·.size) = some (wCells xa xb).size) := ⟨by rw [wCells_size hok]; exact wrInfo⟩
        have HWF : Bx (0 + (wCells xa xb).size ≤ (wCells 0 zeros256).size) := ⟨by rw [wCells_size hok, wCells_size zeros_ok]; decide⟩
        have HWP : Bx (putRow (wCells 0 zeros256) 0 (wCells xa xb).toList = wCells xa xb) := ⟨putRow_all _ _ (by rw [Array.length_toList, wCells_size hok, wCells_size zeros_ok])⟩
        clear hh hx hx1 hx2 hok
        by_cases hxi : xa = i
        · rw [if_pos hxi] at hst
          have HSX := bx hst
          have hxe : (xa == i) = true := by simp [hxi]
          clear hst hxi
          go_wp2_with (first
            | ((with_reducible refine at_load 30 ?_); go_must (refine wpList_load_agg rfl 142 (.tmp 29) rfl g (k * 257) rfl 142 cur 257 _ H2.out Try.underlying142 rfl wrInfo HX1.out (wCells xa xb) HX2.out ?_))
            | ((with_reducible refine at_store (.tmp 9) (.tmp 30) ?_); go_must (refine wpList_store_agg rfl 142 (.tmp 9) (.tmp 30) rfl wr.heap.size 0 (wCells xa xb) rfl rfl 142 (wCells 0 zeros256) (blk_wr wr) HWI.out HWF.out (wCells_one _ _) (wCells xa xb) HWP.out ?_; intro w5 hu5; have b5 := ((Below.refl wr.heap.size wr).alloc (Nat.le_refl _) (.cells Try.zeroCells142 142)).trans (hu5.below (Nat.le_refl _)); have c5 : w5.cell? ⟨wr.heap.size, 0, none⟩ = some (.int .i64 xa) := blk_cell hu5.same rfl; have P5 := bx hu5.same; have B5 := bx b5; have R5 := bx ((b5.block _ (blk_lt PR.out)).trans PR.out); clear hu5 b5))
            | ((with_reducible refine at_load 36 ?_); go_must (refine wpList_load_agg rfl 140 (.tmp 35) rfl wr.heap.size 1 rfl 142 (wCells xa xb) 256 _ P5.out Try.underlying140 rfl secInfo (by rw [wCells_size HOX.out]; decide) (ints .u8 xb) (wCells_sec HOX.out) ?_))
            | ((with_reducible refine at_store (.tmp 7) (.tmp 36) ?_); go_must (refine wpList_store_agg rfl 140 (.tmp 7) (.tmp 36) rfl w.heap.size 0 (ints .u8 xb) rfl rfl 140 (ints .u8 (readUp st i k)) R5.out (secI HOX.out) (secFit HOX.out HRK.out) (ints_oneCell _ _) (ints .u8 xb) (secPut HOX.out HRK.out) ?_; intro w6 hu6; have P6 := bx hu6.same; have B6 := bx ((BR.out.trans (B5.out.mono BR.out.size)).trans (hu6.below (Nat.le_refl _))); clear hu6)))
          exact ⟨⟨k + 1, by omega, by go_num, by rw [HSX.out]; exact P6.out, B6.out⟩, by simp [intOf]; omega⟩
        · rw [if_neg hxi] at hst
          have HSX := bx hst
          have hxe : (xa == i) = false := by simp [hxi]
          clear hst hxi
          go_wp2_with (first
            | ((with_reducible refine at_load 30 ?_); go_must (refine wpList_load_agg rfl 142 (.tmp 29) rfl g (k * 257) rfl 142 cur 257 _ H2.out Try.underlying142 rfl wrInfo HX1.out (wCells xa xb) HX2.out ?_))
            | ((with_reducible refine at_store (.tmp 9) (.tmp 30) ?_); go_must (refine wpList_store_agg rfl 142 (.tmp 9) (.tmp 30) rfl wr.heap.size 0 (wCells xa xb) rfl rfl 142 (wCells 0 zeros256) (blk_wr wr) HWI.out HWF.out (wCells_one _ _) (wCells xa xb) HWP.out ?_; intro w5 hu5; have b5 := ((Below.refl wr.heap.size wr).alloc (Nat.le_refl _) (.cells Try.zeroCells142 142)).trans (hu5.below (Nat.le_refl _)); have c5 : w5.cell? ⟨wr.heap.size, 0, none⟩ = some (.int .i64 xa) := blk_cell hu5.same rfl; have P5 := bx hu5.same; have B5 := bx b5; have R5 := bx ((b5.block _ (blk_lt PR.out)).trans PR.out); clear hu5 b5)))
          exact ⟨⟨k + 1, by omega, by go_num, by rw [HSX.out]; exact R5.out, BR.out.trans (B5.out.mono BR.out.size)⟩, by simp [intOf]; omega⟩
      · obtain rfl : k = L := by omega
        have hix : ¬ (k : Int) < k := by omega
        go_wp2_with fail
        go_ret2
        exact ⟨_, by rw [HO.out]; rfl, by rw [HO.out, HLL.out]; exact bytesV_sec PR.out (HOK.out k (by rw [HLL.out]; exact Nat.le_refl _)), fresh_at (Nat.le_refl _), BR.out⟩
  · have HO : Bx (readD st i = ([], mayOf st i)) := ⟨by rw [readD, if_pos hm]⟩
    generalize mayOf st i = c at *
    have hc : (c != 0) = true := by simp [hm]
    clear hm hlk
    go_enter Try.func22, Try.ntmps22
    go_wp2_with fail
    refine HMAY.out.mono ?_
    rintro e w' ⟨rfl, rfl⟩
    go_wp2_with fail
    go_ret2
    exact ⟨_, by rw [HO.out]; rfl, by rw [HO.out]; exact bytesV_nil _, fresh_nil _ _ _, Below.refl _ _⟩
end Go.Proofs.Ythnommoljikaiaa
